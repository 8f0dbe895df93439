/- Proved: a whole's pointer is found in a row of pointers: slices.IndexFunc with the closure of forget, by its walk; a whole's pointer is taken out of a row of pointers: slices.DeleteFunc with the closure of forget, by its walk; a whole is forgotten: out of the map and out of the row. Conditions: as each law says. -/
import Derived.Test.YtcjkhonapafndaaOf
import Derived.LaidEqlPtr
set_option linter.unusedVariables false
set_option linter.unusedSimpArgs false
namespace Go.Proofs.Ytcjkhonapafndaa
open Go.RowKit
theorem info_wh : ∃ j, Try.prog.info? 86 = some j ∧ j.size ≠ 0 := by
  have h : (Try.prog.info? 86).map (fun i => (decide (i.size ≠ 0))) = some true := by kernel_rfl
  cases hi : Try.prog.info? 86 with
  | none => rw [hi] at h; cases h
  | some j => rw [hi] at h; exact ⟨j, rfl, by simpa using h⟩
/-- Whether two pointers to wholes are one. -/
theorem eql_wh (w : World) (y g : Nat) (hy : ∃ cs, Bk w y 86 cs) (hg : ∃ cs, Bk w g 86 cs) :
    (binOp .eql 79 (.pointer (some ⟨y, 0, none⟩)) (.pointer (some ⟨g, 0, none⟩))).run Try.prog w = .ok (.bool (decide (y = g))) w := by
  obtain ⟨j, h1, h2⟩ := info_wh
  by_cases h : y = g
  · subst h
    rw [decide_eq_true rfl]
    exact run_eql_ptr_same w _ Try.underlying79 h1
  · rw [decide_eq_false h]
    obtain ⟨c1, hb1⟩ := hy
    obtain ⟨c2, hb2⟩ := hg
    exact run_eql_ptr_other w Try.underlying79 h1 h2 (fun e => h (by injection e)) hb1 hb2
set_option maxRecDepth 100000 in
theorem clo_any (y g gk : Nat) (w : World) (hk : w.cell? ⟨gk, 0, none⟩ = some (.pointer (some ⟨g, 0, none⟩))) (hy : ∃ cs, Bk w y 86 cs) (hg : ∃ cs, Bk w g 86 cs) :
    Calls Try.prog 67 #[.pointer (some ⟨y, 0, none⟩), .pointer (some ⟨gk, 0, none⟩)] w fun e w' => e = .returned (.bool (decide (y = g))) ∧ Below w.heap.size w w' := by
  have he := eql_wh w y g hy hg
  go_enter Try.func67, Try.ntmps67
  go_wp2
  go_ret
  exact ⟨rfl, Below.refl _ _⟩
theorem ptrs_get {K : List Nat} {j x : Nat} (h : K[j]? = some x) : (ptrs K)[j]? = some (.pointer (some ⟨x, 0, none⟩)) := by unfold ptrs; rw [List.getElem?_map, h]; rfl
set_option maxRecDepth 100000 in
theorem index_any (A : Option Addr) (n c base : Nat) (S1 S2 : List Nat) (g gk : Nat) (h1 : ∀ x ∈ S1, x ≠ g) (hn : n ≤ 100000) (w : World) (h : Ow 79 w base A n c (ptrs (S1 ++ g :: S2))) (hg : gk < w.heap.size) (hk : w.cell? ⟨gk, 0, none⟩ = some (.pointer (some ⟨g, 0, none⟩))) (hW : ∀ x ∈ S1 ++ g :: S2, ∃ cs, Bk w x 86 cs) :
    Calls Try.prog 72 #[.slice A n c, .func (.func 67) #[] #[.pointer (some ⟨gk, 0, none⟩)]] w fun e w' => e = .returned (.int .i64 S1.length) ∧ Below w.heap.size w w' := by
  have hlen := h.length
  unfold ptrs at hlen
  rw [List.length_map, List.length_append, List.length_cons] at hlen
  have HT := Lib.hid h
  have HL := Lib.hid hlen
  have H1 := Lib.hid h1
  have HWh : Hid (∀ wr, Below w.heap.size w wr → ∀ x ∈ S1 ++ g :: S2, ∃ cs, Bk wr x 86 cs) := Lib.hid (fun wr hB x hx => by obtain ⟨cs, h⟩ := hW x hx; exact ⟨cs, h.below hB h.lt⟩)
  clear hW
  obtain ⟨i0, hi0⟩ : ∃ i0, S1.length = i0 := ⟨_, rfl⟩
  rw [hi0] at hlen ⊢
  have HI := Lib.hid hi0
  clear h h1 hi0
  go_enter Try.func72, Try.ntmps72
  go_wp2
  go_loopw [8] (fun i wr => ∃ j : Nat, j ≤ i0 ∧ i = .int .i64 j ∧ Hid (Below w.heap.size w wr)) (fun i _ => i0 + 1 - (intOf i).toNat)
  case atStart => exact ⟨0, Nat.zero_le _, rfl, Lib.hid (Below.refl _ _)⟩
  case round =>
    obtain ⟨j, hj, rfl, HB⟩ := hrel
    have hjn : j < n := by omega
    obtain ⟨x, hx⟩ : ∃ x, (S1 ++ g :: S2)[j]? = some x := ⟨_, List.getElem?_eq_getElem (by rw [List.length_append, List.length_cons]; have := HL.out; omega)⟩
    obtain ⟨gr, off, rfl, hgl, c0⟩ := HT.out.rw.at_ (ptrs_get hx)
    have d0 : wr.cell? ⟨gr, off + j, none⟩ = some (.pointer (some ⟨x, 0, none⟩)) := (HB.out.cell (p := ⟨gr, off + j, none⟩) hgl).trans c0
    have HCL := Lib.hid (clo_any x g gk wr ((HB.out.cell (p := ⟨gk, 0, none⟩) hg).trans hk) (HWh.out wr HB.out x (List.mem_of_getElem? hx)) (HWh.out wr HB.out g (by simp)))
    have HX := Lib.hid hx
    clear c0 hx
    have hjn2 : (j : Int) < n := by omega
    go_wp2_with fail
    refine HCL.out.mono ?_
    rintro e w' ⟨rfl, hB2⟩
    have HB2 : Hid (Below w.heap.size w w') := Lib.hid (HB.out.trans (hB2.mono HB.out.size))
    clear hB2
    rcases Nat.lt_or_ge j i0 with q | q
    · have hne : decide (x = g) = false := decide_eq_false (by
        have hx := HX.out
        rw [List.getElem?_append_left (by have := HI.out; omega)] at hx
        exact H1.out x (List.mem_of_getElem? hx))
      rw [hne]
      clear hne
      go_wp2
      go_roundw
      case rel => exact ⟨j + 1, by omega, by go_num, HB2⟩
      case measure => simp [intOf]; omega
    · obtain rfl : j = i0 := by omega
      have hxt : x = g := by
        have hx := HX.out
        rw [List.getElem?_append_right (by have := HI.out; omega), show j - S1.length = 0 by have := HI.out; omega] at hx
        simpa using hx.symm
      subst hxt
      rw [decide_eq_true rfl]
      go_wp2
      go_ret
      exact ⟨rfl, HB2.out⟩
end Go.Proofs.Ytcjkhonapafndaa
namespace Go.Proofs.Ytcjkhonapafndaa
open Go.RowKit
theorem grown_any {w w' : World} (h : w.grownBy w' none) (row : Option Nat) : w.grownBy w' row := ⟨h.os, h.tape, h.output, h.size, fun b hb _ => h.block b hb (by simp)⟩
theorem grown_none {w w' : World} (h : Below w.heap.size w w') : w.grownBy w' none := ⟨h.os, h.tape, h.output, h.size, fun b hb _ => h.block b hb⟩
theorem ptrs_len (K : List Nat) : (ptrs K).length = K.length := by unfold ptrs; rw [List.length_map]
theorem ptrs_set (K : List Nat) (j x : Nat) : (ptrs K).set j (.pointer (some ⟨x, 0, none⟩)) = ptrs (K.set j x) := by unfold ptrs; rw [List.map_set]
theorem ptrs_take (K : List Nat) (j : Nat) : (ptrs K).take j = ptrs (K.take j) := by unfold ptrs; rw [List.map_take]
/-- A row of pointers of its own. -/
def Pt (w : World) (base : Nat) (A : Option Addr) (n c : Nat) (K : List Nat) : Prop := Ow 79 w base A n c (ptrs K)
section
variable {w w' W W' : World} {base g n c : Nat} {A : Option Addr} {K R S1 S2 : List Nat} {k x : Nat}
theorem Pt.len (h : Pt w base A n c K) : K.length = n := by have := Ow.length h; rwa [ptrs_len] at this
theorem Pt.cell (h : Pt w base A n c K) (hk : K[k]? = some x) : ∃ g, A = some ⟨g, 0, none⟩ ∧ w.cell? ⟨g, k, none⟩ = some (.pointer (some ⟨x, 0, none⟩)) := by
  rcases Ow.cases_ h with ⟨_, rfl, _⟩ | ⟨g, cur, rfl, _⟩
  · have := h.len; have := (List.getElem?_eq_some_iff.1 hk).1; omega
  · obtain ⟨b, off, e, _, hc⟩ := (Ow.rw h).at_ (ptrs_get hk)
    injection e with e
    injection e with e1 e2
    subst e1; subst e2
    rw [Nat.zero_add] at hc
    exact ⟨g, rfl, hc⟩
def DelP (w : World) (base : Nat) (A : Option Addr) (n c : Nat) (S1 S2 : List Nat) (k : Nat) (W : World) : Prop :=
  ∃ R, Pt W base A n c R ∧ R.take (S1.length + k) = S1 ++ S2.take k ∧ R.drop (S1.length + 1 + k) = S2.drop k ∧ w.grownBy W (blk A)
theorem DelP.grown (h : DelP w base (some ⟨g, 0, none⟩) n c S1 S2 k W) (hg : W.grownBy W' none) : DelP w base (some ⟨g, 0, none⟩) n c S1 S2 k W' := by
  obtain ⟨R, h1, h2, h3, h4⟩ := h
  exact ⟨R, Ow.kept h1 hg (.inr (by simp [blk])), h2, h3, h4.trans (grown_any hg _)⟩
theorem DelP.at_ (h : DelP w base (some ⟨g, 0, none⟩) n c S1 S2 k W) (hx : S2[k]? = some x) : W.cell? ⟨g, S1.length + 1 + k, none⟩ = some (.pointer (some ⟨x, 0, none⟩)) := by
  obtain ⟨R, h1, h2, h3, h4⟩ := h
  have hR : R[S1.length + 1 + k]? = some x := by
    have e := congrArg (fun l => l[0]?) h3
    simp only [List.getElem?_drop, Nat.add_zero] at e
    rw [e, hx]
  obtain ⟨g', e, a⟩ := h1.cell hR
  injection e with e
  injection e with e
  subst e
  exact a
theorem DelP.fz (h : DelP w base (some ⟨g, 0, none⟩) n c S1 S2 k W) (j : Nat) : W.frozen? ⟨g, j, none⟩ = false := by
  obtain ⟨R, h1, _⟩ := h
  exact Ow.frozen h1 rfl j
theorem DelP.old (h : DelP w base (some ⟨g, 0, none⟩) n c S1 S2 k W) (j : Nat) (hj : j < n) : ∃ u, W.cell? ⟨g, j, none⟩ = some u := by
  obtain ⟨R, h1, _⟩ := h
  obtain ⟨g', e, a⟩ := h1.cell (List.getElem?_eq_getElem (show j < R.length by rw [h1.len]; exact hj))
  injection e with e
  injection e with e
  subst e
  exact ⟨_, a⟩
theorem DelP.next (h : DelP w base (some ⟨g, 0, none⟩) n c S1 S2 k W) (hx : S2[k]? = some x) (hl : S1.length + (S2.length + 1) = n) :
    DelP w base (some ⟨g, 0, none⟩) n c S1 S2 (k + 1) (W.setCell ⟨g, S1.length + k, none⟩ (.pointer (some ⟨x, 0, none⟩))) := by
  obtain ⟨R, h1, h2, h3, h4⟩ := h
  have hkl := (List.getElem?_eq_some_iff.1 hx).1
  obtain ⟨g', e, hst⟩ := Ow.store h1 (k := S1.length + k) (by omega) (.pointer (some ⟨x, 0, none⟩))
  injection e with e
  injection e with e
  subst e
  rw [ptrs_set] at hst
  refine ⟨R.set (S1.length + k) x, hst, ?_, ?_, ?_⟩
  · have hRl := h1.len
    rw [List.take_set, ← Nat.add_assoc, List.take_add_one, List.set_append_right _ _ (by rw [List.length_take]; omega)]
    have hk2 : k + 1 ≤ S2.length := hkl
    rw [h2, List.take_add_one, hx]
    have : (S1 ++ S2.take k).length = S1.length + k := by rw [List.length_append, List.length_take]; omega
    rw [this, Nat.sub_self, List.getElem?_eq_getElem (show S1.length + k < R.length by omega)]
    simp
  · rw [List.drop_set_of_lt (by omega), ← List.drop_drop, ← List.drop_drop, List.drop_drop, List.drop_drop, show S1.length + 1 + (k + 1) = S1.length + 1 + k + 1 by omega, ← List.drop_drop, h3, List.drop_drop]
  · exact grownBy_setCell (p := ⟨g, S1.length + k, none⟩) h4 (.inl rfl) _
set_option maxRecDepth 100000 in
theorem Pt.clear (h : Pt W base (some ⟨g, 0, none⟩) n c R) (j : Nat) (hj : j + 1 = n) (cp : Nat) :
    ∃ W', (∀ ty, (Builtin.clear_ #[44] ty #[.slice (some ⟨g, j, none⟩) 1 cp]).run Try.prog W = .ok (.tuple #[]) W') ∧ Pt W' base (some ⟨g, 0, none⟩) j c (R.take j) ∧ W.grownBy W' (some g) := by
  have hlen := h.len
  rcases Ow.cases_ h with ⟨e, _⟩ | ⟨g', cur, e, hb, hh, hnc, hcm, hcs, ht⟩
  · cases e
  injection e with e
  injection e with e
  subst e
  have hcs1 : cur.size = c := by omega
  have ht1 : cur.toList.take n = ptrs R := by simpa using ht
  have hst := run_storeCells_at Try.prog g j 79 [.pointer none] 0 cur W hh (by simp; omega) (fun v hv => by simp at hv; subst hv; rfl)
  have hz : (zeroValue 79).run Try.prog W = .ok (.pointer none) W := by kernel_rfl
  refine ⟨W.setRow g (cur.toList.take (j + 0) ++ [Value.pointer none] ++ cur.toList.drop (j + 0 + 1)).toArray, fun ty => ?_, ?_, ⟨rfl, rfl, rfl, by simp, fun k _ hk => setRow_other W g k _ (fun e => hk (by rw [e]))⟩⟩
  · have hzc : Builtin.zeroCells #[Value.pointer none] 1 = #[Value.pointer none] := by kernel_rfl
    simp [Builtin.clear_, run_underlying Try.underlying44, hz, hzc, Value.cells]
    have hst' := hst
    simp at hst'
    rw [hst']
    rfl
  · refine ⟨by rw [ptrs_len, List.length_take]; omega, .inr ⟨g, c, _, rfl, hb, setRow_heap W g cur _ _ _ hh, by omega, hcm, ?_, ?_⟩⟩
    · simp; omega
    · rw [List.toList_toArray, List.append_assoc, Nat.add_zero, List.take_append_of_le_length (by simp; omega), ← ptrs_take, ← ht1, List.take_take, List.take_take]
      congr 1; omega
end
set_option maxHeartbeats 2000000 in
set_option maxRecDepth 100000 in
theorem delete_any (A : Option Addr) (n c base : Nat) (S1 S2 : List Nat) (t gk : Nat) (h1 : ∀ x ∈ S1, x ≠ t) (h2 : ∀ x ∈ S2, x ≠ t) (hn : n ≤ 100000) (w : World) (h : Pt w base A n c (S1 ++ t :: S2)) (hg : gk < w.heap.size) (hk : w.cell? ⟨gk, 0, none⟩ = some (.pointer (some ⟨t, 0, none⟩))) (hne : blk A ≠ some gk)
    (hW : ∀ x ∈ S1 ++ t :: S2, ∃ cs, Bk w x 86 cs) (hWA : ∀ x ∈ S1 ++ t :: S2, blk A ≠ some x) :
    Calls Try.prog 66 #[.slice A n c, .func (.func 67) #[] #[.pointer (some ⟨gk, 0, none⟩)]] w fun e w' =>
      e = .returned (.slice A (n - 1) c) ∧ Pt w' base A (n - 1) c (S1 ++ S2) ∧ w.grownBy w' (blk A) := by
  have hlen := h.len
  rw [List.length_append, List.length_cons] at hlen
  obtain ⟨g, hA⟩ : ∃ g, A = some ⟨g, 0, none⟩ := by
    obtain ⟨x, hx⟩ : ∃ x, (S1 ++ t :: S2)[0]? = some x := ⟨_, List.getElem?_eq_getElem (by rw [List.length_append, List.length_cons]; omega)⟩
    obtain ⟨g, e, _⟩ := h.cell hx
    exact ⟨g, e⟩
  subst hA
  have hgk : gk ≠ g := fun e => hne (by rw [e]; rfl)
  have HC := Lib.hid (index_any _ n c base S1 S2 t gk h1 hn w h hg hk hW)
  have HL := Lib.hid hlen
  have H2 := Lib.hid h2
  have HWB : Hid (∀ wr, w.grownBy wr (some g) → ∀ x ∈ S1 ++ t :: S2, ∃ cs, Bk wr x 86 cs) := Lib.hid (fun wr hgr x hx => by obtain ⟨cs, hb⟩ := hW x hx; exact ⟨cs, hb.grown hgr (fun e => hWA x hx (by rw [e]; rfl))⟩)
  have hcap : n ≤ c := Ow.cap h
  obtain ⟨i0, hi0⟩ : ∃ i0, S1.length = i0 := ⟨_, rfl⟩
  rw [hi0] at HC hlen
  have HI := Lib.hid hi0
  have HR : Hid (DelP w base (some ⟨g, 0, none⟩) n c S1 S2 0 w) := Lib.hid ⟨_, h, by simp, by
    rw [Nat.add_zero, ← List.drop_drop, List.drop_left]; rfl, World.grownBy.refl w _⟩
  clear h h1 h2 hi0 hW hWA
  have hneg : ((i0 : Int) == -1) = false := by simp
  go_enter Try.func66, Try.ntmps66
  go_wp2_with fail
  refine HC.out.mono ?_
  rintro e w1 ⟨rfl, hB1⟩
  have HR1 : Hid (DelP w base (some ⟨g, 0, none⟩) n c S1 S2 0 w1) := Lib.hid (HR.out.grown (grown_none hB1))
  clear hB1
  go_wp2
  go_loopw [5, 6] (fun v5 v6 wr => ∃ q j5 j6 : Nat, q ≤ S2.length ∧ j5 = i0 + q ∧ j6 = i0 + 1 + q ∧ v5 = .int .i64 j5 ∧ v6 = .int .i64 j6 ∧ Hid (DelP w base (some ⟨g, 0, none⟩) n c S1 S2 q wr)) (fun _ v6 _ => n - (intOf v6).toNat)
  case atStart => exact ⟨0, i0, i0 + 1, Nat.zero_le _, rfl, rfl, rfl, by go_num, HR1⟩
  case round =>
    obtain ⟨q, j5, j6, hq, hj5, hj6, rfl, rfl, HD⟩ := hrel
    have HJ5 := Lib.hid hj5
    have HJ6 := Lib.hid hj6
    have hgr : w.grownBy wr (blk (some ⟨g, 0, none⟩)) := by obtain ⟨R, _, _, _, h⟩ := HD.out; exact h
    have hz := hgr.size
    have hkr : wr.cell? ⟨gk, 0, none⟩ = some (.pointer (some ⟨t, 0, none⟩)) := (World.cell?_of_block (a := ⟨gk, 0, none⟩) (hgr.block gk hg (by simp [blk]; omega))).trans hk
    rcases Nat.lt_or_ge q S2.length with q1 | q1
    · obtain ⟨x, hx⟩ : ∃ x, S2[q]? = some x := ⟨_, List.getElem?_eq_getElem q1⟩
      have a0 := HD.out.at_ hx
      rw [HI.out, ← hj6] at a0
      have hj5n0 : j5 < n := by omega
      have hj6n0 : j6 < n := by omega
      clear hj5 hj6
      have hxm : x ∈ S2 := List.mem_of_getElem? hx
      have hxk : decide (x = t) = false := decide_eq_false (H2.out x hxm)
      have HCL := Lib.hid (clo_any x t gk wr hkr (HWB.out wr hgr x (by simp [hxm])) (HWB.out wr hgr t (by simp)))
      rw [hxk] at HCL
      have HXX := Lib.hid hx
      have hj6n : (j6 : Int) < n := by omega
      clear hx hgr hxk hxm
      go_wp2_with fail
      refine HCL.out.mono ?_
      rintro e w2 ⟨rfl, hB2⟩
      have HD2 : Hid (DelP w base (some ⟨g, 0, none⟩) n c S1 S2 q w2) := Lib.hid (HD.out.grown (grown_none hB2))
      obtain ⟨y, o0⟩ := HD2.out.old j5 hj5n0
      have f0 := HD2.out.fz j5
      have hj5n : (j5 : Int) < n := by omega
      have HDN := Lib.hid (DelP.next HD2.out HXX.out HL.out)
      rw [HI.out, ← HJ5.out] at HDN
      clear hB2 a0
      go_wp2
      go_roundw
      case rel => exact ⟨q + 1, j5 + 1, j6 + 1, by omega, by have := HJ5.out; omega, by have := HJ6.out; omega, by go_num, by go_num, HDN⟩
      case measure => simp [intOf]; omega
    · have hj6n : ¬ (j6 : Int) < n := by omega
      have hj51 : j5 + 1 = n := by omega
      have hm1 : n - j5 = 1 := by omega
      obtain ⟨R, hR1, hR2, hR3, hR4⟩ := HD.out
      obtain ⟨W', hcl, hT', hg'⟩ := hR1.clear j5 hj51 (c - j5)
      have hRT : R.take j5 = S1 ++ S2 := by
        have := hR2
        rw [HI.out, ← hj5, List.take_of_length_le (show S2.length ≤ q by omega)] at this
        exact this
      rw [hRT] at hT'
      have HTT : Hid (Pt W' base (some ⟨g, 0, none⟩) (n - 1) c (S1 ++ S2)) := Lib.hid (by rw [show n - 1 = j5 by omega]; exact hT')
      have HGG := Lib.hid (hR4.trans hg')
      have HN1 : Hid (j5 = n - 1) := Lib.hid (by omega)
      have hcj : ¬ c = j5 := by omega
      have hj5c : (j5 : Int) ≤ n := by omega
      have hj5d : (j5 : Int) ≤ c := by omega
      clear hR1 hR2 hR3 hR4 hT' hg' hRT hj5 hj6 hj51
      go_wp2
      go_ret
      exact ⟨by rw [← HN1.out]; rfl, HTT.out, HGG.out⟩
end Go.Proofs.Ytcjkhonapafndaa
namespace Go.Proofs.Ytcjkhonapafndaa
open Go.RowKit
set_option maxHeartbeats 4000000 in
set_option maxRecDepth 100000 in
theorem forget_any (ps b g base : Nat) (aA : Option Addr) (an ac : Nat) (L : List (K4 × Value)) (K1 K2 : List Nat) (k0 k1 k2 k3 bg : Int) (f : Value) (fin : Int) (d t : Value) (w : World)
    (hs : Bk w ps 46 #[.map (some b), .slice aA an ac]) (hI : IM mkK okK w b L) (hx : Bk w g 86 (whA k0 k1 k2 k3 bg f fin d t)) (hk : okK (k0, k1, k2, k3)) (hP : Pt w base aA an ac (K1 ++ g :: K2)) (han : an ≤ 100000)
    (h1 : ∀ x ∈ K1, x ≠ g) (h2 : ∀ x ∈ K2, x ≠ g) (hW : ∀ x ∈ K1 ++ g :: K2, ∃ cs, Bk w x 86 cs) (hWA : ∀ x ∈ K1 ++ g :: K2, blk aA ≠ some x ∧ x ≠ b) (hbp : b ≠ ps) (hba : blk aA ≠ some b) (hpa : blk aA ≠ some ps) :
    Calls Try.prog 47 #[.pointer (some ⟨ps, 0, none⟩), .pointer (some ⟨g, 0, none⟩)] w fun e w' => e = .returned (.tuple #[]) ∧ Bk w' ps 46 #[.map (some b), .slice aA (an - 1) ac] ∧ IM mkK okK w' b (delL L (k0, k1, k2, k3)) ∧
      Pt w' base aA (an - 1) ac (K1 ++ K2) ∧ Chg (fun x => x = ps ∨ x = b ∨ blk aA = some x) w w' := by
  obtain ⟨gk, hgk⟩ : ∃ gk, w.heap.size = gk := ⟨_, rfl⟩
  obtain ⟨W, hWW⟩ : ∃ W, w.alloc (.cells #[.pointer (some ⟨g, 0, none⟩)] 79) = W := ⟨_, rfl⟩
  have hgkW : Bk W gk 79 #[.pointer (some ⟨g, 0, none⟩)] := by rw [← hWW, ← hgk]; exact Bk.new w _ _
  have hBW : Below gk w W := by rw [← hWW, ← hgk]; exact (Below.refl _ _).alloc (Nat.le_refl _) _
  have hsW : Bk W ps 46 #[.map (some b), .slice aA an ac] := by rw [← hWW]; exact hs.alloc _
  have hIW : IM mkK okK W b L := by rw [← hWW]; exact hI.alloc _
  have hxW : Bk W g 86 (whA k0 k1 k2 k3 bg f fin d t) := by rw [← hWW]; exact hx.alloc _
  have hPW : Pt W base aA an ac (K1 ++ g :: K2) := by rw [← hWW]; exact Ow.alloc hP _
  have HWb : Hid (∀ x ∈ K1 ++ g :: K2, ∃ cs, Bk W x 86 cs) := Lib.hid (fun x hx => by obtain ⟨cs, h⟩ := hW x hx; exact ⟨cs, by rw [← hWW]; exact h.alloc _⟩)
  have c0 : W.cell? ⟨ps, 0, none⟩ = some (.map (some b)) := hsW.cell 0
  have c1 : W.cell? ⟨gk, 0, none⟩ = some (.pointer (some ⟨g, 0, none⟩)) := hgkW.cell 0
  have x0 : W.cell? ⟨g, 0, none⟩ = some (.int .u32 k0) := hxW.cell 0
  have x1 : W.cell? ⟨g, 1, none⟩ = some (.int .u32 k1) := hxW.cell 1
  have x2 : W.cell? ⟨g, 2, none⟩ = some (.int .i64 k2) := hxW.cell 2
  have x3 : W.cell? ⟨g, 3, none⟩ = some (.int .i64 k3) := hxW.cell 3
  have hbl : b < w.heap.size := hI.lt
  have hpl : ps < w.heap.size := hs.lt
  have hal : ∀ x, blk aA = some x → x < w.heap.size := fun x hx => (Ow.lt hP x hx).2
  have hId : IM mkK okK W.drew b L := hIW.drew
  have HSW := Lib.hid hsW
  have HPW := Lib.hid hPW
  have HGK := Lib.hid hgk
  have HWW := Lib.hid hWW
  have HBW := Lib.hid hBW
  have HGW := Lib.hid hgkW
  have HID := Lib.hid hId
  have HWA := Lib.hid hWA
  clear hgk hWW hBW hsW hIW hxW hPW hs hI hx hP hW hgkW hId hWA
  go_enter Try.func47, Try.ntmps47
  go_wp2
  rw [HWW.out, HGK.out]
  refine wp_region_still_tail 8 (by kernel_rfl) (by kernel_rfl) ?_
  change wpStill _ _ (World.drew _) (fun a' => wpList _ _ _ _ a' (World.drew _)) _ _
  simp only [List.take_succ_cons, List.take_zero, List.drop_succ_cons, List.drop_zero]
  repeat still_step
  try refine wpStill_nil ?_
  have hgkl : gk < W.heap.size := HGW.out.lt
  have hplW : ps < gk := by have := HGK.out; omega
  have hblW : b < gk := by have := HGK.out; omega
  have halW : ∀ x, blk aA = some x → x < gk := fun x hx => by have := HGK.out; have := hal x hx; omega
  clear hbl hpl hal
  go_wp2_with (first
    | (at_delete; refine wpList_delete_im rfl (.tmp 7) (.tmp 11) 43 rfl keyK mapUK rfl HID.out (y := (k0, k1, k2, k3)) rfl hk ?_; intro w2 hI2 hg2 hs2; have b2 := (HSW.out.drew).grown hg2 (fun e => hbp (Option.some.inj e).symm); have c21 : w2.cell? ⟨ps, 1, none⟩ = some (.slice aA an ac) := b2.cell 1; have gk2 := (HGW.out.drew).grown hg2 (fun e => by have := Option.some.inj e; omega); have cgk2 : w2.cell? ⟨gk, 0, none⟩ = some (.pointer (some ⟨g, 0, none⟩)) := gk2.cell 0; have hP2 : Pt w2 base aA an ac (K1 ++ g :: K2) := Ow.kept (show Pt W.drew base aA an ac (K1 ++ g :: K2) from HPW.out) hg2 (.inr hba); have hgk2l := gk2.lt; have hW2 : ∀ x ∈ K1 ++ g :: K2, ∃ cs, Bk w2 x 86 cs := fun x hx => by (obtain ⟨cs, h⟩ := HWb.out x hx; exact ⟨cs, (h.drew).grown hg2 (fun e => (HWA.out x hx).2 (Option.some.inj e))⟩))
    | (go_at_call 66; refine (delete_any aA an ac base K1 K2 g gk h1 h2 han w2 hP2 hgk2l cgk2 (fun e => by have := halW gk e; omega) hW2 (fun x hx => (HWA.out x hx).1)).mono ?_; rintro e w3 ⟨rfl, hP3, hG3⟩; have b3 := b2.grown hG3 (fun e => hpa e.symm); have c31 : w3.cell? ⟨ps, 1, none⟩ = some (.slice aA an ac) := b3.cell 1; have f31 := b3.frozen 1))
  go_end0
  have hGs : w3.grownBy (w3.setCell ⟨ps, 1, none⟩ (.slice aA (an - 1) ac)) (some ps) := grownBy_setCell (World.grownBy.refl w3 (some ps)) (.inl rfl) _
  refine ⟨rfl, b3.set 1 _, (hI2.kept hG3 (fun e => hba e.symm)).kept hGs (fun e => hbp (Option.some.inj e)), Ow.kept (show Ow 79 w3 base aA (an - 1) ac (ptrs (K1 ++ K2)) from hP3) hGs (.inr hpa), ?_⟩
  have hC0 : Chg (fun x => x = ps ∨ x = b ∨ blk aA = some x) w W := Chg.of_below (by rw [HGK.out]; exact HBW.out)
  exact (((hC0.drewN 1).trans (Chg.of_grown (F := fun x => x = ps ∨ x = b ∨ blk aA = some x) hg2 (fun x hx => .inr (.inl (Option.some.inj hx).symm))) (fun x hx => .inl hx)).trans (Chg.of_grown (F := fun x => x = ps ∨ x = b ∨ blk aA = some x) hG3 (fun x hx => .inr (.inr hx))) (fun x hx => .inl hx)).setCell (p := ⟨ps, 1, none⟩) (.inl (.inl rfl)) _
end Go.Proofs.Ytcjkhonapafndaa
