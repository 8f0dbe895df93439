/- Proved: a timer is taken out of a row: slices.DeleteFunc with the closure of Cancel, by its walk. Conditions: the row is the call's own and holds the key once. -/
import Derived.Test.YtnnblakjaiccfaaWh
set_option linter.unusedVariables false
set_option linter.unusedSimpArgs false
namespace Go.Proofs.Ytnnblakjaiccfaa
open Go.RowKit

theorem clo_any (t : Int × Int) (k : Int) (gk : Nat) (w : World) (hg : gk < w.heap.size) (hk : w.cell? ⟨gk, 0, none⟩ = some (.int .i64 k)) :
    Calls Try.prog 28 #[.agg #[.int .i64 t.1, .int .i64 t.2], .pointer (some ⟨gk, 0, none⟩)] w fun e w' => e = .returned (.bool (t.1 == k)) ∧ Below w.heap.size w w' := by
  have hc := (World.cell?_alloc_lt w (.cells #[.int .i64 t.1, .int .i64 t.2] 54) ⟨gk, 0, none⟩ hg).trans hk
  have hB : Below w.heap.size w (w.alloc (.cells #[.int .i64 t.1, .int .i64 t.2] 54)) := (Below.refl _ _).alloc (Nat.le_refl _) _
  go_enter Try.func28, Try.ntmps28
  go_wp2
  go_ret
  exact ⟨rfl, hB⟩
theorem index_any (A : Option Addr) (n c base : Nat) (S1 S2 : Mt) (t : Int × Int) (k : Int) (gk : Nat) (h1 : ∀ x ∈ S1, x.1 ≠ k) (ht : t.1 = k) (hn : n ≤ 100000) (w : World) (h : Tm 54 w base A n c (S1 ++ t :: S2)) (hg : gk < w.heap.size) (hk : w.cell? ⟨gk, 0, none⟩ = some (.int .i64 k)) :
    Calls Try.prog 33 #[.slice A n c, .func (.func 28) #[] #[.pointer (some ⟨gk, 0, none⟩)]] w fun e w' => e = .returned (.int .i64 S1.length) ∧ Below w.heap.size w w' := by
  have hlen := h.len
  rw [List.length_append, List.length_cons] at hlen
  have HT := Lib.hid h
  have HL := Lib.hid hlen
  have H1 := Lib.hid h1
  obtain ⟨i0, hi0⟩ : ∃ i0, S1.length = i0 := ⟨_, rfl⟩
  rw [hi0] at hlen ⊢
  have HI := Lib.hid hi0
  clear h h1 hi0
  go_enter Try.func33, Try.ntmps33
  go_wp2
  go_loopw [8] (fun i wr => ∃ j : Nat, j ≤ i0 ∧ i = .int .i64 j ∧ Hid (Below w.heap.size w wr)) (fun i _ => i0 + 1 - (intOf i).toNat)
  case atStart => exact ⟨0, Nat.zero_le _, rfl, Lib.hid (Below.refl _ _)⟩
  case round =>
    obtain ⟨j, hj, rfl, HB⟩ := hrel
    have hjn : j < n := by omega
    obtain ⟨x, hx⟩ : ∃ x, (S1 ++ t :: S2)[j]? = some x := ⟨_, List.getElem?_eq_getElem (by rw [List.length_append, List.length_cons]; have := HL.out; omega)⟩
    obtain ⟨g, rfl, _, hgl, c0, c1, _, _⟩ := HT.out.cell hx
    have d0 : wr.cell? ⟨g, j * 2, none⟩ = some (.int .i64 x.1) := (HB.out.cell (p := ⟨g, j * 2, none⟩) hgl).trans c0
    have d1 : wr.cell? ⟨g, j * 2 + 1, none⟩ = some (.int .i64 x.2) := (HB.out.cell (p := ⟨g, j * 2 + 1, none⟩) hgl).trans c1
    have HCL := Lib.hid (clo_any x k gk wr (Nat.lt_of_lt_of_le hg HB.out.size) ((HB.out.cell (p := ⟨gk, 0, none⟩) hg).trans hk))
    have HX := Lib.hid hx
    clear c0 c1 hx
    have hjn2 : (j : Int) < n := by omega
    go_wp2_with fail
    refine HCL.out.mono ?_
    rintro e w' ⟨rfl, hB2⟩
    have HB2 : Hid (Below w.heap.size w w') := Lib.hid (HB.out.trans (hB2.mono HB.out.size))
    clear hB2
    rcases Nat.lt_or_ge j i0 with q | q
    · have hne : (x.1 == k) = false := by
        have hx := HX.out
        rw [List.getElem?_append_left (by have := HI.out; omega)] at hx
        simpa using H1.out x (List.mem_of_getElem? hx)
      go_wp2
      go_roundw
      case rel => exact ⟨j + 1, by omega, by go_num, HB2⟩
      case measure => simp [intOf]; omega
    · obtain rfl : j = i0 := by omega
      have hxt : x = t := by
        have hx := HX.out
        rw [List.getElem?_append_right (by have := HI.out; omega), show j - S1.length = 0 by have := HI.out; omega] at hx
        simpa using hx.symm
      have heq : (x.1 == k) = true := by rw [hxt]; simpa using ht
      clear hxt
      go_wp2
      go_ret
      exact ⟨rfl, HB2.out⟩
theorem grown_any {w w' : World} (h : w.grownBy w' none) (row : Option Nat) : w.grownBy w' row := ⟨h.os, h.tape, h.output, h.size, fun b hb _ => h.block b hb (by simp)⟩
theorem grown_none {w w' : World} (h : Below w.heap.size w w') : w.grownBy w' none := ⟨h.os, h.tape, h.output, h.size, fun b hb _ => h.block b hb⟩
def DelRow (w : World) (base : Nat) (A : Option Addr) (n c : Nat) (S1 S2 : Mt) (k : Nat) (W : World) : Prop :=
  ∃ R, Tm 54 W base A n c R ∧ R.take (S1.length + k) = S1 ++ S2.take k ∧ R.drop (S1.length + 1 + k) = S2.drop k ∧ w.grownBy W (blk A)
theorem DelRow.grown {w : World} {base g n c : Nat} {S1 S2 : Mt} {k : Nat} {W W' : World} (h : DelRow w base (some ⟨g, 0, none⟩) n c S1 S2 k W) (hg : W.grownBy W' none) : DelRow w base (some ⟨g, 0, none⟩) n c S1 S2 k W' := by
  obtain ⟨R, h1, h2, h3, h4⟩ := h
  exact ⟨R, h1.kept hg (.inr (by simp [blk])), h2, h3, h4.trans (grown_any hg _)⟩
theorem DelRow.at_ {w : World} {base g n c : Nat} {S1 S2 : Mt} {k : Nat} {W : World} {x : Int × Int} (h : DelRow w base (some ⟨g, 0, none⟩) n c S1 S2 k W) (hx : S2[k]? = some x) :
    W.cell? ⟨g, (S1.length + 1 + k) * 2, none⟩ = some (.int .i64 x.1) ∧ W.cell? ⟨g, (S1.length + 1 + k) * 2 + 1, none⟩ = some (.int .i64 x.2) := by
  obtain ⟨R, h1, h2, h3, h4⟩ := h
  have hR : R[S1.length + 1 + k]? = some x := by
    have e := congrArg (fun l => l[0]?) h3
    simp only [List.getElem?_drop, Nat.add_zero] at e
    rw [e, hx]
  obtain ⟨g', e, _, _, a, b, _⟩ := h1.cell hR
  injection e with e
  injection e with e
  subst e
  exact ⟨a, b⟩
theorem DelRow.fz {w : World} {base g n c : Nat} {S1 S2 : Mt} {k : Nat} {W : World} (h : DelRow w base (some ⟨g, 0, none⟩) n c S1 S2 k W) (j : Nat) : W.frozen? ⟨g, j, none⟩ = false := by
  obtain ⟨R, h1, _⟩ := h
  rcases h1.cases_ with ⟨e, _⟩ | ⟨g', cur, e, _, h2, _⟩
  · cases e
  · injection e with e
    injection e with e
    subst e
    simp [World.frozen?, h2]
theorem DelRow.old {w : World} {base g n c : Nat} {S1 S2 : Mt} {k : Nat} {W : World} (h : DelRow w base (some ⟨g, 0, none⟩) n c S1 S2 k W) (j : Nat) (hj : j < n) : ∃ x : Int × Int, W.cell? ⟨g, j * 2, none⟩ = some (.int .i64 x.1) ∧ W.cell? ⟨g, j * 2 + 1, none⟩ = some (.int .i64 x.2) := by
  obtain ⟨R, h1, _⟩ := h
  obtain ⟨g', e, _, _, a, b, _⟩ := h1.cell (List.getElem?_eq_getElem (show j < R.length by rw [h1.len]; exact hj))
  injection e with e
  injection e with e
  subst e
  exact ⟨_, a, b⟩
theorem DelRow.next {w : World} {base g n c : Nat} {S1 S2 : Mt} {k : Nat} {W W' : World} {x : Int × Int} (h : DelRow w base (some ⟨g, 0, none⟩) n c S1 S2 k W) (hx : S2[k]? = some x) (hl : S1.length + (S2.length + 1) = n) (hg : W.grownBy W' none) :
    DelRow w base (some ⟨g, 0, none⟩) n c S1 S2 (k + 1) ((W'.setCell ⟨g, (S1.length + k) * 2, none⟩ (.int .i64 x.1)).setCell ⟨g, (S1.length + k) * 2 + 1, none⟩ (.int .i64 x.2)) := by
  obtain ⟨R, h1, h2, h3, h4⟩ := h
  have hkl := (List.getElem?_eq_some_iff.1 hx).1
  have hT : Tm 54 W' base (some ⟨g, 0, none⟩) n c R := h1.kept hg (.inr (by simp [blk]))
  refine ⟨R.set (S1.length + k) x, hT.set (by omega) x, ?_, ?_, ?_⟩
  · have hRl := h1.len
    rw [List.take_set, ← Nat.add_assoc, List.take_add_one, List.set_append_right _ _ (by rw [List.length_take]; omega)]
    have hk2 : k + 1 ≤ S2.length := hkl
    rw [h2, List.take_add_one, hx]
    have : (S1 ++ S2.take k).length = S1.length + k := by rw [List.length_append, List.length_take]; omega
    rw [this, Nat.sub_self, List.getElem?_eq_getElem (show S1.length + k < R.length by omega)]
    simp
  · rw [List.drop_set_of_lt (by omega), ← List.drop_drop, ← List.drop_drop, List.drop_drop, List.drop_drop, show S1.length + 1 + (k + 1) = S1.length + 1 + k + 1 by omega, ← List.drop_drop, h3, List.drop_drop]
  · have hq := h4.trans (grown_any hg (blk (some ⟨g, 0, none⟩)))
    exact grownBy_setCell (p := ⟨g, (S1.length + k) * 2 + 1, none⟩) (grownBy_setCell (p := ⟨g, (S1.length + k) * 2, none⟩) hq (.inl rfl) _) (.inl rfl) _
/-- The last timer of a row is cleared. -/
theorem Tm.clear {W : World} {base g n c : Nat} {R : Mt} (h : Tm 54 W base (some ⟨g, 0, none⟩) n c R) (j : Nat) (hj : j + 1 = n) (cp : Nat) :
    ∃ W', (∀ ty, (Builtin.clear_ #[23] ty #[.slice (some ⟨g, j * 2, none⟩) 1 cp]).run Try.prog W = .ok (.tuple #[]) W') ∧ Tm 54 W' base (some ⟨g, 0, none⟩) j c (R.take j) ∧ W.grownBy W' (some g) := by
  rcases h.cases_ with ⟨e, _⟩ | ⟨g', cur, e, hb, hh, hnc, hcm, hcs, ht⟩
  · cases e
  injection e with e
  injection e with e
  subst e
  have hst := run_storeCells_at Try.prog g (j * 2) 54 [.int .i64 0, .int .i64 0] 0 cur W hh (by simp; omega) (fun v hv => by simp at hv; subst hv; rfl)
  have hz : (zeroValue 54).run Try.prog W = .ok (.agg #[.int .i64 0, .int .i64 0]) W := by kernel_rfl
  refine ⟨W.setRow g (cur.toList.take (j * 2 + 0) ++ [Value.int .i64 0, Value.int .i64 0] ++ cur.toList.drop (j * 2 + 0 + 2)).toArray, fun ty => ?_, ?_, ⟨rfl, rfl, rfl, by simp, fun k _ hk => setRow_other W g k _ (fun e => hk (by rw [e]))⟩⟩
  · have hzc : Builtin.zeroCells #[Value.int .i64 0, Value.int .i64 0] 1 = #[Value.int .i64 0, Value.int .i64 0] := by kernel_rfl
    simp [Builtin.clear_, run_underlying Try.underlying23, hz, hzc, Value.cells]
    have hst' := hst
    simp at hst'
    rw [hst']
    rfl
  · refine ⟨by rw [tmsC_len, List.length_take, h.len]; omega, .inr ⟨g, c, _, rfl, hb, setRow_heap W g cur _ _ _ hh, by omega, hcm, ?_, ?_⟩⟩
    · simp; omega
    · rw [List.toList_toArray, List.append_assoc, Nat.add_zero, List.take_append_of_le_length (by simp; omega), tmsC_take, ← ht, List.take_take, List.take_take]
      congr 1; omega
set_option maxHeartbeats 2000000 in
set_option maxRecDepth 100000 in
theorem delete_any (A : Option Addr) (n c base : Nat) (S1 S2 : Mt) (t : Int × Int) (k : Int) (gk : Nat) (h1 : ∀ x ∈ S1, x.1 ≠ k) (h2 : ∀ x ∈ S2, x.1 ≠ k) (ht : t.1 = k) (hn : n ≤ 100000) (w : World) (h : Tm 54 w base A n c (S1 ++ t :: S2)) (hg : gk < w.heap.size) (hk : w.cell? ⟨gk, 0, none⟩ = some (.int .i64 k)) (hne : blk A ≠ some gk) :
    Calls Try.prog 27 #[.slice A n c, .func (.func 28) #[] #[.pointer (some ⟨gk, 0, none⟩)]] w fun e w' =>
      e = .returned (.slice A (n - 1) c) ∧ Tm 54 w' base A (n - 1) c (S1 ++ S2) ∧ w.grownBy w' (blk A) := by
  have hlen := h.len
  rw [List.length_append, List.length_cons] at hlen
  obtain ⟨g, hA⟩ : ∃ g, A = some ⟨g, 0, none⟩ := by
    obtain ⟨x, hx⟩ : ∃ x, (S1 ++ t :: S2)[0]? = some x := ⟨_, List.getElem?_eq_getElem (by rw [List.length_append, List.length_cons]; omega)⟩
    obtain ⟨g, e, _⟩ := h.cell hx
    exact ⟨g, e⟩
  subst hA
  have hgk : gk ≠ g := fun e => hne (by rw [e]; rfl)
  have HC := Lib.hid (index_any _ n c base S1 S2 t k gk h1 ht hn w h hg hk)
  have HT := Lib.hid h
  have HL := Lib.hid hlen
  have H2 := Lib.hid h2
  have hcap := h.cap
  obtain ⟨i0, hi0⟩ : ∃ i0, S1.length = i0 := ⟨_, rfl⟩
  rw [hi0] at HC hlen
  have HI := Lib.hid hi0
  have HR : Hid (DelRow w base (some ⟨g, 0, none⟩) n c S1 S2 0 w) := Lib.hid ⟨_, h, by simp, by
    rw [Nat.add_zero, ← List.drop_drop, List.drop_left]; rfl, World.grownBy.refl w _⟩
  clear h h1 h2 hi0
  have hneg : ((i0 : Int) == -1) = false := by simp
  go_enter Try.func27, Try.ntmps27
  go_wp2_with fail
  refine HC.out.mono ?_
  rintro e w1 ⟨rfl, hB1⟩
  have HB1 := Lib.hid hB1
  have HR1 : Hid (DelRow w base (some ⟨g, 0, none⟩) n c S1 S2 0 w1) := Lib.hid (HR.out.grown (grown_none hB1))
  clear hB1
  go_wp2
  go_loopw [5, 6] (fun v5 v6 wr => ∃ q j5 j6 : Nat, q ≤ S2.length ∧ j5 = i0 + q ∧ j6 = i0 + 1 + q ∧ v5 = .int .i64 j5 ∧ v6 = .int .i64 j6 ∧ Hid (DelRow w base (some ⟨g, 0, none⟩) n c S1 S2 q wr)) (fun _ v6 _ => n - (intOf v6).toNat)
  case atStart => exact ⟨0, i0, i0 + 1, Nat.zero_le _, rfl, rfl, rfl, by go_num, HR1⟩
  case round =>
    obtain ⟨q, j5, j6, hq, hj5, hj6, rfl, rfl, HD⟩ := hrel
    have HJ5 := Lib.hid hj5
    have HJ6 := Lib.hid hj6
    have hgr : w.grownBy wr (blk (some ⟨g, 0, none⟩)) := by obtain ⟨R, _, _, _, h⟩ := HD.out; exact h
    have hz := hgr.size
    have hkr : wr.cell? ⟨gk, 0, none⟩ = some (.int .i64 k) := (World.cell?_of_block (a := ⟨gk, 0, none⟩) (hgr.block gk hg (by simp [blk]; omega))).trans hk
    have hltg : g < wr.heap.size := by
      obtain ⟨R, hR, _⟩ := HD.out
      exact (hR.lt g rfl).2
    rcases Nat.lt_or_ge q S2.length with q1 | q1
    · obtain ⟨x, hx⟩ : ∃ x, S2[q]? = some x := ⟨_, List.getElem?_eq_getElem q1⟩
      obtain ⟨a0, a1⟩ := HD.out.at_ hx
      rw [HI.out, ← hj6] at a0 a1
      have hj5n0 : j5 < n := by omega
      have hj6n0 : j6 < n := by omega
      clear hj5 hj6
      have hxk : (x.1 == k) = false := by simpa using H2.out x (List.mem_of_getElem? hx)
      obtain ⟨X, hX⟩ : ∃ X, wr.alloc (.cells #[.int .i64 x.1, .int .i64 x.2] 54) = X := ⟨_, rfl⟩
      obtain ⟨nb, hnb⟩ : ∃ nb, wr.heap.size = nb := ⟨_, rfl⟩
      have hXb : Bk X nb 54 #[.int .i64 x.1, .int .i64 x.2] := by rw [← hX, ← hnb]; exact Bk.new wr _ _
      have hBX : Below wr.heap.size wr X := by rw [← hX]; exact (Below.refl _ _).alloc (Nat.le_refl _) _
      have hgkX : gk < X.heap.size := by have := hBX.size; omega
      have HCL := Lib.hid (clo_any x k gk X hgkX ((hBX.cell (p := ⟨gk, 0, none⟩) (show gk < wr.heap.size by omega)).trans hkr))
      have HX := Lib.hid hX
      have HXX := Lib.hid hx
      have HNB := Lib.hid hnb
      have HXB := Lib.hid hXb
      have HBX := Lib.hid hBX
      have hnl := hXb.lt
      have hj6n : (j6 : Int) < n := by omega
      clear hX hx hnb hXb hBX hgr
      go_wp2_with fail
      rw [HX.out]
      refine HCL.out.mono ?_
      rintro e w2 ⟨rfl, hB2⟩
      have HD2 : Hid (DelRow w base (some ⟨g, 0, none⟩) n c S1 S2 q w2) := Lib.hid ((HD.out.grown (grown_none HBX.out)).grown (grown_none hB2))
      have hnb2 := HXB.out.below hB2 hnl
      have d0 := hnb2.cell 0
      have d1 := hnb2.cell 1
      simp only [List.getElem?_toArray, List.getElem?_cons_zero, List.getElem?_cons_succ] at d0 d1
      obtain ⟨y, o0, o1⟩ := HD2.out.old j5 hj5n0
      have f0 := HD2.out.fz (j5 * 2)
      have f1 := HD2.out.fz (j5 * 2 + 1)
      have hj5n : (j5 : Int) < n := by omega
      have HDN := Lib.hid (DelRow.next HD2.out HXX.out HL.out (World.grownBy.refl w2 none))
      rw [HI.out, ← HJ5.out] at HDN
      rw [HNB.out]
      clear hB2 hnb2 a0 a1
      go_wp2
      go_roundw
      case rel => exact ⟨q + 1, j5 + 1, j6 + 1, by omega, by have := HJ5.out; omega, by have := HJ6.out; omega, by go_num, by go_num, HDN⟩
      case measure => simp [intOf]; omega
    · have hj6n : ¬ (j6 : Int) < n := by omega
      have hj51 : j5 + 1 = n := by omega
      have hm1 : n - j5 = 1 := by omega
      obtain ⟨R, hR1, hR2, hR3, hR4⟩ := HD.out
      obtain ⟨W', hcl, hT', hg'⟩ := hR1.clear j5 hj51 (c - j5)
      have hRT : R.take j5 = S1 ++ S2 := by
        have := hR2
        rw [HI.out, ← hj5, List.take_of_length_le (show S2.length ≤ q by omega)] at this
        exact this
      rw [hRT] at hT'
      have HTT : Hid (Tm 54 W' base (some ⟨g, 0, none⟩) (n - 1) c (S1 ++ S2)) := Lib.hid (by rw [show n - 1 = j5 by omega]; exact hT')
      have HGG := Lib.hid (hR4.trans hg')
      have HN1 : Hid (j5 = n - 1) := Lib.hid (by omega)
      have hcj : ¬ c = j5 := by omega
      have hj5c : (j5 : Int) ≤ n := by omega
      have hj5d : (j5 : Int) ≤ c := by omega
      clear hR1 hR2 hR3 hR4 hT' hg' hRT hj5 hj6 hj51
      go_wp2
      go_ret
      exact ⟨by rw [← HN1.out]; rfl, HTT.out, HGG.out⟩
end Go.Proofs.Ytnnblakjaiccfaa
