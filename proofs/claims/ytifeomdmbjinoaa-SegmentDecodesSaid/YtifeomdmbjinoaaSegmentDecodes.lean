/- Proved: any bytes are a segment, or refused for the first reason of all. Conditions: none, for every input. -/
import Derived.Test.YtifeomdmbjinoaaRows
import Derived.WalkKit
import Derived.ProofKit
import Derived.OpenShut
import Derived.ShutString
import Derived.ChangeOld
import Derived.Below
import Derived.SizedLaws
import Derived.Test.YtifeomdmbjinoaaSegRD
import Derived.Test.YtifeomdmbjinoaaSegX
import Derived.Test.YtifeomdmbjinoaaSegF
import Derived.Test.YtifeomdmbjinoaaScript
namespace Go.Proofs.Ytifeomdmbjinoaa.segmentDecodes
open Go.ChangeShapes Go.WideShapes Go.ChangeAt Go.RowKit
open Go.ChangeMaps (open_string shut_string)
set_option linter.unusedVariables false

theorem own : ownKnob Try.prog.godebug = none := by kernel_rfl
theorem laidOut : laidOutB Try.prog = true := by kernel_rfl

/-! ### the walk -/
set_option maxRecDepth 100000 in
set_option maxHeartbeats 8000000 in
theorem walk (a0 : Int) (a1 : Int) (a2 : Option Addr) (len2 cap2 : Nat) (z2 : List Int) (w : World) (w0 : (Lit.int .u32 a0).wf = true) (w1 : (Lit.int .u32 a1).wf = true) (w2 : IsRow .u8 w a2 len2 cap2 z2 ∧ cap2 ≤ 140737488351232) :
    Calls Try.prog 6 #[.int .u32 a0, .int .u32 a1, .slice a2 len2 cap2] w fun e w' => e = .returned (.bool true) ∧ Below w.heap.size w w' := by
  obtain ⟨hI, hcap⟩ := w2
  obtain ⟨l, hr, hb, hn, hc⟩ := hI.rb
  have HN := Lib.hid hn
  have hfr : U32 a0 := bounds_u32 w0
  have hto : U32 a1 := bounds_u32 w1
  clear hn hI
  rcases (by omega : 70000 < len2 ∨ len2 ≤ 70000) with hd0 | hd0
  · go_enter Try.func6, Try.ntmps6
    go_wp2_with fail
    go_ret
    exact ⟨rfl, Below.refl _ _⟩
  go_enter Try.func6, Try.ntmps6
  go_wp2_with fail
  refine (roomy_any a2 len2 cap2 _ l HN.out (by omega) hb _ hr (Nat.le_refl _)).mono ?_
  rintro e w1 ⟨A1, cq1, rfl, hO1, hc1, hB1⟩
  have hz1 := hB1.size
  have hr1 : RB w1 w1.heap.size A1 l := by
    have h1 := hO1.takeN (m := len2) (by omega)
    rw [List.take_append_of_le_length (by rw [HN.out]; exact Nat.le_refl _), List.take_of_length_le (by rw [HN.out]; exact Nat.le_refl _)] at h1
    exact h1.rb
  have hq1 : RB w1 w1.heap.size A1 (l ++ [171]) := hO1.rb
  have hp1 : RB w1 w.heap.size a2 l := Rw.below hr hB1
  go_wp2_with fail
  refine (decode_any a0 a1 hfr hto A1 len2 cq1 _ l HN.out hb _ hr1 (Nat.le_refl _)).mono ?_
  rintro e w2 ⟨A2, n2, cq2, rfl, hO2, hB2⟩
  have hz2 := hB2.size
  obtain ⟨er, her⟩ : ∃ er, dErr a0 a1 l = er := ⟨_, rfl⟩
  obtain ⟨S, hS⟩ : ∃ S, decOf a0 a1 l = S := ⟨_, rfl⟩
  obtain ⟨dd, hdd⟩ : ∃ dd, decD a0 a1 l = dd := ⟨_, rfl⟩
  have hbd : Bs dd := by rw [← hdd]; exact decD_bs hb
  have hld : dd.length ≤ 70000 := by rw [← hdd]; exact Nat.le_trans (decD_len a0 a1 l) (by rw [HN.out]; exact hd0)
  rw [hdd] at hO2
  rw [her, hS]
  have E0 := Lib.hid her
  have E1 := Lib.hid hS
  have E4 := Lib.hid hdd
  clear her hS hdd
  obtain ⟨w3, hw3⟩ : ∃ w3, w2.alloc (.cells #[.int .u32 S.fr, .int .i64 S.fp, .int .u32 S.to, .int .i64 S.tp, .int .u32 S.seq, .int .u32 S.ack, .int .i64 S.fl, .int .i64 S.win, .int .i64 S.mss, .int .i64 S.sc, .slice A2 n2 cq2] 26) = w3 := ⟨_, rfl⟩
  have hm3 : Bk w3 w2.heap.size 26 #[.int .u32 S.fr, .int .i64 S.fp, .int .u32 S.to, .int .i64 S.tp, .int .u32 S.seq, .int .u32 S.ack, .int .i64 S.fl, .int .i64 S.win, .int .i64 S.mss, .int .i64 S.sc, .slice A2 n2 cq2] := by rw [← hw3]; exact Bk.new w2 _ _
  have hB3 : Below w2.heap.size w2 w3 := by rw [← hw3]; exact (Below.refl _ _).alloc (Nat.le_refl _) _
  have HW3 := Lib.hid hw3
  have hlt3 := hm3.lt
  clear hw3
  have hp3 : RB w3 w.heap.size a2 l := Rw.below (Rw.below hp1 (hB2.mono hz1)) (hB3.mono (by omega))
  go_wp2_with fail
  rw [HW3.out]
  refine (rdecode_any a0 a1 hfr hto a2 len2 cap2 _ l HN.out hc hb _ hp3 (by omega)).mono ?_
  rintro e w4 ⟨A4, n4, cq4, rfl, hO4, hB4⟩
  have hz4 := hB4.size
  rw [E0.out, E1.out]
  rw [E4.out] at hO4
  have hm4 := hm3.below hB4 hlt3
  obtain ⟨w5, hw5⟩ : ∃ w5, w4.alloc (.cells #[.int .u32 S.fr, .int .i64 S.fp, .int .u32 S.to, .int .i64 S.tp, .int .u32 S.seq, .int .u32 S.ack, .int .i64 S.fl, .int .i64 S.win, .int .i64 S.mss, .int .i64 S.sc, .slice A4 n4 cq4] 26) = w5 := ⟨_, rfl⟩
  have hm5 : Bk w5 w4.heap.size 26 #[.int .u32 S.fr, .int .i64 S.fp, .int .u32 S.to, .int .i64 S.tp, .int .u32 S.seq, .int .u32 S.ack, .int .i64 S.fl, .int .i64 S.win, .int .i64 S.mss, .int .i64 S.sc, .slice A4 n4 cq4] := by rw [← hw5]; exact Bk.new w4 _ _
  have hB5 : Below w4.heap.size w4 w5 := by rw [← hw5]; exact (Below.refl _ _).alloc (Nat.le_refl _) _
  have hm5a := hm4.below hB5 (by omega)
  have c0 := hm5a.cell 0
  have c1 := hm5a.cell 1
  have c2 := hm5a.cell 2
  have c3 := hm5a.cell 3
  have c4 := hm5a.cell 4
  have c5 := hm5a.cell 5
  have c6 := hm5a.cell 6
  have c7 := hm5a.cell 7
  have c8 := hm5a.cell 8
  have c9 := hm5a.cell 9
  have c10 := hm5a.cell 10
  have hlt4 : w2.heap.size < w4.heap.size := by omega
  have d0 := (World.cell?_alloc_lt w4 (.cells #[.int .u32 S.fr, .int .i64 S.fp, .int .u32 S.to, .int .i64 S.tp, .int .u32 S.seq, .int .u32 S.ack, .int .i64 S.fl, .int .i64 S.win, .int .i64 S.mss, .int .i64 S.sc, .slice A4 n4 cq4] 26) ⟨w2.heap.size, 0, none⟩ hlt4).trans (hm4.cell 0)
  have d1 := (World.cell?_alloc_lt w4 (.cells #[.int .u32 S.fr, .int .i64 S.fp, .int .u32 S.to, .int .i64 S.tp, .int .u32 S.seq, .int .u32 S.ack, .int .i64 S.fl, .int .i64 S.win, .int .i64 S.mss, .int .i64 S.sc, .slice A4 n4 cq4] 26) ⟨w2.heap.size, 1, none⟩ hlt4).trans (hm4.cell 1)
  have d2 := (World.cell?_alloc_lt w4 (.cells #[.int .u32 S.fr, .int .i64 S.fp, .int .u32 S.to, .int .i64 S.tp, .int .u32 S.seq, .int .u32 S.ack, .int .i64 S.fl, .int .i64 S.win, .int .i64 S.mss, .int .i64 S.sc, .slice A4 n4 cq4] 26) ⟨w2.heap.size, 2, none⟩ hlt4).trans (hm4.cell 2)
  have d3 := (World.cell?_alloc_lt w4 (.cells #[.int .u32 S.fr, .int .i64 S.fp, .int .u32 S.to, .int .i64 S.tp, .int .u32 S.seq, .int .u32 S.ack, .int .i64 S.fl, .int .i64 S.win, .int .i64 S.mss, .int .i64 S.sc, .slice A4 n4 cq4] 26) ⟨w2.heap.size, 3, none⟩ hlt4).trans (hm4.cell 3)
  have d4 := (World.cell?_alloc_lt w4 (.cells #[.int .u32 S.fr, .int .i64 S.fp, .int .u32 S.to, .int .i64 S.tp, .int .u32 S.seq, .int .u32 S.ack, .int .i64 S.fl, .int .i64 S.win, .int .i64 S.mss, .int .i64 S.sc, .slice A4 n4 cq4] 26) ⟨w2.heap.size, 4, none⟩ hlt4).trans (hm4.cell 4)
  have d5 := (World.cell?_alloc_lt w4 (.cells #[.int .u32 S.fr, .int .i64 S.fp, .int .u32 S.to, .int .i64 S.tp, .int .u32 S.seq, .int .u32 S.ack, .int .i64 S.fl, .int .i64 S.win, .int .i64 S.mss, .int .i64 S.sc, .slice A4 n4 cq4] 26) ⟨w2.heap.size, 5, none⟩ hlt4).trans (hm4.cell 5)
  have d6 := (World.cell?_alloc_lt w4 (.cells #[.int .u32 S.fr, .int .i64 S.fp, .int .u32 S.to, .int .i64 S.tp, .int .u32 S.seq, .int .u32 S.ack, .int .i64 S.fl, .int .i64 S.win, .int .i64 S.mss, .int .i64 S.sc, .slice A4 n4 cq4] 26) ⟨w2.heap.size, 6, none⟩ hlt4).trans (hm4.cell 6)
  have d7 := (World.cell?_alloc_lt w4 (.cells #[.int .u32 S.fr, .int .i64 S.fp, .int .u32 S.to, .int .i64 S.tp, .int .u32 S.seq, .int .u32 S.ack, .int .i64 S.fl, .int .i64 S.win, .int .i64 S.mss, .int .i64 S.sc, .slice A4 n4 cq4] 26) ⟨w2.heap.size, 7, none⟩ hlt4).trans (hm4.cell 7)
  have d8 := (World.cell?_alloc_lt w4 (.cells #[.int .u32 S.fr, .int .i64 S.fp, .int .u32 S.to, .int .i64 S.tp, .int .u32 S.seq, .int .u32 S.ack, .int .i64 S.fl, .int .i64 S.win, .int .i64 S.mss, .int .i64 S.sc, .slice A4 n4 cq4] 26) ⟨w2.heap.size, 8, none⟩ hlt4).trans (hm4.cell 8)
  have d9 := (World.cell?_alloc_lt w4 (.cells #[.int .u32 S.fr, .int .i64 S.fp, .int .u32 S.to, .int .i64 S.tp, .int .u32 S.seq, .int .u32 S.ack, .int .i64 S.fl, .int .i64 S.win, .int .i64 S.mss, .int .i64 S.sc, .slice A4 n4 cq4] 26) ⟨w2.heap.size, 9, none⟩ hlt4).trans (hm4.cell 9)
  have d10 := (World.cell?_alloc_lt w4 (.cells #[.int .u32 S.fr, .int .i64 S.fp, .int .u32 S.to, .int .i64 S.tp, .int .u32 S.seq, .int .u32 S.ack, .int .i64 S.fl, .int .i64 S.win, .int .i64 S.mss, .int .i64 S.sc, .slice A4 n4 cq4] 26) ⟨w2.heap.size, 10, none⟩ hlt4).trans (hm4.cell 10)
  simp only [List.getElem?_toArray, List.getElem?_cons_zero, List.getElem?_cons_succ] at c0 c1 c2 c3 c4 c5 c6 c7 c8 c9 c10 d0 d1 d2 d3 d4 d5 d6 d7 d8 d9 d10
  have HW5 := Lib.hid hw5
  have hlt5 := hm5.lt
  have hO2' : OB 5 w5 w1.heap.size A2 n2 cq2 dd := Ow.stays (Ow.stays (Ow.stays hO2 hB3) hB4) hB5
  have hO4' : OB 5 w5 w3.heap.size A4 n4 cq4 dd := Ow.stays hO4 hB5
  have l2 := Lib.hid hO2'.length
  have l4 := Lib.hid hO4'.length
  have hn2 : n2 ≤ 70000 := by rw [← l2.out]; exact hld
  clear hw5
  go_wp2_with fail
  rw [HW5.out]
  refine (segments_any S A2 A4 n2 n4 cq2 cq4 w5.heap.size dd l2.out l4.out (by omega) hbd _ hO2'.rb hO4'.rb (Nat.le_refl _)).mono ?_
  rintro e w6 ⟨rfl, hB6, hz6⟩
  have c10' := bel_cell hB6 (by omega) c10
  have hO6 : OB 5 w6 w1.heap.size A2 n2 cq2 dd := Ow.stays hO2' hB6
  have hB16 : Below w1.heap.size w1 w6 := (((hB2.trans (hB3.mono hz2)).trans (hB4.mono (by omega))).trans (hB5.mono (by omega))).trans (hB6.mono (by omega))
  clear c0 c1 c2 c3 c4 c5 c6 c7 c8 c9 c10 d0 d1 d2 d3 d4 d5 d6 d7 d8 d9 d10
  go_wp2_with fail
  refine (spoil_any A2 n2 cq2 w1.heap.size dd (by omega) _ hO6 (by omega)).mono ?_
  rintro e w7 ⟨rfl, hg7⟩
  have hrow : ∀ g, blk A2 = some g → w1.heap.size ≤ g := fun g hg => (Ow.lt hO6 g hg).1
  have hq7 : RB w7 w1.heap.size A1 (l ++ [171]) := Rw.grown (Rw.below hq1 hB16) hg7 hB16.size hrow
  have hp7 : RB w7 w.heap.size a2 l := Rw.grown (Rw.below hp1 (hB16.mono hz1)) hg7 (by omega) (fun g hg => Nat.le_trans hz1 (hrow g hg))
  have hB17 := hB16.grown hg7 hB16.size hrow
  go_wp2_with fail
  refine (stands_any A1 a2 len2 cq1 cap2 _ _ l HN.out (by omega) hc1 hb _ hq7 hp7).mono ?_
  rintro e w' ⟨rfl, k2, rfl⟩
  go_wp2_with fail
  refine (known_any _).mono ?_
  rintro e w8 ⟨rfl, hB8⟩
  go_wp2
  go_ret
  exact ⟨rfl, (hB1.trans ((bel_drewN hB17 k2).mono hz1)).trans (hB8.mono (Nat.le_trans hz1 hB17.size))⟩

/-! ### the row -/
set_option maxRecDepth 100000 in
theorem lifted (os : Os) (started : os.Started) (H : Type) (enc : TypeId × Value → H) :
    ReturnsInHanded {} Try.checked os 6 .any (Rows.segmentDecodesSpec.pre6 enc Try.prog Try.f6 Rows.segmentDecodesRow.domain false) (Rows.segmentDecodesSpec.post enc Try.prog Try.f6 false true false false) := by
  refine returnsInHanded_of_change_sized (C := Try.checked) own started (by kernel_rfl) Try.func6
    (ChangeSpec.witness6 (enc := enc) (C := Try.checked) false ⟨#[], #[.int .u32 0, .int .u32 0, .slice none 0 0], []⟩ 8 (by kernel_rfl) (by kernel_rfl) (by kernel_rfl) (by kernel_rfl)) ?_
  intro W base args ds gs before hval0 hW hcnd hsz0 _
  have hval : ∀ (j : Nat) t v, Try.f6.params[j]? = some t → args[j]? = some v → Value.okWide Try.prog W .any base t v := hval0
  have hsz : (DataW.weightsEach Try.prog (Try.f6.params.toList ++ Rows.segmentDecodesSpec.plain.varTypes Try.prog) (ds ++ gs)).all (· ≤ reachBytes) = true := hsz0
  clear hsz0
  have hW' := hW
  obtain ⟨p, q, hA0, hV, rfl, hfz, hnd⟩ := hW
  have hA : DataW.TrodAll enc Try.prog W 0 (fun _ => true) true Try.f6.params.toList args.toList ds p := hA0
  rw [Try.params6] at hA hval hsz
  obtain ⟨v0, vs0, d0, ds0, p0, q0, hargs, rfl, rfl, h0, r0⟩ := trodAll_cons hA
  obtain ⟨v1, vs1, d1, ds1, p1, q1, rfl, rfl, rfl, h1, r1⟩ := trodAll_cons r0
  obtain ⟨v2, vs2, d2, ds2, p2, q2, rfl, rfl, rfl, h2, r2⟩ := trodAll_cons r1
  obtain ⟨rfl, rfl, rfl⟩ := trodAll_nil r2
  obtain rfl : args = #[v0, v1, v2] := by cases args; simp_all
  obtain ⟨rfl, rfl⟩ := trodVars_none hV
  obtain ⟨a0, rfl, rfl, rfl, w0⟩ := open_int Try.underlying23 (hval 0 23 v0 rfl rfl) h0
  obtain ⟨a1, rfl, rfl, rfl, w1⟩ := open_int Try.underlying23 (hval 1 23 v1 rfl rfl) h1
  obtain ⟨a2, len2, cap2, rfl⟩ := okWide_slice Try.underlying24 (hval 2 24 v2 rfl rfl)
  have k2 := h2
  have lt2 : ∀ x ∈ p2, x.block < W.heap.size := by obtain ⟨m, hm⟩ := k2; exact DataW.trod_lt m _ _ _ hm
  obtain ⟨z2, w2⟩ : ∃ zs, IsRow .u8 W a2 len2 cap2 zs ∧ cap2 ≤ 140737488351232 := by
    obtain ⟨fuel, hf⟩ := h2
    rcases open_ints Try.underlying24 Try.underlying5 (by kernel_rfl) hf with ⟨hcs, _⟩ | ⟨x, l, c, zs, hcs, _, hl, hm, hz, hx, hcell, hwz⟩
    · simp [Value.cells] at hcs
      obtain ⟨rfl, rfl, rfl⟩ := hcs
      exact ⟨[], .inl ⟨rfl, rfl, rfl, rfl⟩, by omega⟩
    · simp [Value.cells] at hcs
      obtain ⟨rfl, rfl, rfl⟩ := hcs
      simp only [Prod.mk.injEq] at hx
      obtain ⟨rfl, rfl⟩ := hx
      simp only [if_true] at hz
      have hm2 := sized_slice hsz (j := 2) (t := 24) (e := 5) rfl rfl Try.underlying24
      rw [show Try.prog.bytesOf 5 = 1 from by kernel_rfl] at hm2
      simp only [lits, List.length_map, List.length_take, List.length_drop, reachBytes] at hm2
      exact ⟨zs, .inr ⟨_, rfl, hl, hm, hz, hcell, hwz⟩, by omega⟩
  clear hA0 hval0
  refine (walk a0 a1 a2 len2 cap2 z2 W w0 w1 w2).mono fun e W' ⟨he, bel⟩ => ?_
  subst he
  exact ⟨_, rfl, _, _, _, [], _, [], hW', trodAll_mk1 (shut_bool Try.underlying4 _), (trodAll_cons_mk (shut_int Try.underlying23 w0) (trodAll_cons_mk (shut_int Try.underlying23 w1) (trodAll_cons_mk (Below.trod laidOut (by kernel_rfl) (of_decide_eq_true (by kernel_rfl)) k2 bel lt2) trodAll_mk0))), rfl, bel.frame _, fun h => by cases h⟩

theorem over : Rows.segmentDecodesRow.holds Try.pinned (OpenSpec.ofChange Rows.segmentDecodesSpec) :=
  OpenClaim.holds_of_wide 6 Try.f6 rfl rfl rfl rfl rfl rfl rfl ⟨rfl, rfl, rfl, rfl, rfl⟩ rfl rfl rfl rfl rfl (by kernel_rfl) Try.func6 (by kernel_rfl)
    (of_decide_eq_true (by kernel_rfl)) (by unfold Func.isWrapper; first | (rw [if_pos (by decide +kernel)]; kernel_rfl) | (rw [if_neg (by decide +kernel)]; exact ⟨rfl, rfl⟩))
    (fun os started H enc _ => lifted os started H enc)

theorem proved : Rows.SegmentDecodesSaid := over
#print axioms proved
end Go.Proofs.Ytifeomdmbjinoaa.segmentDecodes
