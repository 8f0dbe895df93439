/- Proved: a segment is its header with its options and its sum, and its data, or refused. Conditions: none, for every input. -/
import Derived.Test.YtifeomdmbjinoaaRows
import Derived.WalkKit
import Derived.ProofKit
import Derived.OpenShut
import Derived.ShutString
import Derived.ChangeOld
import Derived.Below
import Derived.SizedLaws
import Derived.Test.YtifeomdmbjinoaaMem
import Derived.Test.YtifeomdmbjinoaaSegT
import Derived.Test.YtifeomdmbjinoaaSegV
namespace Go.Proofs.Ytifeomdmbjinoaa.segmentEncodes
open Go.ChangeShapes Go.WideShapes Go.ChangeAt Go.RowKit
open Go.ChangeMaps (open_string shut_string)
set_option linter.unusedVariables false

theorem own : ownKnob Try.prog.godebug = none := by kernel_rfl
theorem laidOut : laidOutB Try.prog = true := by kernel_rfl

/-! ### the walk -/
set_option maxRecDepth 100000 in
set_option maxHeartbeats 4000000 in
theorem walk (v0 : Value) (w : World) (w0 : ViewSeg w v0) :
    Calls Try.prog 3 #[v0] w fun e w' => e = .returned (.bool true) ∧ Below w.heap.size w w' := by
  obtain ⟨s, A, n, cap, l, rfl, hwf, hd, hb, hn, hcap, hmax⟩ := w0
  have HN := Lib.hid hn
  have HWF := Lib.hid hwf
  clear hn hwf
  obtain ⟨W, hW⟩ : ∃ W, w.alloc (.cells #[.int .u32 s.fr, .int .i64 s.fp, .int .u32 s.to, .int .i64 s.tp, .int .u32 s.seq, .int .u32 s.ack, .int .i64 s.fl, .int .i64 s.win, .int .i64 s.mss, .int .i64 s.sc, .slice A n cap] 26) = W := ⟨_, rfl⟩
  have hm : Bk W w.heap.size 26 #[.int .u32 s.fr, .int .i64 s.fp, .int .u32 s.to, .int .i64 s.tp, .int .u32 s.seq, .int .u32 s.ack, .int .i64 s.fl, .int .i64 s.win, .int .i64 s.mss, .int .i64 s.sc, .slice A n cap] := by rw [← hW]; exact Bk.new w _ _
  have hB : Below w.heap.size w W := by rw [← hW]; exact (Below.refl _ _).alloc (Nat.le_refl _) _
  have hz : W.heap.size = w.heap.size + 1 := by rw [← hW]; simp
  have hd0 : RB W W.heap.size A l := Rw.more (Rw.below hd hB) hB.size
  have k0 : W.cell? ⟨w.heap.size, 0, none⟩ = some (.int .u32 s.fr) := hm.cell 0
  have k1 : W.cell? ⟨w.heap.size, 1, none⟩ = some (.int .i64 s.fp) := hm.cell 1
  have k2 : W.cell? ⟨w.heap.size, 2, none⟩ = some (.int .u32 s.to) := hm.cell 2
  have k3 : W.cell? ⟨w.heap.size, 3, none⟩ = some (.int .i64 s.tp) := hm.cell 3
  have k4 : W.cell? ⟨w.heap.size, 4, none⟩ = some (.int .u32 s.seq) := hm.cell 4
  have k5 : W.cell? ⟨w.heap.size, 5, none⟩ = some (.int .u32 s.ack) := hm.cell 5
  have k6 : W.cell? ⟨w.heap.size, 6, none⟩ = some (.int .i64 s.fl) := hm.cell 6
  have k7 : W.cell? ⟨w.heap.size, 7, none⟩ = some (.int .i64 s.win) := hm.cell 7
  have k8 : W.cell? ⟨w.heap.size, 8, none⟩ = some (.int .i64 s.mss) := hm.cell 8
  have k9 : W.cell? ⟨w.heap.size, 9, none⟩ = some (.int .i64 s.sc) := hm.cell 9
  have k10 : W.cell? ⟨w.heap.size, 10, none⟩ = some (.slice A n cap) := hm.cell 10
  have HW := Lib.hid hW
  have HZ := Lib.hid hz
  clear hW hz
  rcases (by omega : 70000 < n ∨ n ≤ 70000) with d0 | d0
  · go_enter Try.func3, Try.ntmps3
    go_wp2_with fail
    go_ret
    exact ⟨rfl, (Below.refl _ _).alloc (Nat.le_refl _) _⟩
  have hbnd : w.heap.size < W.heap.size := by have := HZ.out; omega
  go_enter Try.func3, Try.ntmps3
  go_wp2_with fail
  rw [HW.out]
  refine (roomy_any A n cap _ l HN.out (by omega) hb _ hd0 (Nat.le_refl _)).mono ?_
  rintro e w2 ⟨A2, c2, rfl, hO2, hc2, hB2⟩
  have hz2 := hB2.size
  have m0 : w2.cell? ⟨w.heap.size, 0, none⟩ = some (.int .u32 s.fr) := bel_cell hB2 hbnd k0
  have m1 : w2.cell? ⟨w.heap.size, 1, none⟩ = some (.int .i64 s.fp) := bel_cell hB2 hbnd k1
  have m2 : w2.cell? ⟨w.heap.size, 2, none⟩ = some (.int .u32 s.to) := bel_cell hB2 hbnd k2
  have m3 : w2.cell? ⟨w.heap.size, 3, none⟩ = some (.int .i64 s.tp) := bel_cell hB2 hbnd k3
  have m4 : w2.cell? ⟨w.heap.size, 4, none⟩ = some (.int .u32 s.seq) := bel_cell hB2 hbnd k4
  have m5 : w2.cell? ⟨w.heap.size, 5, none⟩ = some (.int .u32 s.ack) := bel_cell hB2 hbnd k5
  have m6 : w2.cell? ⟨w.heap.size, 6, none⟩ = some (.int .i64 s.fl) := bel_cell hB2 hbnd k6
  have m7 : w2.cell? ⟨w.heap.size, 7, none⟩ = some (.int .i64 s.win) := bel_cell hB2 hbnd k7
  have m8 : w2.cell? ⟨w.heap.size, 8, none⟩ = some (.int .i64 s.mss) := bel_cell hB2 hbnd k8
  have m9 : w2.cell? ⟨w.heap.size, 9, none⟩ = some (.int .i64 s.sc) := bel_cell hB2 hbnd k9
  have m10 : w2.cell? ⟨w.heap.size, 10, none⟩ = some (.slice A n cap) := bel_cell hB2 hbnd k10
  clear k0 k1 k2 k3 k4 k5 k6 k7 k8 k9 k10
  have hwz : w.heap.size < w2.heap.size := by omega
  have m10a := (World.cell?_alloc_lt w2 (.cells #[.int .u32 s.fr, .int .i64 s.fp, .int .u32 s.to, .int .i64 s.tp, .int .u32 s.seq, .int .u32 s.ack, .int .i64 s.fl, .int .i64 s.win, .int .i64 s.mss, .int .i64 s.sc, .slice A n cap] 26) ⟨w.heap.size, 10, none⟩ hwz).trans m10
  obtain ⟨W3, hW3⟩ : ∃ W3, w2.alloc (.cells #[.int .u32 s.fr, .int .i64 s.fp, .int .u32 s.to, .int .i64 s.tp, .int .u32 s.seq, .int .u32 s.ack, .int .i64 s.fl, .int .i64 s.win, .int .i64 s.mss, .int .i64 s.sc, .slice A2 n c2] 26) = W3 := ⟨_, rfl⟩
  have hB3 : Below w2.heap.size w2 W3 := by rw [← hW3]; exact (Below.refl _ _).alloc (Nat.le_refl _) _
  have HW3 := Lib.hid hW3
  have hz3 := hB3.size
  have hO3 : RB W3 W3.heap.size A2 l := by
    have h1 := hO2.takeN (m := n) (by omega)
    rw [List.take_append_of_le_length (by rw [HN.out]; exact Nat.le_refl _), List.take_of_length_le (by rw [HN.out]; exact Nat.le_refl _)] at h1
    exact Rw.more (Rw.below h1.rb hB3) hz3
  have hr3 : RB W3 W3.heap.size A2 (l ++ [171]) := Rw.more (Rw.below hO2.rb hB3) hz3
  have nn0 : W3.cell? ⟨w.heap.size, 0, none⟩ = some (.int .u32 s.fr) := bel_cell hB3 hwz m0
  have nn1 : W3.cell? ⟨w.heap.size, 1, none⟩ = some (.int .i64 s.fp) := bel_cell hB3 hwz m1
  have nn2 : W3.cell? ⟨w.heap.size, 2, none⟩ = some (.int .u32 s.to) := bel_cell hB3 hwz m2
  have nn3 : W3.cell? ⟨w.heap.size, 3, none⟩ = some (.int .i64 s.tp) := bel_cell hB3 hwz m3
  have nn4 : W3.cell? ⟨w.heap.size, 4, none⟩ = some (.int .u32 s.seq) := bel_cell hB3 hwz m4
  have nn5 : W3.cell? ⟨w.heap.size, 5, none⟩ = some (.int .u32 s.ack) := bel_cell hB3 hwz m5
  have nn6 : W3.cell? ⟨w.heap.size, 6, none⟩ = some (.int .i64 s.fl) := bel_cell hB3 hwz m6
  have nn7 : W3.cell? ⟨w.heap.size, 7, none⟩ = some (.int .i64 s.win) := bel_cell hB3 hwz m7
  have nn8 : W3.cell? ⟨w.heap.size, 8, none⟩ = some (.int .i64 s.mss) := bel_cell hB3 hwz m8
  have nn9 : W3.cell? ⟨w.heap.size, 9, none⟩ = some (.int .i64 s.sc) := bel_cell hB3 hwz m9
  have nn10 : W3.cell? ⟨w.heap.size, 10, none⟩ = some (.slice A n cap) := bel_cell hB3 hwz m10
  have hd3 : RB W3 W3.heap.size A l := Rw.more (Rw.below hd0 (hB2.trans (hB3.mono hz2))) (Nat.le_trans hz2 hz3)
  have hBw3 : Below w.heap.size w W3 := (hB.trans (hB2.mono (by omega))).trans (hB3.mono (by omega))
  clear hW3
  go_wp2_with fail
  rw [HW3.out]
  clear m0 m1 m2 m3 m4 m5 m6 m7 m8 m9 m10
  clear m10a
  refine (encode_any s HWF.out A2 n c2 l HN.out (by omega) hb _ hO3).mono ?_
  rintro e w4 ⟨A4, n4, c4, rfl, hO4, hB4⟩
  have hz4 := hB4.size
  have hwz3 : w.heap.size < W3.heap.size := Nat.lt_of_lt_of_le hwz hz3
  have p0 : w4.cell? ⟨w.heap.size, 0, none⟩ = some (.int .u32 s.fr) := bel_cell hB4 hwz3 nn0
  have p1 : w4.cell? ⟨w.heap.size, 1, none⟩ = some (.int .i64 s.fp) := bel_cell hB4 hwz3 nn1
  have p2 : w4.cell? ⟨w.heap.size, 2, none⟩ = some (.int .u32 s.to) := bel_cell hB4 hwz3 nn2
  have p3 : w4.cell? ⟨w.heap.size, 3, none⟩ = some (.int .i64 s.tp) := bel_cell hB4 hwz3 nn3
  have p4 : w4.cell? ⟨w.heap.size, 4, none⟩ = some (.int .u32 s.seq) := bel_cell hB4 hwz3 nn4
  have p5 : w4.cell? ⟨w.heap.size, 5, none⟩ = some (.int .u32 s.ack) := bel_cell hB4 hwz3 nn5
  have p6 : w4.cell? ⟨w.heap.size, 6, none⟩ = some (.int .i64 s.fl) := bel_cell hB4 hwz3 nn6
  have p7 : w4.cell? ⟨w.heap.size, 7, none⟩ = some (.int .i64 s.win) := bel_cell hB4 hwz3 nn7
  have p8 : w4.cell? ⟨w.heap.size, 8, none⟩ = some (.int .i64 s.mss) := bel_cell hB4 hwz3 nn8
  have p9 : w4.cell? ⟨w.heap.size, 9, none⟩ = some (.int .i64 s.sc) := bel_cell hB4 hwz3 nn9
  have p10 : w4.cell? ⟨w.heap.size, 10, none⟩ = some (.slice A n cap) := bel_cell hB4 hwz3 nn10
  have hd4 : RB w4 w4.heap.size A l := Rw.more (Rw.below hd3 hB4) hz4
  have hr4 : RB w4 w4.heap.size A2 (l ++ [171]) := Rw.more (Rw.below hr3 hB4) hz4
  clear nn0 nn1 nn2 nn3 nn4 nn5 nn6 nn7 nn8 nn9 nn10
  obtain ⟨er, her⟩ : ∃ er, segErr s n = er := ⟨_, rfl⟩
  have HER := Lib.hid her
  rw [her]
  clear her
  have hlen : Hid ((segOut s l).length ≤ 28 + n) := Lib.hid (by have := segOut_len (s := s) (d := l); rwa [HN.out] at this)
  have hbo : Hid (Bs (segOut s l)) := Lib.hid (segOut_bs hb)
  go_wp2_with fail
  refine (rencode_any s HWF.out A n cap l HN.out (by omega) hb _ hd4).mono ?_
  rintro e w5 ⟨A5, n5, c5, rfl, hO5, hB5⟩
  have hz5 := hB5.size
  have q10 := bel_cell hB5 (by omega) p10
  have hd5 : RB w5 w5.heap.size A l := Rw.more (Rw.below hd4 hB5) hz5
  have hr5 : RB w5 w5.heap.size A2 (l ++ [171]) := Rw.more (Rw.below hr4 hB5) hz5
  have hb4 : RB w5 w4.heap.size A4 (segOut s l) := Rw.below hO4.rb hB5
  clear p0 p1 p2 p3 p4 p5 p6 p7 p8 p9 p10
  rw [HER.out]
  have l4 := hO4.length
  have l5 := hO5.length
  have hl4 : n4 ≤ 80000 := by have := hlen.out; omega
  have hl5 : n5 ≤ 80000 := by have := hlen.out; omega
  have L4 := Lib.hid l4
  have L5 := Lib.hid l5
  clear l4 l5
  have hBw5 : Below w.heap.size w w5 := (hBw3.trans (hB4.mono (by omega))).trans (hB5.mono (by omega))
  go_wp2_with fail
  refine (same_any A4 A5 n4 c4 n5 c5 _ _ _ _ L4.out L5.out (by omega) (by omega) hbo.out hbo.out _ hb4 hO5.rb).mono ?_
  rintro e w' ⟨rfl, k1, rfl⟩
  go_wp2_with fail
  refine (stands_any A2 A n c2 cap _ _ l HN.out (by omega) hc2 hb _ (by exact hr5) (by exact hd5)).mono ?_
  rintro e w' ⟨rfl, k2, rfl⟩
  go_wp2_with fail
  refine (known_any _).mono ?_
  rintro e w6 ⟨rfl, hB6⟩
  go_wp2
  go_ret
  exact ⟨rfl, (bel_drewN hBw5 _).trans (hB6.mono hBw5.size)⟩

/-! ### the row -/
set_option maxRecDepth 100000 in
theorem lifted (os : Os) (started : os.Started) (H : Type) (enc : TypeId × Value → H) :
    ReturnsInHanded {} Try.checked os 3 .any (Rows.segmentEncodesSpec.pre6 enc Try.prog Try.f3 Rows.segmentEncodesRow.domain false) (Rows.segmentEncodesSpec.post enc Try.prog Try.f3 false true false false) := by
  refine returnsInHanded_of_change_sized (C := Try.checked) own started (by kernel_rfl) Try.func3
    (ChangeSpec.witness6 (enc := enc) (C := Try.checked) false ⟨#[], #[.agg #[.int .u32 0, .int .i64 0, .int .u32 0, .int .i64 0, .int .u32 0, .int .u32 0, .int .i64 0, .int .i64 0, .int .i64 0, .int .i64 0, .slice none 0 0]], []⟩ 8 (by kernel_rfl) (by kernel_rfl) (by kernel_rfl) (by kernel_rfl)) ?_
  intro W base args ds gs before hval0 hW hcnd hsz0 _
  have hval : ∀ (j : Nat) t v, Try.f3.params[j]? = some t → args[j]? = some v → Value.okWide Try.prog W .any base t v := hval0
  have hsz : (DataW.weightsEach Try.prog (Try.f3.params.toList ++ Rows.segmentEncodesSpec.plain.varTypes Try.prog) (ds ++ gs)).all (· ≤ reachBytes) = true := hsz0
  clear hsz0
  have hW' := hW
  obtain ⟨p, q, hA0, hV, rfl, hfz, hnd⟩ := hW
  have hA : DataW.TrodAll enc Try.prog W 0 (fun _ => true) true Try.f3.params.toList args.toList ds p := hA0
  rw [Try.params3] at hA hval hsz
  obtain ⟨v0, vs0, d0, ds0, p0, q0, hargs, rfl, rfl, h0, r0⟩ := trodAll_cons hA
  obtain ⟨rfl, rfl, rfl⟩ := trodAll_nil r0
  obtain rfl : args = #[v0] := by cases args; simp_all
  obtain ⟨rfl, rfl⟩ := trodVars_none hV
  have k0 := h0
  have lt0 : ∀ x ∈ p0, x.block < W.heap.size := by obtain ⟨m, hm⟩ := k0; exact DataW.trod_lt m _ _ _ hm
  have w0 : ViewSeg W v0 := open_seg (hval 0 26 v0 rfl rfl) h0 (fun k hk => by have := List.all_eq_true.1 hsz k (DataW.weights_mem_each (j := 0) rfl rfl k hk); simpa using this)
  clear hA0 hval0
  refine (walk v0 W w0).mono fun e W' ⟨he, bel⟩ => ?_
  subst he
  exact ⟨_, rfl, _, _, _, [], _, [], hW', trodAll_mk1 (shut_bool Try.underlying4 _), (trodAll_cons_mk (Below.trod laidOut (by kernel_rfl) (of_decide_eq_true (by kernel_rfl)) k0 bel lt0) trodAll_mk0), rfl, bel.frame _, fun h => by cases h⟩

theorem over : Rows.segmentEncodesRow.holds Try.pinned (OpenSpec.ofChange Rows.segmentEncodesSpec) :=
  OpenClaim.holds_of_wide 3 Try.f3 rfl rfl rfl rfl rfl rfl rfl ⟨rfl, rfl, rfl, rfl, rfl⟩ rfl rfl rfl rfl rfl (by kernel_rfl) Try.func3 (by kernel_rfl)
    (of_decide_eq_true (by kernel_rfl)) (by unfold Func.isWrapper; first | (rw [if_pos (by decide +kernel)]; kernel_rfl) | (rw [if_neg (by decide +kernel)]; exact ⟨rfl, rfl⟩))
    (fun os started H enc _ => lifted os started H enc)

theorem proved : Rows.SegmentEncodesSaid := over
#print axioms proved
end Go.Proofs.Ytifeomdmbjinoaa.segmentEncodes
