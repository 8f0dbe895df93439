/- Proved: the segment that refuses one, and its reference, each by its walk. Conditions: its data is not longer than any slice can be. -/
import Derived.Test.YtifeomdmbjinoaaSegL
set_option linter.unusedVariables false
set_option linter.unusedSimpArgs false
namespace Go.Proofs.Ytifeomdmbjinoaa
open Go.RowKit
theorem reset_rst (s : Sg) (A : Option Addr) (n c : Nat) (h4 : (bits .and .i64 s.fl 4 != 0) = true) (w : World) :
    Calls Try.prog 18 #[.agg #[.int .u32 s.fr, .int .i64 s.fp, .int .u32 s.to, .int .i64 s.tp, .int .u32 s.seq, .int .u32 s.ack, .int .i64 s.fl, .int .i64 s.win, .int .i64 s.mss, .int .i64 s.sc, .slice A n c]] w fun e w' => e = .returned (.tuple #[.agg #[.int .u32 0, .int .i64 0, .int .u32 0, .int .i64 0, .int .u32 0, .int .u32 0, .int .i64 0, .int .i64 0, .int .i64 0, .int .i64 0, .slice none 0 0], .bool false]) ∧ Below w.heap.size w w' := by
  go_enter Try.func18, Try.ntmps18
  go_wp2
  exact bodyPost_ret (v := .tuple #[.agg #[.int .u32 0, .int .i64 0, .int .u32 0, .int .i64 0, .int .u32 0, .int .u32 0, .int .i64 0, .int .i64 0, .int .i64 0, .int .i64 0, .slice none 0 0], .bool false]) (by simp [results, Try.results18, go_sem]) rfl ⟨rfl, ((Below.refl _ _).alloc (Nat.le_refl _) _).alloc (by simp) _⟩
theorem rreset_rst (s : Sg) (A : Option Addr) (n c : Nat) (h4 : (bits .and .i64 s.fl 4 != 0) = true) (w : World) :
    Calls Try.prog 19 #[.agg #[.int .u32 s.fr, .int .i64 s.fp, .int .u32 s.to, .int .i64 s.tp, .int .u32 s.seq, .int .u32 s.ack, .int .i64 s.fl, .int .i64 s.win, .int .i64 s.mss, .int .i64 s.sc, .slice A n c]] w fun e w' => e = .returned (.tuple #[.agg #[.int .u32 0, .int .i64 0, .int .u32 0, .int .i64 0, .int .u32 0, .int .u32 0, .int .i64 0, .int .i64 0, .int .i64 0, .int .i64 0, .slice none 0 0], .bool false]) ∧ Below w.heap.size w w' := by
  obtain ⟨W2, hW2⟩ : ∃ W2, (w.alloc (.cells #[.int .u32 s.fr, .int .i64 s.fp, .int .u32 s.to, .int .i64 s.tp, .int .u32 s.seq, .int .u32 s.ack, .int .i64 s.fl, .int .i64 s.win, .int .i64 s.mss, .int .i64 s.sc, .slice A n c] 26)).alloc (.cells #[.int .u32 0, .int .i64 0, .int .u32 0, .int .i64 0, .int .u32 0, .int .u32 0, .int .i64 0, .int .i64 0, .int .i64 0, .int .i64 0, .slice none 0 0] 26) = W2 := ⟨_, rfl⟩
  have kS : Bk W2 w.heap.size 26 #[.int .u32 s.fr, .int .i64 s.fp, .int .u32 s.to, .int .i64 s.tp, .int .u32 s.seq, .int .u32 s.ack, .int .i64 s.fl, .int .i64 s.win, .int .i64 s.mss, .int .i64 s.sc, .slice A n c] := by rw [← hW2]; exact (Bk.new w _ _).alloc _
  have kZ : Bk W2 (w.heap.size + 1) 26 #[.int .u32 0, .int .i64 0, .int .u32 0, .int .i64 0, .int .u32 0, .int .u32 0, .int .i64 0, .int .i64 0, .int .i64 0, .int .i64 0, .slice none 0 0] := by rw [← hW2]; have := Bk.new (w.alloc (.cells #[.int .u32 s.fr, .int .i64 s.fp, .int .u32 s.to, .int .i64 s.tp, .int .u32 s.seq, .int .u32 s.ack, .int .i64 s.fl, .int .i64 s.win, .int .i64 s.mss, .int .i64 s.sc, .slice A n c] 26)) 26 #[.int .u32 0, .int .i64 0, .int .u32 0, .int .i64 0, .int .u32 0, .int .u32 0, .int .i64 0, .int .i64 0, .int .i64 0, .int .i64 0, .slice none 0 0]; simpa using this
  have hB2 : Below w.heap.size w W2 := by rw [← hW2]; exact ((Below.refl _ _).alloc (Nat.le_refl _) _).alloc (by simp) _
  have zS := kS.lt
  have zZ := kZ.lt
  have z2 : W2.heap.size = w.heap.size + 1 + 1 := by rw [← hW2]; simp
  have HW2 := Lib.hid hW2
  have KS := Lib.hid kS
  have KZ := Lib.hid kZ
  have HB2 := Lib.hid hB2
  have HZ2 := Lib.hid z2
  clear hW2 kS kZ hB2 z2
  go_enter Try.func19, Try.ntmps19
  go_wp2_with fail
  rw [HW2.out]
  refine (has_any s A n c 4 _).mono ?_
  rintro e w3 ⟨rfl, hB3⟩
  have HKZ := Lib.hid ((KZ.out).below hB3 zZ)
  have e0 := HKZ.out.frozen 0
  have e1 := HKZ.out.frozen 1
  have e2 := HKZ.out.frozen 2
  have e3 := HKZ.out.frozen 3
  have e4 := HKZ.out.frozen 4
  have e5 := HKZ.out.frozen 5
  have e6 := HKZ.out.frozen 6
  have e7 := HKZ.out.frozen 7
  have e8 := HKZ.out.frozen 8
  have e9 := HKZ.out.frozen 9
  have e10 := HKZ.out.frozen 10
  have d0 := HKZ.out.cell 0
  have d1 := HKZ.out.cell 1
  have d2 := HKZ.out.cell 2
  have d3 := HKZ.out.cell 3
  have d4 := HKZ.out.cell 4
  have d5 := HKZ.out.cell 5
  have d6 := HKZ.out.cell 6
  have d7 := HKZ.out.cell 7
  have d8 := HKZ.out.cell 8
  have d9 := HKZ.out.cell 9
  have d10 := HKZ.out.cell 10
  simp only [List.setIfInBounds_toArray, List.set_cons_succ, List.set_cons_zero, List.getElem?_toArray, List.getElem?_cons_zero, List.getElem?_cons_succ] at d0 d1 d2 d3 d4 d5 d6 d7 d8 d9 d10
  have hBw : Below w.heap.size w w3 := HB2.out.trans (hB3.mono HB2.out.size)
  have HBW := Lib.hid hBw
  clear hBw
  go_wp2_with fail
  refine bodyPost_ret (v := .tuple #[.agg #[.int .u32 0, .int .i64 0, .int .u32 0, .int .i64 0, .int .u32 0, .int .u32 0, .int .i64 0, .int .i64 0, .int .i64 0, .int .i64 0, .slice none 0 0], .bool false]) (by simp [results, Try.results19, go_sem, *]) rfl ⟨rfl, ?_⟩
  exact Below.setCell (Below.setCell (Below.setCell (Below.setCell (Below.setCell (Below.setCell (Below.setCell (Below.setCell (Below.setCell (Below.setCell (Below.setCell (HBW.out) (Nat.le_succ _) _) (Nat.le_succ _) _) (Nat.le_succ _) _) (Nat.le_succ _) _) (Nat.le_succ _) _) (Nat.le_succ _) _) (Nat.le_succ _) _) (Nat.le_succ _) _) (Nat.le_succ _) _) (Nat.le_succ _) _) (Nat.le_succ _) _
set_option maxHeartbeats 4000000 in
theorem reset_ack (s : Sg) (hs : U32 s.seq) (A : Option Addr) (n c : Nat) (hn : n ≤ 70000) (h4 : (bits .and .i64 s.fl 4 != 0) = false) (h16 : (bits .and .i64 s.fl 16 != 0) = true) (w : World) :
    Calls Try.prog 18 #[.agg #[.int .u32 s.fr, .int .i64 s.fp, .int .u32 s.to, .int .i64 s.tp, .int .u32 s.seq, .int .u32 s.ack, .int .i64 s.fl, .int .i64 s.win, .int .i64 s.mss, .int .i64 s.sc, .slice A n c]] w fun e w' => e = .returned (.tuple #[.agg #[.int .u32 s.to, .int .i64 s.tp, .int .u32 s.fr, .int .i64 s.fp, .int .u32 (s.ack), .int .u32 0, .int .i64 4, .int .i64 0, .int .i64 0, .int .i64 (-1), .slice none 0 0], .bool true]) ∧ Below w.heap.size w w' := by
  go_enter Try.func18, Try.ntmps18
  go_wp2
  exact bodyPost_ret (v := .tuple #[.agg #[.int .u32 s.to, .int .i64 s.tp, .int .u32 s.fr, .int .i64 s.fp, .int .u32 (s.ack), .int .u32 0, .int .i64 4, .int .i64 0, .int .i64 0, .int .i64 (-1), .slice none 0 0], .bool true]) (by simp [results, Try.results18, go_sem]) rfl ⟨rfl, (((Below.refl _ _).alloc (Nat.le_refl _) _).alloc (by simp) _).alloc (by simp; omega) _⟩
set_option maxHeartbeats 4000000 in
theorem reset_syn (s : Sg) (hs : U32 s.seq) (A : Option Addr) (n c : Nat) (hn : n ≤ 70000) (h4 : (bits .and .i64 s.fl 4 != 0) = false) (h16 : (bits .and .i64 s.fl 16 != 0) = false) (w : World) :
    Calls Try.prog 18 #[.agg #[.int .u32 s.fr, .int .i64 s.fp, .int .u32 s.to, .int .i64 s.tp, .int .u32 s.seq, .int .u32 s.ack, .int .i64 s.fl, .int .i64 s.win, .int .i64 s.mss, .int .i64 s.sc, .slice A n c]] w fun e w' => e = .returned (.tuple #[.agg #[.int .u32 s.to, .int .i64 s.tp, .int .u32 s.fr, .int .i64 s.fp, .int .u32 0, .int .u32 ((s.seq + lenV s.fl n) % 4294967296), .int .i64 20, .int .i64 0, .int .i64 0, .int .i64 (-1), .slice none 0 0], .bool true]) ∧ Below w.heap.size w w' := by
  obtain ⟨hs0, hs1⟩ := hs
  obtain ⟨W2, hW2⟩ : ∃ W2, (w.alloc (.cells #[.int .u32 s.fr, .int .i64 s.fp, .int .u32 s.to, .int .i64 s.tp, .int .u32 s.seq, .int .u32 s.ack, .int .i64 s.fl, .int .i64 s.win, .int .i64 s.mss, .int .i64 s.sc, .slice A n c] 26)).alloc (.cells #[.int .u32 0, .int .i64 0, .int .u32 0, .int .i64 0, .int .u32 0, .int .u32 0, .int .i64 0, .int .i64 0, .int .i64 0, .int .i64 0, .slice none 0 0] 26) = W2 := ⟨_, rfl⟩
  have kS : Bk W2 w.heap.size 26 #[.int .u32 s.fr, .int .i64 s.fp, .int .u32 s.to, .int .i64 s.tp, .int .u32 s.seq, .int .u32 s.ack, .int .i64 s.fl, .int .i64 s.win, .int .i64 s.mss, .int .i64 s.sc, .slice A n c] := by rw [← hW2]; exact (Bk.new w _ _).alloc _
  have kZ : Bk W2 (w.heap.size + 1) 26 #[.int .u32 0, .int .i64 0, .int .u32 0, .int .i64 0, .int .u32 0, .int .u32 0, .int .i64 0, .int .i64 0, .int .i64 0, .int .i64 0, .slice none 0 0] := by rw [← hW2]; have := Bk.new (w.alloc (.cells #[.int .u32 s.fr, .int .i64 s.fp, .int .u32 s.to, .int .i64 s.tp, .int .u32 s.seq, .int .u32 s.ack, .int .i64 s.fl, .int .i64 s.win, .int .i64 s.mss, .int .i64 s.sc, .slice A n c] 26)) 26 #[.int .u32 0, .int .i64 0, .int .u32 0, .int .i64 0, .int .u32 0, .int .u32 0, .int .i64 0, .int .i64 0, .int .i64 0, .int .i64 0, .slice none 0 0]; simpa using this
  have hB2 : Below w.heap.size w W2 := by rw [← hW2]; exact ((Below.refl _ _).alloc (Nat.le_refl _) _).alloc (by simp) _
  have zS := kS.lt
  have zZ := kZ.lt
  have z2 : W2.heap.size = w.heap.size + 1 + 1 := by rw [← hW2]; simp
  have HW2 := Lib.hid hW2
  have KS := Lib.hid kS
  have KZ := Lib.hid kZ
  have HB2 := Lib.hid hB2
  have HZ2 := Lib.hid z2
  clear hW2 kS kZ hB2 z2
  obtain ⟨W3, hW3⟩ : ∃ W3, W2.alloc (.cells #[.int .u32 s.to, .int .i64 s.tp, .int .u32 s.fr, .int .i64 s.fp, .int .u32 0, .int .u32 0, .int .i64 20, .int .i64 0, .int .i64 0, .int .i64 (-1), .slice none 0 0] 26) = W3 := ⟨_, rfl⟩
  have kX : Bk W3 (w.heap.size + 1 + 1) 26 #[.int .u32 s.to, .int .i64 s.tp, .int .u32 s.fr, .int .i64 s.fp, .int .u32 0, .int .u32 0, .int .i64 20, .int .i64 0, .int .i64 0, .int .i64 (-1), .slice none 0 0] := by rw [← HZ2.out, ← hW3]; exact Bk.new _ _ _
  have hB3 : Below W2.heap.size W2 W3 := by rw [← hW3]; exact (Below.refl _ _).alloc (Nat.le_refl _) _
  have zX := kX.lt
  have HW3 := Lib.hid hW3
  have KX3 := Lib.hid kX
  have HB3 := Lib.hid hB3
  clear hW3 kX hB3
  have key : Hid (∀ w', Below W3.heap.size W3 w' → (w'.cell? ⟨w.heap.size, 0, none⟩ = some (.int .u32 s.fr) ∧ w'.cell? ⟨w.heap.size, 1, none⟩ = some (.int .i64 s.fp) ∧ w'.cell? ⟨w.heap.size, 2, none⟩ = some (.int .u32 s.to) ∧ w'.cell? ⟨w.heap.size, 3, none⟩ = some (.int .i64 s.tp) ∧ w'.cell? ⟨w.heap.size, 4, none⟩ = some (.int .u32 s.seq) ∧ w'.cell? ⟨w.heap.size, 5, none⟩ = some (.int .u32 s.ack) ∧ w'.cell? ⟨w.heap.size, 6, none⟩ = some (.int .i64 s.fl) ∧ w'.cell? ⟨w.heap.size, 7, none⟩ = some (.int .i64 s.win) ∧ w'.cell? ⟨w.heap.size, 8, none⟩ = some (.int .i64 s.mss) ∧ w'.cell? ⟨w.heap.size, 9, none⟩ = some (.int .i64 s.sc) ∧ w'.cell? ⟨w.heap.size, 10, none⟩ = some (.slice A n c))) := Lib.hid fun w' h => by
    have q := (KS.out.below HB3.out zS).below h (by have := HZ2.out; omega)
    exact ⟨q.cell 0, q.cell 1, q.cell 2, q.cell 3, q.cell 4, q.cell 5, q.cell 6, q.cell 7, q.cell 8, q.cell 9, q.cell 10⟩
  obtain ⟨k0, k1, k2, k3, k4, k5, k6, k7, k8, k9, k10⟩ := key.out W3 (Below.refl _ _)
  have hl := lenV_bd s.fl n
  obtain ⟨q, hq⟩ : ∃ q, lenV s.fl n = q := ⟨_, rfl⟩
  rw [hq] at hl ⊢
  have HQ := Lib.hid hq
  have hconv : IntKind.u32.wrap q = q := by rw [IntKind.wrap_u32]; omega
  have hor : bits .or .i64 4 16 = 20 := by decide
  have xf : ∀ w', Below W3.heap.size W3 w' → (w'.cell? ⟨w.heap.size + 1 + 1, 5, none⟩ = some (.int .u32 0) ∧ w'.frozen? ⟨w.heap.size + 1 + 1, 5, none⟩ = false) := fun w' h => ⟨(KX3.out.below h zX).cell 5, (KX3.out.below h zX).frozen 5⟩
  have XF := Lib.hid xf
  clear hq xf
  go_enter Try.func18, Try.ntmps18
  go_wp2_with fail
  rw [HW2.out, HW3.out]
  go_region_held3 (fun w' => w'.cell? ⟨w.heap.size, 0, none⟩ = some (.int .u32 s.fr) ∧ w'.cell? ⟨w.heap.size, 1, none⟩ = some (.int .i64 s.fp) ∧ w'.cell? ⟨w.heap.size, 2, none⟩ = some (.int .u32 s.to) ∧ w'.cell? ⟨w.heap.size, 3, none⟩ = some (.int .i64 s.tp) ∧ w'.cell? ⟨w.heap.size, 4, none⟩ = some (.int .u32 s.seq) ∧ w'.cell? ⟨w.heap.size, 5, none⟩ = some (.int .u32 s.ack) ∧ w'.cell? ⟨w.heap.size, 6, none⟩ = some (.int .i64 s.fl) ∧ w'.cell? ⟨w.heap.size, 7, none⟩ = some (.int .i64 s.win) ∧ w'.cell? ⟨w.heap.size, 8, none⟩ = some (.int .i64 s.mss) ∧ w'.cell? ⟨w.heap.size, 9, none⟩ = some (.int .i64 s.sc) ∧ w'.cell? ⟨w.heap.size, 10, none⟩ = some (.slice A n c))
    (first | (with_reducible exact ⟨by assumption, by assumption, by assumption, by assumption, by assumption, by assumption, by assumption, by assumption, by assumption, by assumption, by assumption⟩) | go_keep)
    (first
      | (go_at_call 21; refine (length_any s A n c (by omega) _).mono ?_; rintro e w4 ⟨rfl, hB4⟩; rw [HQ.out]; have hB4 : Below W3.heap.size W3 w4 := bel_undr hB4; obtain ⟨p0, p1, p2, p3, p4, p5, p6, p7, p8, p9, p10⟩ := key.out w4 hB4; obtain ⟨xc, xfz⟩ := XF.out w4 hB4; have r0 := cell_far (g := w.heap.size + 1 + 1) (i := 5) (v := .int .u32 (IntKind.u32.wrap (s.seq + q))) p0 (by omega); have r1 := cell_far (g := w.heap.size + 1 + 1) (i := 5) (v := .int .u32 (IntKind.u32.wrap (s.seq + q))) p1 (by omega); have r2 := cell_far (g := w.heap.size + 1 + 1) (i := 5) (v := .int .u32 (IntKind.u32.wrap (s.seq + q))) p2 (by omega); have r3 := cell_far (g := w.heap.size + 1 + 1) (i := 5) (v := .int .u32 (IntKind.u32.wrap (s.seq + q))) p3 (by omega); have r4 := cell_far (g := w.heap.size + 1 + 1) (i := 5) (v := .int .u32 (IntKind.u32.wrap (s.seq + q))) p4 (by omega); have r5 := cell_far (g := w.heap.size + 1 + 1) (i := 5) (v := .int .u32 (IntKind.u32.wrap (s.seq + q))) p5 (by omega); have r6 := cell_far (g := w.heap.size + 1 + 1) (i := 5) (v := .int .u32 (IntKind.u32.wrap (s.seq + q))) p6 (by omega); have r7 := cell_far (g := w.heap.size + 1 + 1) (i := 5) (v := .int .u32 (IntKind.u32.wrap (s.seq + q))) p7 (by omega); have r8 := cell_far (g := w.heap.size + 1 + 1) (i := 5) (v := .int .u32 (IntKind.u32.wrap (s.seq + q))) p8 (by omega); have r9 := cell_far (g := w.heap.size + 1 + 1) (i := 5) (v := .int .u32 (IntKind.u32.wrap (s.seq + q))) p9 (by omega); have r10 := cell_far (g := w.heap.size + 1 + 1) (i := 5) (v := .int .u32 (IntKind.u32.wrap (s.seq + q))) p10 (by omega)))
  have KX := Lib.hid ((KX3.out.below hB4 zX).set 5 (.int .u32 (IntKind.u32.wrap (s.seq + q))))
  have KZ2 := Lib.hid ((KZ.out.below HB3.out zZ).below hB4 (by have := HZ2.out; omega))
  have HBL := Lib.hid (((HB2.out.trans (HB3.out.mono HB2.out.size)).trans (hB4.mono (by have := HB2.out.size; have := HB3.out.size; omega))).setCell (p := ⟨w.heap.size + 1 + 1, 5, none⟩) (show w.heap.size ≤ w.heap.size + 1 + 1 by omega) (.int .u32 (IntKind.u32.wrap (s.seq + q))))
  have x0 := KX.out.cell 0
  have x1 := KX.out.cell 1
  have x2 := KX.out.cell 2
  have x3 := KX.out.cell 3
  have x4 := KX.out.cell 4
  have x5 := KX.out.cell 5
  have x6 := KX.out.cell 6
  have x7 := KX.out.cell 7
  have x8 := KX.out.cell 8
  have x9 := KX.out.cell 9
  have x10 := KX.out.cell 10
  simp only [List.setIfInBounds_toArray, List.set_cons_succ, List.set_cons_zero, List.getElem?_toArray, List.getElem?_cons_zero, List.getElem?_cons_succ] at x0 x1 x2 x3 x4 x5 x6 x7 x8 x9 x10
  have d0 := KZ2.out.cell 0
  have d1 := KZ2.out.cell 1
  have d2 := KZ2.out.cell 2
  have d3 := KZ2.out.cell 3
  have d4 := KZ2.out.cell 4
  have d5 := KZ2.out.cell 5
  have d6 := KZ2.out.cell 6
  have d7 := KZ2.out.cell 7
  have d8 := KZ2.out.cell 8
  have d9 := KZ2.out.cell 9
  have d10 := KZ2.out.cell 10
  simp only [List.setIfInBounds_toArray, List.set_cons_succ, List.set_cons_zero, List.getElem?_toArray, List.getElem?_cons_zero, List.getElem?_cons_succ] at d0 d1 d2 d3 d4 d5 d6 d7 d8 d9 d10
  have e0 := KZ2.out.frozen 0
  have e1 := KZ2.out.frozen 1
  have e2 := KZ2.out.frozen 2
  have e3 := KZ2.out.frozen 3
  have e4 := KZ2.out.frozen 4
  have e5 := KZ2.out.frozen 5
  have e6 := KZ2.out.frozen 6
  have e7 := KZ2.out.frozen 7
  have e8 := KZ2.out.frozen 8
  have e9 := KZ2.out.frozen 9
  have e10 := KZ2.out.frozen 10
  clear k0 k1 k2 k3 k4 k5 k6 k7 k8 k9 k10 p0 p1 p2 p3 p4 p5 p6 p7 p8 p9 p10 xc xfz
  go_wp2_with fail
  refine bodyPost_ret (v := .tuple #[.agg #[.int .u32 s.to, .int .i64 s.tp, .int .u32 s.fr, .int .i64 s.fp, .int .u32 0, .int .u32 ((s.seq + q) % 4294967296), .int .i64 20, .int .i64 0, .int .i64 0, .int .i64 (-1), .slice none 0 0], .bool true]) (by simp [results, Try.results18, go_sem, *]) rfl ⟨rfl, ?_⟩
  exact Below.setCell (Below.setCell (Below.setCell (Below.setCell (Below.setCell (Below.setCell (Below.setCell (Below.setCell (Below.setCell (Below.setCell (Below.setCell (HBL.out) (Nat.le_succ _) _) (Nat.le_succ _) _) (Nat.le_succ _) _) (Nat.le_succ _) _) (Nat.le_succ _) _) (Nat.le_succ _) _) (Nat.le_succ _) _) (Nat.le_succ _) _) (Nat.le_succ _) _) (Nat.le_succ _) _) (Nat.le_succ _) _
set_option maxHeartbeats 4000000 in
theorem rreset_ack (s : Sg) (hs : U32 s.seq) (A : Option Addr) (n c : Nat) (hn : n ≤ 70000) (h4 : (bits .and .i64 s.fl 4 != 0) = false) (h16 : (bits .and .i64 s.fl 16 != 0) = true) (w : World) :
    Calls Try.prog 19 #[.agg #[.int .u32 s.fr, .int .i64 s.fp, .int .u32 s.to, .int .i64 s.tp, .int .u32 s.seq, .int .u32 s.ack, .int .i64 s.fl, .int .i64 s.win, .int .i64 s.mss, .int .i64 s.sc, .slice A n c]] w fun e w' => e = .returned (.tuple #[.agg #[.int .u32 s.to, .int .i64 s.tp, .int .u32 s.fr, .int .i64 s.fp, .int .u32 (s.ack), .int .u32 0, .int .i64 4, .int .i64 0, .int .i64 0, .int .i64 (-1), .slice none 0 0], .bool true]) ∧ Below w.heap.size w w' := by
  obtain ⟨W2, hW2⟩ : ∃ W2, (w.alloc (.cells #[.int .u32 s.fr, .int .i64 s.fp, .int .u32 s.to, .int .i64 s.tp, .int .u32 s.seq, .int .u32 s.ack, .int .i64 s.fl, .int .i64 s.win, .int .i64 s.mss, .int .i64 s.sc, .slice A n c] 26)).alloc (.cells #[.int .u32 0, .int .i64 0, .int .u32 0, .int .i64 0, .int .u32 0, .int .u32 0, .int .i64 0, .int .i64 0, .int .i64 0, .int .i64 0, .slice none 0 0] 26) = W2 := ⟨_, rfl⟩
  have kS : Bk W2 w.heap.size 26 #[.int .u32 s.fr, .int .i64 s.fp, .int .u32 s.to, .int .i64 s.tp, .int .u32 s.seq, .int .u32 s.ack, .int .i64 s.fl, .int .i64 s.win, .int .i64 s.mss, .int .i64 s.sc, .slice A n c] := by rw [← hW2]; exact (Bk.new w _ _).alloc _
  have kZ : Bk W2 (w.heap.size + 1) 26 #[.int .u32 0, .int .i64 0, .int .u32 0, .int .i64 0, .int .u32 0, .int .u32 0, .int .i64 0, .int .i64 0, .int .i64 0, .int .i64 0, .slice none 0 0] := by rw [← hW2]; have := Bk.new (w.alloc (.cells #[.int .u32 s.fr, .int .i64 s.fp, .int .u32 s.to, .int .i64 s.tp, .int .u32 s.seq, .int .u32 s.ack, .int .i64 s.fl, .int .i64 s.win, .int .i64 s.mss, .int .i64 s.sc, .slice A n c] 26)) 26 #[.int .u32 0, .int .i64 0, .int .u32 0, .int .i64 0, .int .u32 0, .int .u32 0, .int .i64 0, .int .i64 0, .int .i64 0, .int .i64 0, .slice none 0 0]; simpa using this
  have hB2 : Below w.heap.size w W2 := by rw [← hW2]; exact ((Below.refl _ _).alloc (Nat.le_refl _) _).alloc (by simp) _
  have zS := kS.lt
  have zZ := kZ.lt
  have z2 : W2.heap.size = w.heap.size + 1 + 1 := by rw [← hW2]; simp
  have HW2 := Lib.hid hW2
  have KS := Lib.hid kS
  have KZ := Lib.hid kZ
  have HB2 := Lib.hid hB2
  have HZ2 := Lib.hid z2
  clear hW2 kS kZ hB2 z2
  have key : Hid (∀ w', Below W2.heap.size W2 w' → (w'.cell? ⟨w.heap.size, 0, none⟩ = some (.int .u32 s.fr) ∧ w'.cell? ⟨w.heap.size, 1, none⟩ = some (.int .i64 s.fp) ∧ w'.cell? ⟨w.heap.size, 2, none⟩ = some (.int .u32 s.to) ∧ w'.cell? ⟨w.heap.size, 3, none⟩ = some (.int .i64 s.tp) ∧ w'.cell? ⟨w.heap.size, 4, none⟩ = some (.int .u32 s.seq) ∧ w'.cell? ⟨w.heap.size, 5, none⟩ = some (.int .u32 s.ack) ∧ w'.cell? ⟨w.heap.size, 6, none⟩ = some (.int .i64 s.fl) ∧ w'.cell? ⟨w.heap.size, 7, none⟩ = some (.int .i64 s.win) ∧ w'.cell? ⟨w.heap.size, 8, none⟩ = some (.int .i64 s.mss) ∧ w'.cell? ⟨w.heap.size, 9, none⟩ = some (.int .i64 s.sc) ∧ w'.cell? ⟨w.heap.size, 10, none⟩ = some (.slice A n c))) := Lib.hid fun w' h => by
    have q := KS.out.below h zS
    exact ⟨q.cell 0, q.cell 1, q.cell 2, q.cell 3, q.cell 4, q.cell 5, q.cell 6, q.cell 7, q.cell 8, q.cell 9, q.cell 10⟩
  obtain ⟨k0, k1, k2, k3, k4, k5, k6, k7, k8, k9, k10⟩ := key.out W2 (Below.refl _ _)
  go_enter Try.func19, Try.ntmps19
  go_wp2_with fail
  rw [HW2.out]
  refine (has_any s A n c 4 _).mono ?_
  rintro e w3 ⟨rfl, hB3⟩
  clear k0 k1 k2 k3 k4 k5 k6 k7 k8 k9 k10
  obtain ⟨k0, k1, k2, k3, k4, k5, k6, k7, k8, k9, k10⟩ := key.out w3 hB3
  obtain ⟨W4, hW4⟩ : ∃ W4, w3.alloc (.cells #[.int .u32 s.to, .int .i64 s.tp, .int .u32 s.fr, .int .i64 s.fp, .int .u32 0, .int .u32 0, .int .i64 0, .int .i64 0, .int .i64 0, .int .i64 (-1), .slice none 0 0] 26) = W4 := ⟨_, rfl⟩
  have kX : Bk W4 w3.heap.size 26 #[.int .u32 s.to, .int .i64 s.tp, .int .u32 s.fr, .int .i64 s.fp, .int .u32 0, .int .u32 0, .int .i64 0, .int .i64 0, .int .i64 0, .int .i64 (-1), .slice none 0 0] := by rw [← hW4]; exact Bk.new _ _ _
  have hB4 : Below w3.heap.size w3 W4 := by rw [← hW4]; exact (Below.refl _ _).alloc (Nat.le_refl _) _
  have hB24 : Below W2.heap.size W2 W4 := hB3.trans (hB4.mono hB3.size)
  have zX := kX.lt
  have z3 := hB3.size
  have HW4 := Lib.hid hW4
  have KX4 := Lib.hid kX
  have HB24 := Lib.hid hB24
  obtain ⟨m0, m1, m2, m3, m4, m5, m6, m7, m8, m9, m10⟩ := key.out W4 hB24
  have al := fun i (hc : ∃ u, w3.cell? ⟨w.heap.size, i, none⟩ = some u) => World.cell?_alloc_lt w3 (.cells #[.int .u32 s.to, .int .i64 s.tp, .int .u32 s.fr, .int .i64 s.fp, .int .u32 0, .int .u32 0, .int .i64 0, .int .i64 0, .int .i64 0, .int .i64 (-1), .slice none 0 0] 26) ⟨w.heap.size, i, none⟩ (by show w.heap.size < w3.heap.size; omega)
  have AL := Lib.hid al
  have n0 := (AL.out 0 ⟨_, k0⟩).trans k0
  have n1 := (AL.out 1 ⟨_, k1⟩).trans k1
  have n2 := (AL.out 2 ⟨_, k2⟩).trans k2
  have n3 := (AL.out 3 ⟨_, k3⟩).trans k3
  have n4 := (AL.out 4 ⟨_, k4⟩).trans k4
  have n5 := (AL.out 5 ⟨_, k5⟩).trans k5
  have n6 := (AL.out 6 ⟨_, k6⟩).trans k6
  have n7 := (AL.out 7 ⟨_, k7⟩).trans k7
  have n8 := (AL.out 8 ⟨_, k8⟩).trans k8
  have n9 := (AL.out 9 ⟨_, k9⟩).trans k9
  have n10 := (AL.out 10 ⟨_, k10⟩).trans k10
  clear hW4 kX hB4 hB24 al
  obtain ⟨gx, hgx⟩ : ∃ gx, w3.heap.size = gx := ⟨_, rfl⟩
  have HGX := Lib.hid hgx
  rw [hgx] at zX KX4 z3
  have hgw : w.heap.size + 1 < gx := by omega
  clear hgx
  go_wp2_with fail
  rw [HW4.out, HGX.out]
  refine (has_any s A n c 16 _).mono ?_
  rintro e w5 ⟨rfl, hB5⟩
  have hB25 : Below W2.heap.size W2 w5 := HB24.out.trans (hB5.mono HB24.out.size)
  have z25 := hB25.size
  clear m0 m1 m2 m3 m4 m5 m6 m7 m8 m9 m10 n0 n1 n2 n3 n4 n5 n6 n7 n8 n9 n10 k0 k1 k2 k3 k4 k5 k6 k7 k8 k9 k10
  obtain ⟨p0, p1, p2, p3, p4, p5, p6, p7, p8, p9, p10⟩ := key.out w5 hB25
  have KX5 := Lib.hid (KX4.out.below hB5 zX)
  have KZ5 := Lib.hid (KZ.out.below hB25 zZ)
  have HBW5 := Lib.hid (HB2.out.trans (hB25.mono HB2.out.size))
  have x0 := KX5.out.cell 0
  have x1 := KX5.out.cell 1
  have x2 := KX5.out.cell 2
  have x3 := KX5.out.cell 3
  have x4 := KX5.out.cell 4
  have x5 := KX5.out.cell 5
  have x6 := KX5.out.cell 6
  have x7 := KX5.out.cell 7
  have x8 := KX5.out.cell 8
  have x9 := KX5.out.cell 9
  have x10 := KX5.out.cell 10
  simp only [List.setIfInBounds_toArray, List.set_cons_succ, List.set_cons_zero, List.getElem?_toArray, List.getElem?_cons_zero, List.getElem?_cons_succ] at x0 x1 x2 x3 x4 x5 x6 x7 x8 x9 x10
  have f0 := KX5.out.frozen 0
  have f1 := KX5.out.frozen 1
  have f2 := KX5.out.frozen 2
  have f3 := KX5.out.frozen 3
  have f4 := KX5.out.frozen 4
  have f5 := KX5.out.frozen 5
  have f6 := KX5.out.frozen 6
  have f7 := KX5.out.frozen 7
  have f8 := KX5.out.frozen 8
  have f9 := KX5.out.frozen 9
  have f10 := KX5.out.frozen 10
  have d0 := KZ5.out.cell 0
  have d1 := KZ5.out.cell 1
  have d2 := KZ5.out.cell 2
  have d3 := KZ5.out.cell 3
  have d4 := KZ5.out.cell 4
  have d5 := KZ5.out.cell 5
  have d6 := KZ5.out.cell 6
  have d7 := KZ5.out.cell 7
  have d8 := KZ5.out.cell 8
  have d9 := KZ5.out.cell 9
  have d10 := KZ5.out.cell 10
  simp only [List.setIfInBounds_toArray, List.set_cons_succ, List.set_cons_zero, List.getElem?_toArray, List.getElem?_cons_zero, List.getElem?_cons_succ] at d0 d1 d2 d3 d4 d5 d6 d7 d8 d9 d10
  have e0 := KZ5.out.frozen 0
  have e1 := KZ5.out.frozen 1
  have e2 := KZ5.out.frozen 2
  have e3 := KZ5.out.frozen 3
  have e4 := KZ5.out.frozen 4
  have e5 := KZ5.out.frozen 5
  have e6 := KZ5.out.frozen 6
  have e7 := KZ5.out.frozen 7
  have e8 := KZ5.out.frozen 8
  have e9 := KZ5.out.frozen 9
  have e10 := KZ5.out.frozen 10
  go_wp2_with fail
  refine bodyPost_ret (v := .tuple #[.agg #[.int .u32 s.to, .int .i64 s.tp, .int .u32 s.fr, .int .i64 s.fp, .int .u32 (s.ack), .int .u32 0, .int .i64 4, .int .i64 0, .int .i64 0, .int .i64 (-1), .slice none 0 0], .bool true]) (by simp [results, Try.results19, go_sem, *]) rfl ⟨rfl, ?_⟩
  exact Below.setCell (Below.setCell (Below.setCell (Below.setCell (Below.setCell (Below.setCell (Below.setCell (Below.setCell (Below.setCell (Below.setCell (Below.setCell (Below.setCell (Below.setCell HBW5.out (show w.heap.size ≤ gx by omega) _) (show w.heap.size ≤ gx by omega) _) (Nat.le_succ _) _) (Nat.le_succ _) _) (Nat.le_succ _) _) (Nat.le_succ _) _) (Nat.le_succ _) _) (Nat.le_succ _) _) (Nat.le_succ _) _) (Nat.le_succ _) _) (Nat.le_succ _) _) (Nat.le_succ _) _) (Nat.le_succ _) _
set_option maxHeartbeats 4000000 in
theorem rreset_syn (s : Sg) (hs : U32 s.seq) (A : Option Addr) (n c : Nat) (hn : n ≤ 70000) (h4 : (bits .and .i64 s.fl 4 != 0) = false) (h16 : (bits .and .i64 s.fl 16 != 0) = false) (w : World) :
    Calls Try.prog 19 #[.agg #[.int .u32 s.fr, .int .i64 s.fp, .int .u32 s.to, .int .i64 s.tp, .int .u32 s.seq, .int .u32 s.ack, .int .i64 s.fl, .int .i64 s.win, .int .i64 s.mss, .int .i64 s.sc, .slice A n c]] w fun e w' => e = .returned (.tuple #[.agg #[.int .u32 s.to, .int .i64 s.tp, .int .u32 s.fr, .int .i64 s.fp, .int .u32 0, .int .u32 ((s.seq + lenV s.fl n) % 4294967296), .int .i64 20, .int .i64 0, .int .i64 0, .int .i64 (-1), .slice none 0 0], .bool true]) ∧ Below w.heap.size w w' := by
  obtain ⟨hs0, hs1⟩ := hs
  have hl := lenV_bd s.fl n
  obtain ⟨q, hq⟩ : ∃ q, lenV s.fl n = q := ⟨_, rfl⟩
  rw [hq] at hl ⊢
  have HQ := Lib.hid hq
  have hconv : IntKind.u32.wrap q = q := by rw [IntKind.wrap_u32]; omega
  clear hq
  obtain ⟨W2, hW2⟩ : ∃ W2, (w.alloc (.cells #[.int .u32 s.fr, .int .i64 s.fp, .int .u32 s.to, .int .i64 s.tp, .int .u32 s.seq, .int .u32 s.ack, .int .i64 s.fl, .int .i64 s.win, .int .i64 s.mss, .int .i64 s.sc, .slice A n c] 26)).alloc (.cells #[.int .u32 0, .int .i64 0, .int .u32 0, .int .i64 0, .int .u32 0, .int .u32 0, .int .i64 0, .int .i64 0, .int .i64 0, .int .i64 0, .slice none 0 0] 26) = W2 := ⟨_, rfl⟩
  have kS : Bk W2 w.heap.size 26 #[.int .u32 s.fr, .int .i64 s.fp, .int .u32 s.to, .int .i64 s.tp, .int .u32 s.seq, .int .u32 s.ack, .int .i64 s.fl, .int .i64 s.win, .int .i64 s.mss, .int .i64 s.sc, .slice A n c] := by rw [← hW2]; exact (Bk.new w _ _).alloc _
  have kZ : Bk W2 (w.heap.size + 1) 26 #[.int .u32 0, .int .i64 0, .int .u32 0, .int .i64 0, .int .u32 0, .int .u32 0, .int .i64 0, .int .i64 0, .int .i64 0, .int .i64 0, .slice none 0 0] := by rw [← hW2]; have := Bk.new (w.alloc (.cells #[.int .u32 s.fr, .int .i64 s.fp, .int .u32 s.to, .int .i64 s.tp, .int .u32 s.seq, .int .u32 s.ack, .int .i64 s.fl, .int .i64 s.win, .int .i64 s.mss, .int .i64 s.sc, .slice A n c] 26)) 26 #[.int .u32 0, .int .i64 0, .int .u32 0, .int .i64 0, .int .u32 0, .int .u32 0, .int .i64 0, .int .i64 0, .int .i64 0, .int .i64 0, .slice none 0 0]; simpa using this
  have hB2 : Below w.heap.size w W2 := by rw [← hW2]; exact ((Below.refl _ _).alloc (Nat.le_refl _) _).alloc (by simp) _
  have zS := kS.lt
  have zZ := kZ.lt
  have z2 : W2.heap.size = w.heap.size + 1 + 1 := by rw [← hW2]; simp
  have HW2 := Lib.hid hW2
  have KS := Lib.hid kS
  have KZ := Lib.hid kZ
  have HB2 := Lib.hid hB2
  have HZ2 := Lib.hid z2
  clear hW2 kS kZ hB2 z2
  have key : Hid (∀ w', Below W2.heap.size W2 w' → (w'.cell? ⟨w.heap.size, 0, none⟩ = some (.int .u32 s.fr) ∧ w'.cell? ⟨w.heap.size, 1, none⟩ = some (.int .i64 s.fp) ∧ w'.cell? ⟨w.heap.size, 2, none⟩ = some (.int .u32 s.to) ∧ w'.cell? ⟨w.heap.size, 3, none⟩ = some (.int .i64 s.tp) ∧ w'.cell? ⟨w.heap.size, 4, none⟩ = some (.int .u32 s.seq) ∧ w'.cell? ⟨w.heap.size, 5, none⟩ = some (.int .u32 s.ack) ∧ w'.cell? ⟨w.heap.size, 6, none⟩ = some (.int .i64 s.fl) ∧ w'.cell? ⟨w.heap.size, 7, none⟩ = some (.int .i64 s.win) ∧ w'.cell? ⟨w.heap.size, 8, none⟩ = some (.int .i64 s.mss) ∧ w'.cell? ⟨w.heap.size, 9, none⟩ = some (.int .i64 s.sc) ∧ w'.cell? ⟨w.heap.size, 10, none⟩ = some (.slice A n c))) := Lib.hid fun w' h => by
    have q := KS.out.below h zS
    exact ⟨q.cell 0, q.cell 1, q.cell 2, q.cell 3, q.cell 4, q.cell 5, q.cell 6, q.cell 7, q.cell 8, q.cell 9, q.cell 10⟩
  obtain ⟨k0, k1, k2, k3, k4, k5, k6, k7, k8, k9, k10⟩ := key.out W2 (Below.refl _ _)
  go_enter Try.func19, Try.ntmps19
  go_wp2_with fail
  rw [HW2.out]
  refine (has_any s A n c 4 _).mono ?_
  rintro e w3 ⟨rfl, hB3⟩
  clear k0 k1 k2 k3 k4 k5 k6 k7 k8 k9 k10
  obtain ⟨k0, k1, k2, k3, k4, k5, k6, k7, k8, k9, k10⟩ := key.out w3 hB3
  obtain ⟨W4, hW4⟩ : ∃ W4, w3.alloc (.cells #[.int .u32 s.to, .int .i64 s.tp, .int .u32 s.fr, .int .i64 s.fp, .int .u32 0, .int .u32 0, .int .i64 0, .int .i64 0, .int .i64 0, .int .i64 (-1), .slice none 0 0] 26) = W4 := ⟨_, rfl⟩
  have kX : Bk W4 w3.heap.size 26 #[.int .u32 s.to, .int .i64 s.tp, .int .u32 s.fr, .int .i64 s.fp, .int .u32 0, .int .u32 0, .int .i64 0, .int .i64 0, .int .i64 0, .int .i64 (-1), .slice none 0 0] := by rw [← hW4]; exact Bk.new _ _ _
  have hB4 : Below w3.heap.size w3 W4 := by rw [← hW4]; exact (Below.refl _ _).alloc (Nat.le_refl _) _
  have hB24 : Below W2.heap.size W2 W4 := hB3.trans (hB4.mono hB3.size)
  have zX := kX.lt
  have z3 := hB3.size
  have HW4 := Lib.hid hW4
  have KX4 := Lib.hid kX
  have HB24 := Lib.hid hB24
  obtain ⟨m0, m1, m2, m3, m4, m5, m6, m7, m8, m9, m10⟩ := key.out W4 hB24
  have al := fun i (hc : ∃ u, w3.cell? ⟨w.heap.size, i, none⟩ = some u) => World.cell?_alloc_lt w3 (.cells #[.int .u32 s.to, .int .i64 s.tp, .int .u32 s.fr, .int .i64 s.fp, .int .u32 0, .int .u32 0, .int .i64 0, .int .i64 0, .int .i64 0, .int .i64 (-1), .slice none 0 0] 26) ⟨w.heap.size, i, none⟩ (by show w.heap.size < w3.heap.size; omega)
  have AL := Lib.hid al
  have n0 := (AL.out 0 ⟨_, k0⟩).trans k0
  have n1 := (AL.out 1 ⟨_, k1⟩).trans k1
  have n2 := (AL.out 2 ⟨_, k2⟩).trans k2
  have n3 := (AL.out 3 ⟨_, k3⟩).trans k3
  have n4 := (AL.out 4 ⟨_, k4⟩).trans k4
  have n5 := (AL.out 5 ⟨_, k5⟩).trans k5
  have n6 := (AL.out 6 ⟨_, k6⟩).trans k6
  have n7 := (AL.out 7 ⟨_, k7⟩).trans k7
  have n8 := (AL.out 8 ⟨_, k8⟩).trans k8
  have n9 := (AL.out 9 ⟨_, k9⟩).trans k9
  have n10 := (AL.out 10 ⟨_, k10⟩).trans k10
  clear hW4 kX hB4 hB24 al
  obtain ⟨gx, hgx⟩ : ∃ gx, w3.heap.size = gx := ⟨_, rfl⟩
  have HGX := Lib.hid hgx
  rw [hgx] at zX KX4 z3
  have hgw : w.heap.size + 1 < gx := by omega
  clear hgx
  go_wp2_with fail
  rw [HW4.out, HGX.out]
  refine (has_any s A n c 16 _).mono ?_
  rintro e w5 ⟨rfl, hB5⟩
  have hB25 : Below W2.heap.size W2 w5 := HB24.out.trans (hB5.mono HB24.out.size)
  have z25 := hB25.size
  clear m0 m1 m2 m3 m4 m5 m6 m7 m8 m9 m10 n0 n1 n2 n3 n4 n5 n6 n7 n8 n9 n10 k0 k1 k2 k3 k4 k5 k6 k7 k8 k9 k10
  obtain ⟨p0, p1, p2, p3, p4, p5, p6, p7, p8, p9, p10⟩ := key.out w5 hB25
  have KX5 := Lib.hid (KX4.out.below hB5 zX)
  have KZ5 := Lib.hid (KZ.out.below hB25 zZ)
  have HBW5 := Lib.hid (HB2.out.trans (hB25.mono HB2.out.size))
  obtain ⟨W6, hW6⟩ : ∃ W6, w5.setCell ⟨gx, 6, none⟩ (.int .i64 20) = W6 := ⟨_, rfl⟩
  have kX6 : Bk W6 gx 26 #[.int .u32 s.to, .int .i64 s.tp, .int .u32 s.fr, .int .i64 s.fp, .int .u32 0, .int .u32 0, .int .i64 20, .int .i64 0, .int .i64 0, .int .i64 (-1), .slice none 0 0] := by rw [← hW6]; exact KX5.out.set 6 _
  have kZ6 : Bk W6 (w.heap.size + 1) 26 #[.int .u32 0, .int .i64 0, .int .u32 0, .int .i64 0, .int .u32 0, .int .u32 0, .int .i64 0, .int .i64 0, .int .i64 0, .int .i64 0, .slice none 0 0] := by rw [← hW6]; exact KZ5.out.far (p := ⟨gx, 6, none⟩) (show w.heap.size + 1 ≠ gx by omega) _
  have kS6 : Bk W6 w.heap.size 26 #[.int .u32 s.fr, .int .i64 s.fp, .int .u32 s.to, .int .i64 s.tp, .int .u32 s.seq, .int .u32 s.ack, .int .i64 s.fl, .int .i64 s.win, .int .i64 s.mss, .int .i64 s.sc, .slice A n c] := by rw [← hW6]; exact (KS.out.below hB25 zS).far (p := ⟨gx, 6, none⟩) (show w.heap.size ≠ gx by omega) _
  have hB6 : Below w.heap.size w W6 := by rw [← hW6]; exact HBW5.out.setCell (show w.heap.size ≤ gx by omega) _
  have f6 := KX5.out.frozen 6
  have x6 : w5.cell? ⟨gx, 6, none⟩ = some (.int .i64 0) := KX5.out.cell 6
  have zs6 := kS6.lt
  have zx6 := kX6.lt
  have zz6 := kZ6.lt
  have HW6 := Lib.hid hW6
  have KX6 := Lib.hid kX6
  have KZ6 := Lib.hid kZ6
  have HB6 := Lib.hid hB6
  have key6 : Hid (∀ w', Below W6.heap.size W6 w' → (w'.cell? ⟨w.heap.size, 0, none⟩ = some (.int .u32 s.fr) ∧ w'.cell? ⟨w.heap.size, 1, none⟩ = some (.int .i64 s.fp) ∧ w'.cell? ⟨w.heap.size, 2, none⟩ = some (.int .u32 s.to) ∧ w'.cell? ⟨w.heap.size, 3, none⟩ = some (.int .i64 s.tp) ∧ w'.cell? ⟨w.heap.size, 4, none⟩ = some (.int .u32 s.seq) ∧ w'.cell? ⟨w.heap.size, 5, none⟩ = some (.int .u32 s.ack) ∧ w'.cell? ⟨w.heap.size, 6, none⟩ = some (.int .i64 s.fl) ∧ w'.cell? ⟨w.heap.size, 7, none⟩ = some (.int .i64 s.win) ∧ w'.cell? ⟨w.heap.size, 8, none⟩ = some (.int .i64 s.mss) ∧ w'.cell? ⟨w.heap.size, 9, none⟩ = some (.int .i64 s.sc) ∧ w'.cell? ⟨w.heap.size, 10, none⟩ = some (.slice A n c))) := Lib.hid fun w' h => by
    have q := kS6.below h zs6
    exact ⟨q.cell 0, q.cell 1, q.cell 2, q.cell 3, q.cell 4, q.cell 5, q.cell 6, q.cell 7, q.cell 8, q.cell 9, q.cell 10⟩
  clear hW6 kX6 kZ6 kS6 hB6
  obtain ⟨k0, k1, k2, k3, k4, k5, k6, k7, k8, k9, k10⟩ := key6.out W6 (Below.refl _ _)
  go_wp2_with fail
  rw [HW6.out]
  clear p0 p1 p2 p3 p4 p5 p6 p7 p8 p9 p10 f6 x6
  have hgx1 : w.heap.size ≠ gx := by omega
  go_region_held3 (fun w' => w'.cell? ⟨w.heap.size, 0, none⟩ = some (.int .u32 s.fr) ∧ w'.cell? ⟨w.heap.size, 1, none⟩ = some (.int .i64 s.fp) ∧ w'.cell? ⟨w.heap.size, 2, none⟩ = some (.int .u32 s.to) ∧ w'.cell? ⟨w.heap.size, 3, none⟩ = some (.int .i64 s.tp) ∧ w'.cell? ⟨w.heap.size, 4, none⟩ = some (.int .u32 s.seq) ∧ w'.cell? ⟨w.heap.size, 5, none⟩ = some (.int .u32 s.ack) ∧ w'.cell? ⟨w.heap.size, 6, none⟩ = some (.int .i64 s.fl) ∧ w'.cell? ⟨w.heap.size, 7, none⟩ = some (.int .i64 s.win) ∧ w'.cell? ⟨w.heap.size, 8, none⟩ = some (.int .i64 s.mss) ∧ w'.cell? ⟨w.heap.size, 9, none⟩ = some (.int .i64 s.sc) ∧ w'.cell? ⟨w.heap.size, 10, none⟩ = some (.slice A n c))
    (first | (with_reducible exact ⟨by assumption, by assumption, by assumption, by assumption, by assumption, by assumption, by assumption, by assumption, by assumption, by assumption, by assumption⟩) | go_keep)
    (first
      | (go_at_call 22; refine (rlength_any s A n c (by omega) _).mono ?_; rintro e w7 ⟨rfl, hB7⟩; rw [HQ.out]; have hB7 : Below W6.heap.size W6 w7 := bel_undr hB7; obtain ⟨p0, p1, p2, p3, p4, p5, p6, p7, p8, p9, p10⟩ := key6.out w7 hB7; have xc : w7.cell? ⟨gx, 5, none⟩ = some (.int .u32 0) := (KX6.out.below hB7 zx6).cell 5; have xfz := (KX6.out.below hB7 zx6).frozen 5; have r0 := cell_far (g := gx) (i := 5) (v := .int .u32 (IntKind.u32.wrap (s.seq + q))) p0 hgx1; have r1 := cell_far (g := gx) (i := 5) (v := .int .u32 (IntKind.u32.wrap (s.seq + q))) p1 hgx1; have r2 := cell_far (g := gx) (i := 5) (v := .int .u32 (IntKind.u32.wrap (s.seq + q))) p2 hgx1; have r3 := cell_far (g := gx) (i := 5) (v := .int .u32 (IntKind.u32.wrap (s.seq + q))) p3 hgx1; have r4 := cell_far (g := gx) (i := 5) (v := .int .u32 (IntKind.u32.wrap (s.seq + q))) p4 hgx1; have r5 := cell_far (g := gx) (i := 5) (v := .int .u32 (IntKind.u32.wrap (s.seq + q))) p5 hgx1; have r6 := cell_far (g := gx) (i := 5) (v := .int .u32 (IntKind.u32.wrap (s.seq + q))) p6 hgx1; have r7 := cell_far (g := gx) (i := 5) (v := .int .u32 (IntKind.u32.wrap (s.seq + q))) p7 hgx1; have r8 := cell_far (g := gx) (i := 5) (v := .int .u32 (IntKind.u32.wrap (s.seq + q))) p8 hgx1; have r9 := cell_far (g := gx) (i := 5) (v := .int .u32 (IntKind.u32.wrap (s.seq + q))) p9 hgx1; have r10 := cell_far (g := gx) (i := 5) (v := .int .u32 (IntKind.u32.wrap (s.seq + q))) p10 hgx1))
  have KX := Lib.hid ((KX6.out.below hB7 zx6).set 5 (.int .u32 (IntKind.u32.wrap (s.seq + q))))
  have KZ2 := Lib.hid (KZ6.out.below hB7 zz6)
  have HBL := Lib.hid ((HB6.out.trans (hB7.mono HB6.out.size)).setCell (p := ⟨gx, 5, none⟩) (show w.heap.size ≤ gx by omega) (.int .u32 (IntKind.u32.wrap (s.seq + q))))
  have x0 := KX.out.cell 0
  have x1 := KX.out.cell 1
  have x2 := KX.out.cell 2
  have x3 := KX.out.cell 3
  have x4 := KX.out.cell 4
  have x5 := KX.out.cell 5
  have x6 := KX.out.cell 6
  have x7 := KX.out.cell 7
  have x8 := KX.out.cell 8
  have x9 := KX.out.cell 9
  have x10 := KX.out.cell 10
  simp only [List.setIfInBounds_toArray, List.set_cons_succ, List.set_cons_zero, List.getElem?_toArray, List.getElem?_cons_zero, List.getElem?_cons_succ] at x0 x1 x2 x3 x4 x5 x6 x7 x8 x9 x10
  have d0 := KZ2.out.cell 0
  have d1 := KZ2.out.cell 1
  have d2 := KZ2.out.cell 2
  have d3 := KZ2.out.cell 3
  have d4 := KZ2.out.cell 4
  have d5 := KZ2.out.cell 5
  have d6 := KZ2.out.cell 6
  have d7 := KZ2.out.cell 7
  have d8 := KZ2.out.cell 8
  have d9 := KZ2.out.cell 9
  have d10 := KZ2.out.cell 10
  simp only [List.setIfInBounds_toArray, List.set_cons_succ, List.set_cons_zero, List.getElem?_toArray, List.getElem?_cons_zero, List.getElem?_cons_succ] at d0 d1 d2 d3 d4 d5 d6 d7 d8 d9 d10
  have e0 := KZ2.out.frozen 0
  have e1 := KZ2.out.frozen 1
  have e2 := KZ2.out.frozen 2
  have e3 := KZ2.out.frozen 3
  have e4 := KZ2.out.frozen 4
  have e5 := KZ2.out.frozen 5
  have e6 := KZ2.out.frozen 6
  have e7 := KZ2.out.frozen 7
  have e8 := KZ2.out.frozen 8
  have e9 := KZ2.out.frozen 9
  have e10 := KZ2.out.frozen 10
  clear k0 k1 k2 k3 k4 k5 k6 k7 k8 k9 k10 p0 p1 p2 p3 p4 p5 p6 p7 p8 p9 p10 xc xfz r0 r1 r2 r3 r4 r5 r6 r7 r8 r9 r10
  go_wp2_with fail
  refine bodyPost_ret (v := .tuple #[.agg #[.int .u32 s.to, .int .i64 s.tp, .int .u32 s.fr, .int .i64 s.fp, .int .u32 0, .int .u32 ((s.seq + q) % 4294967296), .int .i64 20, .int .i64 0, .int .i64 0, .int .i64 (-1), .slice none 0 0], .bool true]) (by simp [results, Try.results19, go_sem, *]) rfl ⟨rfl, ?_⟩
  exact Below.setCell (Below.setCell (Below.setCell (Below.setCell (Below.setCell (Below.setCell (Below.setCell (Below.setCell (Below.setCell (Below.setCell (Below.setCell (HBL.out) (Nat.le_succ _) _) (Nat.le_succ _) _) (Nat.le_succ _) _) (Nat.le_succ _) _) (Nat.le_succ _) _) (Nat.le_succ _) _) (Nat.le_succ _) _) (Nat.le_succ _) _) (Nat.le_succ _) _) (Nat.le_succ _) _) (Nat.le_succ _) _
end Go.Proofs.Ytifeomdmbjinoaa
