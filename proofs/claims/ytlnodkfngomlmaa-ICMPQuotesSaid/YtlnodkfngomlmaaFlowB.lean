/- Proved: whose flow some bytes are, by icmp.Flow, by its walk. Conditions: the bytes lie in memory. -/
import Derived.Test.YtlnodkfngomlmaaDec
import Derived.Test.YtlnodkfngomlmaaRdS
import Derived.Test.YtlnodkfngomlmaaFlow
set_option linter.unusedVariables false
namespace Go.Proofs.Ytlnodkfngomlmaa
open Go.RowKit
attribute [local go_sem] and_i64_8191 and_i64_15
set_option maxRecDepth 100000 in
set_option maxHeartbeats 1500000 in
theorem flow_none (A : Option Addr) (n c B : Nat) (l : List Int) (hn : l.length = n) (h20 : 20 ≤ n) (v4 : (at8 l 0 / 16 != 4) = false) (m : Nat) (hmm : at8 l 0 % 16 * 4 - 20 = (m : Int)) (hle : 20 + m ≤ n) (p17 : ¬ at8 l 9 = 17) (p6 : ¬ at8 l 9 = 6) (hmax : n ≤ 1000000) (hb : Bs l) (w : World) (hr : RB w B A l) (hB : B ≤ w.heap.size) :
    Calls Try.prog 28 #[.slice A n c] w (FlowRet w l) := by
  have HN := Lib.hid hn
  obtain ⟨w0, hw0⟩ : ∃ w0, w.alloc (.cells #[.int .i64 0, .int .u32 0, .int .i64 0, .int .u32 0, .int .i64 0] 60) = w0 := ⟨_, rfl⟩
  have hB0 : Below w.heap.size w w0 := by rw [← hw0]; exact (Below.refl _ _).alloc (Nat.le_refl _) _
  have hg0 : Bk w0 w.heap.size 60 #[.int .i64 0, .int .u32 0, .int .i64 0, .int .u32 0, .int .i64 0] := by rw [← hw0]; exact Bk.new w _ _
  have hr0 : RB w0 B A l := Rw.below hr (hB0.mono hB)
  have HW0 := Lib.hid hw0
  have z0 := hg0.lt
  have a0 := at8_bd hb 0
  have a9 := at8_bd hb 9
  have a6 := rd2_bd hb 6
  have LEM := Lib.hid (flow_6 (l := l) (by rw [hn]; omega) (fun h => h.elim (by simpa using v4) (by omega)) (by rw [hn]; omega) (fun h => h.1.elim p6 p17))
  obtain ⟨p, hp⟩ : ∃ p, at8 l 9 = p := ⟨_, rfl⟩
  rw [hp] at p17 p6 a9
  have q17 : (p == 17) = false := by simpa using p17
  have q6 : (p == 6) = false := by simpa using p6
  have HP := Lib.hid hp
  clear hp p17 p6
  obtain ⟨lf, hl0⟩ : ∃ lf, n - (20 + m) = lf := ⟨_, rfl⟩
  have hl1 : 0 ≤ lf := by omega
  have HLF := Lib.hid hl0
  clear hl0
  clear hn hw0
  go_enter Try.func28, Try.ntmps28
  go_wp2_with fail
  rw [HW0.out]
  refine (newreader_any A n c B l HN.out hmax hb _ hr0 (by omega)).mono ?_
  rintro e w1 ⟨g, rfl, hR1, hB1⟩
  have hg1 := hg0.below hB1 z0
  have z1 := hB1.size
  have hge := hR1.ge
  have hQ1 : Below w.heap.size w w1 := hB0.trans (hB1.mono (Nat.le_of_lt z0))
  rw [show l = l.drop 0 from rfl] at hR1
  go_wp2_with fail
  refine (byte_at _ g l 0 (by rw [HN.out]; omega) _ hR1 (by omega)).mono ?_
  rintro e w2 ⟨rfl, hR2, k2⟩
  have hg2 := hg1.grown k2 (by intro e; injection e with e; omega)
  have hQ2 := hQ1.grown k2 (by omega) (by intro i e; injection e with e; omega)
  have z2 := k2.size
  go_wp2_with fail
  refine (raw_at _ g l 1 5 (by rw [HN.out]; omega) (by rw [HN.out]; omega) _ hR2 (by omega)).mono ?_
  rintro e w3 ⟨A3, n3, c3, rfl, hO3, hR3, k3⟩
  have hg3 := hg2.grown k3 (by intro e; injection e with e; omega)
  have hQ3 := hQ2.grown k3 (by omega) (by intro i e; injection e with e; omega)
  have z3 := k3.size
  go_wp2_with fail
  refine (two_at _ g l 6 (by rw [HN.out]; omega) _ hR3 (by omega)).mono ?_
  rintro e w4 ⟨rfl, hR4, k4⟩
  have hg4 := hg3.grown k4 (by intro e; injection e with e; omega)
  have hQ4 := hQ3.grown k4 (by omega) (by intro i e; injection e with e; omega)
  have z4 := k4.size
  go_wp2_with fail
  refine (byte_at _ g l 8 (by rw [HN.out]; omega) _ hR4 (by omega)).mono ?_
  rintro e w5 ⟨rfl, hR5, k5⟩
  have hg5 := hg4.grown k5 (by intro e; injection e with e; omega)
  have hQ5 := hQ4.grown k5 (by omega) (by intro i e; injection e with e; omega)
  have z5 := k5.size
  go_wp2_with fail
  refine (byte_at _ g l 9 (by rw [HN.out]; omega) _ hR5 (by omega)).mono ?_
  rintro e w6 ⟨rfl, hR6, k6⟩
  rw [HP.out]
  have hg6 := hg5.grown k6 (by intro e; injection e with e; omega)
  have hQ6 := hQ5.grown k6 (by omega) (by intro i e; injection e with e; omega)
  have z6 := k6.size
  obtain ⟨w7, hw7⟩ : ∃ w', w6.alloc (.cells #[.int .i64 p, .int .u32 0, .int .i64 0, .int .u32 0, .int .i64 0] 60) = w' := ⟨_, rfl⟩
  have hm7 : Bk w7 w6.heap.size 60 #[.int .i64 p, .int .u32 0, .int .i64 0, .int .u32 0, .int .i64 0] := by rw [← hw7]; exact Bk.new w6 _ _
  have hB7 : Below w6.heap.size w6 w7 := by rw [← hw7]; exact (Below.refl _ _).alloc (Nat.le_refl _) _
  have hR7 := hR6.below hB7
  have hg7 := hg6.below hB7 (by omega)
  have hQ7 := hQ6.trans (hB7.mono (by omega))
  have z7 := hB7.size
  have HW7 := Lib.hid hw7
  obtain ⟨gm, hgm⟩ : ∃ gm, w6.heap.size = gm := ⟨_, rfl⟩
  rw [hgm] at hm7
  have HGM := Lib.hid hgm
  have hmg : w.heap.size < gm := by omega
  clear hw7 hgm
  go_wp2_with fail
  rw [HW7.out, HGM.out]
  refine (two_at _ g l 10 (by rw [HN.out]; omega) _ hR7 (by omega)).mono ?_
  rintro e w8 ⟨rfl, hR8, k8⟩
  have hg8 := hg7.grown k8 (by intro e; injection e with e; omega)
  have hm8 := hm7.grown k8 (by intro e; injection e with e; exact hR7.ne hm7 (by decide) e.symm)
  have hQ8 := hQ7.grown k8 (by omega) (by intro i e; injection e with e; omega)
  have z8 := k8.size
  go_wp2_with fail
  refine (four_at _ g l 12 (by rw [HN.out]; omega) _ hR8 (by omega)).mono ?_
  rintro e w9 ⟨rfl, hR9, k9⟩
  have hg9 := hg8.grown k9 (by intro e; injection e with e; omega)
  have hm9 := hm8.grown k9 (by intro e; injection e with e; exact hR8.ne hm8 (by decide) e.symm)
  have hQ9 := hQ8.grown k9 (by omega) (by intro i e; injection e with e; omega)
  have z9 := k9.size
  go_wp2_with fail
  refine (four_at _ g l 16 (by rw [HN.out]; omega) _ hR9 (by omega)).mono ?_
  rintro e w10 ⟨rfl, hR10, k10⟩
  have hg10 := hg9.grown k10 (by intro e; injection e with e; omega)
  have hm10 := hm9.grown k10 (by intro e; injection e with e; exact hR9.ne hm9 (by decide) e.symm)
  have hQ10 := hQ9.grown k10 (by omega) (by intro i e; injection e with e; omega)
  have z10 := k10.size
  have f10a := hm10.frozen 1
  have f10b := hm10.frozen 3
  have x10a := hm10.cell 1
  have x10b := hm10.cell 3
  simp only [List.getElem?_toArray, List.getElem?_cons_zero, List.getElem?_cons_succ] at x10a x10b
  have hu : NoU8 #[.int .i64 p, .int .u32 0, .int .i64 0, .int .u32 0, .int .i64 0] := by
    intro i x
    match i with
    | 0 | 1 | 2 | 3 | 4 => simp
    | i + 5 => simp
  have hu2 : NoU8 #[.int .i64 p, .int .u32 (rd4 l 12), .int .i64 0, .int .u32 0, .int .i64 0] := by
    intro i x
    match i with
    | 0 | 1 | 2 | 3 | 4 => simp
    | i + 5 => simp
  have hm11 := hm10.set 1 (.int .u32 (rd4 l 12))
  have hR11 := hR10.store hm10 (by decide) (by decide) hu 1 (.int .u32 (rd4 l 12))
  have hm12 := hm11.set 3 (.int .u32 (rd4 l 16))
  have hR12 := hR11.store hm11 (by decide) (by decide) hu2 3 (.int .u32 (rd4 l 16))
  have hg12 := (hg10.far (p := ⟨gm, 1, none⟩) (show w.heap.size ≠ gm by omega) (.int .u32 (rd4 l 12))).far (p := ⟨gm, 3, none⟩) (show w.heap.size ≠ gm by omega) (.int .u32 (rd4 l 16))
  have hQ12 := (hQ10.setCell (p := ⟨gm, 1, none⟩) (show w.heap.size ≤ gm by omega) (.int .u32 (rd4 l 12))).setCell (p := ⟨gm, 3, none⟩) (show w.heap.size ≤ gm by omega) (.int .u32 (rd4 l 16))
  obtain ⟨w12, hw12⟩ : ∃ w', (w10.setCell ⟨gm, 1, none⟩ (.int .u32 (rd4 l 12))).setCell ⟨gm, 3, none⟩ (.int .u32 (rd4 l 16)) = w' := ⟨_, rfl⟩
  rw [hw12] at hm12 hR12 hg12 hQ12
  have z12 : w12.heap.size = w10.heap.size := by rw [← hw12]; simp [World.setCell]
  have Z12 : w10.heap.size ≤ w12.heap.size := by omega
  have HW12 := Lib.hid hw12
  clear hw12 hR11 hm11 z12
  change Bk w12 gm 60 #[.int .i64 p, .int .u32 (rd4 l 12), .int .i64 0, .int .u32 (rd4 l 16), .int .i64 0] at hm12
  have hne : w.heap.size ≠ gm := by omega
  have hne2 : gm ≠ w.heap.size := by omega
  go_wp2_with fail
  rw [HW12.out]
  refine (rerr_any _ g _ _ _ hR12).mono ?_
  rintro e w' ⟨rfl, rfl⟩
  go_wp2_with fail
  refine (raw_at _ g l 20 m (by rw [HN.out]; omega) (by rw [HN.out]; omega) _ hR12 (by omega)).mono ?_
  rintro e w13 ⟨A13, n13, c13, rfl, hO13, hR13, k13⟩
  have hg13 := hg12.grown k13 (by intro e; injection e with e; omega)
  have hm13 := hm12.grown k13 (by intro e; injection e with e; exact hR12.ne hm12 (by decide) e.symm)
  have hQ13 := hQ12.grown k13 (by omega) (by intro i e; injection e with e; omega)
  have z13 := k13.size
  have c0 := hm13.cell 0
  have c1 := hm13.cell 1
  have c2 := hm13.cell 2
  have c3 := hm13.cell 3
  have c4 := hm13.cell 4
  simp only [List.getElem?_toArray, List.getElem?_cons_zero, List.getElem?_cons_succ] at c0 c1 c2 c3 c4
  go_wp2_with fail
  refine (rerr_any _ g _ _ _ hR13).mono ?_
  rintro e w' ⟨rfl, rfl⟩
  have d0 := hg13.cell 0
  have d1 := hg13.cell 1
  have d2 := hg13.cell 2
  have d3 := hg13.cell 3
  have d4 := hg13.cell 4
  have e0 := hg13.frozen 0
  have e1 := hg13.frozen 1
  have e2 := hg13.frozen 2
  have e3 := hg13.frozen 3
  have e4 := hg13.frozen 4
  simp only [List.getElem?_toArray, List.getElem?_cons_zero, List.getElem?_cons_succ] at d0 d1 d2 d3 d4
  have HQ := Lib.hid hQ13
  go_wp2_with fail
  refine bodyPost_ret (v := .tuple #[.agg #[.int .i64 p, .int .u32 (rd4 l 12), .int .i64 0, .int .u32 (rd4 l 16), .int .i64 0], .int .i64 0]) (by simp [results, Try.results28, go_sem, *]) rfl (flow_ret (by rw [LEM.out, HP.out]) rfl (((((HQ.out.setCell (Nat.le_refl _) _).setCell (Nat.le_refl _) _).setCell (Nat.le_refl _) _).setCell (Nat.le_refl _) _).setCell (Nat.le_refl _) _))
set_option maxRecDepth 100000 in
set_option maxHeartbeats 1500000 in
theorem flow_off17 (A : Option Addr) (n c B : Nat) (l : List Int) (hn : l.length = n) (h20 : 20 ≤ n) (v4 : (at8 l 0 / 16 != 4) = false) (m : Nat) (hmm : at8 l 0 % 16 * 4 - 20 = (m : Int)) (hle : 20 + m ≤ n) (hp : at8 l 9 = 17) (o0 : (rd2 l 6 % 8192 == 0) = false) (hmax : n ≤ 1000000) (hb : Bs l) (w : World) (hr : RB w B A l) (hB : B ≤ w.heap.size) :
    Calls Try.prog 28 #[.slice A n c] w (FlowRet w l) := by
  have HN := Lib.hid hn
  obtain ⟨w0, hw0⟩ : ∃ w0, w.alloc (.cells #[.int .i64 0, .int .u32 0, .int .i64 0, .int .u32 0, .int .i64 0] 60) = w0 := ⟨_, rfl⟩
  have hB0 : Below w.heap.size w w0 := by rw [← hw0]; exact (Below.refl _ _).alloc (Nat.le_refl _) _
  have hg0 : Bk w0 w.heap.size 60 #[.int .i64 0, .int .u32 0, .int .i64 0, .int .u32 0, .int .i64 0] := by rw [← hw0]; exact Bk.new w _ _
  have hr0 : RB w0 B A l := Rw.below hr (hB0.mono hB)
  have HW0 := Lib.hid hw0
  have z0 := hg0.lt
  have a0 := at8_bd hb 0
  have a9 := at8_bd hb 9
  have a6 := rd2_bd hb 6
  have LEM := Lib.hid (flow_6 (l := l) (by rw [hn]; omega) (fun h => h.elim (by simpa using v4) (by omega)) (by rw [hn]; omega) (fun h => by have := h.2.1; simp at o0; omega))
  have HP := Lib.hid hp
  clear hp a9
  obtain ⟨lf, hl0⟩ : ∃ lf, n - (20 + m) = lf := ⟨_, rfl⟩
  have hl1 : 0 ≤ lf := by omega
  have HLF := Lib.hid hl0
  clear hl0
  clear hn hw0
  go_enter Try.func28, Try.ntmps28
  go_wp2_with fail
  rw [HW0.out]
  refine (newreader_any A n c B l HN.out hmax hb _ hr0 (by omega)).mono ?_
  rintro e w1 ⟨g, rfl, hR1, hB1⟩
  have hg1 := hg0.below hB1 z0
  have z1 := hB1.size
  have hge := hR1.ge
  have hQ1 : Below w.heap.size w w1 := hB0.trans (hB1.mono (Nat.le_of_lt z0))
  rw [show l = l.drop 0 from rfl] at hR1
  go_wp2_with fail
  refine (byte_at _ g l 0 (by rw [HN.out]; omega) _ hR1 (by omega)).mono ?_
  rintro e w2 ⟨rfl, hR2, k2⟩
  have hg2 := hg1.grown k2 (by intro e; injection e with e; omega)
  have hQ2 := hQ1.grown k2 (by omega) (by intro i e; injection e with e; omega)
  have z2 := k2.size
  go_wp2_with fail
  refine (raw_at _ g l 1 5 (by rw [HN.out]; omega) (by rw [HN.out]; omega) _ hR2 (by omega)).mono ?_
  rintro e w3 ⟨A3, n3, c3, rfl, hO3, hR3, k3⟩
  have hg3 := hg2.grown k3 (by intro e; injection e with e; omega)
  have hQ3 := hQ2.grown k3 (by omega) (by intro i e; injection e with e; omega)
  have z3 := k3.size
  go_wp2_with fail
  refine (two_at _ g l 6 (by rw [HN.out]; omega) _ hR3 (by omega)).mono ?_
  rintro e w4 ⟨rfl, hR4, k4⟩
  have hg4 := hg3.grown k4 (by intro e; injection e with e; omega)
  have hQ4 := hQ3.grown k4 (by omega) (by intro i e; injection e with e; omega)
  have z4 := k4.size
  go_wp2_with fail
  refine (byte_at _ g l 8 (by rw [HN.out]; omega) _ hR4 (by omega)).mono ?_
  rintro e w5 ⟨rfl, hR5, k5⟩
  have hg5 := hg4.grown k5 (by intro e; injection e with e; omega)
  have hQ5 := hQ4.grown k5 (by omega) (by intro i e; injection e with e; omega)
  have z5 := k5.size
  go_wp2_with fail
  refine (byte_at _ g l 9 (by rw [HN.out]; omega) _ hR5 (by omega)).mono ?_
  rintro e w6 ⟨rfl, hR6, k6⟩
  rw [HP.out]
  have hg6 := hg5.grown k6 (by intro e; injection e with e; omega)
  have hQ6 := hQ5.grown k6 (by omega) (by intro i e; injection e with e; omega)
  have z6 := k6.size
  obtain ⟨w7, hw7⟩ : ∃ w', w6.alloc (.cells #[.int .i64 17, .int .u32 0, .int .i64 0, .int .u32 0, .int .i64 0] 60) = w' := ⟨_, rfl⟩
  have hm7 : Bk w7 w6.heap.size 60 #[.int .i64 17, .int .u32 0, .int .i64 0, .int .u32 0, .int .i64 0] := by rw [← hw7]; exact Bk.new w6 _ _
  have hB7 : Below w6.heap.size w6 w7 := by rw [← hw7]; exact (Below.refl _ _).alloc (Nat.le_refl _) _
  have hR7 := hR6.below hB7
  have hg7 := hg6.below hB7 (by omega)
  have hQ7 := hQ6.trans (hB7.mono (by omega))
  have z7 := hB7.size
  have HW7 := Lib.hid hw7
  obtain ⟨gm, hgm⟩ : ∃ gm, w6.heap.size = gm := ⟨_, rfl⟩
  rw [hgm] at hm7
  have HGM := Lib.hid hgm
  have hmg : w.heap.size < gm := by omega
  clear hw7 hgm
  go_wp2_with fail
  rw [HW7.out, HGM.out]
  refine (two_at _ g l 10 (by rw [HN.out]; omega) _ hR7 (by omega)).mono ?_
  rintro e w8 ⟨rfl, hR8, k8⟩
  have hg8 := hg7.grown k8 (by intro e; injection e with e; omega)
  have hm8 := hm7.grown k8 (by intro e; injection e with e; exact hR7.ne hm7 (by decide) e.symm)
  have hQ8 := hQ7.grown k8 (by omega) (by intro i e; injection e with e; omega)
  have z8 := k8.size
  go_wp2_with fail
  refine (four_at _ g l 12 (by rw [HN.out]; omega) _ hR8 (by omega)).mono ?_
  rintro e w9 ⟨rfl, hR9, k9⟩
  have hg9 := hg8.grown k9 (by intro e; injection e with e; omega)
  have hm9 := hm8.grown k9 (by intro e; injection e with e; exact hR8.ne hm8 (by decide) e.symm)
  have hQ9 := hQ8.grown k9 (by omega) (by intro i e; injection e with e; omega)
  have z9 := k9.size
  go_wp2_with fail
  refine (four_at _ g l 16 (by rw [HN.out]; omega) _ hR9 (by omega)).mono ?_
  rintro e w10 ⟨rfl, hR10, k10⟩
  have hg10 := hg9.grown k10 (by intro e; injection e with e; omega)
  have hm10 := hm9.grown k10 (by intro e; injection e with e; exact hR9.ne hm9 (by decide) e.symm)
  have hQ10 := hQ9.grown k10 (by omega) (by intro i e; injection e with e; omega)
  have z10 := k10.size
  have f10a := hm10.frozen 1
  have f10b := hm10.frozen 3
  have x10a := hm10.cell 1
  have x10b := hm10.cell 3
  simp only [List.getElem?_toArray, List.getElem?_cons_zero, List.getElem?_cons_succ] at x10a x10b
  have hu : NoU8 #[.int .i64 17, .int .u32 0, .int .i64 0, .int .u32 0, .int .i64 0] := by
    intro i x
    match i with
    | 0 | 1 | 2 | 3 | 4 => simp
    | i + 5 => simp
  have hu2 : NoU8 #[.int .i64 17, .int .u32 (rd4 l 12), .int .i64 0, .int .u32 0, .int .i64 0] := by
    intro i x
    match i with
    | 0 | 1 | 2 | 3 | 4 => simp
    | i + 5 => simp
  have hm11 := hm10.set 1 (.int .u32 (rd4 l 12))
  have hR11 := hR10.store hm10 (by decide) (by decide) hu 1 (.int .u32 (rd4 l 12))
  have hm12 := hm11.set 3 (.int .u32 (rd4 l 16))
  have hR12 := hR11.store hm11 (by decide) (by decide) hu2 3 (.int .u32 (rd4 l 16))
  have hg12 := (hg10.far (p := ⟨gm, 1, none⟩) (show w.heap.size ≠ gm by omega) (.int .u32 (rd4 l 12))).far (p := ⟨gm, 3, none⟩) (show w.heap.size ≠ gm by omega) (.int .u32 (rd4 l 16))
  have hQ12 := (hQ10.setCell (p := ⟨gm, 1, none⟩) (show w.heap.size ≤ gm by omega) (.int .u32 (rd4 l 12))).setCell (p := ⟨gm, 3, none⟩) (show w.heap.size ≤ gm by omega) (.int .u32 (rd4 l 16))
  obtain ⟨w12, hw12⟩ : ∃ w', (w10.setCell ⟨gm, 1, none⟩ (.int .u32 (rd4 l 12))).setCell ⟨gm, 3, none⟩ (.int .u32 (rd4 l 16)) = w' := ⟨_, rfl⟩
  rw [hw12] at hm12 hR12 hg12 hQ12
  have z12 : w12.heap.size = w10.heap.size := by rw [← hw12]; simp [World.setCell]
  have Z12 : w10.heap.size ≤ w12.heap.size := by omega
  have HW12 := Lib.hid hw12
  clear hw12 hR11 hm11 z12
  change Bk w12 gm 60 #[.int .i64 17, .int .u32 (rd4 l 12), .int .i64 0, .int .u32 (rd4 l 16), .int .i64 0] at hm12
  have hne : w.heap.size ≠ gm := by omega
  have hne2 : gm ≠ w.heap.size := by omega
  go_wp2_with fail
  rw [HW12.out]
  refine (rerr_any _ g _ _ _ hR12).mono ?_
  rintro e w' ⟨rfl, rfl⟩
  go_wp2_with fail
  refine (raw_at _ g l 20 m (by rw [HN.out]; omega) (by rw [HN.out]; omega) _ hR12 (by omega)).mono ?_
  rintro e w13 ⟨A13, n13, c13, rfl, hO13, hR13, k13⟩
  have hg13 := hg12.grown k13 (by intro e; injection e with e; omega)
  have hm13 := hm12.grown k13 (by intro e; injection e with e; exact hR12.ne hm12 (by decide) e.symm)
  have hQ13 := hQ12.grown k13 (by omega) (by intro i e; injection e with e; omega)
  have z13 := k13.size
  have c0 := hm13.cell 0
  have c1 := hm13.cell 1
  have c2 := hm13.cell 2
  have c3 := hm13.cell 3
  have c4 := hm13.cell 4
  simp only [List.getElem?_toArray, List.getElem?_cons_zero, List.getElem?_cons_succ] at c0 c1 c2 c3 c4
  go_wp2_with fail
  refine (rerr_any _ g _ _ _ hR13).mono ?_
  rintro e w' ⟨rfl, rfl⟩
  have d0 := hg13.cell 0
  have d1 := hg13.cell 1
  have d2 := hg13.cell 2
  have d3 := hg13.cell 3
  have d4 := hg13.cell 4
  have e0 := hg13.frozen 0
  have e1 := hg13.frozen 1
  have e2 := hg13.frozen 2
  have e3 := hg13.frozen 3
  have e4 := hg13.frozen 4
  simp only [List.getElem?_toArray, List.getElem?_cons_zero, List.getElem?_cons_succ] at d0 d1 d2 d3 d4
  have HQ := Lib.hid hQ13
  go_wp2_with fail
  refine bodyPost_ret (v := .tuple #[.agg #[.int .i64 17, .int .u32 (rd4 l 12), .int .i64 0, .int .u32 (rd4 l 16), .int .i64 0], .int .i64 0]) (by simp [results, Try.results28, go_sem, *]) rfl (flow_ret (by rw [LEM.out, HP.out]) rfl (((((HQ.out.setCell (Nat.le_refl _) _).setCell (Nat.le_refl _) _).setCell (Nat.le_refl _) _).setCell (Nat.le_refl _) _).setCell (Nat.le_refl _) _))
set_option maxRecDepth 100000 in
set_option maxHeartbeats 1500000 in
theorem flow_few17 (A : Option Addr) (n c B : Nat) (l : List Int) (hn : l.length = n) (h20 : 20 ≤ n) (v4 : (at8 l 0 / 16 != 4) = false) (m : Nat) (hmm : at8 l 0 % 16 * 4 - 20 = (m : Int)) (hle : 20 + m ≤ n) (hp : at8 l 9 = 17) (o0 : (rd2 l 6 % 8192 == 0) = true) (hlf : n < 20 + m + 4) (hmax : n ≤ 1000000) (hb : Bs l) (w : World) (hr : RB w B A l) (hB : B ≤ w.heap.size) :
    Calls Try.prog 28 #[.slice A n c] w (FlowRet w l) := by
  have HN := Lib.hid hn
  obtain ⟨w0, hw0⟩ : ∃ w0, w.alloc (.cells #[.int .i64 0, .int .u32 0, .int .i64 0, .int .u32 0, .int .i64 0] 60) = w0 := ⟨_, rfl⟩
  have hB0 : Below w.heap.size w w0 := by rw [← hw0]; exact (Below.refl _ _).alloc (Nat.le_refl _) _
  have hg0 : Bk w0 w.heap.size 60 #[.int .i64 0, .int .u32 0, .int .i64 0, .int .u32 0, .int .i64 0] := by rw [← hw0]; exact Bk.new w _ _
  have hr0 : RB w0 B A l := Rw.below hr (hB0.mono hB)
  have HW0 := Lib.hid hw0
  have z0 := hg0.lt
  have a0 := at8_bd hb 0
  have a9 := at8_bd hb 9
  have a6 := rd2_bd hb 6
  have LEM := Lib.hid (flow_6 (l := l) (by rw [hn]; omega) (fun h => h.elim (by simpa using v4) (by omega)) (by rw [hn]; omega) (fun h => by have := h.2.2; rw [hn] at this; omega))
  have HP := Lib.hid hp
  clear hp a9
  obtain ⟨lf, hl0⟩ : ∃ lf, n - (20 + m) = lf := ⟨_, rfl⟩
  have hl1 : lf < 4 := by omega
  have HLF := Lib.hid hl0
  clear hl0
  clear hn hw0
  go_enter Try.func28, Try.ntmps28
  go_wp2_with fail
  rw [HW0.out]
  refine (newreader_any A n c B l HN.out hmax hb _ hr0 (by omega)).mono ?_
  rintro e w1 ⟨g, rfl, hR1, hB1⟩
  have hg1 := hg0.below hB1 z0
  have z1 := hB1.size
  have hge := hR1.ge
  have hQ1 : Below w.heap.size w w1 := hB0.trans (hB1.mono (Nat.le_of_lt z0))
  rw [show l = l.drop 0 from rfl] at hR1
  go_wp2_with fail
  refine (byte_at _ g l 0 (by rw [HN.out]; omega) _ hR1 (by omega)).mono ?_
  rintro e w2 ⟨rfl, hR2, k2⟩
  have hg2 := hg1.grown k2 (by intro e; injection e with e; omega)
  have hQ2 := hQ1.grown k2 (by omega) (by intro i e; injection e with e; omega)
  have z2 := k2.size
  go_wp2_with fail
  refine (raw_at _ g l 1 5 (by rw [HN.out]; omega) (by rw [HN.out]; omega) _ hR2 (by omega)).mono ?_
  rintro e w3 ⟨A3, n3, c3, rfl, hO3, hR3, k3⟩
  have hg3 := hg2.grown k3 (by intro e; injection e with e; omega)
  have hQ3 := hQ2.grown k3 (by omega) (by intro i e; injection e with e; omega)
  have z3 := k3.size
  go_wp2_with fail
  refine (two_at _ g l 6 (by rw [HN.out]; omega) _ hR3 (by omega)).mono ?_
  rintro e w4 ⟨rfl, hR4, k4⟩
  have hg4 := hg3.grown k4 (by intro e; injection e with e; omega)
  have hQ4 := hQ3.grown k4 (by omega) (by intro i e; injection e with e; omega)
  have z4 := k4.size
  go_wp2_with fail
  refine (byte_at _ g l 8 (by rw [HN.out]; omega) _ hR4 (by omega)).mono ?_
  rintro e w5 ⟨rfl, hR5, k5⟩
  have hg5 := hg4.grown k5 (by intro e; injection e with e; omega)
  have hQ5 := hQ4.grown k5 (by omega) (by intro i e; injection e with e; omega)
  have z5 := k5.size
  go_wp2_with fail
  refine (byte_at _ g l 9 (by rw [HN.out]; omega) _ hR5 (by omega)).mono ?_
  rintro e w6 ⟨rfl, hR6, k6⟩
  rw [HP.out]
  have hg6 := hg5.grown k6 (by intro e; injection e with e; omega)
  have hQ6 := hQ5.grown k6 (by omega) (by intro i e; injection e with e; omega)
  have z6 := k6.size
  obtain ⟨w7, hw7⟩ : ∃ w', w6.alloc (.cells #[.int .i64 17, .int .u32 0, .int .i64 0, .int .u32 0, .int .i64 0] 60) = w' := ⟨_, rfl⟩
  have hm7 : Bk w7 w6.heap.size 60 #[.int .i64 17, .int .u32 0, .int .i64 0, .int .u32 0, .int .i64 0] := by rw [← hw7]; exact Bk.new w6 _ _
  have hB7 : Below w6.heap.size w6 w7 := by rw [← hw7]; exact (Below.refl _ _).alloc (Nat.le_refl _) _
  have hR7 := hR6.below hB7
  have hg7 := hg6.below hB7 (by omega)
  have hQ7 := hQ6.trans (hB7.mono (by omega))
  have z7 := hB7.size
  have HW7 := Lib.hid hw7
  obtain ⟨gm, hgm⟩ : ∃ gm, w6.heap.size = gm := ⟨_, rfl⟩
  rw [hgm] at hm7
  have HGM := Lib.hid hgm
  have hmg : w.heap.size < gm := by omega
  clear hw7 hgm
  go_wp2_with fail
  rw [HW7.out, HGM.out]
  refine (two_at _ g l 10 (by rw [HN.out]; omega) _ hR7 (by omega)).mono ?_
  rintro e w8 ⟨rfl, hR8, k8⟩
  have hg8 := hg7.grown k8 (by intro e; injection e with e; omega)
  have hm8 := hm7.grown k8 (by intro e; injection e with e; exact hR7.ne hm7 (by decide) e.symm)
  have hQ8 := hQ7.grown k8 (by omega) (by intro i e; injection e with e; omega)
  have z8 := k8.size
  go_wp2_with fail
  refine (four_at _ g l 12 (by rw [HN.out]; omega) _ hR8 (by omega)).mono ?_
  rintro e w9 ⟨rfl, hR9, k9⟩
  have hg9 := hg8.grown k9 (by intro e; injection e with e; omega)
  have hm9 := hm8.grown k9 (by intro e; injection e with e; exact hR8.ne hm8 (by decide) e.symm)
  have hQ9 := hQ8.grown k9 (by omega) (by intro i e; injection e with e; omega)
  have z9 := k9.size
  go_wp2_with fail
  refine (four_at _ g l 16 (by rw [HN.out]; omega) _ hR9 (by omega)).mono ?_
  rintro e w10 ⟨rfl, hR10, k10⟩
  have hg10 := hg9.grown k10 (by intro e; injection e with e; omega)
  have hm10 := hm9.grown k10 (by intro e; injection e with e; exact hR9.ne hm9 (by decide) e.symm)
  have hQ10 := hQ9.grown k10 (by omega) (by intro i e; injection e with e; omega)
  have z10 := k10.size
  have f10a := hm10.frozen 1
  have f10b := hm10.frozen 3
  have x10a := hm10.cell 1
  have x10b := hm10.cell 3
  simp only [List.getElem?_toArray, List.getElem?_cons_zero, List.getElem?_cons_succ] at x10a x10b
  have hu : NoU8 #[.int .i64 17, .int .u32 0, .int .i64 0, .int .u32 0, .int .i64 0] := by
    intro i x
    match i with
    | 0 | 1 | 2 | 3 | 4 => simp
    | i + 5 => simp
  have hu2 : NoU8 #[.int .i64 17, .int .u32 (rd4 l 12), .int .i64 0, .int .u32 0, .int .i64 0] := by
    intro i x
    match i with
    | 0 | 1 | 2 | 3 | 4 => simp
    | i + 5 => simp
  have hm11 := hm10.set 1 (.int .u32 (rd4 l 12))
  have hR11 := hR10.store hm10 (by decide) (by decide) hu 1 (.int .u32 (rd4 l 12))
  have hm12 := hm11.set 3 (.int .u32 (rd4 l 16))
  have hR12 := hR11.store hm11 (by decide) (by decide) hu2 3 (.int .u32 (rd4 l 16))
  have hg12 := (hg10.far (p := ⟨gm, 1, none⟩) (show w.heap.size ≠ gm by omega) (.int .u32 (rd4 l 12))).far (p := ⟨gm, 3, none⟩) (show w.heap.size ≠ gm by omega) (.int .u32 (rd4 l 16))
  have hQ12 := (hQ10.setCell (p := ⟨gm, 1, none⟩) (show w.heap.size ≤ gm by omega) (.int .u32 (rd4 l 12))).setCell (p := ⟨gm, 3, none⟩) (show w.heap.size ≤ gm by omega) (.int .u32 (rd4 l 16))
  obtain ⟨w12, hw12⟩ : ∃ w', (w10.setCell ⟨gm, 1, none⟩ (.int .u32 (rd4 l 12))).setCell ⟨gm, 3, none⟩ (.int .u32 (rd4 l 16)) = w' := ⟨_, rfl⟩
  rw [hw12] at hm12 hR12 hg12 hQ12
  have z12 : w12.heap.size = w10.heap.size := by rw [← hw12]; simp [World.setCell]
  have Z12 : w10.heap.size ≤ w12.heap.size := by omega
  have HW12 := Lib.hid hw12
  clear hw12 hR11 hm11 z12
  change Bk w12 gm 60 #[.int .i64 17, .int .u32 (rd4 l 12), .int .i64 0, .int .u32 (rd4 l 16), .int .i64 0] at hm12
  have hne : w.heap.size ≠ gm := by omega
  have hne2 : gm ≠ w.heap.size := by omega
  go_wp2_with fail
  rw [HW12.out]
  refine (rerr_any _ g _ _ _ hR12).mono ?_
  rintro e w' ⟨rfl, rfl⟩
  go_wp2_with fail
  refine (raw_at _ g l 20 m (by rw [HN.out]; omega) (by rw [HN.out]; omega) _ hR12 (by omega)).mono ?_
  rintro e w13 ⟨A13, n13, c13, rfl, hO13, hR13, k13⟩
  have hg13 := hg12.grown k13 (by intro e; injection e with e; omega)
  have hm13 := hm12.grown k13 (by intro e; injection e with e; exact hR12.ne hm12 (by decide) e.symm)
  have hQ13 := hQ12.grown k13 (by omega) (by intro i e; injection e with e; omega)
  have z13 := k13.size
  have c0 := hm13.cell 0
  have c1 := hm13.cell 1
  have c2 := hm13.cell 2
  have c3 := hm13.cell 3
  have c4 := hm13.cell 4
  simp only [List.getElem?_toArray, List.getElem?_cons_zero, List.getElem?_cons_succ] at c0 c1 c2 c3 c4
  go_wp2_with fail
  refine (rerr_any _ g _ _ _ hR13).mono ?_
  rintro e w' ⟨rfl, rfl⟩
  go_wp2_with fail
  refine (rleft_any _ g _ _ _ hR13).mono ?_
  rintro e w' ⟨rfl, rfl⟩
  rw [List.length_drop, HN.out, HLF.out]
  have d0 := hg13.cell 0
  have d1 := hg13.cell 1
  have d2 := hg13.cell 2
  have d3 := hg13.cell 3
  have d4 := hg13.cell 4
  have e0 := hg13.frozen 0
  have e1 := hg13.frozen 1
  have e2 := hg13.frozen 2
  have e3 := hg13.frozen 3
  have e4 := hg13.frozen 4
  simp only [List.getElem?_toArray, List.getElem?_cons_zero, List.getElem?_cons_succ] at d0 d1 d2 d3 d4
  have HQ := Lib.hid hQ13
  go_wp2_with fail
  refine bodyPost_ret (v := .tuple #[.agg #[.int .i64 17, .int .u32 (rd4 l 12), .int .i64 0, .int .u32 (rd4 l 16), .int .i64 0], .int .i64 0]) (by simp [results, Try.results28, go_sem, *]) rfl (flow_ret (by rw [LEM.out, HP.out]) rfl (((((HQ.out.setCell (Nat.le_refl _) _).setCell (Nat.le_refl _) _).setCell (Nat.le_refl _) _).setCell (Nat.le_refl _) _).setCell (Nat.le_refl _) _))
set_option maxRecDepth 100000 in
set_option maxHeartbeats 1500000 in
theorem flow_ports17 (A : Option Addr) (n c B : Nat) (l : List Int) (hn : l.length = n) (h20 : 20 ≤ n) (v4 : (at8 l 0 / 16 != 4) = false) (m : Nat) (hmm : at8 l 0 % 16 * 4 - 20 = (m : Int)) (hle : 20 + m ≤ n) (hp : at8 l 9 = 17) (o0 : (rd2 l 6 % 8192 == 0) = true) (hlf : 20 + m + 4 ≤ n) (hmax : n ≤ 1000000) (hb : Bs l) (w : World) (hr : RB w B A l) (hB : B ≤ w.heap.size) :
    Calls Try.prog 28 #[.slice A n c] w (FlowRet w l) := by
  have HN := Lib.hid hn
  obtain ⟨w0, hw0⟩ : ∃ w0, w.alloc (.cells #[.int .i64 0, .int .u32 0, .int .i64 0, .int .u32 0, .int .i64 0] 60) = w0 := ⟨_, rfl⟩
  have hB0 : Below w.heap.size w w0 := by rw [← hw0]; exact (Below.refl _ _).alloc (Nat.le_refl _) _
  have hg0 : Bk w0 w.heap.size 60 #[.int .i64 0, .int .u32 0, .int .i64 0, .int .u32 0, .int .i64 0] := by rw [← hw0]; exact Bk.new w _ _
  have hr0 : RB w0 B A l := Rw.below hr (hB0.mono hB)
  have HW0 := Lib.hid hw0
  have z0 := hg0.lt
  have a0 := at8_bd hb 0
  have a9 := at8_bd hb 9
  have a6 := rd2_bd hb 6
  have LEM := Lib.hid (flow_5 (l := l) (by rw [hn]; omega) (fun h => h.elim (by simpa using v4) (by omega)) (by rw [hn]; omega) ⟨by omega, by simpa using o0, by rw [hn]; omega⟩ hmm)
  have HP := Lib.hid hp
  clear hp a9
  obtain ⟨lf, hl0⟩ : ∃ lf, n - (20 + m) = lf := ⟨_, rfl⟩
  have hl1 : 4 ≤ lf := by omega
  have HLF := Lib.hid hl0
  clear hl0
  clear hn hw0
  go_enter Try.func28, Try.ntmps28
  go_wp2_with fail
  rw [HW0.out]
  refine (newreader_any A n c B l HN.out hmax hb _ hr0 (by omega)).mono ?_
  rintro e w1 ⟨g, rfl, hR1, hB1⟩
  have hg1 := hg0.below hB1 z0
  have z1 := hB1.size
  have hge := hR1.ge
  have hQ1 : Below w.heap.size w w1 := hB0.trans (hB1.mono (Nat.le_of_lt z0))
  rw [show l = l.drop 0 from rfl] at hR1
  go_wp2_with fail
  refine (byte_at _ g l 0 (by rw [HN.out]; omega) _ hR1 (by omega)).mono ?_
  rintro e w2 ⟨rfl, hR2, k2⟩
  have hg2 := hg1.grown k2 (by intro e; injection e with e; omega)
  have hQ2 := hQ1.grown k2 (by omega) (by intro i e; injection e with e; omega)
  have z2 := k2.size
  go_wp2_with fail
  refine (raw_at _ g l 1 5 (by rw [HN.out]; omega) (by rw [HN.out]; omega) _ hR2 (by omega)).mono ?_
  rintro e w3 ⟨A3, n3, c3, rfl, hO3, hR3, k3⟩
  have hg3 := hg2.grown k3 (by intro e; injection e with e; omega)
  have hQ3 := hQ2.grown k3 (by omega) (by intro i e; injection e with e; omega)
  have z3 := k3.size
  go_wp2_with fail
  refine (two_at _ g l 6 (by rw [HN.out]; omega) _ hR3 (by omega)).mono ?_
  rintro e w4 ⟨rfl, hR4, k4⟩
  have hg4 := hg3.grown k4 (by intro e; injection e with e; omega)
  have hQ4 := hQ3.grown k4 (by omega) (by intro i e; injection e with e; omega)
  have z4 := k4.size
  go_wp2_with fail
  refine (byte_at _ g l 8 (by rw [HN.out]; omega) _ hR4 (by omega)).mono ?_
  rintro e w5 ⟨rfl, hR5, k5⟩
  have hg5 := hg4.grown k5 (by intro e; injection e with e; omega)
  have hQ5 := hQ4.grown k5 (by omega) (by intro i e; injection e with e; omega)
  have z5 := k5.size
  go_wp2_with fail
  refine (byte_at _ g l 9 (by rw [HN.out]; omega) _ hR5 (by omega)).mono ?_
  rintro e w6 ⟨rfl, hR6, k6⟩
  rw [HP.out]
  have hg6 := hg5.grown k6 (by intro e; injection e with e; omega)
  have hQ6 := hQ5.grown k6 (by omega) (by intro i e; injection e with e; omega)
  have z6 := k6.size
  obtain ⟨w7, hw7⟩ : ∃ w', w6.alloc (.cells #[.int .i64 17, .int .u32 0, .int .i64 0, .int .u32 0, .int .i64 0] 60) = w' := ⟨_, rfl⟩
  have hm7 : Bk w7 w6.heap.size 60 #[.int .i64 17, .int .u32 0, .int .i64 0, .int .u32 0, .int .i64 0] := by rw [← hw7]; exact Bk.new w6 _ _
  have hB7 : Below w6.heap.size w6 w7 := by rw [← hw7]; exact (Below.refl _ _).alloc (Nat.le_refl _) _
  have hR7 := hR6.below hB7
  have hg7 := hg6.below hB7 (by omega)
  have hQ7 := hQ6.trans (hB7.mono (by omega))
  have z7 := hB7.size
  have HW7 := Lib.hid hw7
  obtain ⟨gm, hgm⟩ : ∃ gm, w6.heap.size = gm := ⟨_, rfl⟩
  rw [hgm] at hm7
  have HGM := Lib.hid hgm
  have hmg : w.heap.size < gm := by omega
  clear hw7 hgm
  go_wp2_with fail
  rw [HW7.out, HGM.out]
  refine (two_at _ g l 10 (by rw [HN.out]; omega) _ hR7 (by omega)).mono ?_
  rintro e w8 ⟨rfl, hR8, k8⟩
  have hg8 := hg7.grown k8 (by intro e; injection e with e; omega)
  have hm8 := hm7.grown k8 (by intro e; injection e with e; exact hR7.ne hm7 (by decide) e.symm)
  have hQ8 := hQ7.grown k8 (by omega) (by intro i e; injection e with e; omega)
  have z8 := k8.size
  go_wp2_with fail
  refine (four_at _ g l 12 (by rw [HN.out]; omega) _ hR8 (by omega)).mono ?_
  rintro e w9 ⟨rfl, hR9, k9⟩
  have hg9 := hg8.grown k9 (by intro e; injection e with e; omega)
  have hm9 := hm8.grown k9 (by intro e; injection e with e; exact hR8.ne hm8 (by decide) e.symm)
  have hQ9 := hQ8.grown k9 (by omega) (by intro i e; injection e with e; omega)
  have z9 := k9.size
  go_wp2_with fail
  refine (four_at _ g l 16 (by rw [HN.out]; omega) _ hR9 (by omega)).mono ?_
  rintro e w10 ⟨rfl, hR10, k10⟩
  have hg10 := hg9.grown k10 (by intro e; injection e with e; omega)
  have hm10 := hm9.grown k10 (by intro e; injection e with e; exact hR9.ne hm9 (by decide) e.symm)
  have hQ10 := hQ9.grown k10 (by omega) (by intro i e; injection e with e; omega)
  have z10 := k10.size
  have f10a := hm10.frozen 1
  have f10b := hm10.frozen 3
  have x10a := hm10.cell 1
  have x10b := hm10.cell 3
  simp only [List.getElem?_toArray, List.getElem?_cons_zero, List.getElem?_cons_succ] at x10a x10b
  have hu : NoU8 #[.int .i64 17, .int .u32 0, .int .i64 0, .int .u32 0, .int .i64 0] := by
    intro i x
    match i with
    | 0 | 1 | 2 | 3 | 4 => simp
    | i + 5 => simp
  have hu2 : NoU8 #[.int .i64 17, .int .u32 (rd4 l 12), .int .i64 0, .int .u32 0, .int .i64 0] := by
    intro i x
    match i with
    | 0 | 1 | 2 | 3 | 4 => simp
    | i + 5 => simp
  have hm11 := hm10.set 1 (.int .u32 (rd4 l 12))
  have hR11 := hR10.store hm10 (by decide) (by decide) hu 1 (.int .u32 (rd4 l 12))
  have hm12 := hm11.set 3 (.int .u32 (rd4 l 16))
  have hR12 := hR11.store hm11 (by decide) (by decide) hu2 3 (.int .u32 (rd4 l 16))
  have hg12 := (hg10.far (p := ⟨gm, 1, none⟩) (show w.heap.size ≠ gm by omega) (.int .u32 (rd4 l 12))).far (p := ⟨gm, 3, none⟩) (show w.heap.size ≠ gm by omega) (.int .u32 (rd4 l 16))
  have hQ12 := (hQ10.setCell (p := ⟨gm, 1, none⟩) (show w.heap.size ≤ gm by omega) (.int .u32 (rd4 l 12))).setCell (p := ⟨gm, 3, none⟩) (show w.heap.size ≤ gm by omega) (.int .u32 (rd4 l 16))
  obtain ⟨w12, hw12⟩ : ∃ w', (w10.setCell ⟨gm, 1, none⟩ (.int .u32 (rd4 l 12))).setCell ⟨gm, 3, none⟩ (.int .u32 (rd4 l 16)) = w' := ⟨_, rfl⟩
  rw [hw12] at hm12 hR12 hg12 hQ12
  have z12 : w12.heap.size = w10.heap.size := by rw [← hw12]; simp [World.setCell]
  have Z12 : w10.heap.size ≤ w12.heap.size := by omega
  have HW12 := Lib.hid hw12
  clear hw12 hR11 hm11 z12
  change Bk w12 gm 60 #[.int .i64 17, .int .u32 (rd4 l 12), .int .i64 0, .int .u32 (rd4 l 16), .int .i64 0] at hm12
  have hne : w.heap.size ≠ gm := by omega
  have hne2 : gm ≠ w.heap.size := by omega
  go_wp2_with fail
  rw [HW12.out]
  refine (rerr_any _ g _ _ _ hR12).mono ?_
  rintro e w' ⟨rfl, rfl⟩
  go_wp2_with fail
  refine (raw_at _ g l 20 m (by rw [HN.out]; omega) (by rw [HN.out]; omega) _ hR12 (by omega)).mono ?_
  rintro e w13 ⟨A13, n13, c13, rfl, hO13, hR13, k13⟩
  have hg13 := hg12.grown k13 (by intro e; injection e with e; omega)
  have hm13 := hm12.grown k13 (by intro e; injection e with e; exact hR12.ne hm12 (by decide) e.symm)
  have hQ13 := hQ12.grown k13 (by omega) (by intro i e; injection e with e; omega)
  have z13 := k13.size
  have c0 := hm13.cell 0
  have c1 := hm13.cell 1
  have c2 := hm13.cell 2
  have c3 := hm13.cell 3
  have c4 := hm13.cell 4
  simp only [List.getElem?_toArray, List.getElem?_cons_zero, List.getElem?_cons_succ] at c0 c1 c2 c3 c4
  go_wp2_with fail
  refine (rerr_any _ g _ _ _ hR13).mono ?_
  rintro e w' ⟨rfl, rfl⟩
  go_wp2_with fail
  refine (rleft_any _ g _ _ _ hR13).mono ?_
  rintro e w' ⟨rfl, rfl⟩
  rw [List.length_drop, HN.out, HLF.out]
  go_wp2_with fail
  refine (two_at _ g l (20 + m) (by rw [HN.out]; omega) _ hR13 (by omega)).mono ?_
  rintro e w14 ⟨rfl, hR14, k14⟩
  have hg14 := hg13.grown k14 (by intro e; injection e with e; omega)
  have hm14 := hm13.grown k14 (by intro e; injection e with e; exact hR13.ne hm13 (by decide) e.symm)
  have hQ14 := hQ13.grown k14 (by omega) (by intro i e; injection e with e; omega)
  have z14 := k14.size
  clear c0 c1 c2 c3 c4
  go_wp2_with fail
  refine (two_at _ g l (20 + m + 2) (by rw [HN.out]; omega) _ hR14 (by omega)).mono ?_
  rintro e w15 ⟨rfl, hR15, k15⟩
  have hg15 := hg14.grown k15 (by intro e; injection e with e; omega)
  have hm15 := hm14.grown k15 (by intro e; injection e with e; exact hR14.ne hm14 (by decide) e.symm)
  have hQ15 := hQ14.grown k15 (by omega) (by intro i e; injection e with e; omega)
  have z15 := k15.size
  have c0 := hm15.cell 0
  have c1 := hm15.cell 1
  have c2 := hm15.cell 2
  have c3 := hm15.cell 3
  have c4 := hm15.cell 4
  have f0 := hm15.frozen 0
  have f1 := hm15.frozen 1
  have f2 := hm15.frozen 2
  have f3 := hm15.frozen 3
  have f4 := hm15.frozen 4
  have d0 := hg15.cell 0
  have d1 := hg15.cell 1
  have d2 := hg15.cell 2
  have d3 := hg15.cell 3
  have d4 := hg15.cell 4
  have e0 := hg15.frozen 0
  have e1 := hg15.frozen 1
  have e2 := hg15.frozen 2
  have e3 := hg15.frozen 3
  have e4 := hg15.frozen 4
  simp only [List.getElem?_toArray, List.getElem?_cons_zero, List.getElem?_cons_succ] at c0 c1 c2 c3 c4 d0 d1 d2 d3 d4
  have HQ := Lib.hid ((hQ15.setCell (p := ⟨gm, 2, none⟩) (show w.heap.size ≤ gm by omega) (.int .i64 (rd2 l (20 + m)))).setCell (p := ⟨gm, 4, none⟩) (show w.heap.size ≤ gm by omega) (.int .i64 (rd2 l (20 + m + 2))))
  go_wp2_with fail
  refine bodyPost_ret (v := .tuple #[.agg #[.int .i64 17, .int .u32 (rd4 l 12), .int .i64 (rd2 l (20 + m)), .int .u32 (rd4 l 16), .int .i64 (rd2 l (20 + m + 2))], .int .i64 0]) (by simp [results, Try.results28, go_sem, *]) rfl (flow_ret (by rw [LEM.out, HP.out]) rfl (((((HQ.out.setCell (Nat.le_refl _) _).setCell (Nat.le_refl _) _).setCell (Nat.le_refl _) _).setCell (Nat.le_refl _) _).setCell (Nat.le_refl _) _))
set_option maxRecDepth 100000 in
set_option maxHeartbeats 1500000 in
theorem flow_off6 (A : Option Addr) (n c B : Nat) (l : List Int) (hn : l.length = n) (h20 : 20 ≤ n) (v4 : (at8 l 0 / 16 != 4) = false) (m : Nat) (hmm : at8 l 0 % 16 * 4 - 20 = (m : Int)) (hle : 20 + m ≤ n) (hp : at8 l 9 = 6) (o0 : (rd2 l 6 % 8192 == 0) = false) (hmax : n ≤ 1000000) (hb : Bs l) (w : World) (hr : RB w B A l) (hB : B ≤ w.heap.size) :
    Calls Try.prog 28 #[.slice A n c] w (FlowRet w l) := by
  have HN := Lib.hid hn
  obtain ⟨w0, hw0⟩ : ∃ w0, w.alloc (.cells #[.int .i64 0, .int .u32 0, .int .i64 0, .int .u32 0, .int .i64 0] 60) = w0 := ⟨_, rfl⟩
  have hB0 : Below w.heap.size w w0 := by rw [← hw0]; exact (Below.refl _ _).alloc (Nat.le_refl _) _
  have hg0 : Bk w0 w.heap.size 60 #[.int .i64 0, .int .u32 0, .int .i64 0, .int .u32 0, .int .i64 0] := by rw [← hw0]; exact Bk.new w _ _
  have hr0 : RB w0 B A l := Rw.below hr (hB0.mono hB)
  have HW0 := Lib.hid hw0
  have z0 := hg0.lt
  have a0 := at8_bd hb 0
  have a9 := at8_bd hb 9
  have a6 := rd2_bd hb 6
  have LEM := Lib.hid (flow_6 (l := l) (by rw [hn]; omega) (fun h => h.elim (by simpa using v4) (by omega)) (by rw [hn]; omega) (fun h => by have := h.2.1; simp at o0; omega))
  have HP := Lib.hid hp
  clear hp a9
  obtain ⟨lf, hl0⟩ : ∃ lf, n - (20 + m) = lf := ⟨_, rfl⟩
  have hl1 : 0 ≤ lf := by omega
  have HLF := Lib.hid hl0
  clear hl0
  clear hn hw0
  go_enter Try.func28, Try.ntmps28
  go_wp2_with fail
  rw [HW0.out]
  refine (newreader_any A n c B l HN.out hmax hb _ hr0 (by omega)).mono ?_
  rintro e w1 ⟨g, rfl, hR1, hB1⟩
  have hg1 := hg0.below hB1 z0
  have z1 := hB1.size
  have hge := hR1.ge
  have hQ1 : Below w.heap.size w w1 := hB0.trans (hB1.mono (Nat.le_of_lt z0))
  rw [show l = l.drop 0 from rfl] at hR1
  go_wp2_with fail
  refine (byte_at _ g l 0 (by rw [HN.out]; omega) _ hR1 (by omega)).mono ?_
  rintro e w2 ⟨rfl, hR2, k2⟩
  have hg2 := hg1.grown k2 (by intro e; injection e with e; omega)
  have hQ2 := hQ1.grown k2 (by omega) (by intro i e; injection e with e; omega)
  have z2 := k2.size
  go_wp2_with fail
  refine (raw_at _ g l 1 5 (by rw [HN.out]; omega) (by rw [HN.out]; omega) _ hR2 (by omega)).mono ?_
  rintro e w3 ⟨A3, n3, c3, rfl, hO3, hR3, k3⟩
  have hg3 := hg2.grown k3 (by intro e; injection e with e; omega)
  have hQ3 := hQ2.grown k3 (by omega) (by intro i e; injection e with e; omega)
  have z3 := k3.size
  go_wp2_with fail
  refine (two_at _ g l 6 (by rw [HN.out]; omega) _ hR3 (by omega)).mono ?_
  rintro e w4 ⟨rfl, hR4, k4⟩
  have hg4 := hg3.grown k4 (by intro e; injection e with e; omega)
  have hQ4 := hQ3.grown k4 (by omega) (by intro i e; injection e with e; omega)
  have z4 := k4.size
  go_wp2_with fail
  refine (byte_at _ g l 8 (by rw [HN.out]; omega) _ hR4 (by omega)).mono ?_
  rintro e w5 ⟨rfl, hR5, k5⟩
  have hg5 := hg4.grown k5 (by intro e; injection e with e; omega)
  have hQ5 := hQ4.grown k5 (by omega) (by intro i e; injection e with e; omega)
  have z5 := k5.size
  go_wp2_with fail
  refine (byte_at _ g l 9 (by rw [HN.out]; omega) _ hR5 (by omega)).mono ?_
  rintro e w6 ⟨rfl, hR6, k6⟩
  rw [HP.out]
  have hg6 := hg5.grown k6 (by intro e; injection e with e; omega)
  have hQ6 := hQ5.grown k6 (by omega) (by intro i e; injection e with e; omega)
  have z6 := k6.size
  obtain ⟨w7, hw7⟩ : ∃ w', w6.alloc (.cells #[.int .i64 6, .int .u32 0, .int .i64 0, .int .u32 0, .int .i64 0] 60) = w' := ⟨_, rfl⟩
  have hm7 : Bk w7 w6.heap.size 60 #[.int .i64 6, .int .u32 0, .int .i64 0, .int .u32 0, .int .i64 0] := by rw [← hw7]; exact Bk.new w6 _ _
  have hB7 : Below w6.heap.size w6 w7 := by rw [← hw7]; exact (Below.refl _ _).alloc (Nat.le_refl _) _
  have hR7 := hR6.below hB7
  have hg7 := hg6.below hB7 (by omega)
  have hQ7 := hQ6.trans (hB7.mono (by omega))
  have z7 := hB7.size
  have HW7 := Lib.hid hw7
  obtain ⟨gm, hgm⟩ : ∃ gm, w6.heap.size = gm := ⟨_, rfl⟩
  rw [hgm] at hm7
  have HGM := Lib.hid hgm
  have hmg : w.heap.size < gm := by omega
  clear hw7 hgm
  go_wp2_with fail
  rw [HW7.out, HGM.out]
  refine (two_at _ g l 10 (by rw [HN.out]; omega) _ hR7 (by omega)).mono ?_
  rintro e w8 ⟨rfl, hR8, k8⟩
  have hg8 := hg7.grown k8 (by intro e; injection e with e; omega)
  have hm8 := hm7.grown k8 (by intro e; injection e with e; exact hR7.ne hm7 (by decide) e.symm)
  have hQ8 := hQ7.grown k8 (by omega) (by intro i e; injection e with e; omega)
  have z8 := k8.size
  go_wp2_with fail
  refine (four_at _ g l 12 (by rw [HN.out]; omega) _ hR8 (by omega)).mono ?_
  rintro e w9 ⟨rfl, hR9, k9⟩
  have hg9 := hg8.grown k9 (by intro e; injection e with e; omega)
  have hm9 := hm8.grown k9 (by intro e; injection e with e; exact hR8.ne hm8 (by decide) e.symm)
  have hQ9 := hQ8.grown k9 (by omega) (by intro i e; injection e with e; omega)
  have z9 := k9.size
  go_wp2_with fail
  refine (four_at _ g l 16 (by rw [HN.out]; omega) _ hR9 (by omega)).mono ?_
  rintro e w10 ⟨rfl, hR10, k10⟩
  have hg10 := hg9.grown k10 (by intro e; injection e with e; omega)
  have hm10 := hm9.grown k10 (by intro e; injection e with e; exact hR9.ne hm9 (by decide) e.symm)
  have hQ10 := hQ9.grown k10 (by omega) (by intro i e; injection e with e; omega)
  have z10 := k10.size
  have f10a := hm10.frozen 1
  have f10b := hm10.frozen 3
  have x10a := hm10.cell 1
  have x10b := hm10.cell 3
  simp only [List.getElem?_toArray, List.getElem?_cons_zero, List.getElem?_cons_succ] at x10a x10b
  have hu : NoU8 #[.int .i64 6, .int .u32 0, .int .i64 0, .int .u32 0, .int .i64 0] := by
    intro i x
    match i with
    | 0 | 1 | 2 | 3 | 4 => simp
    | i + 5 => simp
  have hu2 : NoU8 #[.int .i64 6, .int .u32 (rd4 l 12), .int .i64 0, .int .u32 0, .int .i64 0] := by
    intro i x
    match i with
    | 0 | 1 | 2 | 3 | 4 => simp
    | i + 5 => simp
  have hm11 := hm10.set 1 (.int .u32 (rd4 l 12))
  have hR11 := hR10.store hm10 (by decide) (by decide) hu 1 (.int .u32 (rd4 l 12))
  have hm12 := hm11.set 3 (.int .u32 (rd4 l 16))
  have hR12 := hR11.store hm11 (by decide) (by decide) hu2 3 (.int .u32 (rd4 l 16))
  have hg12 := (hg10.far (p := ⟨gm, 1, none⟩) (show w.heap.size ≠ gm by omega) (.int .u32 (rd4 l 12))).far (p := ⟨gm, 3, none⟩) (show w.heap.size ≠ gm by omega) (.int .u32 (rd4 l 16))
  have hQ12 := (hQ10.setCell (p := ⟨gm, 1, none⟩) (show w.heap.size ≤ gm by omega) (.int .u32 (rd4 l 12))).setCell (p := ⟨gm, 3, none⟩) (show w.heap.size ≤ gm by omega) (.int .u32 (rd4 l 16))
  obtain ⟨w12, hw12⟩ : ∃ w', (w10.setCell ⟨gm, 1, none⟩ (.int .u32 (rd4 l 12))).setCell ⟨gm, 3, none⟩ (.int .u32 (rd4 l 16)) = w' := ⟨_, rfl⟩
  rw [hw12] at hm12 hR12 hg12 hQ12
  have z12 : w12.heap.size = w10.heap.size := by rw [← hw12]; simp [World.setCell]
  have Z12 : w10.heap.size ≤ w12.heap.size := by omega
  have HW12 := Lib.hid hw12
  clear hw12 hR11 hm11 z12
  change Bk w12 gm 60 #[.int .i64 6, .int .u32 (rd4 l 12), .int .i64 0, .int .u32 (rd4 l 16), .int .i64 0] at hm12
  have hne : w.heap.size ≠ gm := by omega
  have hne2 : gm ≠ w.heap.size := by omega
  go_wp2_with fail
  rw [HW12.out]
  refine (rerr_any _ g _ _ _ hR12).mono ?_
  rintro e w' ⟨rfl, rfl⟩
  go_wp2_with fail
  refine (raw_at _ g l 20 m (by rw [HN.out]; omega) (by rw [HN.out]; omega) _ hR12 (by omega)).mono ?_
  rintro e w13 ⟨A13, n13, c13, rfl, hO13, hR13, k13⟩
  have hg13 := hg12.grown k13 (by intro e; injection e with e; omega)
  have hm13 := hm12.grown k13 (by intro e; injection e with e; exact hR12.ne hm12 (by decide) e.symm)
  have hQ13 := hQ12.grown k13 (by omega) (by intro i e; injection e with e; omega)
  have z13 := k13.size
  have c0 := hm13.cell 0
  have c1 := hm13.cell 1
  have c2 := hm13.cell 2
  have c3 := hm13.cell 3
  have c4 := hm13.cell 4
  simp only [List.getElem?_toArray, List.getElem?_cons_zero, List.getElem?_cons_succ] at c0 c1 c2 c3 c4
  go_wp2_with fail
  refine (rerr_any _ g _ _ _ hR13).mono ?_
  rintro e w' ⟨rfl, rfl⟩
  have d0 := hg13.cell 0
  have d1 := hg13.cell 1
  have d2 := hg13.cell 2
  have d3 := hg13.cell 3
  have d4 := hg13.cell 4
  have e0 := hg13.frozen 0
  have e1 := hg13.frozen 1
  have e2 := hg13.frozen 2
  have e3 := hg13.frozen 3
  have e4 := hg13.frozen 4
  simp only [List.getElem?_toArray, List.getElem?_cons_zero, List.getElem?_cons_succ] at d0 d1 d2 d3 d4
  have HQ := Lib.hid hQ13
  go_wp2_with fail
  refine bodyPost_ret (v := .tuple #[.agg #[.int .i64 6, .int .u32 (rd4 l 12), .int .i64 0, .int .u32 (rd4 l 16), .int .i64 0], .int .i64 0]) (by simp [results, Try.results28, go_sem, *]) rfl (flow_ret (by rw [LEM.out, HP.out]) rfl (((((HQ.out.setCell (Nat.le_refl _) _).setCell (Nat.le_refl _) _).setCell (Nat.le_refl _) _).setCell (Nat.le_refl _) _).setCell (Nat.le_refl _) _))
set_option maxRecDepth 100000 in
set_option maxHeartbeats 1500000 in
theorem flow_few6 (A : Option Addr) (n c B : Nat) (l : List Int) (hn : l.length = n) (h20 : 20 ≤ n) (v4 : (at8 l 0 / 16 != 4) = false) (m : Nat) (hmm : at8 l 0 % 16 * 4 - 20 = (m : Int)) (hle : 20 + m ≤ n) (hp : at8 l 9 = 6) (o0 : (rd2 l 6 % 8192 == 0) = true) (hlf : n < 20 + m + 4) (hmax : n ≤ 1000000) (hb : Bs l) (w : World) (hr : RB w B A l) (hB : B ≤ w.heap.size) :
    Calls Try.prog 28 #[.slice A n c] w (FlowRet w l) := by
  have HN := Lib.hid hn
  obtain ⟨w0, hw0⟩ : ∃ w0, w.alloc (.cells #[.int .i64 0, .int .u32 0, .int .i64 0, .int .u32 0, .int .i64 0] 60) = w0 := ⟨_, rfl⟩
  have hB0 : Below w.heap.size w w0 := by rw [← hw0]; exact (Below.refl _ _).alloc (Nat.le_refl _) _
  have hg0 : Bk w0 w.heap.size 60 #[.int .i64 0, .int .u32 0, .int .i64 0, .int .u32 0, .int .i64 0] := by rw [← hw0]; exact Bk.new w _ _
  have hr0 : RB w0 B A l := Rw.below hr (hB0.mono hB)
  have HW0 := Lib.hid hw0
  have z0 := hg0.lt
  have a0 := at8_bd hb 0
  have a9 := at8_bd hb 9
  have a6 := rd2_bd hb 6
  have LEM := Lib.hid (flow_6 (l := l) (by rw [hn]; omega) (fun h => h.elim (by simpa using v4) (by omega)) (by rw [hn]; omega) (fun h => by have := h.2.2; rw [hn] at this; omega))
  have HP := Lib.hid hp
  clear hp a9
  obtain ⟨lf, hl0⟩ : ∃ lf, n - (20 + m) = lf := ⟨_, rfl⟩
  have hl1 : lf < 4 := by omega
  have HLF := Lib.hid hl0
  clear hl0
  clear hn hw0
  go_enter Try.func28, Try.ntmps28
  go_wp2_with fail
  rw [HW0.out]
  refine (newreader_any A n c B l HN.out hmax hb _ hr0 (by omega)).mono ?_
  rintro e w1 ⟨g, rfl, hR1, hB1⟩
  have hg1 := hg0.below hB1 z0
  have z1 := hB1.size
  have hge := hR1.ge
  have hQ1 : Below w.heap.size w w1 := hB0.trans (hB1.mono (Nat.le_of_lt z0))
  rw [show l = l.drop 0 from rfl] at hR1
  go_wp2_with fail
  refine (byte_at _ g l 0 (by rw [HN.out]; omega) _ hR1 (by omega)).mono ?_
  rintro e w2 ⟨rfl, hR2, k2⟩
  have hg2 := hg1.grown k2 (by intro e; injection e with e; omega)
  have hQ2 := hQ1.grown k2 (by omega) (by intro i e; injection e with e; omega)
  have z2 := k2.size
  go_wp2_with fail
  refine (raw_at _ g l 1 5 (by rw [HN.out]; omega) (by rw [HN.out]; omega) _ hR2 (by omega)).mono ?_
  rintro e w3 ⟨A3, n3, c3, rfl, hO3, hR3, k3⟩
  have hg3 := hg2.grown k3 (by intro e; injection e with e; omega)
  have hQ3 := hQ2.grown k3 (by omega) (by intro i e; injection e with e; omega)
  have z3 := k3.size
  go_wp2_with fail
  refine (two_at _ g l 6 (by rw [HN.out]; omega) _ hR3 (by omega)).mono ?_
  rintro e w4 ⟨rfl, hR4, k4⟩
  have hg4 := hg3.grown k4 (by intro e; injection e with e; omega)
  have hQ4 := hQ3.grown k4 (by omega) (by intro i e; injection e with e; omega)
  have z4 := k4.size
  go_wp2_with fail
  refine (byte_at _ g l 8 (by rw [HN.out]; omega) _ hR4 (by omega)).mono ?_
  rintro e w5 ⟨rfl, hR5, k5⟩
  have hg5 := hg4.grown k5 (by intro e; injection e with e; omega)
  have hQ5 := hQ4.grown k5 (by omega) (by intro i e; injection e with e; omega)
  have z5 := k5.size
  go_wp2_with fail
  refine (byte_at _ g l 9 (by rw [HN.out]; omega) _ hR5 (by omega)).mono ?_
  rintro e w6 ⟨rfl, hR6, k6⟩
  rw [HP.out]
  have hg6 := hg5.grown k6 (by intro e; injection e with e; omega)
  have hQ6 := hQ5.grown k6 (by omega) (by intro i e; injection e with e; omega)
  have z6 := k6.size
  obtain ⟨w7, hw7⟩ : ∃ w', w6.alloc (.cells #[.int .i64 6, .int .u32 0, .int .i64 0, .int .u32 0, .int .i64 0] 60) = w' := ⟨_, rfl⟩
  have hm7 : Bk w7 w6.heap.size 60 #[.int .i64 6, .int .u32 0, .int .i64 0, .int .u32 0, .int .i64 0] := by rw [← hw7]; exact Bk.new w6 _ _
  have hB7 : Below w6.heap.size w6 w7 := by rw [← hw7]; exact (Below.refl _ _).alloc (Nat.le_refl _) _
  have hR7 := hR6.below hB7
  have hg7 := hg6.below hB7 (by omega)
  have hQ7 := hQ6.trans (hB7.mono (by omega))
  have z7 := hB7.size
  have HW7 := Lib.hid hw7
  obtain ⟨gm, hgm⟩ : ∃ gm, w6.heap.size = gm := ⟨_, rfl⟩
  rw [hgm] at hm7
  have HGM := Lib.hid hgm
  have hmg : w.heap.size < gm := by omega
  clear hw7 hgm
  go_wp2_with fail
  rw [HW7.out, HGM.out]
  refine (two_at _ g l 10 (by rw [HN.out]; omega) _ hR7 (by omega)).mono ?_
  rintro e w8 ⟨rfl, hR8, k8⟩
  have hg8 := hg7.grown k8 (by intro e; injection e with e; omega)
  have hm8 := hm7.grown k8 (by intro e; injection e with e; exact hR7.ne hm7 (by decide) e.symm)
  have hQ8 := hQ7.grown k8 (by omega) (by intro i e; injection e with e; omega)
  have z8 := k8.size
  go_wp2_with fail
  refine (four_at _ g l 12 (by rw [HN.out]; omega) _ hR8 (by omega)).mono ?_
  rintro e w9 ⟨rfl, hR9, k9⟩
  have hg9 := hg8.grown k9 (by intro e; injection e with e; omega)
  have hm9 := hm8.grown k9 (by intro e; injection e with e; exact hR8.ne hm8 (by decide) e.symm)
  have hQ9 := hQ8.grown k9 (by omega) (by intro i e; injection e with e; omega)
  have z9 := k9.size
  go_wp2_with fail
  refine (four_at _ g l 16 (by rw [HN.out]; omega) _ hR9 (by omega)).mono ?_
  rintro e w10 ⟨rfl, hR10, k10⟩
  have hg10 := hg9.grown k10 (by intro e; injection e with e; omega)
  have hm10 := hm9.grown k10 (by intro e; injection e with e; exact hR9.ne hm9 (by decide) e.symm)
  have hQ10 := hQ9.grown k10 (by omega) (by intro i e; injection e with e; omega)
  have z10 := k10.size
  have f10a := hm10.frozen 1
  have f10b := hm10.frozen 3
  have x10a := hm10.cell 1
  have x10b := hm10.cell 3
  simp only [List.getElem?_toArray, List.getElem?_cons_zero, List.getElem?_cons_succ] at x10a x10b
  have hu : NoU8 #[.int .i64 6, .int .u32 0, .int .i64 0, .int .u32 0, .int .i64 0] := by
    intro i x
    match i with
    | 0 | 1 | 2 | 3 | 4 => simp
    | i + 5 => simp
  have hu2 : NoU8 #[.int .i64 6, .int .u32 (rd4 l 12), .int .i64 0, .int .u32 0, .int .i64 0] := by
    intro i x
    match i with
    | 0 | 1 | 2 | 3 | 4 => simp
    | i + 5 => simp
  have hm11 := hm10.set 1 (.int .u32 (rd4 l 12))
  have hR11 := hR10.store hm10 (by decide) (by decide) hu 1 (.int .u32 (rd4 l 12))
  have hm12 := hm11.set 3 (.int .u32 (rd4 l 16))
  have hR12 := hR11.store hm11 (by decide) (by decide) hu2 3 (.int .u32 (rd4 l 16))
  have hg12 := (hg10.far (p := ⟨gm, 1, none⟩) (show w.heap.size ≠ gm by omega) (.int .u32 (rd4 l 12))).far (p := ⟨gm, 3, none⟩) (show w.heap.size ≠ gm by omega) (.int .u32 (rd4 l 16))
  have hQ12 := (hQ10.setCell (p := ⟨gm, 1, none⟩) (show w.heap.size ≤ gm by omega) (.int .u32 (rd4 l 12))).setCell (p := ⟨gm, 3, none⟩) (show w.heap.size ≤ gm by omega) (.int .u32 (rd4 l 16))
  obtain ⟨w12, hw12⟩ : ∃ w', (w10.setCell ⟨gm, 1, none⟩ (.int .u32 (rd4 l 12))).setCell ⟨gm, 3, none⟩ (.int .u32 (rd4 l 16)) = w' := ⟨_, rfl⟩
  rw [hw12] at hm12 hR12 hg12 hQ12
  have z12 : w12.heap.size = w10.heap.size := by rw [← hw12]; simp [World.setCell]
  have Z12 : w10.heap.size ≤ w12.heap.size := by omega
  have HW12 := Lib.hid hw12
  clear hw12 hR11 hm11 z12
  change Bk w12 gm 60 #[.int .i64 6, .int .u32 (rd4 l 12), .int .i64 0, .int .u32 (rd4 l 16), .int .i64 0] at hm12
  have hne : w.heap.size ≠ gm := by omega
  have hne2 : gm ≠ w.heap.size := by omega
  go_wp2_with fail
  rw [HW12.out]
  refine (rerr_any _ g _ _ _ hR12).mono ?_
  rintro e w' ⟨rfl, rfl⟩
  go_wp2_with fail
  refine (raw_at _ g l 20 m (by rw [HN.out]; omega) (by rw [HN.out]; omega) _ hR12 (by omega)).mono ?_
  rintro e w13 ⟨A13, n13, c13, rfl, hO13, hR13, k13⟩
  have hg13 := hg12.grown k13 (by intro e; injection e with e; omega)
  have hm13 := hm12.grown k13 (by intro e; injection e with e; exact hR12.ne hm12 (by decide) e.symm)
  have hQ13 := hQ12.grown k13 (by omega) (by intro i e; injection e with e; omega)
  have z13 := k13.size
  have c0 := hm13.cell 0
  have c1 := hm13.cell 1
  have c2 := hm13.cell 2
  have c3 := hm13.cell 3
  have c4 := hm13.cell 4
  simp only [List.getElem?_toArray, List.getElem?_cons_zero, List.getElem?_cons_succ] at c0 c1 c2 c3 c4
  go_wp2_with fail
  refine (rerr_any _ g _ _ _ hR13).mono ?_
  rintro e w' ⟨rfl, rfl⟩
  go_wp2_with fail
  refine (rleft_any _ g _ _ _ hR13).mono ?_
  rintro e w' ⟨rfl, rfl⟩
  rw [List.length_drop, HN.out, HLF.out]
  have d0 := hg13.cell 0
  have d1 := hg13.cell 1
  have d2 := hg13.cell 2
  have d3 := hg13.cell 3
  have d4 := hg13.cell 4
  have e0 := hg13.frozen 0
  have e1 := hg13.frozen 1
  have e2 := hg13.frozen 2
  have e3 := hg13.frozen 3
  have e4 := hg13.frozen 4
  simp only [List.getElem?_toArray, List.getElem?_cons_zero, List.getElem?_cons_succ] at d0 d1 d2 d3 d4
  have HQ := Lib.hid hQ13
  go_wp2_with fail
  refine bodyPost_ret (v := .tuple #[.agg #[.int .i64 6, .int .u32 (rd4 l 12), .int .i64 0, .int .u32 (rd4 l 16), .int .i64 0], .int .i64 0]) (by simp [results, Try.results28, go_sem, *]) rfl (flow_ret (by rw [LEM.out, HP.out]) rfl (((((HQ.out.setCell (Nat.le_refl _) _).setCell (Nat.le_refl _) _).setCell (Nat.le_refl _) _).setCell (Nat.le_refl _) _).setCell (Nat.le_refl _) _))
set_option maxRecDepth 100000 in
set_option maxHeartbeats 1500000 in
theorem flow_ports6 (A : Option Addr) (n c B : Nat) (l : List Int) (hn : l.length = n) (h20 : 20 ≤ n) (v4 : (at8 l 0 / 16 != 4) = false) (m : Nat) (hmm : at8 l 0 % 16 * 4 - 20 = (m : Int)) (hle : 20 + m ≤ n) (hp : at8 l 9 = 6) (o0 : (rd2 l 6 % 8192 == 0) = true) (hlf : 20 + m + 4 ≤ n) (hmax : n ≤ 1000000) (hb : Bs l) (w : World) (hr : RB w B A l) (hB : B ≤ w.heap.size) :
    Calls Try.prog 28 #[.slice A n c] w (FlowRet w l) := by
  have HN := Lib.hid hn
  obtain ⟨w0, hw0⟩ : ∃ w0, w.alloc (.cells #[.int .i64 0, .int .u32 0, .int .i64 0, .int .u32 0, .int .i64 0] 60) = w0 := ⟨_, rfl⟩
  have hB0 : Below w.heap.size w w0 := by rw [← hw0]; exact (Below.refl _ _).alloc (Nat.le_refl _) _
  have hg0 : Bk w0 w.heap.size 60 #[.int .i64 0, .int .u32 0, .int .i64 0, .int .u32 0, .int .i64 0] := by rw [← hw0]; exact Bk.new w _ _
  have hr0 : RB w0 B A l := Rw.below hr (hB0.mono hB)
  have HW0 := Lib.hid hw0
  have z0 := hg0.lt
  have a0 := at8_bd hb 0
  have a9 := at8_bd hb 9
  have a6 := rd2_bd hb 6
  have LEM := Lib.hid (flow_5 (l := l) (by rw [hn]; omega) (fun h => h.elim (by simpa using v4) (by omega)) (by rw [hn]; omega) ⟨by omega, by simpa using o0, by rw [hn]; omega⟩ hmm)
  have HP := Lib.hid hp
  clear hp a9
  obtain ⟨lf, hl0⟩ : ∃ lf, n - (20 + m) = lf := ⟨_, rfl⟩
  have hl1 : 4 ≤ lf := by omega
  have HLF := Lib.hid hl0
  clear hl0
  clear hn hw0
  go_enter Try.func28, Try.ntmps28
  go_wp2_with fail
  rw [HW0.out]
  refine (newreader_any A n c B l HN.out hmax hb _ hr0 (by omega)).mono ?_
  rintro e w1 ⟨g, rfl, hR1, hB1⟩
  have hg1 := hg0.below hB1 z0
  have z1 := hB1.size
  have hge := hR1.ge
  have hQ1 : Below w.heap.size w w1 := hB0.trans (hB1.mono (Nat.le_of_lt z0))
  rw [show l = l.drop 0 from rfl] at hR1
  go_wp2_with fail
  refine (byte_at _ g l 0 (by rw [HN.out]; omega) _ hR1 (by omega)).mono ?_
  rintro e w2 ⟨rfl, hR2, k2⟩
  have hg2 := hg1.grown k2 (by intro e; injection e with e; omega)
  have hQ2 := hQ1.grown k2 (by omega) (by intro i e; injection e with e; omega)
  have z2 := k2.size
  go_wp2_with fail
  refine (raw_at _ g l 1 5 (by rw [HN.out]; omega) (by rw [HN.out]; omega) _ hR2 (by omega)).mono ?_
  rintro e w3 ⟨A3, n3, c3, rfl, hO3, hR3, k3⟩
  have hg3 := hg2.grown k3 (by intro e; injection e with e; omega)
  have hQ3 := hQ2.grown k3 (by omega) (by intro i e; injection e with e; omega)
  have z3 := k3.size
  go_wp2_with fail
  refine (two_at _ g l 6 (by rw [HN.out]; omega) _ hR3 (by omega)).mono ?_
  rintro e w4 ⟨rfl, hR4, k4⟩
  have hg4 := hg3.grown k4 (by intro e; injection e with e; omega)
  have hQ4 := hQ3.grown k4 (by omega) (by intro i e; injection e with e; omega)
  have z4 := k4.size
  go_wp2_with fail
  refine (byte_at _ g l 8 (by rw [HN.out]; omega) _ hR4 (by omega)).mono ?_
  rintro e w5 ⟨rfl, hR5, k5⟩
  have hg5 := hg4.grown k5 (by intro e; injection e with e; omega)
  have hQ5 := hQ4.grown k5 (by omega) (by intro i e; injection e with e; omega)
  have z5 := k5.size
  go_wp2_with fail
  refine (byte_at _ g l 9 (by rw [HN.out]; omega) _ hR5 (by omega)).mono ?_
  rintro e w6 ⟨rfl, hR6, k6⟩
  rw [HP.out]
  have hg6 := hg5.grown k6 (by intro e; injection e with e; omega)
  have hQ6 := hQ5.grown k6 (by omega) (by intro i e; injection e with e; omega)
  have z6 := k6.size
  obtain ⟨w7, hw7⟩ : ∃ w', w6.alloc (.cells #[.int .i64 6, .int .u32 0, .int .i64 0, .int .u32 0, .int .i64 0] 60) = w' := ⟨_, rfl⟩
  have hm7 : Bk w7 w6.heap.size 60 #[.int .i64 6, .int .u32 0, .int .i64 0, .int .u32 0, .int .i64 0] := by rw [← hw7]; exact Bk.new w6 _ _
  have hB7 : Below w6.heap.size w6 w7 := by rw [← hw7]; exact (Below.refl _ _).alloc (Nat.le_refl _) _
  have hR7 := hR6.below hB7
  have hg7 := hg6.below hB7 (by omega)
  have hQ7 := hQ6.trans (hB7.mono (by omega))
  have z7 := hB7.size
  have HW7 := Lib.hid hw7
  obtain ⟨gm, hgm⟩ : ∃ gm, w6.heap.size = gm := ⟨_, rfl⟩
  rw [hgm] at hm7
  have HGM := Lib.hid hgm
  have hmg : w.heap.size < gm := by omega
  clear hw7 hgm
  go_wp2_with fail
  rw [HW7.out, HGM.out]
  refine (two_at _ g l 10 (by rw [HN.out]; omega) _ hR7 (by omega)).mono ?_
  rintro e w8 ⟨rfl, hR8, k8⟩
  have hg8 := hg7.grown k8 (by intro e; injection e with e; omega)
  have hm8 := hm7.grown k8 (by intro e; injection e with e; exact hR7.ne hm7 (by decide) e.symm)
  have hQ8 := hQ7.grown k8 (by omega) (by intro i e; injection e with e; omega)
  have z8 := k8.size
  go_wp2_with fail
  refine (four_at _ g l 12 (by rw [HN.out]; omega) _ hR8 (by omega)).mono ?_
  rintro e w9 ⟨rfl, hR9, k9⟩
  have hg9 := hg8.grown k9 (by intro e; injection e with e; omega)
  have hm9 := hm8.grown k9 (by intro e; injection e with e; exact hR8.ne hm8 (by decide) e.symm)
  have hQ9 := hQ8.grown k9 (by omega) (by intro i e; injection e with e; omega)
  have z9 := k9.size
  go_wp2_with fail
  refine (four_at _ g l 16 (by rw [HN.out]; omega) _ hR9 (by omega)).mono ?_
  rintro e w10 ⟨rfl, hR10, k10⟩
  have hg10 := hg9.grown k10 (by intro e; injection e with e; omega)
  have hm10 := hm9.grown k10 (by intro e; injection e with e; exact hR9.ne hm9 (by decide) e.symm)
  have hQ10 := hQ9.grown k10 (by omega) (by intro i e; injection e with e; omega)
  have z10 := k10.size
  have f10a := hm10.frozen 1
  have f10b := hm10.frozen 3
  have x10a := hm10.cell 1
  have x10b := hm10.cell 3
  simp only [List.getElem?_toArray, List.getElem?_cons_zero, List.getElem?_cons_succ] at x10a x10b
  have hu : NoU8 #[.int .i64 6, .int .u32 0, .int .i64 0, .int .u32 0, .int .i64 0] := by
    intro i x
    match i with
    | 0 | 1 | 2 | 3 | 4 => simp
    | i + 5 => simp
  have hu2 : NoU8 #[.int .i64 6, .int .u32 (rd4 l 12), .int .i64 0, .int .u32 0, .int .i64 0] := by
    intro i x
    match i with
    | 0 | 1 | 2 | 3 | 4 => simp
    | i + 5 => simp
  have hm11 := hm10.set 1 (.int .u32 (rd4 l 12))
  have hR11 := hR10.store hm10 (by decide) (by decide) hu 1 (.int .u32 (rd4 l 12))
  have hm12 := hm11.set 3 (.int .u32 (rd4 l 16))
  have hR12 := hR11.store hm11 (by decide) (by decide) hu2 3 (.int .u32 (rd4 l 16))
  have hg12 := (hg10.far (p := ⟨gm, 1, none⟩) (show w.heap.size ≠ gm by omega) (.int .u32 (rd4 l 12))).far (p := ⟨gm, 3, none⟩) (show w.heap.size ≠ gm by omega) (.int .u32 (rd4 l 16))
  have hQ12 := (hQ10.setCell (p := ⟨gm, 1, none⟩) (show w.heap.size ≤ gm by omega) (.int .u32 (rd4 l 12))).setCell (p := ⟨gm, 3, none⟩) (show w.heap.size ≤ gm by omega) (.int .u32 (rd4 l 16))
  obtain ⟨w12, hw12⟩ : ∃ w', (w10.setCell ⟨gm, 1, none⟩ (.int .u32 (rd4 l 12))).setCell ⟨gm, 3, none⟩ (.int .u32 (rd4 l 16)) = w' := ⟨_, rfl⟩
  rw [hw12] at hm12 hR12 hg12 hQ12
  have z12 : w12.heap.size = w10.heap.size := by rw [← hw12]; simp [World.setCell]
  have Z12 : w10.heap.size ≤ w12.heap.size := by omega
  have HW12 := Lib.hid hw12
  clear hw12 hR11 hm11 z12
  change Bk w12 gm 60 #[.int .i64 6, .int .u32 (rd4 l 12), .int .i64 0, .int .u32 (rd4 l 16), .int .i64 0] at hm12
  have hne : w.heap.size ≠ gm := by omega
  have hne2 : gm ≠ w.heap.size := by omega
  go_wp2_with fail
  rw [HW12.out]
  refine (rerr_any _ g _ _ _ hR12).mono ?_
  rintro e w' ⟨rfl, rfl⟩
  go_wp2_with fail
  refine (raw_at _ g l 20 m (by rw [HN.out]; omega) (by rw [HN.out]; omega) _ hR12 (by omega)).mono ?_
  rintro e w13 ⟨A13, n13, c13, rfl, hO13, hR13, k13⟩
  have hg13 := hg12.grown k13 (by intro e; injection e with e; omega)
  have hm13 := hm12.grown k13 (by intro e; injection e with e; exact hR12.ne hm12 (by decide) e.symm)
  have hQ13 := hQ12.grown k13 (by omega) (by intro i e; injection e with e; omega)
  have z13 := k13.size
  have c0 := hm13.cell 0
  have c1 := hm13.cell 1
  have c2 := hm13.cell 2
  have c3 := hm13.cell 3
  have c4 := hm13.cell 4
  simp only [List.getElem?_toArray, List.getElem?_cons_zero, List.getElem?_cons_succ] at c0 c1 c2 c3 c4
  go_wp2_with fail
  refine (rerr_any _ g _ _ _ hR13).mono ?_
  rintro e w' ⟨rfl, rfl⟩
  go_wp2_with fail
  refine (rleft_any _ g _ _ _ hR13).mono ?_
  rintro e w' ⟨rfl, rfl⟩
  rw [List.length_drop, HN.out, HLF.out]
  go_wp2_with fail
  refine (two_at _ g l (20 + m) (by rw [HN.out]; omega) _ hR13 (by omega)).mono ?_
  rintro e w14 ⟨rfl, hR14, k14⟩
  have hg14 := hg13.grown k14 (by intro e; injection e with e; omega)
  have hm14 := hm13.grown k14 (by intro e; injection e with e; exact hR13.ne hm13 (by decide) e.symm)
  have hQ14 := hQ13.grown k14 (by omega) (by intro i e; injection e with e; omega)
  have z14 := k14.size
  clear c0 c1 c2 c3 c4
  go_wp2_with fail
  refine (two_at _ g l (20 + m + 2) (by rw [HN.out]; omega) _ hR14 (by omega)).mono ?_
  rintro e w15 ⟨rfl, hR15, k15⟩
  have hg15 := hg14.grown k15 (by intro e; injection e with e; omega)
  have hm15 := hm14.grown k15 (by intro e; injection e with e; exact hR14.ne hm14 (by decide) e.symm)
  have hQ15 := hQ14.grown k15 (by omega) (by intro i e; injection e with e; omega)
  have z15 := k15.size
  have c0 := hm15.cell 0
  have c1 := hm15.cell 1
  have c2 := hm15.cell 2
  have c3 := hm15.cell 3
  have c4 := hm15.cell 4
  have f0 := hm15.frozen 0
  have f1 := hm15.frozen 1
  have f2 := hm15.frozen 2
  have f3 := hm15.frozen 3
  have f4 := hm15.frozen 4
  have d0 := hg15.cell 0
  have d1 := hg15.cell 1
  have d2 := hg15.cell 2
  have d3 := hg15.cell 3
  have d4 := hg15.cell 4
  have e0 := hg15.frozen 0
  have e1 := hg15.frozen 1
  have e2 := hg15.frozen 2
  have e3 := hg15.frozen 3
  have e4 := hg15.frozen 4
  simp only [List.getElem?_toArray, List.getElem?_cons_zero, List.getElem?_cons_succ] at c0 c1 c2 c3 c4 d0 d1 d2 d3 d4
  have HQ := Lib.hid ((hQ15.setCell (p := ⟨gm, 2, none⟩) (show w.heap.size ≤ gm by omega) (.int .i64 (rd2 l (20 + m)))).setCell (p := ⟨gm, 4, none⟩) (show w.heap.size ≤ gm by omega) (.int .i64 (rd2 l (20 + m + 2))))
  go_wp2_with fail
  refine bodyPost_ret (v := .tuple #[.agg #[.int .i64 6, .int .u32 (rd4 l 12), .int .i64 (rd2 l (20 + m)), .int .u32 (rd4 l 16), .int .i64 (rd2 l (20 + m + 2))], .int .i64 0]) (by simp [results, Try.results28, go_sem, *]) rfl (flow_ret (by rw [LEM.out, HP.out]) rfl (((((HQ.out.setCell (Nat.le_refl _) _).setCell (Nat.le_refl _) _).setCell (Nat.le_refl _) _).setCell (Nat.le_refl _) _).setCell (Nat.le_refl _) _))

theorem flow_any (A : Option Addr) (n c B : Nat) (l : List Int) (hn : l.length = n) (hmax : n ≤ 1000000) (hb : Bs l) (w : World) (hr : RB w B A l) (hB : B ≤ w.heap.size) :
    Calls Try.prog 28 #[.slice A n c] w (FlowRet w l) := by
  have a0 := at8_bd hb 0
  rcases Nat.lt_or_ge n 20 with h20 | h20
  · exact flow_short A n c B l hn h20 hmax hb w hr hB
  by_cases v4 : (at8 l 0 / 16 != 4) = true
  · exact flow_form1 A n c B l hn h20 v4 hmax hb w hr hB
  have v4 : (at8 l 0 / 16 != 4) = false := by simpa using v4
  by_cases hx : at8 l 0 % 16 * 4 < 20
  · exact flow_form2 A n c B l hn h20 v4 hx hmax hb w hr hB
  obtain ⟨m, hmm⟩ : ∃ m : Nat, at8 l 0 % 16 * 4 - 20 = m := ⟨(at8 l 0 % 16 * 4 - 20).toNat, by omega⟩
  rcases Nat.lt_or_ge n (20 + m) with hl | hl
  · exact flow_long A n c B l hn h20 v4 m hmm hl hmax hb w hr hB
  by_cases p17 : at8 l 9 = 17
  · by_cases o0 : (rd2 l 6 % 8192 == 0) = true
    · rcases Nat.lt_or_ge n (20 + m + 4) with hf | hf
      · exact flow_few17 A n c B l hn h20 v4 m hmm hl p17 o0 hf hmax hb w hr hB
      · exact flow_ports17 A n c B l hn h20 v4 m hmm hl p17 o0 hf hmax hb w hr hB
    · exact flow_off17 A n c B l hn h20 v4 m hmm hl p17 (by simpa using o0) hmax hb w hr hB
  by_cases p6 : at8 l 9 = 6
  · by_cases o0 : (rd2 l 6 % 8192 == 0) = true
    · rcases Nat.lt_or_ge n (20 + m + 4) with hf | hf
      · exact flow_few6 A n c B l hn h20 v4 m hmm hl p6 o0 hf hmax hb w hr hB
      · exact flow_ports6 A n c B l hn h20 v4 m hmm hl p6 o0 hf hmax hb w hr hB
    · exact flow_off6 A n c B l hn h20 v4 m hmm hl p6 (by simpa using o0) hmax hb w hr hB
  exact flow_none A n c B l hn h20 v4 m hmm hl p17 p6 hmax hb w hr hB
end Go.Proofs.Ytlnodkfngomlmaa
