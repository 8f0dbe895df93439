/- Proved: whose flow some bytes are, by icmp.Flow, by its walk. Conditions: the bytes lie in memory. -/
import Derived.Test.YtlnodkfngomlmaaDec
import Derived.Test.YtlnodkfngomlmaaRdS
set_option linter.unusedVariables false
namespace Go.Proofs.Ytlnodkfngomlmaa
open Go.RowKit
attribute [local go_sem] and_i64_8191 and_i64_15

/-- The flow of some bytes: its error, its protocol, from, from whose port, to, to whose port. -/
def flowF (l : List Int) : Int × Int × Int × Int × Int × Int :=
  if l.length < 20 then (2, 0, 0, 0, 0, 0)
  else if at8 l 0 / 16 ≠ 4 ∨ at8 l 0 % 16 * 4 < 20 then (3, 0, 0, 0, 0, 0)
  else if (l.length : Int) < at8 l 0 % 16 * 4 then (2, 0, 0, 0, 0, 0)
  else if (at8 l 9 = 6 ∨ at8 l 9 = 17) ∧ rd2 l 6 % 8192 = 0 ∧ at8 l 0 % 16 * 4 + 4 ≤ l.length then (0, at8 l 9, rd4 l 12, rd2 l (at8 l 0 % 16 * 4).toNat, rd4 l 16, rd2 l ((at8 l 0 % 16 * 4).toNat + 2))
  else (0, at8 l 9, rd4 l 12, 0, rd4 l 16, 0)
def flC (x : Int × Int × Int × Int × Int × Int) : Array Value := #[.int .i64 x.2.1, .int .u32 x.2.2.1, .int .i64 x.2.2.2.1, .int .u32 x.2.2.2.2.1, .int .i64 x.2.2.2.2.2]
/-- What is answered of the bytes. -/
def FlowRet (w : World) (l : List Int) (e : Ending) (w' : World) : Prop := e = .returned (.tuple #[.agg (flC (flowF l)), .int .i64 (flowF l).1]) ∧ Below w.heap.size w w'
theorem flow_ret {w : World} {l : List Int} {er p f fp t tp : Int} (h : flowF l = (er, p, f, fp, t, tp)) {e : Ending} {w' : World} (he : e = .returned (.tuple #[.agg #[.int .i64 p, .int .u32 f, .int .i64 fp, .int .u32 t, .int .i64 tp], .int .i64 er])) (hB : Below w.heap.size w w') : FlowRet w l e w' := by
  unfold FlowRet flC; rw [h]; exact ⟨he, hB⟩
theorem flow_2 {l : List Int} (h : l.length < 20) : flowF l = (2, 0, 0, 0, 0, 0) := if_pos h
theorem flow_3 {l : List Int} (h : ¬ l.length < 20) (h2 : at8 l 0 / 16 ≠ 4 ∨ at8 l 0 % 16 * 4 < 20) : flowF l = (3, 0, 0, 0, 0, 0) := by unfold flowF; rw [if_neg h, if_pos h2]
theorem flow_4 {l : List Int} (h : ¬ l.length < 20) (h2 : ¬ (at8 l 0 / 16 ≠ 4 ∨ at8 l 0 % 16 * 4 < 20)) (h3 : (l.length : Int) < at8 l 0 % 16 * 4) : flowF l = (2, 0, 0, 0, 0, 0) := by unfold flowF; rw [if_neg h, if_neg h2, if_pos h3]
theorem flow_5 {l : List Int} (h : ¬ l.length < 20) (h2 : ¬ (at8 l 0 / 16 ≠ 4 ∨ at8 l 0 % 16 * 4 < 20)) (h3 : ¬ (l.length : Int) < at8 l 0 % 16 * 4) (h4 : (at8 l 9 = 6 ∨ at8 l 9 = 17) ∧ rd2 l 6 % 8192 = 0 ∧ at8 l 0 % 16 * 4 + 4 ≤ l.length) {m : Nat} (hm : at8 l 0 % 16 * 4 - 20 = m) :
    flowF l = (0, at8 l 9, rd4 l 12, rd2 l (20 + m), rd4 l 16, rd2 l (20 + m + 2)) := by
  unfold flowF; rw [if_neg h, if_neg h2, if_neg h3, if_pos h4, show (at8 l 0 % 16 * 4).toNat = 20 + m from by omega]
theorem flow_6 {l : List Int} (h : ¬ l.length < 20) (h2 : ¬ (at8 l 0 / 16 ≠ 4 ∨ at8 l 0 % 16 * 4 < 20)) (h3 : ¬ (l.length : Int) < at8 l 0 % 16 * 4) (h4 : ¬ ((at8 l 9 = 6 ∨ at8 l 9 = 17) ∧ rd2 l 6 % 8192 = 0 ∧ at8 l 0 % 16 * 4 + 4 ≤ l.length)) :
    flowF l = (0, at8 l 9, rd4 l 12, 0, rd4 l 16, 0) := by
  unfold flowF; rw [if_neg h, if_neg h2, if_neg h3, if_neg h4]

set_option maxRecDepth 100000 in
set_option maxHeartbeats 1500000 in
theorem flow_short (A : Option Addr) (n c B : Nat) (l : List Int) (hn : l.length = n) (h20 : n < 20) (hmax : n ≤ 1000000) (hb : Bs l) (w : World) (hr : RB w B A l) (hB : B ≤ w.heap.size) :
    Calls Try.prog 28 #[.slice A n c] w (FlowRet w l) := by
  have HN := Lib.hid hn
  obtain ⟨w0, hw0⟩ : ∃ w0, w.alloc (.cells #[.int .i64 0, .int .u32 0, .int .i64 0, .int .u32 0, .int .i64 0] 60) = w0 := ⟨_, rfl⟩
  have hB0 : Below w.heap.size w w0 := by rw [← hw0]; exact (Below.refl _ _).alloc (Nat.le_refl _) _
  have hg0 : Bk w0 w.heap.size 60 #[.int .i64 0, .int .u32 0, .int .i64 0, .int .u32 0, .int .i64 0] := by rw [← hw0]; exact Bk.new w _ _
  have hr0 : RB w0 B A l := Rw.below hr (hB0.mono hB)
  have HW0 := Lib.hid hw0
  have z0 := hg0.lt
  clear hn hw0
  go_enter Try.func28, Try.ntmps28
  go_wp2_with fail
  rw [HW0.out]
  refine (newreader_any A n c B l HN.out hmax hb _ hr0 (by omega)).mono ?_
  rintro e w1 ⟨g, rfl, hR1, hB1⟩
  have hg1 := hg0.below hB1 z0
  have z1 := hB1.size
  have hge := hR1.ge
  have hQ1 : Below w.heap.size w w1 := hB0.trans (hB1.mono (Nat.le_of_lt z0))
  have s1 := RdS.start l
  rw [HN.out] at s1
  go_wp2_with fail
  refine (byte_s _ g n _ _ _ s1 _ hR1 (by omega)).mono ?_
  rintro e w2 ⟨x2, r2, er2, rfl, xa2, xb2, s2, hR2, k2⟩
  have hg2 := hg1.grown k2 (by intro e; injection e with e; omega)
  have hQ2 := hQ1.grown k2 (by omega) (by intro i e; injection e with e; omega)
  have z2 := k2.size
  go_wp2_with fail
  refine (raw_s _ g n _ 5 _ _ s2 (by have := s2.len; omega) _ hR2 (by omega)).mono ?_
  rintro e w3 ⟨A3, n3, c3, x3, r3, er3, rfl, hO3, hn3, s3, hR3, k3⟩
  have hg3 := hg2.grown k3 (by intro e; injection e with e; omega)
  have hQ3 := hQ2.grown k3 (by omega) (by intro i e; injection e with e; omega)
  have z3 := k3.size
  go_wp2_with fail
  refine (two_s _ g n _ _ _ s3 _ hR3 (by omega)).mono ?_
  rintro e w4 ⟨x4, r4, er4, rfl, xa4, xb4, s4, hR4, k4⟩
  have hg4 := hg3.grown k4 (by intro e; injection e with e; omega)
  have hQ4 := hQ3.grown k4 (by omega) (by intro i e; injection e with e; omega)
  have z4 := k4.size
  go_wp2_with fail
  refine (byte_s _ g n _ _ _ s4 _ hR4 (by omega)).mono ?_
  rintro e w5 ⟨x5, r5, er5, rfl, xa5, xb5, s5, hR5, k5⟩
  have hg5 := hg4.grown k5 (by intro e; injection e with e; omega)
  have hQ5 := hQ4.grown k5 (by omega) (by intro i e; injection e with e; omega)
  have z5 := k5.size
  go_wp2_with fail
  refine (byte_s _ g n _ _ _ s5 _ hR5 (by omega)).mono ?_
  rintro e w6 ⟨x6, r6, er6, rfl, xa6, xb6, s6, hR6, k6⟩
  have hg6 := hg5.grown k6 (by intro e; injection e with e; omega)
  have hQ6 := hQ5.grown k6 (by omega) (by intro i e; injection e with e; omega)
  have z6 := k6.size
  obtain ⟨w7, hw7⟩ : ∃ w', w6.alloc (.cells #[.int .i64 x6, .int .u32 0, .int .i64 0, .int .u32 0, .int .i64 0] 60) = w' := ⟨_, rfl⟩
  have hm7 : Bk w7 w6.heap.size 60 #[.int .i64 x6, .int .u32 0, .int .i64 0, .int .u32 0, .int .i64 0] := by rw [← hw7]; exact Bk.new w6 _ _
  have hB7 : Below w6.heap.size w6 w7 := by rw [← hw7]; exact (Below.refl _ _).alloc (Nat.le_refl _) _
  have hR7 := hR6.below hB7
  have hg7 := hg6.below hB7 (by omega)
  have hQ7 := hQ6.trans (hB7.mono (by omega))
  have z7 := hB7.size
  have HW7 := Lib.hid hw7
  obtain ⟨gm, hgm⟩ : ∃ gm, w6.heap.size = gm := ⟨_, rfl⟩
  rw [hgm] at hm7
  have HGM := Lib.hid hgm
  have hmg : w.heap.size < gm := by omega
  clear hw7 hgm
  go_wp2_with fail
  rw [HW7.out, HGM.out]
  refine (two_s _ g n _ _ _ s6 _ hR7 (by omega)).mono ?_
  rintro e w8 ⟨x8, r8, er8, rfl, xa8, xb8, s8, hR8, k8⟩
  have hg8 := hg7.grown k8 (by intro e; injection e with e; omega)
  have hm8 := hm7.grown k8 (by intro e; injection e with e; exact hR7.ne hm7 (by decide) e.symm)
  have hQ8 := hQ7.grown k8 (by omega) (by intro i e; injection e with e; omega)
  have z8 := k8.size
  go_wp2_with fail
  refine (four_s _ g n _ _ _ s8 _ hR8 (by omega)).mono ?_
  rintro e w9 ⟨x9, r9, er9, rfl, xa9, xb9, s9, hR9, k9⟩
  have hg9 := hg8.grown k9 (by intro e; injection e with e; omega)
  have hm9 := hm8.grown k9 (by intro e; injection e with e; exact hR8.ne hm8 (by decide) e.symm)
  have hQ9 := hQ8.grown k9 (by omega) (by intro i e; injection e with e; omega)
  have z9 := k9.size
  go_wp2_with fail
  refine (four_s _ g n _ _ _ s9 _ hR9 (by omega)).mono ?_
  rintro e w10 ⟨x10, r10, er10, rfl, xa10, xb10, s10, hR10, k10⟩
  have hg10 := hg9.grown k10 (by intro e; injection e with e; omega)
  have hm10 := hm9.grown k10 (by intro e; injection e with e; exact hR9.ne hm9 (by decide) e.symm)
  have hQ10 := hQ9.grown k10 (by omega) (by intro i e; injection e with e; omega)
  have z10 := k10.size
  have f10a := hm10.frozen 1
  have f10b := hm10.frozen 3
  have x10a := hm10.cell 1
  have x10b := hm10.cell 3
  simp only [List.getElem?_toArray, List.getElem?_cons_zero, List.getElem?_cons_succ] at x10a x10b
  have hu : NoU8 #[.int .i64 x6, .int .u32 0, .int .i64 0, .int .u32 0, .int .i64 0] := by
    intro i x
    match i with
    | 0 | 1 | 2 | 3 | 4 => simp
    | i + 5 => simp
  have hu2 : NoU8 #[.int .i64 x6, .int .u32 x9, .int .i64 0, .int .u32 0, .int .i64 0] := by
    intro i x
    match i with
    | 0 | 1 | 2 | 3 | 4 => simp
    | i + 5 => simp
  have hm11 := hm10.set 1 (.int .u32 x9)
  have hR11 := hR10.store hm10 (by decide) (by decide) hu 1 (.int .u32 x9)
  have hm12 := hm11.set 3 (.int .u32 x10)
  have hR12 := hR11.store hm11 (by decide) (by decide) hu2 3 (.int .u32 x10)
  obtain rfl := s10.over (by omega)
  have hg12 := (hg10.far (p := ⟨gm, 1, none⟩) (show w.heap.size ≠ gm by omega) (.int .u32 x9)).far (p := ⟨gm, 3, none⟩) (show w.heap.size ≠ gm by omega) (.int .u32 x10)
  have hQ12 := (hQ10.setCell (p := ⟨gm, 1, none⟩) (show w.heap.size ≤ gm by omega) (.int .u32 x9)).setCell (p := ⟨gm, 3, none⟩) (show w.heap.size ≤ gm by omega) (.int .u32 x10)
  have HQ := Lib.hid hQ12
  have d0 := hg12.cell 0
  have d1 := hg12.cell 1
  have d2 := hg12.cell 2
  have d3 := hg12.cell 3
  have d4 := hg12.cell 4
  have e0 := hg12.frozen 0
  have e1 := hg12.frozen 1
  have e2 := hg12.frozen 2
  have e3 := hg12.frozen 3
  have e4 := hg12.frozen 4
  simp only [List.getElem?_toArray, List.getElem?_cons_zero, List.getElem?_cons_succ] at d0 d1 d2 d3 d4
  have hne : w.heap.size ≠ gm := by omega
  have hne2 : gm ≠ w.heap.size := by omega
  go_wp2_with fail
  refine (rerr_any _ g _ _ _ hR12).mono ?_
  rintro e w' ⟨rfl, rfl⟩
  go_wp2_with fail
  refine (rerr_any _ g _ _ _ hR12).mono ?_
  rintro e w' ⟨rfl, rfl⟩
  go_wp2_with fail
  refine bodyPost_ret (v := .tuple #[.agg #[.int .i64 0, .int .u32 0, .int .i64 0, .int .u32 0, .int .i64 0], .int .i64 2]) (by simp [results, Try.results28, go_sem, *]) rfl (flow_ret (flow_2 (by rw [HN.out]; exact h20)) rfl (((((HQ.out.setCell (Nat.le_refl _) _).setCell (Nat.le_refl _) _).setCell (Nat.le_refl _) _).setCell (Nat.le_refl _) _).setCell (Nat.le_refl _) _))
set_option maxRecDepth 100000 in
set_option maxHeartbeats 1500000 in
theorem flow_form1 (A : Option Addr) (n c B : Nat) (l : List Int) (hn : l.length = n) (h20 : 20 ≤ n) (v4 : (at8 l 0 / 16 != 4) = true) (hmax : n ≤ 1000000) (hb : Bs l) (w : World) (hr : RB w B A l) (hB : B ≤ w.heap.size) :
    Calls Try.prog 28 #[.slice A n c] w (FlowRet w l) := by
  have HN := Lib.hid hn
  obtain ⟨w0, hw0⟩ : ∃ w0, w.alloc (.cells #[.int .i64 0, .int .u32 0, .int .i64 0, .int .u32 0, .int .i64 0] 60) = w0 := ⟨_, rfl⟩
  have hB0 : Below w.heap.size w w0 := by rw [← hw0]; exact (Below.refl _ _).alloc (Nat.le_refl _) _
  have hg0 : Bk w0 w.heap.size 60 #[.int .i64 0, .int .u32 0, .int .i64 0, .int .u32 0, .int .i64 0] := by rw [← hw0]; exact Bk.new w _ _
  have hr0 : RB w0 B A l := Rw.below hr (hB0.mono hB)
  have HW0 := Lib.hid hw0
  have z0 := hg0.lt
  have a0 := at8_bd hb 0
  have a9 := at8_bd hb 9
  have a6 := rd2_bd hb 6
  have LEM := Lib.hid (flow_3 (l := l) (by rw [hn]; omega) (.inl (by simpa using v4)))
  obtain ⟨p, hp⟩ : ∃ p, at8 l 9 = p := ⟨_, rfl⟩
  have HP := Lib.hid hp
  rw [hp] at a9
  clear hp
  clear hn hw0
  go_enter Try.func28, Try.ntmps28
  go_wp2_with fail
  rw [HW0.out]
  refine (newreader_any A n c B l HN.out hmax hb _ hr0 (by omega)).mono ?_
  rintro e w1 ⟨g, rfl, hR1, hB1⟩
  have hg1 := hg0.below hB1 z0
  have z1 := hB1.size
  have hge := hR1.ge
  have hQ1 : Below w.heap.size w w1 := hB0.trans (hB1.mono (Nat.le_of_lt z0))
  rw [show l = l.drop 0 from rfl] at hR1
  go_wp2_with fail
  refine (byte_at _ g l 0 (by rw [HN.out]; omega) _ hR1 (by omega)).mono ?_
  rintro e w2 ⟨rfl, hR2, k2⟩
  have hg2 := hg1.grown k2 (by intro e; injection e with e; omega)
  have hQ2 := hQ1.grown k2 (by omega) (by intro i e; injection e with e; omega)
  have z2 := k2.size
  go_wp2_with fail
  refine (raw_at _ g l 1 5 (by rw [HN.out]; omega) (by rw [HN.out]; omega) _ hR2 (by omega)).mono ?_
  rintro e w3 ⟨A3, n3, c3, rfl, hO3, hR3, k3⟩
  have hg3 := hg2.grown k3 (by intro e; injection e with e; omega)
  have hQ3 := hQ2.grown k3 (by omega) (by intro i e; injection e with e; omega)
  have z3 := k3.size
  go_wp2_with fail
  refine (two_at _ g l 6 (by rw [HN.out]; omega) _ hR3 (by omega)).mono ?_
  rintro e w4 ⟨rfl, hR4, k4⟩
  have hg4 := hg3.grown k4 (by intro e; injection e with e; omega)
  have hQ4 := hQ3.grown k4 (by omega) (by intro i e; injection e with e; omega)
  have z4 := k4.size
  go_wp2_with fail
  refine (byte_at _ g l 8 (by rw [HN.out]; omega) _ hR4 (by omega)).mono ?_
  rintro e w5 ⟨rfl, hR5, k5⟩
  have hg5 := hg4.grown k5 (by intro e; injection e with e; omega)
  have hQ5 := hQ4.grown k5 (by omega) (by intro i e; injection e with e; omega)
  have z5 := k5.size
  go_wp2_with fail
  refine (byte_at _ g l 9 (by rw [HN.out]; omega) _ hR5 (by omega)).mono ?_
  rintro e w6 ⟨rfl, hR6, k6⟩
  rw [HP.out]
  have hg6 := hg5.grown k6 (by intro e; injection e with e; omega)
  have hQ6 := hQ5.grown k6 (by omega) (by intro i e; injection e with e; omega)
  have z6 := k6.size
  obtain ⟨w7, hw7⟩ : ∃ w', w6.alloc (.cells #[.int .i64 p, .int .u32 0, .int .i64 0, .int .u32 0, .int .i64 0] 60) = w' := ⟨_, rfl⟩
  have hm7 : Bk w7 w6.heap.size 60 #[.int .i64 p, .int .u32 0, .int .i64 0, .int .u32 0, .int .i64 0] := by rw [← hw7]; exact Bk.new w6 _ _
  have hB7 : Below w6.heap.size w6 w7 := by rw [← hw7]; exact (Below.refl _ _).alloc (Nat.le_refl _) _
  have hR7 := hR6.below hB7
  have hg7 := hg6.below hB7 (by omega)
  have hQ7 := hQ6.trans (hB7.mono (by omega))
  have z7 := hB7.size
  have HW7 := Lib.hid hw7
  obtain ⟨gm, hgm⟩ : ∃ gm, w6.heap.size = gm := ⟨_, rfl⟩
  rw [hgm] at hm7
  have HGM := Lib.hid hgm
  have hmg : w.heap.size < gm := by omega
  clear hw7 hgm
  go_wp2_with fail
  rw [HW7.out, HGM.out]
  refine (two_at _ g l 10 (by rw [HN.out]; omega) _ hR7 (by omega)).mono ?_
  rintro e w8 ⟨rfl, hR8, k8⟩
  have hg8 := hg7.grown k8 (by intro e; injection e with e; omega)
  have hm8 := hm7.grown k8 (by intro e; injection e with e; exact hR7.ne hm7 (by decide) e.symm)
  have hQ8 := hQ7.grown k8 (by omega) (by intro i e; injection e with e; omega)
  have z8 := k8.size
  go_wp2_with fail
  refine (four_at _ g l 12 (by rw [HN.out]; omega) _ hR8 (by omega)).mono ?_
  rintro e w9 ⟨rfl, hR9, k9⟩
  have hg9 := hg8.grown k9 (by intro e; injection e with e; omega)
  have hm9 := hm8.grown k9 (by intro e; injection e with e; exact hR8.ne hm8 (by decide) e.symm)
  have hQ9 := hQ8.grown k9 (by omega) (by intro i e; injection e with e; omega)
  have z9 := k9.size
  go_wp2_with fail
  refine (four_at _ g l 16 (by rw [HN.out]; omega) _ hR9 (by omega)).mono ?_
  rintro e w10 ⟨rfl, hR10, k10⟩
  have hg10 := hg9.grown k10 (by intro e; injection e with e; omega)
  have hm10 := hm9.grown k10 (by intro e; injection e with e; exact hR9.ne hm9 (by decide) e.symm)
  have hQ10 := hQ9.grown k10 (by omega) (by intro i e; injection e with e; omega)
  have z10 := k10.size
  have f10a := hm10.frozen 1
  have f10b := hm10.frozen 3
  have x10a := hm10.cell 1
  have x10b := hm10.cell 3
  simp only [List.getElem?_toArray, List.getElem?_cons_zero, List.getElem?_cons_succ] at x10a x10b
  have hu : NoU8 #[.int .i64 p, .int .u32 0, .int .i64 0, .int .u32 0, .int .i64 0] := by
    intro i x
    match i with
    | 0 | 1 | 2 | 3 | 4 => simp
    | i + 5 => simp
  have hu2 : NoU8 #[.int .i64 p, .int .u32 (rd4 l 12), .int .i64 0, .int .u32 0, .int .i64 0] := by
    intro i x
    match i with
    | 0 | 1 | 2 | 3 | 4 => simp
    | i + 5 => simp
  have hm11 := hm10.set 1 (.int .u32 (rd4 l 12))
  have hR11 := hR10.store hm10 (by decide) (by decide) hu 1 (.int .u32 (rd4 l 12))
  have hm12 := hm11.set 3 (.int .u32 (rd4 l 16))
  have hR12 := hR11.store hm11 (by decide) (by decide) hu2 3 (.int .u32 (rd4 l 16))
  have hg12 := (hg10.far (p := ⟨gm, 1, none⟩) (show w.heap.size ≠ gm by omega) (.int .u32 (rd4 l 12))).far (p := ⟨gm, 3, none⟩) (show w.heap.size ≠ gm by omega) (.int .u32 (rd4 l 16))
  have hQ12 := (hQ10.setCell (p := ⟨gm, 1, none⟩) (show w.heap.size ≤ gm by omega) (.int .u32 (rd4 l 12))).setCell (p := ⟨gm, 3, none⟩) (show w.heap.size ≤ gm by omega) (.int .u32 (rd4 l 16))
  obtain ⟨w12, hw12⟩ : ∃ w', (w10.setCell ⟨gm, 1, none⟩ (.int .u32 (rd4 l 12))).setCell ⟨gm, 3, none⟩ (.int .u32 (rd4 l 16)) = w' := ⟨_, rfl⟩
  rw [hw12] at hm12 hR12 hg12 hQ12
  have z12 : w12.heap.size = w10.heap.size := by rw [← hw12]; simp [World.setCell]
  have Z12 : w10.heap.size ≤ w12.heap.size := by omega
  have HW12 := Lib.hid hw12
  clear hw12 hR11 hm11 z12
  change Bk w12 gm 60 #[.int .i64 p, .int .u32 (rd4 l 12), .int .i64 0, .int .u32 (rd4 l 16), .int .i64 0] at hm12
  have hne : w.heap.size ≠ gm := by omega
  have hne2 : gm ≠ w.heap.size := by omega
  go_wp2_with fail
  rw [HW12.out]
  refine (rerr_any _ g _ _ _ hR12).mono ?_
  rintro e w' ⟨rfl, rfl⟩
  have d0 := hg12.cell 0
  have d1 := hg12.cell 1
  have d2 := hg12.cell 2
  have d3 := hg12.cell 3
  have d4 := hg12.cell 4
  have e0 := hg12.frozen 0
  have e1 := hg12.frozen 1
  have e2 := hg12.frozen 2
  have e3 := hg12.frozen 3
  have e4 := hg12.frozen 4
  simp only [List.getElem?_toArray, List.getElem?_cons_zero, List.getElem?_cons_succ] at d0 d1 d2 d3 d4
  have HQ := Lib.hid hQ12
  go_wp2_with fail
  refine bodyPost_ret (v := .tuple #[.agg #[.int .i64 0, .int .u32 0, .int .i64 0, .int .u32 0, .int .i64 0], .int .i64 3]) (by simp [results, Try.results28, go_sem, *]) rfl (flow_ret LEM.out rfl (((((HQ.out.setCell (Nat.le_refl _) _).setCell (Nat.le_refl _) _).setCell (Nat.le_refl _) _).setCell (Nat.le_refl _) _).setCell (Nat.le_refl _) _))
set_option maxRecDepth 100000 in
set_option maxHeartbeats 1500000 in
theorem flow_form2 (A : Option Addr) (n c B : Nat) (l : List Int) (hn : l.length = n) (h20 : 20 ≤ n) (v4 : (at8 l 0 / 16 != 4) = false) (hx : at8 l 0 % 16 * 4 < 20) (hmax : n ≤ 1000000) (hb : Bs l) (w : World) (hr : RB w B A l) (hB : B ≤ w.heap.size) :
    Calls Try.prog 28 #[.slice A n c] w (FlowRet w l) := by
  have HN := Lib.hid hn
  obtain ⟨w0, hw0⟩ : ∃ w0, w.alloc (.cells #[.int .i64 0, .int .u32 0, .int .i64 0, .int .u32 0, .int .i64 0] 60) = w0 := ⟨_, rfl⟩
  have hB0 : Below w.heap.size w w0 := by rw [← hw0]; exact (Below.refl _ _).alloc (Nat.le_refl _) _
  have hg0 : Bk w0 w.heap.size 60 #[.int .i64 0, .int .u32 0, .int .i64 0, .int .u32 0, .int .i64 0] := by rw [← hw0]; exact Bk.new w _ _
  have hr0 : RB w0 B A l := Rw.below hr (hB0.mono hB)
  have HW0 := Lib.hid hw0
  have z0 := hg0.lt
  have a0 := at8_bd hb 0
  have a9 := at8_bd hb 9
  have a6 := rd2_bd hb 6
  have LEM := Lib.hid (flow_3 (l := l) (by rw [hn]; omega) (.inr hx))
  obtain ⟨p, hp⟩ : ∃ p, at8 l 9 = p := ⟨_, rfl⟩
  have HP := Lib.hid hp
  rw [hp] at a9
  clear hp
  clear hn hw0
  go_enter Try.func28, Try.ntmps28
  go_wp2_with fail
  rw [HW0.out]
  refine (newreader_any A n c B l HN.out hmax hb _ hr0 (by omega)).mono ?_
  rintro e w1 ⟨g, rfl, hR1, hB1⟩
  have hg1 := hg0.below hB1 z0
  have z1 := hB1.size
  have hge := hR1.ge
  have hQ1 : Below w.heap.size w w1 := hB0.trans (hB1.mono (Nat.le_of_lt z0))
  rw [show l = l.drop 0 from rfl] at hR1
  go_wp2_with fail
  refine (byte_at _ g l 0 (by rw [HN.out]; omega) _ hR1 (by omega)).mono ?_
  rintro e w2 ⟨rfl, hR2, k2⟩
  have hg2 := hg1.grown k2 (by intro e; injection e with e; omega)
  have hQ2 := hQ1.grown k2 (by omega) (by intro i e; injection e with e; omega)
  have z2 := k2.size
  go_wp2_with fail
  refine (raw_at _ g l 1 5 (by rw [HN.out]; omega) (by rw [HN.out]; omega) _ hR2 (by omega)).mono ?_
  rintro e w3 ⟨A3, n3, c3, rfl, hO3, hR3, k3⟩
  have hg3 := hg2.grown k3 (by intro e; injection e with e; omega)
  have hQ3 := hQ2.grown k3 (by omega) (by intro i e; injection e with e; omega)
  have z3 := k3.size
  go_wp2_with fail
  refine (two_at _ g l 6 (by rw [HN.out]; omega) _ hR3 (by omega)).mono ?_
  rintro e w4 ⟨rfl, hR4, k4⟩
  have hg4 := hg3.grown k4 (by intro e; injection e with e; omega)
  have hQ4 := hQ3.grown k4 (by omega) (by intro i e; injection e with e; omega)
  have z4 := k4.size
  go_wp2_with fail
  refine (byte_at _ g l 8 (by rw [HN.out]; omega) _ hR4 (by omega)).mono ?_
  rintro e w5 ⟨rfl, hR5, k5⟩
  have hg5 := hg4.grown k5 (by intro e; injection e with e; omega)
  have hQ5 := hQ4.grown k5 (by omega) (by intro i e; injection e with e; omega)
  have z5 := k5.size
  go_wp2_with fail
  refine (byte_at _ g l 9 (by rw [HN.out]; omega) _ hR5 (by omega)).mono ?_
  rintro e w6 ⟨rfl, hR6, k6⟩
  rw [HP.out]
  have hg6 := hg5.grown k6 (by intro e; injection e with e; omega)
  have hQ6 := hQ5.grown k6 (by omega) (by intro i e; injection e with e; omega)
  have z6 := k6.size
  obtain ⟨w7, hw7⟩ : ∃ w', w6.alloc (.cells #[.int .i64 p, .int .u32 0, .int .i64 0, .int .u32 0, .int .i64 0] 60) = w' := ⟨_, rfl⟩
  have hm7 : Bk w7 w6.heap.size 60 #[.int .i64 p, .int .u32 0, .int .i64 0, .int .u32 0, .int .i64 0] := by rw [← hw7]; exact Bk.new w6 _ _
  have hB7 : Below w6.heap.size w6 w7 := by rw [← hw7]; exact (Below.refl _ _).alloc (Nat.le_refl _) _
  have hR7 := hR6.below hB7
  have hg7 := hg6.below hB7 (by omega)
  have hQ7 := hQ6.trans (hB7.mono (by omega))
  have z7 := hB7.size
  have HW7 := Lib.hid hw7
  obtain ⟨gm, hgm⟩ : ∃ gm, w6.heap.size = gm := ⟨_, rfl⟩
  rw [hgm] at hm7
  have HGM := Lib.hid hgm
  have hmg : w.heap.size < gm := by omega
  clear hw7 hgm
  go_wp2_with fail
  rw [HW7.out, HGM.out]
  refine (two_at _ g l 10 (by rw [HN.out]; omega) _ hR7 (by omega)).mono ?_
  rintro e w8 ⟨rfl, hR8, k8⟩
  have hg8 := hg7.grown k8 (by intro e; injection e with e; omega)
  have hm8 := hm7.grown k8 (by intro e; injection e with e; exact hR7.ne hm7 (by decide) e.symm)
  have hQ8 := hQ7.grown k8 (by omega) (by intro i e; injection e with e; omega)
  have z8 := k8.size
  go_wp2_with fail
  refine (four_at _ g l 12 (by rw [HN.out]; omega) _ hR8 (by omega)).mono ?_
  rintro e w9 ⟨rfl, hR9, k9⟩
  have hg9 := hg8.grown k9 (by intro e; injection e with e; omega)
  have hm9 := hm8.grown k9 (by intro e; injection e with e; exact hR8.ne hm8 (by decide) e.symm)
  have hQ9 := hQ8.grown k9 (by omega) (by intro i e; injection e with e; omega)
  have z9 := k9.size
  go_wp2_with fail
  refine (four_at _ g l 16 (by rw [HN.out]; omega) _ hR9 (by omega)).mono ?_
  rintro e w10 ⟨rfl, hR10, k10⟩
  have hg10 := hg9.grown k10 (by intro e; injection e with e; omega)
  have hm10 := hm9.grown k10 (by intro e; injection e with e; exact hR9.ne hm9 (by decide) e.symm)
  have hQ10 := hQ9.grown k10 (by omega) (by intro i e; injection e with e; omega)
  have z10 := k10.size
  have f10a := hm10.frozen 1
  have f10b := hm10.frozen 3
  have x10a := hm10.cell 1
  have x10b := hm10.cell 3
  simp only [List.getElem?_toArray, List.getElem?_cons_zero, List.getElem?_cons_succ] at x10a x10b
  have hu : NoU8 #[.int .i64 p, .int .u32 0, .int .i64 0, .int .u32 0, .int .i64 0] := by
    intro i x
    match i with
    | 0 | 1 | 2 | 3 | 4 => simp
    | i + 5 => simp
  have hu2 : NoU8 #[.int .i64 p, .int .u32 (rd4 l 12), .int .i64 0, .int .u32 0, .int .i64 0] := by
    intro i x
    match i with
    | 0 | 1 | 2 | 3 | 4 => simp
    | i + 5 => simp
  have hm11 := hm10.set 1 (.int .u32 (rd4 l 12))
  have hR11 := hR10.store hm10 (by decide) (by decide) hu 1 (.int .u32 (rd4 l 12))
  have hm12 := hm11.set 3 (.int .u32 (rd4 l 16))
  have hR12 := hR11.store hm11 (by decide) (by decide) hu2 3 (.int .u32 (rd4 l 16))
  have hg12 := (hg10.far (p := ⟨gm, 1, none⟩) (show w.heap.size ≠ gm by omega) (.int .u32 (rd4 l 12))).far (p := ⟨gm, 3, none⟩) (show w.heap.size ≠ gm by omega) (.int .u32 (rd4 l 16))
  have hQ12 := (hQ10.setCell (p := ⟨gm, 1, none⟩) (show w.heap.size ≤ gm by omega) (.int .u32 (rd4 l 12))).setCell (p := ⟨gm, 3, none⟩) (show w.heap.size ≤ gm by omega) (.int .u32 (rd4 l 16))
  obtain ⟨w12, hw12⟩ : ∃ w', (w10.setCell ⟨gm, 1, none⟩ (.int .u32 (rd4 l 12))).setCell ⟨gm, 3, none⟩ (.int .u32 (rd4 l 16)) = w' := ⟨_, rfl⟩
  rw [hw12] at hm12 hR12 hg12 hQ12
  have z12 : w12.heap.size = w10.heap.size := by rw [← hw12]; simp [World.setCell]
  have Z12 : w10.heap.size ≤ w12.heap.size := by omega
  have HW12 := Lib.hid hw12
  clear hw12 hR11 hm11 z12
  change Bk w12 gm 60 #[.int .i64 p, .int .u32 (rd4 l 12), .int .i64 0, .int .u32 (rd4 l 16), .int .i64 0] at hm12
  have hne : w.heap.size ≠ gm := by omega
  have hne2 : gm ≠ w.heap.size := by omega
  go_wp2_with fail
  rw [HW12.out]
  refine (rerr_any _ g _ _ _ hR12).mono ?_
  rintro e w' ⟨rfl, rfl⟩
  have d0 := hg12.cell 0
  have d1 := hg12.cell 1
  have d2 := hg12.cell 2
  have d3 := hg12.cell 3
  have d4 := hg12.cell 4
  have e0 := hg12.frozen 0
  have e1 := hg12.frozen 1
  have e2 := hg12.frozen 2
  have e3 := hg12.frozen 3
  have e4 := hg12.frozen 4
  simp only [List.getElem?_toArray, List.getElem?_cons_zero, List.getElem?_cons_succ] at d0 d1 d2 d3 d4
  have HQ := Lib.hid hQ12
  go_wp2_with fail
  refine bodyPost_ret (v := .tuple #[.agg #[.int .i64 0, .int .u32 0, .int .i64 0, .int .u32 0, .int .i64 0], .int .i64 3]) (by simp [results, Try.results28, go_sem, *]) rfl (flow_ret LEM.out rfl (((((HQ.out.setCell (Nat.le_refl _) _).setCell (Nat.le_refl _) _).setCell (Nat.le_refl _) _).setCell (Nat.le_refl _) _).setCell (Nat.le_refl _) _))
set_option maxRecDepth 100000 in
set_option maxHeartbeats 1500000 in
theorem flow_long (A : Option Addr) (n c B : Nat) (l : List Int) (hn : l.length = n) (h20 : 20 ≤ n) (v4 : (at8 l 0 / 16 != 4) = false) (m : Nat) (hmm : at8 l 0 % 16 * 4 - 20 = (m : Int)) (hlong : n < 20 + m) (hmax : n ≤ 1000000) (hb : Bs l) (w : World) (hr : RB w B A l) (hB : B ≤ w.heap.size) :
    Calls Try.prog 28 #[.slice A n c] w (FlowRet w l) := by
  have HN := Lib.hid hn
  obtain ⟨w0, hw0⟩ : ∃ w0, w.alloc (.cells #[.int .i64 0, .int .u32 0, .int .i64 0, .int .u32 0, .int .i64 0] 60) = w0 := ⟨_, rfl⟩
  have hB0 : Below w.heap.size w w0 := by rw [← hw0]; exact (Below.refl _ _).alloc (Nat.le_refl _) _
  have hg0 : Bk w0 w.heap.size 60 #[.int .i64 0, .int .u32 0, .int .i64 0, .int .u32 0, .int .i64 0] := by rw [← hw0]; exact Bk.new w _ _
  have hr0 : RB w0 B A l := Rw.below hr (hB0.mono hB)
  have HW0 := Lib.hid hw0
  have z0 := hg0.lt
  have a0 := at8_bd hb 0
  have a9 := at8_bd hb 9
  have a6 := rd2_bd hb 6
  have LEM := Lib.hid (flow_4 (l := l) (by rw [hn]; omega) (fun h => h.elim (by simpa using v4) (by omega)) (by rw [hn]; omega))
  obtain ⟨p, hp⟩ : ∃ p, at8 l 9 = p := ⟨_, rfl⟩
  have HP := Lib.hid hp
  rw [hp] at a9
  clear hp
  clear hn hw0
  go_enter Try.func28, Try.ntmps28
  go_wp2_with fail
  rw [HW0.out]
  refine (newreader_any A n c B l HN.out hmax hb _ hr0 (by omega)).mono ?_
  rintro e w1 ⟨g, rfl, hR1, hB1⟩
  have hg1 := hg0.below hB1 z0
  have z1 := hB1.size
  have hge := hR1.ge
  have hQ1 : Below w.heap.size w w1 := hB0.trans (hB1.mono (Nat.le_of_lt z0))
  rw [show l = l.drop 0 from rfl] at hR1
  go_wp2_with fail
  refine (byte_at _ g l 0 (by rw [HN.out]; omega) _ hR1 (by omega)).mono ?_
  rintro e w2 ⟨rfl, hR2, k2⟩
  have hg2 := hg1.grown k2 (by intro e; injection e with e; omega)
  have hQ2 := hQ1.grown k2 (by omega) (by intro i e; injection e with e; omega)
  have z2 := k2.size
  go_wp2_with fail
  refine (raw_at _ g l 1 5 (by rw [HN.out]; omega) (by rw [HN.out]; omega) _ hR2 (by omega)).mono ?_
  rintro e w3 ⟨A3, n3, c3, rfl, hO3, hR3, k3⟩
  have hg3 := hg2.grown k3 (by intro e; injection e with e; omega)
  have hQ3 := hQ2.grown k3 (by omega) (by intro i e; injection e with e; omega)
  have z3 := k3.size
  go_wp2_with fail
  refine (two_at _ g l 6 (by rw [HN.out]; omega) _ hR3 (by omega)).mono ?_
  rintro e w4 ⟨rfl, hR4, k4⟩
  have hg4 := hg3.grown k4 (by intro e; injection e with e; omega)
  have hQ4 := hQ3.grown k4 (by omega) (by intro i e; injection e with e; omega)
  have z4 := k4.size
  go_wp2_with fail
  refine (byte_at _ g l 8 (by rw [HN.out]; omega) _ hR4 (by omega)).mono ?_
  rintro e w5 ⟨rfl, hR5, k5⟩
  have hg5 := hg4.grown k5 (by intro e; injection e with e; omega)
  have hQ5 := hQ4.grown k5 (by omega) (by intro i e; injection e with e; omega)
  have z5 := k5.size
  go_wp2_with fail
  refine (byte_at _ g l 9 (by rw [HN.out]; omega) _ hR5 (by omega)).mono ?_
  rintro e w6 ⟨rfl, hR6, k6⟩
  rw [HP.out]
  have hg6 := hg5.grown k6 (by intro e; injection e with e; omega)
  have hQ6 := hQ5.grown k6 (by omega) (by intro i e; injection e with e; omega)
  have z6 := k6.size
  obtain ⟨w7, hw7⟩ : ∃ w', w6.alloc (.cells #[.int .i64 p, .int .u32 0, .int .i64 0, .int .u32 0, .int .i64 0] 60) = w' := ⟨_, rfl⟩
  have hm7 : Bk w7 w6.heap.size 60 #[.int .i64 p, .int .u32 0, .int .i64 0, .int .u32 0, .int .i64 0] := by rw [← hw7]; exact Bk.new w6 _ _
  have hB7 : Below w6.heap.size w6 w7 := by rw [← hw7]; exact (Below.refl _ _).alloc (Nat.le_refl _) _
  have hR7 := hR6.below hB7
  have hg7 := hg6.below hB7 (by omega)
  have hQ7 := hQ6.trans (hB7.mono (by omega))
  have z7 := hB7.size
  have HW7 := Lib.hid hw7
  obtain ⟨gm, hgm⟩ : ∃ gm, w6.heap.size = gm := ⟨_, rfl⟩
  rw [hgm] at hm7
  have HGM := Lib.hid hgm
  have hmg : w.heap.size < gm := by omega
  clear hw7 hgm
  go_wp2_with fail
  rw [HW7.out, HGM.out]
  refine (two_at _ g l 10 (by rw [HN.out]; omega) _ hR7 (by omega)).mono ?_
  rintro e w8 ⟨rfl, hR8, k8⟩
  have hg8 := hg7.grown k8 (by intro e; injection e with e; omega)
  have hm8 := hm7.grown k8 (by intro e; injection e with e; exact hR7.ne hm7 (by decide) e.symm)
  have hQ8 := hQ7.grown k8 (by omega) (by intro i e; injection e with e; omega)
  have z8 := k8.size
  go_wp2_with fail
  refine (four_at _ g l 12 (by rw [HN.out]; omega) _ hR8 (by omega)).mono ?_
  rintro e w9 ⟨rfl, hR9, k9⟩
  have hg9 := hg8.grown k9 (by intro e; injection e with e; omega)
  have hm9 := hm8.grown k9 (by intro e; injection e with e; exact hR8.ne hm8 (by decide) e.symm)
  have hQ9 := hQ8.grown k9 (by omega) (by intro i e; injection e with e; omega)
  have z9 := k9.size
  go_wp2_with fail
  refine (four_at _ g l 16 (by rw [HN.out]; omega) _ hR9 (by omega)).mono ?_
  rintro e w10 ⟨rfl, hR10, k10⟩
  have hg10 := hg9.grown k10 (by intro e; injection e with e; omega)
  have hm10 := hm9.grown k10 (by intro e; injection e with e; exact hR9.ne hm9 (by decide) e.symm)
  have hQ10 := hQ9.grown k10 (by omega) (by intro i e; injection e with e; omega)
  have z10 := k10.size
  have f10a := hm10.frozen 1
  have f10b := hm10.frozen 3
  have x10a := hm10.cell 1
  have x10b := hm10.cell 3
  simp only [List.getElem?_toArray, List.getElem?_cons_zero, List.getElem?_cons_succ] at x10a x10b
  have hu : NoU8 #[.int .i64 p, .int .u32 0, .int .i64 0, .int .u32 0, .int .i64 0] := by
    intro i x
    match i with
    | 0 | 1 | 2 | 3 | 4 => simp
    | i + 5 => simp
  have hu2 : NoU8 #[.int .i64 p, .int .u32 (rd4 l 12), .int .i64 0, .int .u32 0, .int .i64 0] := by
    intro i x
    match i with
    | 0 | 1 | 2 | 3 | 4 => simp
    | i + 5 => simp
  have hm11 := hm10.set 1 (.int .u32 (rd4 l 12))
  have hR11 := hR10.store hm10 (by decide) (by decide) hu 1 (.int .u32 (rd4 l 12))
  have hm12 := hm11.set 3 (.int .u32 (rd4 l 16))
  have hR12 := hR11.store hm11 (by decide) (by decide) hu2 3 (.int .u32 (rd4 l 16))
  have hg12 := (hg10.far (p := ⟨gm, 1, none⟩) (show w.heap.size ≠ gm by omega) (.int .u32 (rd4 l 12))).far (p := ⟨gm, 3, none⟩) (show w.heap.size ≠ gm by omega) (.int .u32 (rd4 l 16))
  have hQ12 := (hQ10.setCell (p := ⟨gm, 1, none⟩) (show w.heap.size ≤ gm by omega) (.int .u32 (rd4 l 12))).setCell (p := ⟨gm, 3, none⟩) (show w.heap.size ≤ gm by omega) (.int .u32 (rd4 l 16))
  obtain ⟨w12, hw12⟩ : ∃ w', (w10.setCell ⟨gm, 1, none⟩ (.int .u32 (rd4 l 12))).setCell ⟨gm, 3, none⟩ (.int .u32 (rd4 l 16)) = w' := ⟨_, rfl⟩
  rw [hw12] at hm12 hR12 hg12 hQ12
  have z12 : w12.heap.size = w10.heap.size := by rw [← hw12]; simp [World.setCell]
  have Z12 : w10.heap.size ≤ w12.heap.size := by omega
  have HW12 := Lib.hid hw12
  clear hw12 hR11 hm11 z12
  change Bk w12 gm 60 #[.int .i64 p, .int .u32 (rd4 l 12), .int .i64 0, .int .u32 (rd4 l 16), .int .i64 0] at hm12
  have hne : w.heap.size ≠ gm := by omega
  have hne2 : gm ≠ w.heap.size := by omega
  go_wp2_with fail
  rw [HW12.out]
  refine (rerr_any _ g _ _ _ hR12).mono ?_
  rintro e w' ⟨rfl, rfl⟩
  have s12 : RdS l.length 20 (l.drop 20) 0 := .inl ⟨rfl, by rw [HN.out]; omega, by rw [List.length_drop, HN.out]; omega⟩
  go_wp2_with fail
  refine (raw_s _ g _ 20 m _ _ s12 (by rw [List.length_drop, HN.out]; omega) _ hR12 (by omega)).mono ?_
  rintro e w13 ⟨A13, n13, c13, x13, r13, er13, rfl, hO13, hn13, s13, hR13, k13⟩
  obtain rfl := s13.over (by rw [HN.out]; omega)
  have hg13 := hg12.grown k13 (by intro e; injection e with e; omega)
  have hQ13 := hQ12.grown k13 (by omega) (by intro i e; injection e with e; omega)
  have d0 := hg13.cell 0
  have d1 := hg13.cell 1
  have d2 := hg13.cell 2
  have d3 := hg13.cell 3
  have d4 := hg13.cell 4
  have e0 := hg13.frozen 0
  have e1 := hg13.frozen 1
  have e2 := hg13.frozen 2
  have e3 := hg13.frozen 3
  have e4 := hg13.frozen 4
  simp only [List.getElem?_toArray, List.getElem?_cons_zero, List.getElem?_cons_succ] at d0 d1 d2 d3 d4
  have HQ := Lib.hid hQ13
  go_wp2_with fail
  refine (rerr_any _ g _ _ _ hR13).mono ?_
  rintro e w' ⟨rfl, rfl⟩
  go_wp2_with fail
  refine (rerr_any _ g _ _ _ hR13).mono ?_
  rintro e w' ⟨rfl, rfl⟩
  go_wp2_with fail
  refine bodyPost_ret (v := .tuple #[.agg #[.int .i64 0, .int .u32 0, .int .i64 0, .int .u32 0, .int .i64 0], .int .i64 2]) (by simp [results, Try.results28, go_sem, *]) rfl (flow_ret LEM.out rfl (((((HQ.out.setCell (Nat.le_refl _) _).setCell (Nat.le_refl _) _).setCell (Nat.le_refl _) _).setCell (Nat.le_refl _) _).setCell (Nat.le_refl _) _))
end Go.Proofs.Ytlnodkfngomlmaa
