/- Proved: the packet of neighbours that arp.Decode reads. Conditions: as each law says. -/
import Derived.Test.YtaeafkdfbcppgaaGreatT19
set_option linter.unusedSectionVars false
set_option linter.unusedSimpArgs false
set_option linter.unusedVariables false
namespace Go.Proofs.YtaeafkdfbcppgaaGreat
open Go.RowKit
set_option maxRecDepth 100000 in
theorem dec_short (A : Option Addr) (n c : Nat) (h8 : n < 28) (w : World) :
  Calls Tryz.prog 28 #[.slice A n c] w fun e w' => e = .returned (.tuple #[.agg zeroC, .int .i64 2]) ∧ Below w.heap.size w w' := by
 go_enter Tryz.func28, Tryz.ntmps28
 go_wp2
 refine bodyPost_ret (v := .tuple #[.agg #[.int .i64 0, .int .u8 0, .int .u8 0, .int .u8 0, .int .u8 0, .int .u8 0, .int .u8 0, .int .u32 0, .int .u8 0, .int .u8 0, .int .u8 0, .int .u8 0, .int .u8 0, .int .u8 0, .int .u32 0], .int .i64 2]) (by simp [results, Tryz.results28, go_sem]) rfl ⟨rfl, ?_⟩
 exact (Below.refl _ _).alloc (Nat.le_refl _) _
set_option maxHeartbeats 4000000 in
set_option maxRecDepth 100000 in
theorem dec_long (A : Option Addr) (n c B : Nat) (l : List Int) (hn : l.length = n) (h8 : 28 ≤ n) (hmax : n ≤ 1000000) (hb : Bs l) (w : World) (hr : RB w B A l) (hB : B ≤ w.heap.size) :
  Calls Tryz.prog 28 #[.slice A n c] w fun e w' => ((goodA l ∧ e = .returned (.tuple #[.agg (arpC l), .int .i64 0])) ∨ (¬ goodA l ∧ e = .returned (.tuple #[.agg zeroC, .int .i64 3]))) ∧ Below w.heap.size w w' := by
 have HN := Lib.hid hn
 obtain ⟨w0, hw0⟩ : ∃ w0, w.alloc (.cells #[.int .i64 0, .int .u8 0, .int .u8 0, .int .u8 0, .int .u8 0, .int .u8 0, .int .u8 0, .int .u32 0, .int .u8 0, .int .u8 0, .int .u8 0, .int .u8 0, .int .u8 0, .int .u8 0, .int .u32 0] 93) = w0 := ⟨_, rfl⟩
 have hB0 : Below w.heap.size w w0 := by rw [← hw0]; exact (Below.refl _ _).alloc (Nat.le_refl _) _
 have hg0 : Bk w0 w.heap.size 93 #[.int .i64 0, .int .u8 0, .int .u8 0, .int .u8 0, .int .u8 0, .int .u8 0, .int .u8 0, .int .u32 0, .int .u8 0, .int .u8 0, .int .u8 0, .int .u8 0, .int .u8 0, .int .u8 0, .int .u32 0] := by rw [← hw0]; exact Bk.new w _ _
 have hr0 : RB w0 B A l := Rw.below hr (hB0.mono hB)
 have HW0 := Lib.hid hw0
 have z0 := hg0.lt
 clear hn hw0
 go_enter Tryz.func28, Tryz.ntmps28
 go_wp2_with fail
 rw [HW0.out]
 refine (newreader_any A n c B l HN.out hmax hb _ hr0 (by omega)).mono ?_
 rintro e w1 ⟨g, rfl, hR1, hB1⟩
 have hg1 := hg0.below hB1 z0
 have z1 := hB1.size
 have hge := hR1.ge
 rw [show l = l.drop 0 from rfl] at hR1
 go_wp2_with fail
 refine (begins_any _).mono ?_
 rintro e w2 ⟨rfl, hB2⟩
 have z2 := hB2.size
 have hg2 := hg1.below hB2 (by omega)
 have hR2 := hR1.below hB2
 obtain ⟨gf, hgf⟩ : ∃ gf, w2.heap.size = gf := ⟨_, rfl⟩
 obtain ⟨w3, hw3⟩ : ∃ w3, w2.alloc (.cells #[.int .u8 0, .int .u8 1, .int .u8 8, .int .u8 0, .int .u8 6, .int .u8 4] 25) = w3 := ⟨_, rfl⟩
 obtain ⟨w4, hw4⟩ : ∃ w4, w3.alloc (.cells #[.int .i64 0, .int .u8 0, .int .u8 0, .int .u8 0, .int .u8 0, .int .u8 0, .int .u8 0, .int .u32 0, .int .u8 0, .int .u8 0, .int .u8 0, .int .u8 0, .int .u8 0, .int .u8 0, .int .u32 0] 93) = w4 := ⟨_, rfl⟩
 have hB3 : Below w2.heap.size w2 w3 := by rw [← hw3]; exact (Below.refl _ _).alloc (Nat.le_refl _) _
 have hB4 : Below w3.heap.size w3 w4 := by rw [← hw4]; exact (Below.refl _ _).alloc (Nat.le_refl _) _
 have hz3 : w3.heap.size = gf + 1 := by rw [← hw3, ← hgf]; simp
 have hz4 : w4.heap.size = gf + 1 + 1 := by rw [← hw4, World.size_alloc, hz3]
 have hf3 : Bk w3 gf 25 #[.int .u8 0, .int .u8 1, .int .u8 8, .int .u8 0, .int .u8 6, .int .u8 4] := by rw [← hw3, ← hgf]; exact Bk.new w2 _ _
 have hm4 : Bk w4 (gf + 1) 93 #[.int .i64 0, .int .u8 0, .int .u8 0, .int .u8 0, .int .u8 0, .int .u8 0, .int .u8 0, .int .u32 0, .int .u8 0, .int .u8 0, .int .u8 0, .int .u8 0, .int .u8 0, .int .u8 0, .int .u32 0] := by rw [← hw4, ← hz3]; exact Bk.new w3 _ _
 have hf4 := hf3.below hB4 hf3.lt
 have hg4 := (hg2.below hB3 hg2.lt).below hB4 (by have := hB3.size; have := hg2.lt; omega)
 have hR4 := (hR2.below hB3).below hB4
 have hrf : RB w4 (gf + 1) (some ⟨gf, 0, none⟩) [0, 1, 8, 0, 6, 4] := hf4.rb_ 0 _ (by intro j hj; simp only [List.length_cons, List.length_nil] at hj; rcases j with _ | _ | _ | _ | _ | _ | j <;> first | rfl | omega)
 have hBw4 : Below w.heap.size w w4 := ((hB0.trans (hB1.mono (by omega))).trans (hB2.mono (by omega))).trans ((hB3.mono (by omega)).trans (hB4.mono (by omega)))
 have HBW4 := Lib.hid hBw4
 have HW4 : Hid ((w2.alloc (.cells #[.int .u8 0, .int .u8 1, .int .u8 8, .int .u8 0, .int .u8 6, .int .u8 4] 25)).alloc (.cells #[.int .i64 0, .int .u8 0, .int .u8 0, .int .u8 0, .int .u8 0, .int .u8 0, .int .u8 0, .int .u32 0, .int .u8 0, .int .u8 0, .int .u8 0, .int .u8 0, .int .u8 0, .int .u8 0, .int .u32 0] 93) = w4) := Lib.hid (by rw [hw3]; exact hw4)
 have HGF := Lib.hid hgf
 have HG4 := Lib.hid hg4
 have HM4 := Lib.hid hm4
 have HLT : Hid (w.heap.size < gf ∧ g < gf ∧ w0.heap.size ≤ g ∧ w.heap.size < w0.heap.size) := Lib.hid ⟨by have := hg2.lt; omega, by have := hR2.lt; omega, hge, z0⟩
 have HZ4 := Lib.hid hz4
 clear hw3 hw4 hgf hBw4 hg0 hg1 hg2 hR1 hR2 hf3 hB3 hB4 hz3 hz4 hm4 hf4 hg4 hr0 hB0 hB1 hB2
 go_wp2_with fail
 rw [HW4.out, HGF.out]
 have hbh : Bs [0, 1, 8, 0, 6, 4] := by intro x hx; simp at hx; omega
 have HL6 : Hid (((l.drop 0).take 6).length = 6) := Lib.hid (by simp; rw [HN.out]; omega)
 have HB6 : Hid ((by8 ((l.drop 0).take 6)).length = 6) := Lib.hid (by rw [by8_length]; exact HL6.out)
 have HBE : Hid (Bs ((l.drop 0).take 6)) := Lib.hid (Bs.take (Bs.drop hb 0) 6)
 have HRF : Hid (RB w4.drew (gf + 1) (some ⟨gf, 0, none⟩) [0, 1, 8, 0, 6, 4]) := Lib.hid (Rw.drew hrf)
 have HGE : Hid (w0.heap.size ≤ w4.drew.heap.size) := Lib.hid (by show _ ≤ w4.heap.size; have := HZ4.out; have := HLT.out; omega)
 have HGG : Hid (gf + 1 ≤ w4.drew.heap.size) := Lib.hid (by show _ ≤ w4.heap.size; have := HZ4.out; omega)
 have HNE : Hid (blk (some (⟨gf, 0, none⟩ : Addr)) ≠ some g) := Lib.hid (by intro e; have e2 : gf = g := (by simpa [blk] using e); have := HLT.out; omega)
 have P1 : Hid (0 + 6 ≤ l.length) := Lib.hid (by rw [HN.out]; show _ ≤ _; omega)
 have P2 : Hid (l.length ≤ 1000000) := Lib.hid (by rw [HN.out]; exact hmax)
 have P3 : 0 < 6 := by decide
 clear hrf
 go_region_held3 (fun _ => True) (trivial)
  (first
   | (go_at_call 64; refine (raw_at _ g l 0 6 P1.out P2.out _ (Rd.drew_ hR4) HGE.out).mono ?_; rintro e w5 ⟨A5, n5, c5, rfl, hO5, hR5, k5⟩; obtain rfl : 6 = n5 := HB6.out.symm.trans (Ow.length hO5))
   | (go_at_call 69; refine (equal_any A5 (some ⟨gf, 0, none⟩) 6 c5 6 _ _ _ _ P3 HL6.out rfl HBE.out hbh _ (Ow.rw hO5) (Rw.grownNe HRF.out k5 HGG.out HNE.out)).mono ?_; rintro e w6 ⟨rfl, rfl⟩))
 have hg5 := (HG4.out.drew).grown k5 (by intro e; injection e with e; have := HLT.out; omega)
 have hm5 := (HM4.out.drew).grown k5 (by intro e; injection e with e; have := HLT.out; omega)
 have HBW5 : Hid (Below w.heap.size w w5) := Lib.hid ((HBW4.out.drew).grown k5 (by show w.heap.size ≤ w4.heap.size; have := HZ4.out; have := HLT.out; omega) (by intro i e; injection e with e; have := HLT.out; omega))
 have HZ5 : Hid (gf + 1 < w5.heap.size) := Lib.hid hm5.lt
 clear hO5 k5 hR4
 obtain ⟨f, hf⟩ : ∃ f, decide (List.take 6 l = [0, 1, 8, 0, 6, 4]) = f := ⟨_, rfl⟩
 rw [hf]
 have HF := Lib.hid hf
 clear hf
 go_wp2_with fail
 refine (two_at _ g l 6 (by rw [HN.out]; omega) _ hR5 (by have := HLT.out; have := HZ5.out; have := hR5.lt; omega)).mono ?_
 rintro e w6 ⟨rfl, hR6, k6⟩
 obtain ⟨v, hv⟩ : ∃ v, rd2 l 6 = v := ⟨_, rfl⟩
 rw [hv]
 have HV := Lib.hid hv
 have hv0 := rd2_bd hb 6
 rw [hv] at hv0
 have hg6 := hg5.grown k6 (by intro e; injection e with e; have := HLT.out; omega)
 have hm6 := hm5.grown k6 (by intro e; injection e with e; have := HLT.out; omega)
 have HBW6 : Hid (Below w.heap.size w w6) := Lib.hid (HBW5.out.grown k6 (by have := HZ5.out; have := HLT.out; omega) (by intro i e; injection e with e; have := HLT.out; omega))
 have HZ6 : Hid (gf + 1 < w6.heap.size) := Lib.hid hm6.lt
 have HR7 := Lib.hid (hR6.store hm6 (by decide) (by decide) (by decide) 0 (.int .i64 v))
 have HM7 := Lib.hid (hm6.set 0 (.int .i64 v))
 have HG7 := Lib.hid (hg6.far (p := ⟨gf + 1, 0, none⟩) (show w.heap.size ≠ gf + 1 by have := HLT.out; omega) (.int .i64 v))
 have HBW7 := Lib.hid (HBW6.out.setCell (p := ⟨gf + 1, 0, none⟩) (show w.heap.size ≤ gf + 1 by have := HLT.out; omega) (.int .i64 v))
 have hne : w.heap.size ≠ gf + 1 := by have := HLT.out; omega
 have hne2 : gf + 1 ≠ w.heap.size := by have := HLT.out; omega
 have f0 := hm6.frozen 0
 have c0 := hm6.cell 0
 simp only [List.setIfInBounds_toArray, List.set_cons_succ, List.set_cons_zero, List.getElem?_toArray, List.getElem?_cons_zero, List.getElem?_cons_succ] at c0
 have GG : Hid (goodA l ↔ f = true ∧ (v = 1 ∨ v = 2)) := by
  show _ ↔ _
  unfold goodA headA
  rw [HV.out, ← HF.out, decide_eq_true_eq]
 clear hR5 hR6 hg5 hm5 k6 hv
 rcases (by cases f; exact .inl rfl; rcases (by omega : v ≠ 1 ∧ v ≠ 2 ∨ (v = 1 ∨ v = 2)) with h | h; exact .inr (.inl ⟨rfl, h⟩); exact .inr (.inr ⟨rfl, h⟩) : f = false ∨ (f = true ∧ v ≠ 1 ∧ v ≠ 2) ∨ (f = true ∧ (v = 1 ∨ v = 2))) with rfl | ⟨rfl, e1, e2⟩ | ⟨rfl, e1⟩
 ·skip
  have d0 := HG7.out.cell 0
  have d1 := HG7.out.cell 1
  have d2 := HG7.out.cell 2
  have d3 := HG7.out.cell 3
  have d4 := HG7.out.cell 4
  have d5 := HG7.out.cell 5
  have d6 := HG7.out.cell 6
  have d7 := HG7.out.cell 7
  have d8 := HG7.out.cell 8
  have d9 := HG7.out.cell 9
  have d10 := HG7.out.cell 10
  have d11 := HG7.out.cell 11
  have d12 := HG7.out.cell 12
  have d13 := HG7.out.cell 13
  have d14 := HG7.out.cell 14
  have x0 := HG7.out.frozen 0
  have x1 := HG7.out.frozen 1
  have x2 := HG7.out.frozen 2
  have x3 := HG7.out.frozen 3
  have x4 := HG7.out.frozen 4
  have x5 := HG7.out.frozen 5
  have x6 := HG7.out.frozen 6
  have x7 := HG7.out.frozen 7
  have x8 := HG7.out.frozen 8
  have x9 := HG7.out.frozen 9
  have x10 := HG7.out.frozen 10
  have x11 := HG7.out.frozen 11
  have x12 := HG7.out.frozen 12
  have x13 := HG7.out.frozen 13
  have x14 := HG7.out.frozen 14
  simp only [List.setIfInBounds_toArray, List.set_cons_succ, List.set_cons_zero, List.getElem?_toArray, List.getElem?_cons_zero, List.getElem?_cons_succ] at d0 d1 d2 d3 d4 d5 d6 d7 d8 d9 d10 d11 d12 d13 d14
  go_wp2
  refine bodyPost_ret (v := .tuple #[.agg #[.int .i64 0, .int .u8 0, .int .u8 0, .int .u8 0, .int .u8 0, .int .u8 0, .int .u8 0, .int .u32 0, .int .u8 0, .int .u8 0, .int .u8 0, .int .u8 0, .int .u8 0, .int .u8 0, .int .u32 0], .int .i64 3]) (by simp [results, Tryz.results28, go_sem, *]) rfl ⟨.inr ⟨fun h => ?_, rfl⟩, ?_⟩
  ·have := GG.out.1 h
   simp at this
  ·iterate 15 refine Below.set1 ?_ (Nat.le_refl _) _
   exact HBW7.out
 ·skip
  have d0 := HG7.out.cell 0
  have d1 := HG7.out.cell 1
  have d2 := HG7.out.cell 2
  have d3 := HG7.out.cell 3
  have d4 := HG7.out.cell 4
  have d5 := HG7.out.cell 5
  have d6 := HG7.out.cell 6
  have d7 := HG7.out.cell 7
  have d8 := HG7.out.cell 8
  have d9 := HG7.out.cell 9
  have d10 := HG7.out.cell 10
  have d11 := HG7.out.cell 11
  have d12 := HG7.out.cell 12
  have d13 := HG7.out.cell 13
  have d14 := HG7.out.cell 14
  have x0 := HG7.out.frozen 0
  have x1 := HG7.out.frozen 1
  have x2 := HG7.out.frozen 2
  have x3 := HG7.out.frozen 3
  have x4 := HG7.out.frozen 4
  have x5 := HG7.out.frozen 5
  have x6 := HG7.out.frozen 6
  have x7 := HG7.out.frozen 7
  have x8 := HG7.out.frozen 8
  have x9 := HG7.out.frozen 9
  have x10 := HG7.out.frozen 10
  have x11 := HG7.out.frozen 11
  have x12 := HG7.out.frozen 12
  have x13 := HG7.out.frozen 13
  have x14 := HG7.out.frozen 14
  simp only [List.setIfInBounds_toArray, List.set_cons_succ, List.set_cons_zero, List.getElem?_toArray, List.getElem?_cons_zero, List.getElem?_cons_succ] at d0 d1 d2 d3 d4 d5 d6 d7 d8 d9 d10 d11 d12 d13 d14
  have e3 : (v != 1) = true := by simpa using e1
  have e4 : (v != 2) = true := by simpa using e2
  go_wp2
  refine bodyPost_ret (v := .tuple #[.agg #[.int .i64 0, .int .u8 0, .int .u8 0, .int .u8 0, .int .u8 0, .int .u8 0, .int .u8 0, .int .u32 0, .int .u8 0, .int .u8 0, .int .u8 0, .int .u8 0, .int .u8 0, .int .u8 0, .int .u32 0], .int .i64 3]) (by simp [results, Tryz.results28, go_sem, *]) rfl ⟨.inr ⟨fun h => ?_, rfl⟩, ?_⟩
  ·have := GG.out.1 h
   omega
  ·iterate 15 refine Below.set1 ?_ (Nat.le_refl _) _
   exact HBW7.out
 ·have g1 : goodA l := GG.out.2 ⟨rfl, e1⟩
  have G1 := Lib.hid g1
  clear g1 hg6 hm6
  have HL8 : Hid (((l.drop 8).take 6).length = 6) := Lib.hid (by simp; rw [HN.out]; omega)
  have HB8 : Hid ((by8 ((l.drop 8).take 6)).length = 6) := Lib.hid (by rw [by8_length]; exact HL8.out)
  have Q8 : Hid (8 + 6 ≤ l.length) := Lib.hid (by rw [HN.out]; show _ ≤ _; omega)
  have HG8 : Hid (w0.heap.size ≤ (w6.setCell ⟨gf + 1, 0, none⟩ (.int .i64 v)).drew.heap.size) := Lib.hid (by
   show _ ≤ (w6.setCell ⟨gf + 1, 0, none⟩ (.int .i64 v)).heap.size
   rw [size_setCell]; have := HZ6.out; have := HLT.out; omega)
  have hn8 : 1 + 6 ≤ (#[.int .i64 0, .int .u8 0, .int .u8 0, .int .u8 0, .int .u8 0, .int .u8 0, .int .u8 0, .int .u32 0, .int .u8 0, .int .u8 0, .int .u8 0, .int .u8 0, .int .u8 0, .int .u8 0, .int .u32 0].setIfInBounds 0 (.int .i64 v) : Array Value).size := by simp
  have hgne : some (gf + 1) ≠ some g := by intro e; injection e with e; have := HLT.out; omega
  have HGN := Lib.hid hgne
  clear hgne
  have HL18 : Hid (((l.drop 18).take 6).length = 6) := Lib.hid (by simp; rw [HN.out]; omega)
  have HB18 : Hid ((by8 ((l.drop 18).take 6)).length = 6) := Lib.hid (by rw [by8_length]; exact HL18.out)
  have Q18 : Hid (18 + 6 ≤ l.length) := Lib.hid (by rw [HN.out]; show _ ≤ _; omega)
  rcases e1 with rfl | rfl
  ·skip
   go_wp2_with fail
   go_region_held3 (fun _ => True) (trivial)
    (first
     | (go_at_call 64; refine (raw_at _ g l 8 6 Q8.out P2.out _ (Rd.drew_ HR7.out) HG8.out).mono ?_; rintro e w8 ⟨A8, n8, c8, rfl, hO8, hR8, k8⟩; obtain rfl : 6 = n8 := HB8.out.symm.trans (Ow.length hO8))
     | (refine cp8 rfl (.tmp 36) (.tmp 38) 37 Tryz.underlying37 rfl rfl ((HM7.out.drew).grown k8 HGN.out) rfl (Ow.rw hO8) HL8.out rfl P3 hn8 ?_; intro w9 hm9 k9))
   have hx8 := (HM7.out.drew).grown k8 HGN.out
   have hy8 := (HG7.out.drew).grown k8 (by intro e; injection e with e; have := HLT.out; omega)
   have hR9 := hR8.kept hx8 (by decide) (by decide) (by decide) k9
   have hy9 := hy8.grown k9 (by intro e; injection e with e; exact hne e)
   have hB8 : Below w.heap.size w w8 := (HBW7.out.drew).grown k8 (by show _ ≤ (World.setCell _ _ _).heap.size; rw [size_setCell]; have := HZ6.out; have := HLT.out; omega) (by intro i e; injection e with e; have := HLT.out; omega)
   have hB9 : Below w.heap.size w w9 := hB8.grown k9 hB8.size (by intro i e; injection e with e; have := HLT.out; omega)
   have hm9' : Bk w9 (gf + 1) 93 #[.int .i64 1, .int .u8 (at8 l 8), .int .u8 (at8 l 9), .int .u8 (at8 l 10), .int .u8 (at8 l 11), .int .u8 (at8 l 12), .int .u8 (at8 l 13), .int .u32 0, .int .u8 0, .int .u8 0, .int .u8 0, .int .u8 0, .int .u8 0, .int .u8 0, .int .u32 0] := by
    rw [six_at l 8 Q8.out] at hm9
    exact hm9
   have hz9 := hm9'.lt
   have HY9 := Lib.hid hy9
   have HM9 := Lib.hid hm9'
   have HB9 := Lib.hid hB9
   clear hm9 hm9' hO8 k8 hR8 hx8 hy8 hB8 k9 hy9 hB9
   go_wp2_with fail
   refine (four_at _ g l 14 (by rw [HN.out]; omega) _ hR9 (by have := HLT.out; omega)).mono ?_
   rintro e w10 ⟨rfl, hR10, k10⟩
   have hm10 := HM9.out.grown k10 HGN.out
   have hy10 := HY9.out.grown k10 (by intro e; injection e with e; have := HLT.out; omega)
   have hB10 : Below w.heap.size w w10 := HB9.out.grown k10 HB9.out.size (by intro i e; injection e with e; have := HLT.out; omega)
   have f7 := hm10.frozen 7
   have c7 := hm10.cell 7
   simp only [List.setIfInBounds_toArray, List.set_cons_succ, List.set_cons_zero, List.getElem?_toArray, List.getElem?_cons_zero, List.getElem?_cons_succ] at c7
   have HR11 := Lib.hid (hR10.store hm10 (by decide) (by decide) (by decide) 7 (.int .u32 (rd4 l 14)))
   have HM11 : Hid (Bk (w10.setCell ⟨gf + 1, 7, none⟩ (.int .u32 (rd4 l 14))) (gf + 1) 93 #[.int .i64 1, .int .u8 (at8 l 8), .int .u8 (at8 l 9), .int .u8 (at8 l 10), .int .u8 (at8 l 11), .int .u8 (at8 l 12), .int .u8 (at8 l 13), .int .u32 (rd4 l 14), .int .u8 0, .int .u8 0, .int .u8 0, .int .u8 0, .int .u8 0, .int .u8 0, .int .u32 0]) := Lib.hid (hm10.set 7 (.int .u32 (rd4 l 14)))
   have HY11 := Lib.hid (hy10.far (p := ⟨gf + 1, 7, none⟩) hne (.int .u32 (rd4 l 14)))
   have HB11 := Lib.hid (hB10.setCell (p := ⟨gf + 1, 7, none⟩) (show w.heap.size ≤ gf + 1 by have := HLT.out; omega) (.int .u32 (rd4 l 14)))
   have HG18 : Hid (w0.heap.size ≤ (w10.setCell ⟨gf + 1, 7, none⟩ (.int .u32 (rd4 l 14))).drew.heap.size) := Lib.hid (by
    show _ ≤ (w10.setCell ⟨gf + 1, 7, none⟩ (.int .u32 (rd4 l 14))).heap.size
    rw [size_setCell]; have := hm10.lt; have := HLT.out; omega)
   have hn18 : 8 + 6 ≤ (#[.int .i64 1, .int .u8 (at8 l 8), .int .u8 (at8 l 9), .int .u8 (at8 l 10), .int .u8 (at8 l 11), .int .u8 (at8 l 12), .int .u8 (at8 l 13), .int .u32 (rd4 l 14), .int .u8 0, .int .u8 0, .int .u8 0, .int .u8 0, .int .u8 0, .int .u8 0, .int .u32 0] : Array Value).size := by simp
   clear hR9 hR10 k10 hy10 hB10 hm10
   go_wp2_with fail
   go_region_held3 (fun _ => True) (trivial)
    (first
     | (go_at_call 64; refine (raw_at _ g l 18 6 Q18.out P2.out _ (Rd.drew_ HR11.out) HG18.out).mono ?_; rintro e w12 ⟨A12, n12, c12, rfl, hO12, hR12, k12⟩; obtain rfl : 6 = n12 := HB18.out.symm.trans (Ow.length hO12))
     | (refine cp8 rfl (.tmp 44) (.tmp 46) 37 Tryz.underlying37 rfl rfl ((HM11.out.drew).grown k12 HGN.out) rfl (Ow.rw hO12) HL18.out rfl P3 hn18 ?_; intro w13 hm13 k13))
   have hx12 := (HM11.out.drew).grown k12 HGN.out
   have hy12 := (HY11.out.drew).grown k12 (by intro e; injection e with e; have := HLT.out; omega)
   have hR13 := hR12.kept hx12 (by decide) (by decide) (by decide) k13
   have hy13 := hy12.grown k13 (by intro e; injection e with e; exact hne e)
   have hB12 : Below w.heap.size w w12 := (HB11.out.drew).grown k12 (HB11.out.size) (by intro i e; injection e with e; have := HLT.out; omega)
   have hB13 : Below w.heap.size w w13 := hB12.grown k13 hB12.size (by intro i e; injection e with e; have := HLT.out; omega)
   have hm13' : Bk w13 (gf + 1) 93 #[.int .i64 1, .int .u8 (at8 l 8), .int .u8 (at8 l 9), .int .u8 (at8 l 10), .int .u8 (at8 l 11), .int .u8 (at8 l 12), .int .u8 (at8 l 13), .int .u32 (rd4 l 14), .int .u8 (at8 l 18), .int .u8 (at8 l 19), .int .u8 (at8 l 20), .int .u8 (at8 l 21), .int .u8 (at8 l 22), .int .u8 (at8 l 23), .int .u32 0] := by
    rw [six_at l 18 Q18.out] at hm13
    exact hm13
   have hz13 := hm13'.lt
   have HY13 := Lib.hid hy13
   have HM13 := Lib.hid hm13'
   have HB13 := Lib.hid hB13
   clear hm13 hm13' hO12 k12 hR12 hx12 hy12 hB12 k13 hy13 hB13 f7 c7
   go_wp2_with fail
   refine (four_at _ g l 24 (by rw [HN.out]; omega) _ hR13 (by have := HLT.out; omega)).mono ?_
   rintro e w14 ⟨rfl, hR14, k14⟩
   have hm14 := HM13.out.grown k14 HGN.out
   have hy14 := HY13.out.grown k14 (by intro e; injection e with e; have := HLT.out; omega)
   have hB14 : Below w.heap.size w w14 := HB13.out.grown k14 HB13.out.size (by intro i e; injection e with e; have := HLT.out; omega)
   have HB14 := Lib.hid hB14
   have f14 := hm14.frozen 14
   have d0 := hm14.cell 0
   have d1 := hm14.cell 1
   have d2 := hm14.cell 2
   have d3 := hm14.cell 3
   have d4 := hm14.cell 4
   have d5 := hm14.cell 5
   have d6 := hm14.cell 6
   have d7 := hm14.cell 7
   have d8 := hm14.cell 8
   have d9 := hm14.cell 9
   have d10 := hm14.cell 10
   have d11 := hm14.cell 11
   have d12 := hm14.cell 12
   have d13 := hm14.cell 13
   have d14 := hm14.cell 14
   have y0 := hy14.cell 0
   have y1 := hy14.cell 1
   have y2 := hy14.cell 2
   have y3 := hy14.cell 3
   have y4 := hy14.cell 4
   have y5 := hy14.cell 5
   have y6 := hy14.cell 6
   have y7 := hy14.cell 7
   have y8 := hy14.cell 8
   have y9 := hy14.cell 9
   have y10 := hy14.cell 10
   have y11 := hy14.cell 11
   have y12 := hy14.cell 12
   have y13 := hy14.cell 13
   have y14 := hy14.cell 14
   have x0 := hy14.frozen 0
   have x1 := hy14.frozen 1
   have x2 := hy14.frozen 2
   have x3 := hy14.frozen 3
   have x4 := hy14.frozen 4
   have x5 := hy14.frozen 5
   have x6 := hy14.frozen 6
   have x7 := hy14.frozen 7
   have x8 := hy14.frozen 8
   have x9 := hy14.frozen 9
   have x10 := hy14.frozen 10
   have x11 := hy14.frozen 11
   have x12 := hy14.frozen 12
   have x13 := hy14.frozen 13
   have x14 := hy14.frozen 14
   simp only [List.setIfInBounds_toArray, List.set_cons_succ, List.set_cons_zero, List.getElem?_toArray, List.getElem?_cons_zero, List.getElem?_cons_succ] at d0 y0 d1 y1 d2 y2 d3 y3 d4 y4 d5 y5 d6 y6 d7 y7 d8 y8 d9 y9 d10 y10 d11 y11 d12 y12 d13 y13 d14 y14
   clear hR13 hR14 k14 hm14 hy14 hB14 f0 c0
   go_wp2
   refine bodyPost_ret (v := .tuple #[.agg #[.int .i64 1, .int .u8 (at8 l 8), .int .u8 (at8 l 9), .int .u8 (at8 l 10), .int .u8 (at8 l 11), .int .u8 (at8 l 12), .int .u8 (at8 l 13), .int .u32 (rd4 l 14), .int .u8 (at8 l 18), .int .u8 (at8 l 19), .int .u8 (at8 l 20), .int .u8 (at8 l 21), .int .u8 (at8 l 22), .int .u8 (at8 l 23), .int .u32 (rd4 l 24)], .int .i64 0]) (by simp [results, Tryz.results28, go_sem, *]) rfl ⟨.inl ⟨G1.out, ?_⟩, ?_⟩
   ·unfold arpC
    rw [HV.out]
   ·iterate 15 refine Below.set1 ?_ (Nat.le_refl _) _
    exact Below.set1 HB14.out (by have := HLT.out; omega) _
  ·skip
   go_wp2_with fail
   go_region_held3 (fun _ => True) (trivial)
    (first
     | (go_at_call 64; refine (raw_at _ g l 8 6 Q8.out P2.out _ (Rd.drew_ HR7.out) HG8.out).mono ?_; rintro e w8 ⟨A8, n8, c8, rfl, hO8, hR8, k8⟩; obtain rfl : 6 = n8 := HB8.out.symm.trans (Ow.length hO8))
     | (refine cp8 rfl (.tmp 36) (.tmp 38) 37 Tryz.underlying37 rfl rfl ((HM7.out.drew).grown k8 HGN.out) rfl (Ow.rw hO8) HL8.out rfl P3 hn8 ?_; intro w9 hm9 k9))
   have hx8 := (HM7.out.drew).grown k8 HGN.out
   have hy8 := (HG7.out.drew).grown k8 (by intro e; injection e with e; have := HLT.out; omega)
   have hR9 := hR8.kept hx8 (by decide) (by decide) (by decide) k9
   have hy9 := hy8.grown k9 (by intro e; injection e with e; exact hne e)
   have hB8 : Below w.heap.size w w8 := (HBW7.out.drew).grown k8 (by show _ ≤ (World.setCell _ _ _).heap.size; rw [size_setCell]; have := HZ6.out; have := HLT.out; omega) (by intro i e; injection e with e; have := HLT.out; omega)
   have hB9 : Below w.heap.size w w9 := hB8.grown k9 hB8.size (by intro i e; injection e with e; have := HLT.out; omega)
   have hm9' : Bk w9 (gf + 1) 93 #[.int .i64 2, .int .u8 (at8 l 8), .int .u8 (at8 l 9), .int .u8 (at8 l 10), .int .u8 (at8 l 11), .int .u8 (at8 l 12), .int .u8 (at8 l 13), .int .u32 0, .int .u8 0, .int .u8 0, .int .u8 0, .int .u8 0, .int .u8 0, .int .u8 0, .int .u32 0] := by
    rw [six_at l 8 Q8.out] at hm9
    exact hm9
   have hz9 := hm9'.lt
   have HY9 := Lib.hid hy9
   have HM9 := Lib.hid hm9'
   have HB9 := Lib.hid hB9
   clear hm9 hm9' hO8 k8 hR8 hx8 hy8 hB8 k9 hy9 hB9
   go_wp2_with fail
   refine (four_at _ g l 14 (by rw [HN.out]; omega) _ hR9 (by have := HLT.out; omega)).mono ?_
   rintro e w10 ⟨rfl, hR10, k10⟩
   have hm10 := HM9.out.grown k10 HGN.out
   have hy10 := HY9.out.grown k10 (by intro e; injection e with e; have := HLT.out; omega)
   have hB10 : Below w.heap.size w w10 := HB9.out.grown k10 HB9.out.size (by intro i e; injection e with e; have := HLT.out; omega)
   have f7 := hm10.frozen 7
   have c7 := hm10.cell 7
   simp only [List.setIfInBounds_toArray, List.set_cons_succ, List.set_cons_zero, List.getElem?_toArray, List.getElem?_cons_zero, List.getElem?_cons_succ] at c7
   have HR11 := Lib.hid (hR10.store hm10 (by decide) (by decide) (by decide) 7 (.int .u32 (rd4 l 14)))
   have HM11 : Hid (Bk (w10.setCell ⟨gf + 1, 7, none⟩ (.int .u32 (rd4 l 14))) (gf + 1) 93 #[.int .i64 2, .int .u8 (at8 l 8), .int .u8 (at8 l 9), .int .u8 (at8 l 10), .int .u8 (at8 l 11), .int .u8 (at8 l 12), .int .u8 (at8 l 13), .int .u32 (rd4 l 14), .int .u8 0, .int .u8 0, .int .u8 0, .int .u8 0, .int .u8 0, .int .u8 0, .int .u32 0]) := Lib.hid (hm10.set 7 (.int .u32 (rd4 l 14)))
   have HY11 := Lib.hid (hy10.far (p := ⟨gf + 1, 7, none⟩) hne (.int .u32 (rd4 l 14)))
   have HB11 := Lib.hid (hB10.setCell (p := ⟨gf + 1, 7, none⟩) (show w.heap.size ≤ gf + 1 by have := HLT.out; omega) (.int .u32 (rd4 l 14)))
   have HG18 : Hid (w0.heap.size ≤ (w10.setCell ⟨gf + 1, 7, none⟩ (.int .u32 (rd4 l 14))).drew.heap.size) := Lib.hid (by
    show _ ≤ (w10.setCell ⟨gf + 1, 7, none⟩ (.int .u32 (rd4 l 14))).heap.size
    rw [size_setCell]; have := hm10.lt; have := HLT.out; omega)
   have hn18 : 8 + 6 ≤ (#[.int .i64 2, .int .u8 (at8 l 8), .int .u8 (at8 l 9), .int .u8 (at8 l 10), .int .u8 (at8 l 11), .int .u8 (at8 l 12), .int .u8 (at8 l 13), .int .u32 (rd4 l 14), .int .u8 0, .int .u8 0, .int .u8 0, .int .u8 0, .int .u8 0, .int .u8 0, .int .u32 0] : Array Value).size := by simp
   clear hR9 hR10 k10 hy10 hB10 hm10
   go_wp2_with fail
   go_region_held3 (fun _ => True) (trivial)
    (first
     | (go_at_call 64; refine (raw_at _ g l 18 6 Q18.out P2.out _ (Rd.drew_ HR11.out) HG18.out).mono ?_; rintro e w12 ⟨A12, n12, c12, rfl, hO12, hR12, k12⟩; obtain rfl : 6 = n12 := HB18.out.symm.trans (Ow.length hO12))
     | (refine cp8 rfl (.tmp 44) (.tmp 46) 37 Tryz.underlying37 rfl rfl ((HM11.out.drew).grown k12 HGN.out) rfl (Ow.rw hO12) HL18.out rfl P3 hn18 ?_; intro w13 hm13 k13))
   have hx12 := (HM11.out.drew).grown k12 HGN.out
   have hy12 := (HY11.out.drew).grown k12 (by intro e; injection e with e; have := HLT.out; omega)
   have hR13 := hR12.kept hx12 (by decide) (by decide) (by decide) k13
   have hy13 := hy12.grown k13 (by intro e; injection e with e; exact hne e)
   have hB12 : Below w.heap.size w w12 := (HB11.out.drew).grown k12 (HB11.out.size) (by intro i e; injection e with e; have := HLT.out; omega)
   have hB13 : Below w.heap.size w w13 := hB12.grown k13 hB12.size (by intro i e; injection e with e; have := HLT.out; omega)
   have hm13' : Bk w13 (gf + 1) 93 #[.int .i64 2, .int .u8 (at8 l 8), .int .u8 (at8 l 9), .int .u8 (at8 l 10), .int .u8 (at8 l 11), .int .u8 (at8 l 12), .int .u8 (at8 l 13), .int .u32 (rd4 l 14), .int .u8 (at8 l 18), .int .u8 (at8 l 19), .int .u8 (at8 l 20), .int .u8 (at8 l 21), .int .u8 (at8 l 22), .int .u8 (at8 l 23), .int .u32 0] := by
    rw [six_at l 18 Q18.out] at hm13
    exact hm13
   have hz13 := hm13'.lt
   have HY13 := Lib.hid hy13
   have HM13 := Lib.hid hm13'
   have HB13 := Lib.hid hB13
   clear hm13 hm13' hO12 k12 hR12 hx12 hy12 hB12 k13 hy13 hB13 f7 c7
   go_wp2_with fail
   refine (four_at _ g l 24 (by rw [HN.out]; omega) _ hR13 (by have := HLT.out; omega)).mono ?_
   rintro e w14 ⟨rfl, hR14, k14⟩
   have hm14 := HM13.out.grown k14 HGN.out
   have hy14 := HY13.out.grown k14 (by intro e; injection e with e; have := HLT.out; omega)
   have hB14 : Below w.heap.size w w14 := HB13.out.grown k14 HB13.out.size (by intro i e; injection e with e; have := HLT.out; omega)
   have HB14 := Lib.hid hB14
   have f14 := hm14.frozen 14
   have d0 := hm14.cell 0
   have d1 := hm14.cell 1
   have d2 := hm14.cell 2
   have d3 := hm14.cell 3
   have d4 := hm14.cell 4
   have d5 := hm14.cell 5
   have d6 := hm14.cell 6
   have d7 := hm14.cell 7
   have d8 := hm14.cell 8
   have d9 := hm14.cell 9
   have d10 := hm14.cell 10
   have d11 := hm14.cell 11
   have d12 := hm14.cell 12
   have d13 := hm14.cell 13
   have d14 := hm14.cell 14
   have y0 := hy14.cell 0
   have y1 := hy14.cell 1
   have y2 := hy14.cell 2
   have y3 := hy14.cell 3
   have y4 := hy14.cell 4
   have y5 := hy14.cell 5
   have y6 := hy14.cell 6
   have y7 := hy14.cell 7
   have y8 := hy14.cell 8
   have y9 := hy14.cell 9
   have y10 := hy14.cell 10
   have y11 := hy14.cell 11
   have y12 := hy14.cell 12
   have y13 := hy14.cell 13
   have y14 := hy14.cell 14
   have x0 := hy14.frozen 0
   have x1 := hy14.frozen 1
   have x2 := hy14.frozen 2
   have x3 := hy14.frozen 3
   have x4 := hy14.frozen 4
   have x5 := hy14.frozen 5
   have x6 := hy14.frozen 6
   have x7 := hy14.frozen 7
   have x8 := hy14.frozen 8
   have x9 := hy14.frozen 9
   have x10 := hy14.frozen 10
   have x11 := hy14.frozen 11
   have x12 := hy14.frozen 12
   have x13 := hy14.frozen 13
   have x14 := hy14.frozen 14
   simp only [List.setIfInBounds_toArray, List.set_cons_succ, List.set_cons_zero, List.getElem?_toArray, List.getElem?_cons_zero, List.getElem?_cons_succ] at d0 y0 d1 y1 d2 y2 d3 y3 d4 y4 d5 y5 d6 y6 d7 y7 d8 y8 d9 y9 d10 y10 d11 y11 d12 y12 d13 y13 d14 y14
   clear hR13 hR14 k14 hm14 hy14 hB14 f0 c0
   go_wp2
   refine bodyPost_ret (v := .tuple #[.agg #[.int .i64 2, .int .u8 (at8 l 8), .int .u8 (at8 l 9), .int .u8 (at8 l 10), .int .u8 (at8 l 11), .int .u8 (at8 l 12), .int .u8 (at8 l 13), .int .u32 (rd4 l 14), .int .u8 (at8 l 18), .int .u8 (at8 l 19), .int .u8 (at8 l 20), .int .u8 (at8 l 21), .int .u8 (at8 l 22), .int .u8 (at8 l 23), .int .u32 (rd4 l 24)], .int .i64 0]) (by simp [results, Tryz.results28, go_sem, *]) rfl ⟨.inl ⟨G1.out, ?_⟩, ?_⟩
   ·unfold arpC
    rw [HV.out]
   ·iterate 15 refine Below.set1 ?_ (Nat.le_refl _) _
    exact Below.set1 HB14.out (by have := HLT.out; omega) _
end Go.Proofs.YtaeafkdfbcppgaaGreat
