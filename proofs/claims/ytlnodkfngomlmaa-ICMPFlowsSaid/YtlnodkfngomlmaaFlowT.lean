/- Proved: whose flow some bytes are, by the reference's Flow, by its walk. Conditions: the bytes lie in memory. -/
import Derived.Test.YtlnodkfngomlmaaFlowR
import Derived.Deep.RegionHeld3
set_option linter.unusedVariables false
namespace Go.Proofs.Ytlnodkfngomlmaa
open Go.RowKit
set_option maxRecDepth 100000 in
set_option maxHeartbeats 1500000 in
theorem rflow_few6 (A : Option Addr) (n c B : Nat) (l : List Int) (hn : l.length = n) (h20 : 20 ≤ n) (v4 : (at8 l 0 / 16 != 4) = false) (m : Nat) (hmm : at8 l 0 % 16 * 4 - 20 = (m : Int)) (hle : 20 + m ≤ n) (hp : at8 l 9 = 6) (hlf : n < 20 + m + 4) (hc : n ≤ c) (hmax : n ≤ 1000000) (hb : Bs l) (w : World) (hr : RB w B A l) (hB : B ≤ w.heap.size) :
    Calls Try.prog 29 #[.slice A n c] w (FlowRet w l) := by
  have HN := Lib.hid hn
  obtain ⟨w0, hw0⟩ : ∃ w0, w.alloc (.cells #[.int .i64 0, .int .u32 0, .int .i64 0, .int .u32 0, .int .i64 0] 60) = w0 := ⟨_, rfl⟩
  have hB0 : Below w.heap.size w w0 := by rw [← hw0]; exact (Below.refl _ _).alloc (Nat.le_refl _) _
  have hg0 : Bk w0 w.heap.size 60 #[.int .i64 0, .int .u32 0, .int .i64 0, .int .u32 0, .int .i64 0] := by rw [← hw0]; exact Bk.new w _ _
  have hr0 : RB w0 B A l := Rw.below hr (hB0.mono hB)
  have HW0 := Lib.hid hw0
  have z0 := hg0.lt
  have hB1 : B ≤ w0.heap.size := by omega
  obtain ⟨b, off, rfl, hbB, x0⟩ := hr0.at_ (k := 0) (by omega)
  obtain ⟨b', off', e', _, x9⟩ := hr0.at_ (k := 9) (by omega)
  injection e' with e'; injection e' with e1 e2; subst e1; subst e2
  change w0.cell? ⟨b, off, none⟩ = some (.int .u8 (at8 l 0)) at x0
  change w0.cell? ⟨b, off + 9, none⟩ = some (.int .u8 (at8 l 9)) at x9
  have a0 := at8_bd hb 0
  have a9 := at8_bd hb 9
  have a6 := rd2_bd hb 6
  have x0a : (w.alloc (.cells #[.int .i64 0, .int .u32 0, .int .i64 0, .int .u32 0, .int .i64 0] 60)).cell? ⟨b, off, none⟩ = some (.int .u8 (at8 l 0)) := by rw [hw0]; exact x0
  have n20 : (20 : Int) ≤ n := by omega
  have n0 : 0 < n := by omega
  have n9 : (9 : Int) < n := by omega
  have hbn : b ≠ w.heap.size := by omega
  have hbn2 : w.heap.size ≠ b := by omega
  have hb0 : b < w0.heap.size := by omega
  have hbm : b ≠ w0.heap.size := by omega
  have hbm2 : w0.heap.size ≠ b := by omega
  have LEM := Lib.hid (flow_6 (l := l) (by rw [hn]; omega) (fun h => h.elim (by simpa using v4) (by omega)) (by rw [hn]; omega) (fun h => by have := h.2.2; rw [hn] at this; omega))
  rw [hp] at a9 x9
  have HP := Lib.hid hp
  clear hp
  obtain ⟨hq, hQ⟩ : ∃ hq : Nat, 20 + m = hq := ⟨_, rfl⟩
  have hqq : at8 l 0 % 16 * 4 = (hq : Int) := by omega
  have hq20 : (20 : Int) ≤ hq := by omega
  have hq60 : (hq : Int) ≤ 60 := by omega
  have HQ := Lib.hid hQ
  clear hmm
  have hql : (hq : Int) ≤ n := by omega
  have hf : (n : Int) < hq + 4 := by omega
  have hfd : decide ((hq : Int) + 4 ≤ n) = false := decide_eq_false (by omega)
  have g2 := fun (k : Nat) (hk : k + 2 ≤ n) (w' : World) (h : RB w' B (some ⟨b, off, none⟩) l) => get2_any _ n c B l k hn hk (by omega) hb w' h
  have G12 := Lib.hid (fun (w' : World) (h : RB w' B (some ⟨b, off, none⟩) l) => get4_lit _ n c B l 12 12 rfl hn (by omega) (by omega) hb w' h)
  have G16 := Lib.hid (fun (w' : World) (h : RB w' B (some ⟨b, off, none⟩) l) => get4_lit _ n c B l 16 16 rfl hn (by omega) (by omega) hb w' h)
  have hx0 : RBx w0 B (some ⟨b, off, none⟩) l := ⟨hr0, hB1⟩
  have y0 : ∀ k, ((w0.drewN k).alloc (.cells #[.int .i64 0, .int .u32 0, .int .i64 0, .int .u32 0, .int .i64 0] 60)).cell? ⟨w0.heap.size, 0, none⟩ = some (.int .i64 0) := fun k => cell_new w0 k _ _ 0
  have u0 : ∀ k, ((w0.drewN k).alloc (.cells #[.int .i64 0, .int .u32 0, .int .i64 0, .int .u32 0, .int .i64 0] 60)).frozen? ⟨w0.heap.size, 0, none⟩ = false := fun k => frozen_new w0 k _ _ 0
  have y1 : ∀ k, ((w0.drewN k).alloc (.cells #[.int .i64 0, .int .u32 0, .int .i64 0, .int .u32 0, .int .i64 0] 60)).cell? ⟨w0.heap.size, 1, none⟩ = some (.int .u32 0) := fun k => cell_new w0 k _ _ 1
  have u1 : ∀ k, ((w0.drewN k).alloc (.cells #[.int .i64 0, .int .u32 0, .int .i64 0, .int .u32 0, .int .i64 0] 60)).frozen? ⟨w0.heap.size, 1, none⟩ = false := fun k => frozen_new w0 k _ _ 1
  have y2 : ∀ k, ((w0.drewN k).alloc (.cells #[.int .i64 0, .int .u32 0, .int .i64 0, .int .u32 0, .int .i64 0] 60)).cell? ⟨w0.heap.size, 2, none⟩ = some (.int .i64 0) := fun k => cell_new w0 k _ _ 2
  have u2 : ∀ k, ((w0.drewN k).alloc (.cells #[.int .i64 0, .int .u32 0, .int .i64 0, .int .u32 0, .int .i64 0] 60)).frozen? ⟨w0.heap.size, 2, none⟩ = false := fun k => frozen_new w0 k _ _ 2
  have y3 : ∀ k, ((w0.drewN k).alloc (.cells #[.int .i64 0, .int .u32 0, .int .i64 0, .int .u32 0, .int .i64 0] 60)).cell? ⟨w0.heap.size, 3, none⟩ = some (.int .u32 0) := fun k => cell_new w0 k _ _ 3
  have u3 : ∀ k, ((w0.drewN k).alloc (.cells #[.int .i64 0, .int .u32 0, .int .i64 0, .int .u32 0, .int .i64 0] 60)).frozen? ⟨w0.heap.size, 3, none⟩ = false := fun k => frozen_new w0 k _ _ 3
  have y4 : ∀ k, ((w0.drewN k).alloc (.cells #[.int .i64 0, .int .u32 0, .int .i64 0, .int .u32 0, .int .i64 0] 60)).cell? ⟨w0.heap.size, 4, none⟩ = some (.int .i64 0) := fun k => cell_new w0 k _ _ 4
  have u4 : ∀ k, ((w0.drewN k).alloc (.cells #[.int .i64 0, .int .u32 0, .int .i64 0, .int .u32 0, .int .i64 0] 60)).frozen? ⟨w0.heap.size, 4, none⟩ = false := fun k => frozen_new w0 k _ _ 4
  have hp0 : P0 w 60 w.heap.size w0.heap.size B (some ⟨b, off, none⟩) l w0 := ⟨rfl, z0, Nat.le_refl _, hg0, hB0, ⟨hr0, hB1⟩, hB1⟩
  have G2 := Lib.hid g2
  have v9 : IntKind.i64.wrap 6 = 6 := IntWalk.i64_in _ (by omega)
  clear g2 hQ hle hlf
  clear hn hw0
  go_enter Try.func29, Try.ntmps29
  go_wp2_with fail
  rw [HW0.out]
  go_region_held3 (fun w' => w'.cell? ⟨b, off + 9, none⟩ = some (.int .u8 6))
    (first | with_reducible assumption | go_keep)
    (first
      | (go_at_call 49; ((with_reducible refine (G12.out _ (RBx.rb (by repeat (first | with_reducible exact hx0 | with_reducible apply RBx.drew | with_reducible apply RBx.drewN | with_reducible apply RBx.alloc)))).mono ?_); rintro e w2 ⟨rfl, j, rfl⟩))
      | (go_at_call 49; ((with_reducible refine (G16.out _ (RBx.rb (by repeat (first | with_reducible exact hx0 | with_reducible apply RBx.drew | with_reducible apply RBx.drewN | with_reducible apply RBx.alloc)))).mono ?_); rintro e w2 ⟨rfl, j2, rfl⟩)))
  all_goals
    generalize hW : World.setCell _ ⟨w0.heap.size, 4, none⟩ (.int .i64 0) = W
    have hL : Laid w 60 w.heap.size w0.heap.size B (some ⟨b, off, none⟩) l 6 (rd4 l 12) (rd4 l 16) W := by
      rw [← hW]
      refine Laid.of_pre ?_ _ _ _
      repeat (first | with_reducible exact hp0 | with_reducible apply Pre.drewN | with_reducible apply Pre.drew | with_reducible apply Pre.alloc | with_reducible apply P0.drewN | with_reducible apply P0.drew)
    have HWW := Lib.hid hW
    clear hW
    have c0 := hL.hm.cell 0
    have c1 := hL.hm.cell 1
    have c2 := hL.hm.cell 2
    have c3 := hL.hm.cell 3
    have c4 := hL.hm.cell 4
    have d0 := hL.hgr.cell 0
    have d1 := hL.hgr.cell 1
    have d2 := hL.hgr.cell 2
    have d3 := hL.hgr.cell 3
    have d4 := hL.hgr.cell 4
    have e0 := hL.hgr.frozen 0
    have e1 := hL.hgr.frozen 1
    have e2 := hL.hgr.frozen 2
    have e3 := hL.hgr.frozen 3
    have e4 := hL.hgr.frozen 4
    have f2 := hL.hm.frozen 2
    have f4 := hL.hm.frozen 4
    have hgm1 : w.heap.size ≠ w0.heap.size := by omega
    have hgm2 : w0.heap.size ≠ w.heap.size := by omega
    have hgm3 : w.heap.size ≤ w0.heap.size := by omega
    have HQQ := Lib.hid hL.hQ
    have hLr := hL.rb
    simp only [List.getElem?_toArray, List.getElem?_cons_zero, List.getElem?_cons_succ] at c0 c1 c2 c3 c4 d0 d1 d2 d3 d4
    go_wp2_with fail
    refine bodyPost_ret (v := .tuple #[.agg #[.int .i64 6, .int .u32 (rd4 l 12), .int .i64 0, .int .u32 (rd4 l 16), .int .i64 0], .int .i64 0]) (by simp [results, Try.results29, go_sem, *]) rfl (flow_ret (by rw [LEM.out, HP.out]) rfl (((((HQQ.out.setCell (Nat.le_refl _) _).setCell (Nat.le_refl _) _).setCell (Nat.le_refl _) _).setCell (Nat.le_refl _) _).setCell (Nat.le_refl _) _))
set_option maxRecDepth 100000 in
set_option maxHeartbeats 1500000 in
theorem rflow_off6 (A : Option Addr) (n c B : Nat) (l : List Int) (hn : l.length = n) (h20 : 20 ≤ n) (v4 : (at8 l 0 / 16 != 4) = false) (m : Nat) (hmm : at8 l 0 % 16 * 4 - 20 = (m : Int)) (hle : 20 + m ≤ n) (hp : at8 l 9 = 6) (o0 : (rd2 l 6 % 8192 == 0) = false) (hlf : 20 + m + 4 ≤ n) (hc : n ≤ c) (hmax : n ≤ 1000000) (hb : Bs l) (w : World) (hr : RB w B A l) (hB : B ≤ w.heap.size) :
    Calls Try.prog 29 #[.slice A n c] w (FlowRet w l) := by
  have HN := Lib.hid hn
  obtain ⟨w0, hw0⟩ : ∃ w0, w.alloc (.cells #[.int .i64 0, .int .u32 0, .int .i64 0, .int .u32 0, .int .i64 0] 60) = w0 := ⟨_, rfl⟩
  have hB0 : Below w.heap.size w w0 := by rw [← hw0]; exact (Below.refl _ _).alloc (Nat.le_refl _) _
  have hg0 : Bk w0 w.heap.size 60 #[.int .i64 0, .int .u32 0, .int .i64 0, .int .u32 0, .int .i64 0] := by rw [← hw0]; exact Bk.new w _ _
  have hr0 : RB w0 B A l := Rw.below hr (hB0.mono hB)
  have HW0 := Lib.hid hw0
  have z0 := hg0.lt
  have hB1 : B ≤ w0.heap.size := by omega
  obtain ⟨b, off, rfl, hbB, x0⟩ := hr0.at_ (k := 0) (by omega)
  obtain ⟨b', off', e', _, x9⟩ := hr0.at_ (k := 9) (by omega)
  injection e' with e'; injection e' with e1 e2; subst e1; subst e2
  change w0.cell? ⟨b, off, none⟩ = some (.int .u8 (at8 l 0)) at x0
  change w0.cell? ⟨b, off + 9, none⟩ = some (.int .u8 (at8 l 9)) at x9
  have a0 := at8_bd hb 0
  have a9 := at8_bd hb 9
  have a6 := rd2_bd hb 6
  have x0a : (w.alloc (.cells #[.int .i64 0, .int .u32 0, .int .i64 0, .int .u32 0, .int .i64 0] 60)).cell? ⟨b, off, none⟩ = some (.int .u8 (at8 l 0)) := by rw [hw0]; exact x0
  have n20 : (20 : Int) ≤ n := by omega
  have n0 : 0 < n := by omega
  have n9 : (9 : Int) < n := by omega
  have hbn : b ≠ w.heap.size := by omega
  have hbn2 : w.heap.size ≠ b := by omega
  have hb0 : b < w0.heap.size := by omega
  have hbm : b ≠ w0.heap.size := by omega
  have hbm2 : w0.heap.size ≠ b := by omega
  have LEM := Lib.hid (flow_6 (l := l) (by rw [hn]; omega) (fun h => h.elim (by simpa using v4) (by omega)) (by rw [hn]; omega) (fun h => by have := h.2.1; simp at o0; omega))
  rw [hp] at a9 x9
  have HP := Lib.hid hp
  clear hp
  obtain ⟨hq, hQ⟩ : ∃ hq : Nat, 20 + m = hq := ⟨_, rfl⟩
  have hqq : at8 l 0 % 16 * 4 = (hq : Int) := by omega
  have hq20 : (20 : Int) ≤ hq := by omega
  have hq60 : (hq : Int) ≤ 60 := by omega
  have HQ := Lib.hid hQ
  clear hmm
  have hql : (hq : Int) ≤ n := by omega
  have hf : (hq : Int) + 4 ≤ n := by omega
  have hf2 : hq + 4 ≤ n := by omega
  have g2 := fun (k : Nat) (hk : k + 2 ≤ n) (w' : World) (h : RB w' B (some ⟨b, off, none⟩) l) => get2_any _ n c B l k hn hk (by omega) hb w' h
  have G12 := Lib.hid (fun (w' : World) (h : RB w' B (some ⟨b, off, none⟩) l) => get4_lit _ n c B l 12 12 rfl hn (by omega) (by omega) hb w' h)
  have G16 := Lib.hid (fun (w' : World) (h : RB w' B (some ⟨b, off, none⟩) l) => get4_lit _ n c B l 16 16 rfl hn (by omega) (by omega) hb w' h)
  have hx0 : RBx w0 B (some ⟨b, off, none⟩) l := ⟨hr0, hB1⟩
  have y0 : ∀ k, ((w0.drewN k).alloc (.cells #[.int .i64 0, .int .u32 0, .int .i64 0, .int .u32 0, .int .i64 0] 60)).cell? ⟨w0.heap.size, 0, none⟩ = some (.int .i64 0) := fun k => cell_new w0 k _ _ 0
  have u0 : ∀ k, ((w0.drewN k).alloc (.cells #[.int .i64 0, .int .u32 0, .int .i64 0, .int .u32 0, .int .i64 0] 60)).frozen? ⟨w0.heap.size, 0, none⟩ = false := fun k => frozen_new w0 k _ _ 0
  have y1 : ∀ k, ((w0.drewN k).alloc (.cells #[.int .i64 0, .int .u32 0, .int .i64 0, .int .u32 0, .int .i64 0] 60)).cell? ⟨w0.heap.size, 1, none⟩ = some (.int .u32 0) := fun k => cell_new w0 k _ _ 1
  have u1 : ∀ k, ((w0.drewN k).alloc (.cells #[.int .i64 0, .int .u32 0, .int .i64 0, .int .u32 0, .int .i64 0] 60)).frozen? ⟨w0.heap.size, 1, none⟩ = false := fun k => frozen_new w0 k _ _ 1
  have y2 : ∀ k, ((w0.drewN k).alloc (.cells #[.int .i64 0, .int .u32 0, .int .i64 0, .int .u32 0, .int .i64 0] 60)).cell? ⟨w0.heap.size, 2, none⟩ = some (.int .i64 0) := fun k => cell_new w0 k _ _ 2
  have u2 : ∀ k, ((w0.drewN k).alloc (.cells #[.int .i64 0, .int .u32 0, .int .i64 0, .int .u32 0, .int .i64 0] 60)).frozen? ⟨w0.heap.size, 2, none⟩ = false := fun k => frozen_new w0 k _ _ 2
  have y3 : ∀ k, ((w0.drewN k).alloc (.cells #[.int .i64 0, .int .u32 0, .int .i64 0, .int .u32 0, .int .i64 0] 60)).cell? ⟨w0.heap.size, 3, none⟩ = some (.int .u32 0) := fun k => cell_new w0 k _ _ 3
  have u3 : ∀ k, ((w0.drewN k).alloc (.cells #[.int .i64 0, .int .u32 0, .int .i64 0, .int .u32 0, .int .i64 0] 60)).frozen? ⟨w0.heap.size, 3, none⟩ = false := fun k => frozen_new w0 k _ _ 3
  have y4 : ∀ k, ((w0.drewN k).alloc (.cells #[.int .i64 0, .int .u32 0, .int .i64 0, .int .u32 0, .int .i64 0] 60)).cell? ⟨w0.heap.size, 4, none⟩ = some (.int .i64 0) := fun k => cell_new w0 k _ _ 4
  have u4 : ∀ k, ((w0.drewN k).alloc (.cells #[.int .i64 0, .int .u32 0, .int .i64 0, .int .u32 0, .int .i64 0] 60)).frozen? ⟨w0.heap.size, 4, none⟩ = false := fun k => frozen_new w0 k _ _ 4
  have hp0 : P0 w 60 w.heap.size w0.heap.size B (some ⟨b, off, none⟩) l w0 := ⟨rfl, z0, Nat.le_refl _, hg0, hB0, ⟨hr0, hB1⟩, hB1⟩
  have G2 := Lib.hid g2
  have v9 : IntKind.i64.wrap 6 = 6 := IntWalk.i64_in _ (by omega)
  clear g2 hQ hle hlf
  clear hn hw0
  go_enter Try.func29, Try.ntmps29
  go_wp2_with fail
  rw [HW0.out]
  go_region_held3 (fun w' => w'.cell? ⟨b, off + 9, none⟩ = some (.int .u8 6))
    (first | with_reducible assumption | go_keep)
    (first
      | (go_at_call 49; ((with_reducible refine (G12.out _ (RBx.rb (by repeat (first | with_reducible exact hx0 | with_reducible apply RBx.drew | with_reducible apply RBx.drewN | with_reducible apply RBx.alloc)))).mono ?_); rintro e w2 ⟨rfl, j, rfl⟩))
      | (go_at_call 49; ((with_reducible refine (G16.out _ (RBx.rb (by repeat (first | with_reducible exact hx0 | with_reducible apply RBx.drew | with_reducible apply RBx.drewN | with_reducible apply RBx.alloc)))).mono ?_); rintro e w2 ⟨rfl, j2, rfl⟩)))
  all_goals
    generalize hW : World.setCell _ ⟨w0.heap.size, 4, none⟩ (.int .i64 0) = W
    have hL : Laid w 60 w.heap.size w0.heap.size B (some ⟨b, off, none⟩) l 6 (rd4 l 12) (rd4 l 16) W := by
      rw [← hW]
      refine Laid.of_pre ?_ _ _ _
      repeat (first | with_reducible exact hp0 | with_reducible apply Pre.drewN | with_reducible apply Pre.drew | with_reducible apply Pre.alloc | with_reducible apply P0.drewN | with_reducible apply P0.drew)
    have HWW := Lib.hid hW
    clear hW
    have c0 := hL.hm.cell 0
    have c1 := hL.hm.cell 1
    have c2 := hL.hm.cell 2
    have c3 := hL.hm.cell 3
    have c4 := hL.hm.cell 4
    have d0 := hL.hgr.cell 0
    have d1 := hL.hgr.cell 1
    have d2 := hL.hgr.cell 2
    have d3 := hL.hgr.cell 3
    have d4 := hL.hgr.cell 4
    have e0 := hL.hgr.frozen 0
    have e1 := hL.hgr.frozen 1
    have e2 := hL.hgr.frozen 2
    have e3 := hL.hgr.frozen 3
    have e4 := hL.hgr.frozen 4
    have f2 := hL.hm.frozen 2
    have f4 := hL.hm.frozen 4
    have hgm1 : w.heap.size ≠ w0.heap.size := by omega
    have hgm2 : w0.heap.size ≠ w.heap.size := by omega
    have hgm3 : w.heap.size ≤ w0.heap.size := by omega
    have HQQ := Lib.hid hL.hQ
    have hLr := hL.rb
    simp only [List.getElem?_toArray, List.getElem?_cons_zero, List.getElem?_cons_succ] at c0 c1 c2 c3 c4 d0 d1 d2 d3 d4
    go_wp2_with fail
    refine (G2.out 6 (by omega) _ (by exact hLr)).mono ?_
    rintro e w4 ⟨rfl, j4, rfl⟩
    go_wp2_with fail
    refine bodyPost_ret (v := .tuple #[.agg #[.int .i64 6, .int .u32 (rd4 l 12), .int .i64 0, .int .u32 (rd4 l 16), .int .i64 0], .int .i64 0]) (by simp [results, Try.results29, go_sem, *]) rfl (flow_ret (by rw [LEM.out, HP.out]) rfl ((((((bel_drewN HQQ.out _).setCell (Nat.le_refl _) _).setCell (Nat.le_refl _) _).setCell (Nat.le_refl _) _).setCell (Nat.le_refl _) _).setCell (Nat.le_refl _) _))
set_option maxRecDepth 100000 in
set_option maxHeartbeats 1500000 in
theorem rflow_ports6 (A : Option Addr) (n c B : Nat) (l : List Int) (hn : l.length = n) (h20 : 20 ≤ n) (v4 : (at8 l 0 / 16 != 4) = false) (m : Nat) (hmm : at8 l 0 % 16 * 4 - 20 = (m : Int)) (hle : 20 + m ≤ n) (hp : at8 l 9 = 6) (o0 : (rd2 l 6 % 8192 == 0) = true) (hlf : 20 + m + 4 ≤ n) (hc : n ≤ c) (hmax : n ≤ 1000000) (hb : Bs l) (w : World) (hr : RB w B A l) (hB : B ≤ w.heap.size) :
    Calls Try.prog 29 #[.slice A n c] w (FlowRet w l) := by
  have HN := Lib.hid hn
  obtain ⟨w0, hw0⟩ : ∃ w0, w.alloc (.cells #[.int .i64 0, .int .u32 0, .int .i64 0, .int .u32 0, .int .i64 0] 60) = w0 := ⟨_, rfl⟩
  have hB0 : Below w.heap.size w w0 := by rw [← hw0]; exact (Below.refl _ _).alloc (Nat.le_refl _) _
  have hg0 : Bk w0 w.heap.size 60 #[.int .i64 0, .int .u32 0, .int .i64 0, .int .u32 0, .int .i64 0] := by rw [← hw0]; exact Bk.new w _ _
  have hr0 : RB w0 B A l := Rw.below hr (hB0.mono hB)
  have HW0 := Lib.hid hw0
  have z0 := hg0.lt
  have hB1 : B ≤ w0.heap.size := by omega
  obtain ⟨b, off, rfl, hbB, x0⟩ := hr0.at_ (k := 0) (by omega)
  obtain ⟨b', off', e', _, x9⟩ := hr0.at_ (k := 9) (by omega)
  injection e' with e'; injection e' with e1 e2; subst e1; subst e2
  change w0.cell? ⟨b, off, none⟩ = some (.int .u8 (at8 l 0)) at x0
  change w0.cell? ⟨b, off + 9, none⟩ = some (.int .u8 (at8 l 9)) at x9
  have a0 := at8_bd hb 0
  have a9 := at8_bd hb 9
  have a6 := rd2_bd hb 6
  have x0a : (w.alloc (.cells #[.int .i64 0, .int .u32 0, .int .i64 0, .int .u32 0, .int .i64 0] 60)).cell? ⟨b, off, none⟩ = some (.int .u8 (at8 l 0)) := by rw [hw0]; exact x0
  have n20 : (20 : Int) ≤ n := by omega
  have n0 : 0 < n := by omega
  have n9 : (9 : Int) < n := by omega
  have hbn : b ≠ w.heap.size := by omega
  have hbn2 : w.heap.size ≠ b := by omega
  have hb0 : b < w0.heap.size := by omega
  have hbm : b ≠ w0.heap.size := by omega
  have hbm2 : w0.heap.size ≠ b := by omega
  have LEM := Lib.hid (flow_5 (l := l) (by rw [hn]; omega) (fun h => h.elim (by simpa using v4) (by omega)) (by rw [hn]; omega) ⟨by omega, by simpa using o0, by rw [hn]; omega⟩ hmm)
  rw [hp] at a9 x9
  have HP := Lib.hid hp
  clear hp
  obtain ⟨hq, hQ⟩ : ∃ hq : Nat, 20 + m = hq := ⟨_, rfl⟩
  have hqq : at8 l 0 % 16 * 4 = (hq : Int) := by omega
  have hq20 : (20 : Int) ≤ hq := by omega
  have hq60 : (hq : Int) ≤ 60 := by omega
  have HQ := Lib.hid hQ
  clear hmm
  have hql : (hq : Int) ≤ n := by omega
  have hf : (hq : Int) + 4 ≤ n := by omega
  have hf2 : hq + 4 ≤ n := by omega
  have g2 := fun (k : Nat) (hk : k + 2 ≤ n) (w' : World) (h : RB w' B (some ⟨b, off, none⟩) l) => get2_any _ n c B l k hn hk (by omega) hb w' h
  have G12 := Lib.hid (fun (w' : World) (h : RB w' B (some ⟨b, off, none⟩) l) => get4_lit _ n c B l 12 12 rfl hn (by omega) (by omega) hb w' h)
  have G16 := Lib.hid (fun (w' : World) (h : RB w' B (some ⟨b, off, none⟩) l) => get4_lit _ n c B l 16 16 rfl hn (by omega) (by omega) hb w' h)
  have hx0 : RBx w0 B (some ⟨b, off, none⟩) l := ⟨hr0, hB1⟩
  have y0 : ∀ k, ((w0.drewN k).alloc (.cells #[.int .i64 0, .int .u32 0, .int .i64 0, .int .u32 0, .int .i64 0] 60)).cell? ⟨w0.heap.size, 0, none⟩ = some (.int .i64 0) := fun k => cell_new w0 k _ _ 0
  have u0 : ∀ k, ((w0.drewN k).alloc (.cells #[.int .i64 0, .int .u32 0, .int .i64 0, .int .u32 0, .int .i64 0] 60)).frozen? ⟨w0.heap.size, 0, none⟩ = false := fun k => frozen_new w0 k _ _ 0
  have y1 : ∀ k, ((w0.drewN k).alloc (.cells #[.int .i64 0, .int .u32 0, .int .i64 0, .int .u32 0, .int .i64 0] 60)).cell? ⟨w0.heap.size, 1, none⟩ = some (.int .u32 0) := fun k => cell_new w0 k _ _ 1
  have u1 : ∀ k, ((w0.drewN k).alloc (.cells #[.int .i64 0, .int .u32 0, .int .i64 0, .int .u32 0, .int .i64 0] 60)).frozen? ⟨w0.heap.size, 1, none⟩ = false := fun k => frozen_new w0 k _ _ 1
  have y2 : ∀ k, ((w0.drewN k).alloc (.cells #[.int .i64 0, .int .u32 0, .int .i64 0, .int .u32 0, .int .i64 0] 60)).cell? ⟨w0.heap.size, 2, none⟩ = some (.int .i64 0) := fun k => cell_new w0 k _ _ 2
  have u2 : ∀ k, ((w0.drewN k).alloc (.cells #[.int .i64 0, .int .u32 0, .int .i64 0, .int .u32 0, .int .i64 0] 60)).frozen? ⟨w0.heap.size, 2, none⟩ = false := fun k => frozen_new w0 k _ _ 2
  have y3 : ∀ k, ((w0.drewN k).alloc (.cells #[.int .i64 0, .int .u32 0, .int .i64 0, .int .u32 0, .int .i64 0] 60)).cell? ⟨w0.heap.size, 3, none⟩ = some (.int .u32 0) := fun k => cell_new w0 k _ _ 3
  have u3 : ∀ k, ((w0.drewN k).alloc (.cells #[.int .i64 0, .int .u32 0, .int .i64 0, .int .u32 0, .int .i64 0] 60)).frozen? ⟨w0.heap.size, 3, none⟩ = false := fun k => frozen_new w0 k _ _ 3
  have y4 : ∀ k, ((w0.drewN k).alloc (.cells #[.int .i64 0, .int .u32 0, .int .i64 0, .int .u32 0, .int .i64 0] 60)).cell? ⟨w0.heap.size, 4, none⟩ = some (.int .i64 0) := fun k => cell_new w0 k _ _ 4
  have u4 : ∀ k, ((w0.drewN k).alloc (.cells #[.int .i64 0, .int .u32 0, .int .i64 0, .int .u32 0, .int .i64 0] 60)).frozen? ⟨w0.heap.size, 4, none⟩ = false := fun k => frozen_new w0 k _ _ 4
  have hp0 : P0 w 60 w.heap.size w0.heap.size B (some ⟨b, off, none⟩) l w0 := ⟨rfl, z0, Nat.le_refl _, hg0, hB0, ⟨hr0, hB1⟩, hB1⟩
  have G2 := Lib.hid g2
  have v9 : IntKind.i64.wrap 6 = 6 := IntWalk.i64_in _ (by omega)
  clear g2 hQ hle hlf
  clear hn hw0
  go_enter Try.func29, Try.ntmps29
  go_wp2_with fail
  rw [HW0.out]
  go_region_held3 (fun w' => w'.cell? ⟨b, off + 9, none⟩ = some (.int .u8 6))
    (first | with_reducible assumption | go_keep)
    (first
      | (go_at_call 49; ((with_reducible refine (G12.out _ (RBx.rb (by repeat (first | with_reducible exact hx0 | with_reducible apply RBx.drew | with_reducible apply RBx.drewN | with_reducible apply RBx.alloc)))).mono ?_); rintro e w2 ⟨rfl, j, rfl⟩))
      | (go_at_call 49; ((with_reducible refine (G16.out _ (RBx.rb (by repeat (first | with_reducible exact hx0 | with_reducible apply RBx.drew | with_reducible apply RBx.drewN | with_reducible apply RBx.alloc)))).mono ?_); rintro e w2 ⟨rfl, j2, rfl⟩)))
  all_goals
    generalize hW : World.setCell _ ⟨w0.heap.size, 4, none⟩ (.int .i64 0) = W
    have hL : Laid w 60 w.heap.size w0.heap.size B (some ⟨b, off, none⟩) l 6 (rd4 l 12) (rd4 l 16) W := by
      rw [← hW]
      refine Laid.of_pre ?_ _ _ _
      repeat (first | with_reducible exact hp0 | with_reducible apply Pre.drewN | with_reducible apply Pre.drew | with_reducible apply Pre.alloc | with_reducible apply P0.drewN | with_reducible apply P0.drew)
    have HWW := Lib.hid hW
    clear hW
    have c0 := hL.hm.cell 0
    have c1 := hL.hm.cell 1
    have c2 := hL.hm.cell 2
    have c3 := hL.hm.cell 3
    have c4 := hL.hm.cell 4
    have d0 := hL.hgr.cell 0
    have d1 := hL.hgr.cell 1
    have d2 := hL.hgr.cell 2
    have d3 := hL.hgr.cell 3
    have d4 := hL.hgr.cell 4
    have e0 := hL.hgr.frozen 0
    have e1 := hL.hgr.frozen 1
    have e2 := hL.hgr.frozen 2
    have e3 := hL.hgr.frozen 3
    have e4 := hL.hgr.frozen 4
    have f2 := hL.hm.frozen 2
    have f4 := hL.hm.frozen 4
    have hgm1 : w.heap.size ≠ w0.heap.size := by omega
    have hgm2 : w0.heap.size ≠ w.heap.size := by omega
    have hgm3 : w.heap.size ≤ w0.heap.size := by omega
    have HQQ := Lib.hid hL.hQ
    have hLr := hL.rb
    simp only [List.getElem?_toArray, List.getElem?_cons_zero, List.getElem?_cons_succ] at c0 c1 c2 c3 c4 d0 d1 d2 d3 d4
    go_wp2_with fail
    refine (G2.out 6 (by omega) _ (by exact hLr)).mono ?_
    rintro e w4 ⟨rfl, j4, rfl⟩
    go_wp2_with fail
    refine (G2.out hq (by omega) _ (by exact hLr)).mono ?_
    rintro e w5 ⟨rfl, j5, rfl⟩
    have hLr2 : RB ((W.drewN (j4 + j5)).setCell ⟨w0.heap.size, 2, none⟩ (.int .i64 (rd2 l hq))) B (some ⟨b, off, none⟩) l := Rw.setCell (Rw.drewN hLr _) hB1 _
    go_wp2_with fail
    rw [show ((hq : Int) + 2) = ((hq + 2 : Nat) : Int) from by omega]
    refine (G2.out (hq + 2) (by omega) _ (by exact hLr2)).mono ?_
    rintro e w6 ⟨rfl, j6, rfl⟩
    go_wp2_with fail
    refine bodyPost_ret (v := .tuple #[.agg #[.int .i64 6, .int .u32 (rd4 l 12), .int .i64 (rd2 l hq), .int .u32 (rd4 l 16), .int .i64 (rd2 l (hq + 2))], .int .i64 0]) (by simp [results, Try.results29, go_sem, *]) rfl (flow_ret (by rw [LEM.out, HP.out, HQ.out]) rfl (((((((bel_drewN ((bel_drewN HQQ.out _).setCell hgm3 _) _).setCell hgm3 _).setCell (Nat.le_refl _) _).setCell (Nat.le_refl _) _).setCell (Nat.le_refl _) _).setCell (Nat.le_refl _) _).setCell (Nat.le_refl _) _))
end Go.Proofs.Ytlnodkfngomlmaa
