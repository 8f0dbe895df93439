/- Proved: the hosts' one route is added to a table that has none; the hosts' one route is added to a table that has none; what an address finds there; which route an address finds in the table of one route. Conditions: as each law says. -/
import Derived.Deep.RegionHeld3
import Derived.Test.YtaeafkdfbcppgaaGreatT03
set_option linter.unusedSectionVars false
set_option linter.unusedSimpArgs false
set_option linter.unusedVariables false
namespace Go.Proofs.YtaeafkdfbcppgaaGreat
open Go.RowKit
def rtV : Value := .agg rtC
set_option maxRecDepth 100000 in
theorem may_net (w : World) : Calls Tryz.prog 143 #[rtV] w fun e w' => e = .returned (.bool true) ∧ Below w.heap.size w w' := by
 have hb : bits BinOp.and IntKind.u64 2814749767106560 4294967295 = 0 := by kernel_rfl
 unfold rtV rtC net
 go_enter Tryz.func143, Tryz.ntmps143
 go_wp2
 go_ret
 exact ⟨rfl, (Below.refl _ _).alloc (Nat.le_refl _) _⟩
set_option maxRecDepth 100000 in
theorem at_not (h : Nat) (C : Array Value) (w : World) (hb : Bk w h 164 C) (h12 : C[12]? = some (.pointer none)) :
  Calls Tryz.prog 144 #[.pointer (some ⟨h, 11, none⟩), rtV, .bool false] w fun e w' => e = .returned (.pointer none) ∧ Below w.heap.size w w' := by
 have hl := hb.lt
 have hb1 := hb.alloc (.cells rtC 229)
 have HB1 := Lib.hid hb1
 have c12 : ∀ n, ((w.alloc (.cells rtC 229)).drewN n).cell? ⟨h, 12, none⟩ = some (.pointer none) := fun n => (hb1.cell 12).trans h12
 have hbx := Bk.new w 229 rtC
 have cb0 : (w.alloc (.cells rtC 229)).cell? ⟨w.heap.size, 0, none⟩ = some (.int .u32 net) := hbx.cell 0
 have cb1 : (w.alloc (.cells rtC 229)).cell? ⟨w.heap.size, 1, none⟩ = some (.int .i64 24) := hbx.cell 1
 have hbit := fun w => bit_any net 0 (by omega) w
 rw [bitA_net0] at hbit
 have HBIT := Lib.hid hbit
 have hix : ∀ o w, (Instr.indexAt 126 (.pointer (some ⟨h, o, none⟩)) (.int .i64 0)).run Tryz.prog w = .ok (.pointer (some ⟨h, o, none⟩)) w := fun o => ix_kid h o 0 (.inl rfl)
 unfold rtV
 obtain ⟨W, hW⟩ : ∃ W, w.alloc (.cells rtC 229) = W := ⟨_, rfl⟩
 have HW : Hid (w.alloc (.cells #[.int .u32 net, .int .i64 24, .int .u32 0, .int .i64 0] 229) = W) := Lib.hid hW
 rw [hW] at c12 cb0 cb1
 have HBL : Hid (Below w.heap.size w W) := Lib.hid (by rw [← hW]; exact (Below.refl _ _).alloc (Nat.le_refl _) _)
 clear hbit hW hb1 hbx HB1
 unfold rtC
 go_enter Tryz.func144, Tryz.ntmps144
 go_wp2
 rw [HW.out]
 refine wp_loop_rounds 1 ?_; rw [rounds_succ]
 go_wp2_with fail
 go_quiet ((go_at_call 206; exact Calls.quiet_of_same (HBIT.out _)))
 go_wp2
 try rw [Exit.noGoto_ret]
 go_ret
 exact ⟨rfl, bel_drewN HBL.out _⟩
theorem bs_nil (f : Value) (w : World) : Calls Tryz.prog 207 #[nilS, .int .i64 0, f] w fun e w' => e = .returned (.tuple #[.int .i64 0, .bool false]) ∧ w' = w := by
 go_enter Tryz.func207, Tryz.ntmps207
 go_wp2
 refine wp_loop_rounds 1 ?_; rw [rounds_succ]
 go_wp2
 go_ret2
 exact ⟨rfl, rfl⟩
theorem find_nil (q : Addr) (w : World) (hq : q.spot = none) (hc : w.cell? q = some nilS) (hl : q.block < w.heap.size) : Calls Tryz.prog 145 #[.pointer (some q), rtV] w fun e w' => e = .returned (.tuple #[.int .i64 0, .bool false]) ∧ Below w.heap.size w w' := by
 obtain ⟨b, o, _⟩ := q
 subst hq
 obtain ⟨W, hW⟩ : ∃ W, w.alloc (.cells rtC 229) = W := ⟨_, rfl⟩
 have HW : Hid (w.alloc (.cells #[.int .u32 net, .int .i64 24, .int .u32 0, .int .i64 0] 229) = W) := Lib.hid hW
 have hbx : Bk W w.heap.size 229 rtC := by rw [← hW]; exact Bk.new w 229 rtC
 have cb3 : W.cell? ⟨w.heap.size, 3, none⟩ = some (.int .i64 0) := hbx.cell 3
 have cq : W.cell? ⟨b, o, none⟩ = some nilS := by rw [← hW]; exact (World.cell?_alloc_lt w _ _ hl).trans hc
 have HBL : Hid (Below w.heap.size w W) := Lib.hid (by rw [← hW]; exact (Below.refl _ _).alloc (Nat.le_refl _) _)
 clear hW hbx hc
 unfold rtV rtC
 go_enter Tryz.func145, Tryz.ntmps145
 go_wp2
 rw [HW.out]
 go_quiet ((go_at_call 207; exact Calls.quiet_of_same (bs_nil _ _)))
 go_wp2
 go_ret2
 exact ⟨rfl, bel_drewN HBL.out _⟩
theorem info_rt : (Tryz.prog.info? 229).map (fun i => (i.zero, i.size, i.bytes)) = some (some (.agg #[.int .u32 0, .int .i64 0, .int .u32 0, .int .i64 0]), 4, 32) := by kernel_rfl
theorem ins_nil (q : Addr) (c : Nat) (w : World) (hc : ∀ j u, rtC.toList[j]? = some u → w.cell? (q.add j) = some u) :
  Calls Tryz.prog 146 #[nilS, .int .i64 0, .slice (some q) 1 c] w fun e w' => ∃ g c', e = .returned (.slice (some ⟨g, 0, none⟩) 1 c') ∧ Mr 229 4 w' w.heap.size (some ⟨g, 0, none⟩) 1 c' rtC.toList ∧ Below w.heap.size w w' := by
 have HC := Lib.hid hc
 clear hc
 go_enter Tryz.func146, Tryz.ntmps146
 go_wp2_with (at_builtin; refine wpList_append_mr rfl (.tmp 23) (.tmp 24) 124 229 rfl _ 4 32 Tryz.underlying124 info_rt rfl (by omega) w.heap.size rfl (Mr.none_ _ _ _ _) rtC.toList rfl rfl HC.out (by decide) (by omega) (by decide) (by omega) (Nat.le_refl _) ?_; intro g1 c1 w1 hM1 hG1 hS1)
 go_ret
 exact ⟨g1, c1, rfl, hM1, (Below.refl _ _).grown hG1 (Nat.le_refl _) (fun b e => by cases e)⟩
open Go.RowKit
structure RtOk (w : World) (S : Nat) (A : Option Addr) (c : Nat) : Prop where
 nodes : Nodes w S 24
 last : Bk w (S + 24) 128 #[.slice A 1 c, .pointer none, .pointer none]
 row : Mr 229 4 w (S + 25) A 1 c rtC.toList
def rtRow (C : Array Value) (S : Nat) : Array Value := (C.setIfInBounds 12 (bp (S + 1))).setIfInBounds 14 (.int .i64 1)
set_option maxHeartbeats 4000000 in
set_option maxRecDepth 100000 in
theorem radd_net (h : Nat) (C : Array Value) (w : World) (hb : Bk w h 164 C) (h11 : C[11]? = some nilS) (h12 : C[12]? = some (.pointer none)) (h13 : C[13]? = some (.pointer none)) (h14 : C[14]? = some (.int .i64 0)) :
  Calls Tryz.prog 85 #[.pointer (some ⟨h, 11, none⟩), rtV] w fun e w' => e = .returned (.int .i64 0) ∧ ∃ S A c, w.heap.size ≤ S ∧ RtOk w' S A c ∧ Bk w' h 164 (rtRow C S) ∧ Chg (fun b => b = h) w w' := by
 obtain ⟨W, hW⟩ : ∃ W, w.alloc (.cells rtC 229) = W := ⟨_, rfl⟩
 have HW : Hid (w.alloc (.cells #[.int .u32 net, .int .i64 24, .int .u32 0, .int .i64 0] 229) = W) := Lib.hid hW
 have hbx : Bk W w.heap.size 229 rtC := by rw [← hW]; exact Bk.new w 229 rtC
 have hBL : Below w.heap.size w W := by rw [← hW]; exact (Below.refl _ _).alloc (Nat.le_refl _) _
 have hzW : W.heap.size = w.heap.size + 1 := by rw [← hW]; simp
 have hbW := hb.below hBL hb.lt
 have hl := hb.lt
 have c0 := hbx.cell 0
 have c1 := hbx.cell 1
 have c2 := hbx.cell 2
 have c3 := hbx.cell 3
 simp only [rtC, List.getElem?_toArray, List.getElem?_cons_zero, List.getElem?_cons_succ] at c0 c1 c2 c3
 have HBL := Lib.hid hBL
 have HBX := Lib.hid hbx
 have HBW := Lib.hid hbW
 have HZ := Lib.hid hzW
 clear hW hbx hBL hbW hzW
 unfold rtV rtC
 go_enter Tryz.func85, Tryz.ntmps85
 go_wp2_with fail
 rw [HW.out]
 go_wp2_with fail
 refine (may_net _).mono ?_
 rintro e1 w1 ⟨rfl, hB1⟩
 have HB1 := Lib.hid hB1
 have hx1 := HBX.out.below hB1 HBX.out.lt
 have HX1 := Lib.hid hx1
 have HR1 := Lib.hid (HBW.out.below hB1 HBW.out.lt)
 have d0 := hx1.cell 0
 have d1 := hx1.cell 1
 have d2 := hx1.cell 2
 have d3 := hx1.cell 3
 simp only [rtC, List.getElem?_toArray, List.getElem?_cons_zero, List.getElem?_cons_succ] at d0 d1 d2 d3
 clear hB1 hx1
 go_wp2_with fail
 refine (at_not h C _ HR1.out h12).mono ?_
 rintro e2 w2 ⟨rfl, hB2⟩
 have HB2 := Lib.hid hB2
 have hx2 := HX1.out.below hB2 HX1.out.lt
 have HX2 := Lib.hid hx2
 have hr2 := HR1.out.below hB2 HR1.out.lt
 have HR2 := Lib.hid hr2
 have k14 : w2.cell? ⟨h, 14, none⟩ = some (.int .i64 0) := (hr2.cell 14).trans h14
 have e0 := hx2.cell 0
 have e1 := hx2.cell 1
 have e2 := hx2.cell 2
 have e3 := hx2.cell 3
 simp only [rtC, List.getElem?_toArray, List.getElem?_cons_zero, List.getElem?_cons_succ] at e0 e1 e2 e3
 clear hB2 hx2 hr2
 go_wp2_with fail
 refine (at_make h C _ HR2.out h11 h12 h13).mono ?_
 rintro e3 w3 ⟨rfl, hA3⟩
 have HA3 := Lib.hid hA3
 have hs3 : Hid (w3.heap.size = w2.heap.size + 25) := Lib.hid (by rw [hA3.size])
 have ht3 := hA3.top (by omega)
 have hx3 := HX2.out.chg hA3.chg (by omega)
 have HX3 := Lib.hid hx3
 have f0 := hx3.cell 0
 have f1 := hx3.cell 1
 have f2 := hx3.cell 2
 have f3 := hx3.cell 3
 simp only [rtC, List.getElem?_toArray, List.getElem?_cons_zero, List.getElem?_cons_succ] at f0 f1 f2 f3
 have HT3 := Lib.hid ht3
 clear hA3 ht3 hx3
 go_wp2_with fail
 refine (find_nil ⟨w2.heap.size + 24, 0, none⟩ _ rfl (HT3.out.cell 0) HT3.out.lt).mono ?_
 rintro e4 w4 ⟨rfl, hB4⟩
 have ht4 := HT3.out.below hB4 HT3.out.lt
 have HB4 := Lib.hid hB4
 have hx4 := HX3.out.below hB4 HX3.out.lt
 have HX4 := Lib.hid hx4
 have HT4 := Lib.hid ht4
 have g0 := hx4.cell 0
 have g1 := hx4.cell 1
 have g2 := hx4.cell 2
 have g3 := hx4.cell 3
 simp only [rtC, List.getElem?_toArray, List.getElem?_cons_zero, List.getElem?_cons_succ] at g0 g1 g2 g3
 have t0 := ht4.cell 0
 simp only [nd0, List.getElem?_toArray, List.getElem?_cons_zero] at t0
 clear hB4 ht4 hx4
 go_wp2_with fail
 have t1 : w4.drew.cell? ⟨w2.heap.size + 24, 0, none⟩ = some nilS := t0
 have t2 : ∀ o, (w4.alloc o).cell? ⟨w2.heap.size + 24, 0, none⟩ = some nilS := fun o => (World.cell?_alloc_lt w4 _ _ HT4.out.lt).trans t0
 have hnews := lit_news w4.drew 229 rtC.toList
 have HNW := Lib.hid hnews
 clear hnews
 have HK5 : Hid (∀ w5, Below (w4.drew.alloc (.cells rtC.toList.toArray 229)).heap.size (w4.drew.alloc (.cells rtC.toList.toArray 229)) w5 → Bk w5 (w2.heap.size + 24) 128 nd0) := Lib.hid (fun w5 h5 => ((HT4.out.drew).alloc _).below h5 (by have := HT4.out.lt; simp; omega))
 go_region_with (first
  | (go_at_call 146; refine (ins_nil ⟨w4.heap.size, 0, none⟩ _ _ HNW.out).mono ?_; rintro e5 w5 ⟨g5, c5, rfl, hM5, hB5⟩; have hk5 := HK5.out w5 hB5; have y0 : w5.cell? ⟨w2.heap.size + 24, 0, none⟩ = some nilS := hk5.cell 0; have z0 := hk5.frozen 0))
 all_goals
  obtain ⟨W6, hW6⟩ : ∃ W6, w5.setCell ⟨w2.heap.size + 24, 0, none⟩ (.slice (some ⟨g5, 0, none⟩) 1 c5) = W6 := ⟨_, rfl⟩
  have hz4 : w2.heap.size + 25 ≤ w4.heap.size := by have := HB4.out.size; have := hs3.out; omega
  have hB45 : Below w4.heap.size w4 w5 := ((Below.refl _ _).drew.alloc (Nat.le_refl _) _).trans (hB5.mono (by simp))
  have hC36 : Chg (fun b => b = w2.heap.size + 24) w3 W6 := by
   rw [← hW6]
   exact Chg.set1 ((Chg.of_below HB4.out).trans (Chg.of_below (F := fun _ => False) hB45) (fun _ e => e.elim)) _
  have hne : h ≠ w2.heap.size + 24 := by have := HR2.out.lt; omega
  have hr6 := HA3.out.row.chg hC36 hne
  rw [if_neg (by omega)] at hr6
  have hg5 : w2.heap.size + 25 ≤ g5 := by have := (hM5.lt g5 rfl).1; simp at this; omega
  have HOK : Hid (RtOk W6 w2.heap.size (some ⟨g5, 0, none⟩) c5) := Lib.hid ⟨HA3.out.nodes.keep (fun b q1 q2 => hC36.block b (by have := hs3.out; omega) (by omega)), by rw [← hW6]; exact hk5.set 0 _, by
   rw [← hW6]
   exact Mr.setCell (Mr.rebase hM5 (fun g e => by injection e with e; rw [← e]; exact hg5)) (by simp [blk]; omega) _⟩
  have HR6 := Lib.hid hr6
  have k6 : W6.cell? ⟨h, 14, none⟩ = some (.int .i64 0) := by
   have := hr6.cell 14
   rw [Array.getElem?_setIfInBounds_ne (by omega)] at this
   exact this.trans h14
  have k6f := hr6.frozen 14
  have HC6 : Hid (Chg (fun b => b = h) w W6) := Lib.hid (by
   have q1 : Below w.heap.size w w2 := (HBL.out.trans (HB1.out.mono (by have := HZ.out; omega))).trans (HB2.out.mono (by have := HZ.out; have := HB1.out.size; omega))
   refine ((Chg.of_below q1).trans HA3.out.chg (fun x e => .inl e)).trans hC36 (fun x e => .inr ?_)
   have := q1.size
   omega)
  have HS : Hid (w.heap.size ≤ w2.heap.size) := Lib.hid (by have := HB2.out.size; have := HB1.out.size; have := HZ.out; omega)
  rw [hW6]
  clear hW6 hC36 hr6 hM5 hB5 hB45 hk5 y0 z0 hg5 hz4
  go_wp2
  go_ret
  refine ⟨rfl, w2.heap.size, some ⟨g5, 0, none⟩, c5, HS.out, ⟨HOK.out.nodes.keep (fun b q1 q2 => Below.heap_setCell W6 _ _ b (by have := HR2.out.lt; simp; omega)), HOK.out.last.far (by simp; omega) _, Mr.setCell HOK.out.row (by have := HR2.out.lt; have := (HOK.out.row.lt g5 rfl).1; simp [blk]; omega) _⟩, HR6.out.set 14 _, HC6.out.set1 _⟩
open Go.RowKit
structure RtTab (w : World) (h : Nat) (C : Array Value) (S : Nat) (A : Option Addr) (c : Nat) : Prop where
 ok : RtOk w S A c
 bk : Bk w h 164 C
 r0 : C[11]? = some nilS
 k0 : C[12]? = some (bp (S + 1))
 k1 : C[13]? = some (.pointer none)
def inNet (a : Int) : Prop := ∀ j < 24, bitA a j = bitA net j
instance (a : Int) : Decidable (inNet a) := by unfold inNet; infer_instance
theorem RtTab.keep {w w' : World} {h : Nat} {C : Array Value} {S : Nat} {A : Option Addr} {c : Nat} (t : RtTab w h C S A c) (hb : ∀ b, b < w.heap.size → w'.heap[b]? = w.heap[b]?) : RtTab w' h C S A c :=
 ⟨⟨fun j h1 h2 => (hb _ (t.ok.nodes j h1 h2).lt).trans (t.ok.nodes j h1 h2), (hb _ t.ok.last.lt).trans t.ok.last, t.ok.row.of_block fun g hg => hb g (t.ok.row.lt g hg).2⟩, (hb _ t.bk.lt).trans t.bk, t.r0, t.k0, t.k1⟩
theorem RtTab.kid {w : World} {h : Nat} {C : Array Value} {S : Nat} {A : Option Addr} {c : Nat} (t : RtTab w h C S A c) (a : Int) (i : Nat) (hi : i ≤ 24) :
  w.cell? ⟨(ndA h S i).block, (ndA h S i).off + 1 + (bitA a i).toNat, none⟩ = some (.pointer (if i < 24 ∧ bitA a i = bitA net i then some (ndA h S (i + 1)) else none)) := by
 rcases Nat.eq_zero_or_pos i with rfl | h1
 ·rw [ndA_zero, bitA_net0, ndA_pos h S (0 + 1) (by omega)]
  rcases bitA_01 a 0 with e | e <;> rw [e]
  ·exact (t.bk.cell 12).trans t.k0
  ·exact (t.bk.cell 13).trans t.k1
 ·rw [ndA_pos h S i h1, ndA_pos h S (i + 1) (by omega)]
  rcases Nat.lt_or_ge i 24 with h2 | h2
  ·have hk := t.ok.nodes i h1 h2
   have hc1 := hk.cell 1
   have hc2 := hk.cell 2
   rcases bitA_01 net i with e | e <;> rcases bitA_01 a i with e' | e' <;> rw [e] at hc1 hc2 <;> rw [e, e']
   ·rw [if_pos ⟨h2, rfl⟩]; exact hc1
   ·rw [if_neg (by omega)]; exact hc2
   ·rw [if_neg (by omega)]; exact hc1
   ·rw [if_pos ⟨h2, rfl⟩]; exact hc2
  ·have e : i = 24 := by omega
   subst e
   rw [if_neg (by omega)]
   rcases bitA_01 a 24 with e' | e' <;> rw [e']
   ·exact t.ok.last.cell 1
   ·exact t.ok.last.cell 2
theorem RtTab.routes {w : World} {h : Nat} {C : Array Value} {S : Nat} {A : Option Addr} {c : Nat} (t : RtTab w h C S A c) (i : Nat) (hi : i ≤ 24) :
  w.cell? (ndA h S i) = some (if i < 24 then nilS else .slice A 1 c) := by
 rcases Nat.eq_zero_or_pos i with rfl | h1
 ·exact (t.bk.cell 11).trans t.r0
 ·rw [ndA_pos h S i h1]
  rcases Nat.lt_or_ge i 24 with h2 | h2
  ·rw [if_pos h2]; exact (t.ok.nodes i h1 h2).cell 0
  ·have e : i = 24 := by omega
   subst e
   exact t.ok.last.cell 0
theorem Below.set1 {B g o : Nat} {w w' : World} (h : Below B w w') (hg : B ≤ g) (u : Value) : Below B w (w'.setCell ⟨g, o, none⟩ u) := h.setCell (p := ⟨g, o, none⟩) hg u
def FdR (w : World) (h S : Nat) (a : Int) (v7 v8 v9 : Value) (wr : World) : Prop := ∃ (i : Nat) (best : Array Value), i ≤ 25 ∧ v9 = .int .i64 i ∧ Below w.heap.size w wr ∧ Bk wr w.heap.size 229 #[.int .u32 0, .int .i64 0, .int .u32 0, .int .i64 0] ∧ Bk wr (w.heap.size + 1) 229 best ∧
 ((i ≤ 24 ∧ v8 = .pointer (some (ndA h S i)) ∧ (∀ j < i, bitA a j = bitA net j) ∧ best = #[.int .u32 0, .int .i64 0, .int .u32 0, .int .i64 0] ∧ v7 = .int .i64 7) ∨
  (v8 = .pointer none ∧ best = (if inNet a then rtC else #[.int .u32 0, .int .i64 0, .int .u32 0, .int .i64 0]) ∧ v7 = .int .i64 (if inNet a then 0 else 7)))
set_option maxHeartbeats 4000000 in
set_option maxRecDepth 100000 in
theorem rfind_any (h : Nat) (C : Array Value) (S : Nat) (A : Option Addr) (c : Nat) (a : Int) (w : World) (t : RtTab w h C S A c) :
  Calls Tryz.prog 163 #[.pointer (some ⟨h, 11, none⟩), .int .u32 a] w fun e w' =>
   e = .returned (.tuple #[.agg (if inNet a then rtC else #[.int .u32 0, .int .i64 0, .int .u32 0, .int .i64 0]), .int .i64 (if inNet a then 0 else 7)]) ∧ Below w.heap.size w w' := by
 have HT := Lib.hid t
 have h0 : FdR w h S a (.int .i64 7) (.pointer (some ⟨h, 11, none⟩)) (.int .i64 0) ((w.alloc (.cells #[.int .u32 0, .int .i64 0, .int .u32 0, .int .i64 0] 229)).alloc (.cells #[.int .u32 0, .int .i64 0, .int .u32 0, .int .i64 0] 229)) := by
  refine ⟨0, _, by omega, rfl, ((Below.refl _ _).alloc (Nat.le_refl _) _).alloc (by simp) _, (Bk.new w _ _).alloc _, ?_, .inl ⟨by omega, rfl, fun j hj => by omega, rfl, rfl⟩⟩
  have := Bk.new (w.alloc (.cells #[.int .u32 0, .int .i64 0, .int .u32 0, .int .i64 0] 229)) 229 #[.int .u32 0, .int .i64 0, .int .u32 0, .int .i64 0]
  rwa [World.size_alloc] at this
 have H0 := Lib.hid h0
 clear t h0
 go_enter Tryz.func163, Tryz.ntmps163
 go_wp2
 go_loopw [7, 8, 9] (fun v7 v8 v9 wr => FdR w h S a v7 v8 v9 wr) (fun v7 v8 v9 wr => (25 - intOf v9).toNat)
 case atStart => exact H0.out
 case round =>
  obtain ⟨i, best, hi, rfl, hbl, hk0, hk1, hor⟩ := hrel
  have HBL := Lib.hid hbl
  have HK0 := Lib.hid hk0
  have HK1 := Lib.hid hk1
  clear hbl hk0 hk1
  rcases hor with ⟨h24, rfl, hm, rfl, rfl⟩ | ⟨rfl, rfl, rfl⟩
  ·have HM := Lib.hid hm
   have tr := HT.out.keep (fun b hb => HBL.out.block b hb)
   have c1 := tr.routes i h24
   have c2 := tr.kid a i h24
   obtain ⟨qb, qo, hq⟩ : ∃ qb qo, ndA h S i = ⟨qb, qo, none⟩ := by unfold ndA; split <;> exact ⟨_, _, rfl⟩
   rw [hq] at c1 c2 ⊢
   clear hm
   rcases Nat.lt_or_ge i 24 with h3 | h3
   ·rw [if_pos h3] at c1
    have h32 : ((i : Int) == 32) = false := beq_eq_false_iff_ne.2 (by omega)
    have HB : Hid (∀ w, Calls Tryz.prog 206 #[.int .u32 a, .int .i64 i] w fun e w' => e = .returned (.int .i64 (bitA a i)) ∧ w' = w) := Lib.hid (fun w => bit_any a i (by omega) w)
    have hix : ∀ o w, (Instr.indexAt 126 (.pointer (some ⟨qb, o, none⟩)) (.int .i64 (bitA a i))).run Tryz.prog w = .ok (.pointer (some ⟨qb, o + (bitA a i).toNat, none⟩)) w := fun o => ix_kid qb o _ (bitA_01 a i)
    have hwi : wrap64 ((i : Int) + 1) = ((i + 1 : Nat) : Int) := by simp only [wrap64]; omega
    rcases Decidable.em (bitA a i = bitA net i) with hb | hb
    ·rw [if_pos ⟨h3, hb⟩] at c2
     have HBT := Lib.hid hb
     clear hb
     go_wp2
     go_quiet ((go_at_call 206; exact Calls.quiet_of_same (HB.out _)))
     go_wp2
     go_roundw
     case rel => exact ⟨i + 1, _, by omega, rfl, bel_drewN HBL.out _, HK0.out.drewN _, HK1.out.drewN _, .inl ⟨by omega, rfl, fun j hj => by
      rcases Nat.lt_or_ge j i with q | q
      ·exact HM.out j q
      ·have e : j = i := by omega
       subst e; exact HBT.out, rfl, rfl⟩⟩
     case measure => simp only [intOf]; omega
    ·rw [if_neg (fun h => hb h.2)] at c2
     have HBT : Hid (¬ inNet a) := Lib.hid (fun h => hb (h i h3))
     clear hb
     go_wp2
     go_quiet ((go_at_call 206; exact Calls.quiet_of_same (HB.out _)))
     go_wp2
     go_roundw
     case rel => exact ⟨i + 1, _, by omega, rfl, bel_drewN HBL.out _, HK0.out.drewN _, HK1.out.drewN _, .inr ⟨rfl, by rw [if_neg HBT.out], by rw [if_neg HBT.out]⟩⟩
     case measure => simp only [intOf]; omega
   ·have e : i = 24 := by omega
    subst e
    have HIN : Hid (inNet a) := Lib.hid HM.out
    rw [if_neg (by omega)] at c1 c2
    have h32 : (((24 : Nat) : Int) == 32) = false := rfl
    have HB : Hid (∀ w, Calls Tryz.prog 206 #[.int .u32 a, .int .i64 ((24 : Nat) : Int)] w fun e w' => e = .returned (.int .i64 (bitA a 24)) ∧ w' = w) := Lib.hid (fun w => bit_any a 24 (by omega) w)
    have hix : ∀ o w, (Instr.indexAt 126 (.pointer (some ⟨qb, o, none⟩)) (.int .i64 (bitA a 24))).run Tryz.prog w = .ok (.pointer (some ⟨qb, o + (bitA a 24).toNat, none⟩)) w := fun o => ix_kid qb o _ (bitA_01 a 24)
    obtain ⟨g, rfl, _, hgl, r0, _⟩ := tr.ok.row.cell (j := 0) (u := .int .u32 net) rfl
    obtain ⟨_, e1, _, _, r1, _⟩ := tr.ok.row.cell (j := 1) (u := .int .i64 24) rfl
    obtain ⟨_, e2, _, _, r2, _⟩ := tr.ok.row.cell (j := 2) (u := .int .u32 0) rfl
    obtain ⟨_, e3, _, _, r3, _⟩ := tr.ok.row.cell (j := 3) (u := .int .i64 0) rfl
    injection e1 with e1; injection e1 with e1; subst e1
    injection e2 with e2; injection e2 with e2; subst e2
    injection e3 with e3; injection e3 with e3; subst e3
    have z0 := HK1.out.cell 0
    have z1 := HK1.out.cell 1
    have z2 := HK1.out.cell 2
    have z3 := HK1.out.cell 3
    have y0 := HK1.out.frozen 0
    have y1 := HK1.out.frozen 1
    have y2 := HK1.out.frozen 2
    have y3 := HK1.out.frozen 3
    simp only [List.getElem?_toArray, List.getElem?_cons_zero, List.getElem?_cons_succ] at z0 z1 z2 z3
    clear tr
    go_wp2
    obtain ⟨wq, hwq⟩ : ∃ wq, ((((wr.setCell ⟨w.heap.size + 1, 0, none⟩ (.int .u32 net)).setCell ⟨w.heap.size + 1, 1, none⟩ (.int .i64 24)).setCell ⟨w.heap.size + 1, 2, none⟩ (.int .u32 0)).setCell ⟨w.heap.size + 1, 3, none⟩ (.int .i64 0)) = wq := ⟨_, rfl⟩
    rw [hwq]
    have hqb : qb ≠ w.heap.size + 1 := by
     have h1 := HT.out.ok.last.lt
     have h2 : ndA h S 24 = ⟨S + 24, 0, none⟩ := rfl
     rw [h2] at hq
     injection hq with hq
     omega
    have c3 : wq.cell? ⟨qb, qo + 1 + (bitA a 24).toNat, none⟩ = some (.pointer none) := by
     have hch : Chg (fun b => b = w.heap.size + 1) wr wq := by rw [← hwq]; exact ((((Chg.refl _ wr).set1 _).set1 _).set1 _).set1 _
     refine (hch.cell (p := ⟨qb, _, none⟩) ?_ hqb).trans c2
     exact World.block_lt_of_cell? _ ⟨qb, _, none⟩ c2
    have HB2 : Hid (Below w.heap.size w wq) := Lib.hid (by
     rw [← hwq]
     exact (((HBL.out.setCell (p := ⟨w.heap.size + 1, 0, none⟩) (by simp) _).setCell (p := ⟨w.heap.size + 1, 1, none⟩) (by simp) _).setCell (p := ⟨w.heap.size + 1, 2, none⟩) (by simp) _).setCell (p := ⟨w.heap.size + 1, 3, none⟩) (by simp) _)
    have HK2 : Hid (Bk wq (w.heap.size + 1) 229 rtC) := Lib.hid (by
     rw [← hwq]
     exact (((HK1.out.set 0 _).set 1 _).set 2 _).set 3 _)
    have HK3 : Hid (Bk wq w.heap.size 229 #[.int .u32 0, .int .i64 0, .int .u32 0, .int .i64 0]) := Lib.hid (by
     rw [← hwq]
     exact (((HK0.out.far (by simp) _).far (by simp) _).far (by simp) _).far (by simp) _)
    clear hwq c1 c2 r0 r1 r2 r3 z0 z1 z2 z3 y0 y1 y2 y3 hqb
    go_quiet ((go_at_call 206; exact Calls.quiet_of_same (HB.out _)))
    go_wp2
    go_roundw
    case rel => exact ⟨25, _, by omega, rfl, bel_drewN HB2.out _, HK3.out.drewN _, HK2.out.drewN _, .inr ⟨rfl, by rw [if_pos HIN.out], by rw [if_pos HIN.out]⟩⟩
    case measure => simp only [intOf]; omega
  ·by_cases hin : inNet a
   ·rw [if_pos hin] at HK1 ⊢
    have z0 := HK1.out.cell 0
    have z1 := HK1.out.cell 1
    have z2 := HK1.out.cell 2
    have z3 := HK1.out.cell 3
    have x0 := HK0.out.cell 0
    have x1 := HK0.out.cell 1
    have x2 := HK0.out.cell 2
    have x3 := HK0.out.cell 3
    have y0 := HK0.out.frozen 0
    have y1 := HK0.out.frozen 1
    have y2 := HK0.out.frozen 2
    have y3 := HK0.out.frozen 3
    simp only [rtC, List.getElem?_toArray, List.getElem?_cons_zero, List.getElem?_cons_succ] at z0 z1 z2 z3 x0 x1 x2 x3
    have HIN := Lib.hid hin
    clear hin
    go_wp2
    refine bodyPost_ret (v := .tuple #[.agg rtC, .int .i64 0]) (by simp [results, Tryz.results163, go_sem, rtC, *]) rfl ⟨rfl, ?_⟩
    exact Below.set1 (Below.set1 (Below.set1 (Below.set1 HBL.out (Nat.le_refl _) _) (Nat.le_refl _) _) (Nat.le_refl _) _) (Nat.le_refl _) _
   ·rw [if_neg hin] at HK1 ⊢
    have z0 := HK1.out.cell 0
    have z1 := HK1.out.cell 1
    have z2 := HK1.out.cell 2
    have z3 := HK1.out.cell 3
    have x0 := HK0.out.cell 0
    have x1 := HK0.out.cell 1
    have x2 := HK0.out.cell 2
    have x3 := HK0.out.cell 3
    have y0 := HK0.out.frozen 0
    have y1 := HK0.out.frozen 1
    have y2 := HK0.out.frozen 2
    have y3 := HK0.out.frozen 3
    simp only [List.getElem?_toArray, List.getElem?_cons_zero, List.getElem?_cons_succ] at z0 z1 z2 z3 x0 x1 x2 x3
    have HIN := Lib.hid hin
    clear hin
    go_wp2
    refine bodyPost_ret (v := .tuple #[.agg #[.int .u32 0, .int .i64 0, .int .u32 0, .int .i64 0], .int .i64 7]) (by simp [results, Tryz.results163, go_sem, *]) rfl ⟨rfl, ?_⟩
    exact Below.set1 (Below.set1 (Below.set1 (Below.set1 HBL.out (Nat.le_refl _) _) (Nat.le_refl _) _) (Nat.le_refl _) _) (Nat.le_refl _) _
end Go.Proofs.YtaeafkdfbcppgaaGreat
