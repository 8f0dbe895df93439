/- Proved: do_recv: see its name; do_send: see its name. Conditions: as each law says. -/
import Derived.Test.YtaeafkdfbcppgaaGreatT42
set_option linter.unusedSectionVars false
set_option linter.unusedSimpArgs false
set_option linter.unusedVariables false
namespace Go.Proofs.YtaeafkdfbcppgaaGreat
open Go.RowKit
set_option maxHeartbeats 8000000 in
set_option maxRecDepth 100000 in
theorem do_recv (t : Nat) (ht : t ≤ 20) (K : Nat → Nat) (w : World) (st sm : Nat) (d : HD) (v : HV) (S : List En) (s : Nat) (now draw : Int) (port nn : Int) (b0 : Bool) (sp : Int) (q : Dg) (hq : 0 < q.data.length ∧ (q.data.length : Int) ≤ nn) (hnn : 1 ≤ nn ∧ nn ≤ 1000000) (hs : SdS t K w st sm d v S (some (port, [q])) (some (s, b0, sp))) :
  Calls Tryz.prog 117 #[bp st, .agg (callC 9 0 0 0 nn nilS now draw)] w (DoR t K w [] q.data.length q.fr q.fp (RvQ t st sm d.h q.data)) := by
 obtain ⟨W, hW⟩ : ∃ W, (w.alloc (.cells (callC 9 0 0 0 nn nilS now draw) 39)).alloc (.cells (swC st now draw nilS nilS (.pointer none)) 374) = W := ⟨_, rfl⟩
 have hb0 : Below w.heap.size w W := by rw [← hW]; exact ((Below.refl _ _).alloc (Nat.le_refl _) _).alloc (by simp) _
 have hz0 : W.heap.size = w.heap.size + 2 := by rw [← hW]; simp
 have hg0 : Bk W w.heap.size 39 (callC 9 0 0 0 nn nilS now draw) := by rw [← hW]; exact (Bk.new _ _ _).alloc _
 have hk0 : Bk W (w.heap.size + 1) 374 (swC st now draw nilS nilS (.pointer none)) := by
  rw [← hW]
  have := Bk.new (w.alloc (.cells (callC 9 0 0 0 nn nilS now draw) 39)) 374 (swC st now draw nilS nilS (.pointer none))
  rwa [World.size_alloc] at this
 have HWT := Lib.hid (waits_nil st d.h sm 0 W (hs.below hb0).stk)
 have HX := Lib.hid (And.intro hs (And.intro hb0 (And.intro hz0 (And.intro hg0 (And.intro hk0 ht)))))
 have HZ := Lib.hid (And.intro hq hnn)
 have HW : Hid ((w.alloc (.cells #[.int .i64 9, .int .i64 0, .int .i64 0, .int .u32 0, .int .i64 0, .int .i64 nn, .slice none 0 0, .int .i64 now, .int .i64 draw] 39)).alloc (.cells #[bp st, .int .i64 now, .int .i64 draw, .slice none 0 0, .slice none 0 0, .pointer none] 374) = W) := Lib.hid hW
 clear hW hb0 hz0 hg0 hk0 hs ht hq hnn
 unfold callC
 go_enter Tryz.func117, Tryz.ntmps117
 go_wp2_with fail
 rw [HW.out]
 refine HWT.out.mono ?_
 rintro e1 w1 ⟨rfl, hB1⟩
 have hg1 := HX.out.2.2.2.1.below hB1 (Bk.lt HX.out.2.2.2.1)
 have z0 : w1.cell? ⟨w.heap.size, 0, none⟩ = some (.int .i64 9) := hg1.cell 0
 have z1 : w1.cell? ⟨w.heap.size, 1, none⟩ = some (.int .i64 0) := hg1.cell 1
 have z6 : w1.cell? ⟨w.heap.size, 6, none⟩ = some nilS := hg1.cell 6
 have HB1 := Lib.hid hB1
 have HG1 := Lib.hid hg1
 have hbw1 : Below w.heap.size w w1 := HX.out.2.1.trans (hB1.mono HX.out.2.1.size)
 have HCL := Lib.hid (oclone_any none 0 0 0 [] rfl (by omega) w1 (fun h => absurd h (by simp [by8])) (Nat.zero_le _))
 clear hB1 hg1 hbw1
 go_wp2_with fail
 refine HCL.out.mono ?_
 rintro e2 w2 ⟨A2, c2, rfl, ho2, hB2⟩
 have hg2 := HG1.out.below hB2 (Bk.lt HG1.out)
 have z6' : w2.cell? ⟨w.heap.size, 6, none⟩ = some nilS := hg2.cell 6
 have zf6 := hg2.frozen 6
 obtain ⟨W3, hW3⟩ : ∃ W3, w2.setCell ⟨w.heap.size, 6, none⟩ (.slice A2 0 c2) = W3 := ⟨_, rfl⟩
 have hg3 : Bk W3 w.heap.size 39 (callC 9 0 0 0 nn (.slice A2 0 c2) now draw) := by rw [← hW3]; exact hg2.set 6 _
 have hB3 : Below w.heap.size w W3 := by
  rw [← hW3]
  exact Below.set1 ((HX.out.2.1.trans (HB1.out.mono HX.out.2.1.size)).trans (hB2.mono (by have := HX.out.2.1.size; have := HB1.out.size; omega))) (Nat.le_refl _) _
 have hl3 : W.heap.size ≤ W3.heap.size := by rw [← hW3, size_setCell]; have := HB1.out.size; have := hB2.size; omega
 have hl1 : W.heap.size ≤ w1.heap.size := HB1.out.size
 have hc3 : Chg (fun b => b = w.heap.size) w2 W3 := by rw [← hW3]; exact (Chg.refl _ w2).set1 _
 have ho3 : OB 5 W3 w1.heap.size A2 0 c2 [] := ow_keep ho2 hc3 (fun b hb e => by have := (Ow.lt ho2 b hb).1; have := HX.out.2.2.1; omega)
 have hk3 : Bk W3 (w.heap.size + 1) 374 (swC st now draw nilS nilS (.pointer none)) := by
  rw [← hW3]
  refine Bk.far ((HX.out.2.2.2.2.1.below HB1.out (Bk.lt HX.out.2.2.2.2.1)).below hB2 (Nat.lt_of_lt_of_le (Bk.lt HX.out.2.2.2.2.1) HB1.out.size)) ?_ _
  show w.heap.size + 1 ≠ w.heap.size
  omega
 have hs3 := HX.out.1.below hB3
 have hm3 : IM mkI okI W3 sm [(0, ifS s)] := hs3.sk.1
 have x1 : W3.cell? ⟨w.heap.size, 1, none⟩ = some (.int .i64 0) := hg3.cell 1
 have x2 : W3.cell? ⟨w.heap.size, 2, none⟩ = some (.int .i64 0) := hg3.cell 2
 have s1 : W3.cell? ⟨st, 1, none⟩ = some (.map (some sm)) := hs3.stk.cell 1
 have hlk : (Instr.lookup 192 (.map (some sm)) (.int .i64 0) false).run Tryz.prog W3.drew = .ok (ifS s) W3.drew := IM.look (hm3.drewN 1) keyI Tryz.underlying192 (zeroIface _) (show okI 0 by unfold okI; omega) false
 have HW3 := Lib.hid hW3
 have HY := Lib.hid (And.intro hg3 (And.intro hB3 (And.intro hl3 (And.intro hk3 (And.intro hs3 (And.intro ho3 hl1))))))
 clear z0 z1 z6 hg2 hW3 hg3 hB3 hl3 hk3 hs3 hm3 ho2 hB2 ho3 hl1 hc3
 go_upto_region 5 with (fail)
 rw [HW3.out]
 go_region
 have hx4 : Bk ((W3.alloc (.cells #[.int .i64 0, ifS s, Value.nilFunc, .int .i64 0] 380)).drew) W3.heap.size 380 #[.int .i64 0, ifS s, Value.nilFunc, .int .i64 0] := Bk.new W3 _ _
 have hB4 : Below W3.heap.size W3 ((W3.alloc (.cells #[.int .i64 0, ifS s, Value.nilFunc, .int .i64 0] 380)).drew) := ((Below.refl _ _).alloc (Nat.le_refl _) _).drew
 generalize (W3.alloc (.cells #[.int .i64 0, ifS s, Value.nilFunc, .int .i64 0] 380)).drew = W4 at hx4 hB4 ⊢
 obtain ⟨hg3, hB3, hl3, hk3, hs3, ho3, hl1⟩ := HY.out
 have hz0 := HX.out.2.2.1
 have hl34 := hB3.size
 obtain ⟨x, hx⟩ : ∃ x, W3.heap.size = x := ⟨_, rfl⟩
 have hg4 := hg3.below hB4 hg3.lt
 have hk4 := hk3.below hB4 hk3.lt
 have hBw4 : Below w.heap.size w W4 := hB3.trans (hB4.mono hB3.size)
 have ho4 := Ow.stays ho3 hB4
 have hA2x : ∀ b, blk A2 = some b → w.heap.size + 2 ≤ b ∧ b < x := fun b hb => ⟨by have := (Ow.lt ho3 b hb).1; omega, by rw [← hx]; exact (Ow.lt ho3 b hb).2⟩
 rw [hx] at hx4 ⊢
 have hxw : w.heap.size ≠ x ∧ w.heap.size + 1 ≠ x ∧ w.heap.size ≤ x := by omega
 have he2 : ∀ w, (binOp .eql 376 (ifS s) Value.nilIface).run Tryz.prog w = .ok (.bool false) w := fun w => by kernel_rfl
 have yy0 : W4.cell? ⟨w.heap.size, 0, none⟩ = some (.int .i64 9) := hg4.cell 0
 have yy1 : W4.cell? ⟨x, 1, none⟩ = some (ifS s) := hx4.cell 1
 have y1 : W4.drew.cell? ⟨x, 1, none⟩ = some (ifS s) := hx4.cell 1
 have z0 : W4.drew.cell? ⟨w.heap.size, 0, none⟩ = some (.int .i64 9) := hg4.cell 0
 have z1 : W4.drew.cell? ⟨w.heap.size, 1, none⟩ = some (.int .i64 0) := hg4.cell 1
 have z2 : W4.drew.cell? ⟨w.heap.size, 2, none⟩ = some (.int .i64 0) := hg4.cell 2
 have z3 : W4.drew.cell? ⟨w.heap.size, 3, none⟩ = some (.int .u32 0) := hg4.cell 3
 have z4 : W4.drew.cell? ⟨w.heap.size, 4, none⟩ = some (.int .i64 0) := hg4.cell 4
 have z5 : W4.drew.cell? ⟨w.heap.size, 5, none⟩ = some (.int .i64 nn) := hg4.cell 5
 have z6 : W4.drew.cell? ⟨w.heap.size, 6, none⟩ = some (.slice A2 0 c2) := hg4.cell 6
 have z7 : W4.drew.cell? ⟨w.heap.size, 7, none⟩ = some (.int .i64 now) := hg4.cell 7
 have z8 : W4.drew.cell? ⟨w.heap.size, 8, none⟩ = some (.int .i64 draw) := hg4.cell 8
 have hscall := scall_recv (w.heap.size + 1) s 0 0 0 nn HZ.out.2.1 (.slice A2 0 c2) now draw W4.drew
 unfold callC at hscall
 have HSC := Lib.hid hscall
 have HLT : Hid (w.heap.size < W4.drew.heap.size ∧ x < W4.drew.heap.size) := Lib.hid ⟨hg4.lt, hx4.lt⟩
 have HX4 := Lib.hid hx4
 have HU := Lib.hid (And.intro hg4 (And.intro hk4 (And.intro hBw4 (And.intro ho4 (And.intro hA2x (And.intro hxw hz0))))))
 clear hx4 hB4 hg3 hB3 hl3 hk3 hs3 ho3 hl1 hz0 hl34 hx hg4 hk4 hBw4 ho4 hA2x hxw hscall x1 x2 s1 hlk z6' zf6
 go_upto_region 6 with (fail)
 go_region_held3 (fun w' => w'.cell? ⟨x, 1, none⟩ = some (ifS s) ∧ w'.cell? ⟨w.heap.size, 0, none⟩ = some (.int .i64 9) ∧ w'.cell? ⟨w.heap.size, 1, none⟩ = some (.int .i64 0) ∧ w'.cell? ⟨w.heap.size, 2, none⟩ = some (.int .i64 0) ∧ w'.cell? ⟨w.heap.size, 3, none⟩ = some (.int .u32 0) ∧ w'.cell? ⟨w.heap.size, 4, none⟩ = some (.int .i64 0) ∧ w'.cell? ⟨w.heap.size, 5, none⟩ = some (.int .i64 nn) ∧ w'.cell? ⟨w.heap.size, 6, none⟩ = some (.slice A2 0 c2) ∧ w'.cell? ⟨w.heap.size, 7, none⟩ = some (.int .i64 now) ∧ w'.cell? ⟨w.heap.size, 8, none⟩ = some (.int .i64 draw))
  (first | (with_reducible exact ⟨by assumption, by assumption, by assumption, by assumption, by assumption, by assumption, by assumption, by assumption, by assumption, by assumption⟩) | go_keep)
  (first
   | (go_at_call 185; refine HSC.out.mono ?_; rintro e6 w6 ⟨gs, gc, rfl, hcap⟩; have hb6 := hcap.2.2.2.2; have p1 := bel_cell_ hb6 HLT.out.2 y1; have p20 := bel_cell_ hb6 HLT.out.1 z0; have p21 := bel_cell_ hb6 HLT.out.1 z1; have p22 := bel_cell_ hb6 HLT.out.1 z2; have p23 := bel_cell_ hb6 HLT.out.1 z3; have p24 := bel_cell_ hb6 HLT.out.1 z4; have p25 := bel_cell_ hb6 HLT.out.1 z5; have p26 := bel_cell_ hb6 HLT.out.1 z6; have p27 := bel_cell_ hb6 HLT.out.1 z7; have p28 := bel_cell_ hb6 HLT.out.1 z8; have hx6 := HX4.out.below (bel_undr_ hb6) (Bk.lt HX4.out); have u2 : w6.cell? ⟨x, 2, none⟩ = some Value.nilFunc := hx6.cell 2; have p1s : ∀ u, (w6.setCell ⟨x, 2, none⟩ u).cell? ⟨x, 1, none⟩ = some (ifS s) := fun u => (hx6.set 2 u).cell 1; have uf2 := hx6.frozen 2; have ew0 : w.heap.size ≠ x := HU.out.2.2.2.2.2.1.1; have ew1 : x ≠ w.heap.size := Ne.symm ew0))
 obtain ⟨W7, hW7⟩ : ∃ W7, w6.setCell ⟨x, 2, none⟩ (.func (.func 425) #[] #[bp gs, bp gc]) = W7 := ⟨_, rfl⟩
 rw [hW7]
 obtain ⟨hg4, hk4, hBw4, ho4, hA2x, hxw, hz0⟩ := HU.out
 have hb46 := bel_undr_ hb6
 have hx7 : Bk W7 x 380 (wtC (ifS s) 425 #[bp gs, bp gc]) := by rw [← hW7]; exact hx6.set 2 _
 have hc67 : Chg (fun b => b = x) w6 W7 := by rw [← hW7]; exact (Chg.refl _ w6).set1 _
 have hx4l := Bk.lt HX4.out
 have hk7 : Bk W7 (w.heap.size + 1) 374 (swC st now draw nilS nilS (.pointer none)) := (hk4.below hb46 hk4.lt).chg hc67 hxw.2.1
 have hB7 : Below w.heap.size w W7 := by rw [← hW7]; exact Below.set1 (hBw4.trans (hb46.mono hBw4.size)) hxw.2.2 _
 have ho7 : OB 5 W7 w1.heap.size A2 0 c2 [] := ow_keep (Ow.stays ho4 hb46) hc67 (fun b hb e => by have := (hA2x b hb).2; omega)
 have hcap7 := And.intro (hcap.1.chg hc67 (fun e => by have q := hcap.2.2.1; have q2 : W4.drew.heap.size = W4.heap.size := rfl; omega)) (And.intro (hcap.2.1.chg hc67 (fun e => by have q := hcap.2.2.2.1; have q2 : W4.drew.heap.size = W4.heap.size := rfl; omega)) (And.intro hcap.2.2.1 hcap.2.2.2.1))
 obtain ⟨K0, k1, k2⟩ : ∃ K0 : Nat → Nat, (∀ b, b < w.heap.size → K0 b = K b) ∧ ∀ b, w.heap.size ≤ b → K0 b = 40 := ⟨fun b => if b < w.heap.size then K b else 40, fun b hb => if_pos hb, fun b hb => if_neg (by omega)⟩
 have hs7 : SdS t K0 W7 st sm d v S (some (port, [q])) (some (s, b0, sp)) := HX.out.1.keep (Chg.of_below (F := fun _ => False) hB7) (fun _ _ _ e => e) (fun b hb _ => k1 b hb)
 have ht := HX.out.2.2.2.2.2
 have hl4 : w.heap.size ≤ W4.heap.size := hBw4.size
 have n40 : ¬ sideK t 40 := by
  rintro (h | h)
  ·exact absurd h.2 (by omega)
  ·omega
 have hQ : Stab t (RvQ t st sm d.h q.data) := RvQ.stab
 have ho7x : ∀ b, blk A2 = some b → w.heap.size + 2 ≤ b := fun b hb => (hA2x b hb).1
 have HTR := Lib.hid (tries_recv t ht K0 W7 st (w.heap.size + 1) x gs gc s now draw (.pointer none) [] q.data.length q.fr q.fp _ hQ hk7 (k2 _ (by omega)) hx7 (k2 _ (by omega)) _ _ hs7.sk.2.1 (fun K1 w1' j1 j2 hc hw1 =>
  have hsd1 := hs7.keep hc (fun b hb hk e => by rw [e, k2 _ (by omega)] at hk; exact n40 hk) (fun b hb _ => j1 b hb)
  try_recv t ht K1 w1' st sm d v S s (w.heap.size + 1) gs gc now draw port (bp x) (.slice A2 0 c2) 0 0 0 now draw nn b0 sp q HZ.out.1 HZ.out.2.2 hsd1 hw1 (by rw [j1 _ hk7.lt, k2 _ (by omega)]) (hcap7.1.chg hc (fun e => Bk.ne_ hcap7.1 hk7 (by decide) e)) (by rw [j1 _ hcap7.1.lt, k2 _ (by have := hcap7.2.2.1; have e : W4.drew.heap.size = W4.heap.size := rfl; omega)]) (hcap7.2.1.chg hc (fun e => Bk.ne_ hcap7.2.1 hk7 (by decide) e)) (by rw [j1 _ hcap7.2.1.lt, k2 _ (by have := hcap7.2.2.2; have e : W4.drew.heap.size = W4.heap.size := rfl; omega)])))
 have HE := Lib.hid (fun e w' (h : TrR t K0 W7 (w.heap.size + 1) st now draw (bp x) [] q.data.length q.fr q.fp (RvQ t st sm d.h q.data) e w') => do_end (h := d.h) (sm := sm) ht hQ (fun dv K w h => h.1) k1 k2 hB7 (by omega) h)
 clear hg4 hk4 hBw4 ho4 hA2x hxw hz0 hb46 hx7 hc67 hx4l hk7 hB7 ho7 hcap7 k1 k2 hs7 ht hl4 n40 hQ ho7x hW7 hcap hb6 p1 p20 p21 p22 p23 p24 p25 p26 p27 p28 hx6 u2 uf2 p1s ew0 ew1 z0 z1 z2 z3 z4 z5 z6 z7 z8 y1 yy0 yy1
 go_wp2_with fail
 refine HTR.out.mono ?_
 rintro e8 w8 hT8
 obtain ⟨y, xx, rfl, hw8, hst8, hfin⟩ := HE.out _ _ hT8
 have HFIN := Lib.hid hfin
 have HK8 := Lib.hid hw8
 have HS8 := Lib.hid hst8
 have v3 : w8.cell? ⟨w.heap.size + 1, 3, none⟩ = some y := hw8.cell 3
 have v4 : w8.cell? ⟨w.heap.size + 1, 4, none⟩ = some xx := hw8.cell 4
 clear hT8 hfin hw8 hst8
 go_wp2_with fail
 refine (again_nil (w.heap.size + 1) st d.h sm now draw y xx (bp x) _ HK8.out HS8.out).mono ?_
 rintro e9 w9 ⟨rfl, rfl⟩
 go_wp2_with fail
 go_quiet (fail)
 go_wp2
 go_ret2
 exact HFIN.out _
open Go.RowKit
set_option maxHeartbeats 8000000 in
set_option maxRecDepth 100000 in
theorem do_send (t : Nat) (ht : t ≤ 20) (K : Nat → Nat) (w : World) (st sm : Nat) (d : HD) (v : HV) (S : List En) (s : Nat) (now draw : Int) (to_ tp : Int) (A : Option Addr) (n c : Nat) (l F : List Int) (hd : 0 ≤ draw ∧ draw ≤ 2147483647) (hto : okA to_) (hto0 : to_ ≠ 0) (hgr : to_ < 3758096384) (hmi : isMine to_ v.addr = false) (htp : 1 ≤ tp ∧ tp ≤ 65535) (hnow : -9223372036854775808 ≤ now ∧ now ≤ 9223372036854775807) (hA : RB w w.heap.size A l) (hn : l.length = n) (hn2 : n ≤ 60000) (hbs : Bs l) (hS1 : n ≤ 1400 ∧ S = [] ∧ isBc to_ v.addr = false ∧ inNet to_) (hsr : ∀ x k v' S' L', SendsR { v with prt := x } S (sdP v.addr to_) (sdB v.addr (49152 + draw % 16384) to_ tp l) now [] k v' S' L' → k = 0 ∧ L' = [F]) (hs : SdS t K w st sm d v S none (some (s, false, 0))) :
  Calls Tryz.prog 117 #[bp st, .agg (callC 8 0 to_ tp 0 (.slice A n c) now draw)] w (DoR t K w [F] n 0 0 (fun _ K' w' => ∃ s x k v' S', SendsR { v with prt := x } S (sdP v.addr to_) (sdB v.addr (49152 + draw % 16384) to_ tp l) now [] k v' S' [F] ∧ SdS t K' w' st sm d v' S' (some (49152 + draw % 16384, [])) (some (s, true, 49152 + draw % 16384)))) := by
 obtain ⟨W, hW⟩ : ∃ W, (w.alloc (.cells (callC 8 0 to_ tp 0 (.slice A n c) now draw) 39)).alloc (.cells (swC st now draw nilS nilS (.pointer none)) 374) = W := ⟨_, rfl⟩
 have hb0 : Below w.heap.size w W := by rw [← hW]; exact ((Below.refl _ _).alloc (Nat.le_refl _) _).alloc (by simp) _
 have hz0 : W.heap.size = w.heap.size + 2 := by rw [← hW]; simp
 have hg0 : Bk W w.heap.size 39 (callC 8 0 to_ tp 0 (.slice A n c) now draw) := by rw [← hW]; exact (Bk.new _ _ _).alloc _
 have hk0 : Bk W (w.heap.size + 1) 374 (swC st now draw nilS nilS (.pointer none)) := by
  rw [← hW]
  have := Bk.new (w.alloc (.cells (callC 8 0 to_ tp 0 (.slice A n c) now draw) 39)) 374 (swC st now draw nilS nilS (.pointer none))
  rwa [World.size_alloc] at this
 have HWT := Lib.hid (waits_nil st d.h sm 0 W (hs.below hb0).stk)
 have HX := Lib.hid (And.intro hs (And.intro hb0 (And.intro hz0 (And.intro hg0 (And.intro hk0 ht)))))
 have HZ := Lib.hid (And.intro hd (And.intro hto (And.intro hto0 (And.intro hgr (And.intro hmi (And.intro htp (And.intro hnow (And.intro hA (And.intro hn (And.intro hn2 (And.intro hbs (And.intro hS1 hsr))))))))))))
 have HW : Hid ((w.alloc (.cells #[.int .i64 8, .int .i64 0, .int .i64 0, .int .u32 to_, .int .i64 tp, .int .i64 0, .slice A n c, .int .i64 now, .int .i64 draw] 39)).alloc (.cells #[bp st, .int .i64 now, .int .i64 draw, .slice none 0 0, .slice none 0 0, .pointer none] 374) = W) := Lib.hid hW
 clear hW hb0 hz0 hg0 hk0 hs ht hd hto hto0 hgr hmi htp hnow hA hn hn2 hbs hS1 hsr
 unfold callC
 go_enter Tryz.func117, Tryz.ntmps117
 go_wp2_with fail
 rw [HW.out]
 refine HWT.out.mono ?_
 rintro e1 w1 ⟨rfl, hB1⟩
 have hg1 := HX.out.2.2.2.1.below hB1 (Bk.lt HX.out.2.2.2.1)
 have z0 : w1.cell? ⟨w.heap.size, 0, none⟩ = some (.int .i64 8) := hg1.cell 0
 have z1 : w1.cell? ⟨w.heap.size, 1, none⟩ = some (.int .i64 0) := hg1.cell 1
 have z6 : w1.cell? ⟨w.heap.size, 6, none⟩ = some (.slice A n c) := hg1.cell 6
 have HB1 := Lib.hid hB1
 have HG1 := Lib.hid hg1
 have hbw1 : Below w.heap.size w w1 := HX.out.2.1.trans (hB1.mono HX.out.2.1.size)
 have HCL := Lib.hid (oclone_any A n c w.heap.size l HZ.out.2.2.2.2.2.2.2.2.1 (by have := HZ.out.2.2.2.2.2.2.2.2.2.1; omega) w1 (Rw.below HZ.out.2.2.2.2.2.2.2.1 hbw1) hbw1.size)
 clear hB1 hg1 hbw1
 go_wp2_with fail
 refine HCL.out.mono ?_
 rintro e2 w2 ⟨A2, c2, rfl, ho2, hB2⟩
 have hg2 := HG1.out.below hB2 (Bk.lt HG1.out)
 have z6' : w2.cell? ⟨w.heap.size, 6, none⟩ = some (.slice A n c) := hg2.cell 6
 have zf6 := hg2.frozen 6
 obtain ⟨W3, hW3⟩ : ∃ W3, w2.setCell ⟨w.heap.size, 6, none⟩ (.slice A2 n c2) = W3 := ⟨_, rfl⟩
 have hg3 : Bk W3 w.heap.size 39 (callC 8 0 to_ tp 0 (.slice A2 n c2) now draw) := by rw [← hW3]; exact hg2.set 6 _
 have hB3 : Below w.heap.size w W3 := by
  rw [← hW3]
  exact Below.set1 ((HX.out.2.1.trans (HB1.out.mono HX.out.2.1.size)).trans (hB2.mono (by have := HX.out.2.1.size; have := HB1.out.size; omega))) (Nat.le_refl _) _
 have hl3 : W.heap.size ≤ W3.heap.size := by rw [← hW3, size_setCell]; have := HB1.out.size; have := hB2.size; omega
 have hl1 : W.heap.size ≤ w1.heap.size := HB1.out.size
 have hc3 : Chg (fun b => b = w.heap.size) w2 W3 := by rw [← hW3]; exact (Chg.refl _ w2).set1 _
 have ho3 : OB 5 W3 w1.heap.size A2 n c2 l := ow_keep ho2 hc3 (fun b hb e => by have := (Ow.lt ho2 b hb).1; have := HX.out.2.2.1; omega)
 have hk3 : Bk W3 (w.heap.size + 1) 374 (swC st now draw nilS nilS (.pointer none)) := by
  rw [← hW3]
  refine Bk.far ((HX.out.2.2.2.2.1.below HB1.out (Bk.lt HX.out.2.2.2.2.1)).below hB2 (Nat.lt_of_lt_of_le (Bk.lt HX.out.2.2.2.2.1) HB1.out.size)) ?_ _
  show w.heap.size + 1 ≠ w.heap.size
  omega
 have hs3 := HX.out.1.below hB3
 have hm3 : IM mkI okI W3 sm [(0, ifS s)] := hs3.sk.1
 have x1 : W3.cell? ⟨w.heap.size, 1, none⟩ = some (.int .i64 0) := hg3.cell 1
 have x2 : W3.cell? ⟨w.heap.size, 2, none⟩ = some (.int .i64 0) := hg3.cell 2
 have s1 : W3.cell? ⟨st, 1, none⟩ = some (.map (some sm)) := hs3.stk.cell 1
 have hlk : (Instr.lookup 192 (.map (some sm)) (.int .i64 0) false).run Tryz.prog W3.drew = .ok (ifS s) W3.drew := IM.look (hm3.drewN 1) keyI Tryz.underlying192 (zeroIface _) (show okI 0 by unfold okI; omega) false
 have HW3 := Lib.hid hW3
 have HY := Lib.hid (And.intro hg3 (And.intro hB3 (And.intro hl3 (And.intro hk3 (And.intro hs3 (And.intro ho3 hl1))))))
 clear z0 z1 z6 hg2 hW3 hg3 hB3 hl3 hk3 hs3 hm3 ho2 hB2 ho3 hl1 hc3
 go_upto_region 5 with (fail)
 rw [HW3.out]
 go_region
 have hx4 : Bk ((W3.alloc (.cells #[.int .i64 0, ifS s, Value.nilFunc, .int .i64 0] 380)).drew) W3.heap.size 380 #[.int .i64 0, ifS s, Value.nilFunc, .int .i64 0] := Bk.new W3 _ _
 have hB4 : Below W3.heap.size W3 ((W3.alloc (.cells #[.int .i64 0, ifS s, Value.nilFunc, .int .i64 0] 380)).drew) := ((Below.refl _ _).alloc (Nat.le_refl _) _).drew
 generalize (W3.alloc (.cells #[.int .i64 0, ifS s, Value.nilFunc, .int .i64 0] 380)).drew = W4 at hx4 hB4 ⊢
 obtain ⟨hg3, hB3, hl3, hk3, hs3, ho3, hl1⟩ := HY.out
 have hz0 := HX.out.2.2.1
 have hl34 := hB3.size
 obtain ⟨x, hx⟩ : ∃ x, W3.heap.size = x := ⟨_, rfl⟩
 have hg4 := hg3.below hB4 hg3.lt
 have hk4 := hk3.below hB4 hk3.lt
 have hBw4 : Below w.heap.size w W4 := hB3.trans (hB4.mono hB3.size)
 have ho4 := Ow.stays ho3 hB4
 have hA2x : ∀ b, blk A2 = some b → w.heap.size + 2 ≤ b ∧ b < x := fun b hb => ⟨by have := (Ow.lt ho3 b hb).1; omega, by rw [← hx]; exact (Ow.lt ho3 b hb).2⟩
 rw [hx] at hx4 ⊢
 have hxw : w.heap.size ≠ x ∧ w.heap.size + 1 ≠ x ∧ w.heap.size ≤ x := by omega
 have he2 : ∀ w, (binOp .eql 376 (ifS s) Value.nilIface).run Tryz.prog w = .ok (.bool false) w := fun w => by kernel_rfl
 have yy0 : W4.cell? ⟨w.heap.size, 0, none⟩ = some (.int .i64 8) := hg4.cell 0
 have yy1 : W4.cell? ⟨x, 1, none⟩ = some (ifS s) := hx4.cell 1
 have y1 : W4.drew.cell? ⟨x, 1, none⟩ = some (ifS s) := hx4.cell 1
 have z0 : W4.drew.cell? ⟨w.heap.size, 0, none⟩ = some (.int .i64 8) := hg4.cell 0
 have z1 : W4.drew.cell? ⟨w.heap.size, 1, none⟩ = some (.int .i64 0) := hg4.cell 1
 have z2 : W4.drew.cell? ⟨w.heap.size, 2, none⟩ = some (.int .i64 0) := hg4.cell 2
 have z3 : W4.drew.cell? ⟨w.heap.size, 3, none⟩ = some (.int .u32 to_) := hg4.cell 3
 have z4 : W4.drew.cell? ⟨w.heap.size, 4, none⟩ = some (.int .i64 tp) := hg4.cell 4
 have z5 : W4.drew.cell? ⟨w.heap.size, 5, none⟩ = some (.int .i64 0) := hg4.cell 5
 have z6 : W4.drew.cell? ⟨w.heap.size, 6, none⟩ = some (.slice A2 n c2) := hg4.cell 6
 have z7 : W4.drew.cell? ⟨w.heap.size, 7, none⟩ = some (.int .i64 now) := hg4.cell 7
 have z8 : W4.drew.cell? ⟨w.heap.size, 8, none⟩ = some (.int .i64 draw) := hg4.cell 8
 have hscall := scall_send (w.heap.size + 1) s 0 to_ tp 0 HZ.out.2.2.2.2.2.1 HZ.out.2.2.1 A2 n c2 now draw W4.drew
 unfold callC at hscall
 have HSC := Lib.hid hscall
 have HLT : Hid (w.heap.size < W4.drew.heap.size ∧ x < W4.drew.heap.size) := Lib.hid ⟨hg4.lt, hx4.lt⟩
 have HX4 := Lib.hid hx4
 have HU := Lib.hid (And.intro hg4 (And.intro hk4 (And.intro hBw4 (And.intro ho4 (And.intro hA2x (And.intro hxw hz0))))))
 clear hx4 hB4 hg3 hB3 hl3 hk3 hs3 ho3 hl1 hz0 hl34 hx hg4 hk4 hBw4 ho4 hA2x hxw hscall x1 x2 s1 hlk z6' zf6
 go_upto_region 6 with (fail)
 go_region_held3 (fun w' => w'.cell? ⟨x, 1, none⟩ = some (ifS s) ∧ w'.cell? ⟨w.heap.size, 0, none⟩ = some (.int .i64 8) ∧ w'.cell? ⟨w.heap.size, 1, none⟩ = some (.int .i64 0) ∧ w'.cell? ⟨w.heap.size, 2, none⟩ = some (.int .i64 0) ∧ w'.cell? ⟨w.heap.size, 3, none⟩ = some (.int .u32 to_) ∧ w'.cell? ⟨w.heap.size, 4, none⟩ = some (.int .i64 tp) ∧ w'.cell? ⟨w.heap.size, 5, none⟩ = some (.int .i64 0) ∧ w'.cell? ⟨w.heap.size, 6, none⟩ = some (.slice A2 n c2) ∧ w'.cell? ⟨w.heap.size, 7, none⟩ = some (.int .i64 now) ∧ w'.cell? ⟨w.heap.size, 8, none⟩ = some (.int .i64 draw))
  (first | (with_reducible exact ⟨by assumption, by assumption, by assumption, by assumption, by assumption, by assumption, by assumption, by assumption, by assumption, by assumption⟩) | go_keep)
  (first
   | (go_at_call 185; refine HSC.out.mono ?_; rintro e6 w6 ⟨g9, g5, g6, g7, g8, rfl, hcap⟩; have hb6 := hcap.2.2.2.2.2.2; have p1 := bel_cell_ hb6 HLT.out.2 y1; have p20 := bel_cell_ hb6 HLT.out.1 z0; have p21 := bel_cell_ hb6 HLT.out.1 z1; have p22 := bel_cell_ hb6 HLT.out.1 z2; have p23 := bel_cell_ hb6 HLT.out.1 z3; have p24 := bel_cell_ hb6 HLT.out.1 z4; have p25 := bel_cell_ hb6 HLT.out.1 z5; have p26 := bel_cell_ hb6 HLT.out.1 z6; have p27 := bel_cell_ hb6 HLT.out.1 z7; have p28 := bel_cell_ hb6 HLT.out.1 z8; have hx6 := HX4.out.below (bel_undr_ hb6) (Bk.lt HX4.out); have u2 : w6.cell? ⟨x, 2, none⟩ = some Value.nilFunc := hx6.cell 2; have p1s : ∀ u, (w6.setCell ⟨x, 2, none⟩ u).cell? ⟨x, 1, none⟩ = some (ifS s) := fun u => (hx6.set 2 u).cell 1; have uf2 := hx6.frozen 2; have ew0 : w.heap.size ≠ x := HU.out.2.2.2.2.2.1.1; have ew1 : x ≠ w.heap.size := Ne.symm ew0))
 obtain ⟨W7, hW7⟩ : ∃ W7, w6.setCell ⟨x, 2, none⟩ (.func (.func 315) #[] #[bp g9, bp g5, bp g6, bp g7, bp g8]) = W7 := ⟨_, rfl⟩
 rw [hW7]
 obtain ⟨hg4, hk4, hBw4, ho4, hA2x, hxw, hz0⟩ := HU.out
 have hb46 := bel_undr_ hb6
 have hx7 : Bk W7 x 380 (wtC (ifS s) 315 #[bp g9, bp g5, bp g6, bp g7, bp g8]) := by rw [← hW7]; exact hx6.set 2 _
 have hc67 : Chg (fun b => b = x) w6 W7 := by rw [← hW7]; exact (Chg.refl _ w6).set1 _
 have hx4l := Bk.lt HX4.out
 have hk7 : Bk W7 (w.heap.size + 1) 374 (swC st now draw nilS nilS (.pointer none)) := (hk4.below hb46 hk4.lt).chg hc67 hxw.2.1
 have hB7 : Below w.heap.size w W7 := by rw [← hW7]; exact Below.set1 (hBw4.trans (hb46.mono hBw4.size)) hxw.2.2 _
 have ho7 : OB 5 W7 w1.heap.size A2 n c2 l := ow_keep (Ow.stays ho4 hb46) hc67 (fun b hb e => by have := (hA2x b hb).2; omega)
 have hcap7 := (fun (e : W4.drew.heap.size = W4.heap.size) => And.intro (hcap.1.chg hc67 (fun q => by have := hcap.2.2.2.2.2.1; omega)) (And.intro (hcap.2.1.chg hc67 (fun q => by have := hcap.2.2.2.2.2.1; omega)) (And.intro (hcap.2.2.1.chg hc67 (fun q => by have := hcap.2.2.2.2.2.1; omega)) (And.intro (hcap.2.2.2.1.chg hc67 (fun q => by have := hcap.2.2.2.2.2.1; omega)) (And.intro (hcap.2.2.2.2.1.chg hc67 (fun q => by have := hcap.2.2.2.2.2.1; omega)) hcap.2.2.2.2.2.1))))) rfl
 obtain ⟨K0, k1, k2⟩ : ∃ K0 : Nat → Nat, (∀ b, b < w.heap.size → K0 b = K b) ∧ ∀ b, w.heap.size ≤ b → K0 b = 40 := ⟨fun b => if b < w.heap.size then K b else 40, fun b hb => if_pos hb, fun b hb => if_neg (by omega)⟩
 have hs7 : SdS t K0 W7 st sm d v S none (some (s, false, 0)) := HX.out.1.keep (Chg.of_below (F := fun _ => False) hB7) (fun _ _ _ e => e) (fun b hb _ => k1 b hb)
 have ht := HX.out.2.2.2.2.2
 have hl4 : w.heap.size ≤ W4.heap.size := hBw4.size
 have n40 : ¬ sideK t 40 := by
  rintro (h | h)
  ·exact absurd h.2 (by omega)
  ·omega
 have hQ : Stab t (fun _ K' w' => ∃ s x k v' S', SendsR { v with prt := x } S (sdP v.addr to_) (sdB v.addr (49152 + draw % 16384) to_ tp l) now [] k v' S' [F] ∧ SdS t K' w' st sm d v' S' (some (49152 + draw % 16384, [])) (some (s, true, 49152 + draw % 16384))) := fun dv K w K' w' G ⟨s, x, k, v', S', h1, h⟩ hc hG hK => ⟨s, x, k, v', S', h1, h.keep hc hG hK⟩
 have ho7x : ∀ b, blk A2 = some b → w.heap.size + 2 ≤ b := fun b hb => (hA2x b hb).1
 have HTR := Lib.hid (tries_send t ht K0 W7 st (w.heap.size + 1) x g9 g5 g6 g7 g8 s now draw (.pointer none) [F] n 0 0 _ hQ hk7 (k2 _ (by omega)) hx7 (k2 _ (by omega)) _ _ hs7.sk.2.1 (fun K1 w1' j1 j2 hc hw1 =>
  have hsd1 := hs7.keep hc (fun b hb hk e => by rw [e, k2 _ (by omega)] at hk; exact n40 hk) (fun b hb _ => j1 b hb)
  AttR.weak (try_send t ht K1 w1' st sm d v S s (w.heap.size + 1) g9 g5 g6 g7 g8 now draw to_ tp (bp x) A2 n c2 l F HZ.out.1 HZ.out.2.1 HZ.out.2.2.2.1 HZ.out.2.2.2.2.1 (by have := HZ.out.2.2.2.2.2.1; omega) HZ.out.2.2.2.2.2.2.1 (OB.rb (ow_keep ho7 hc (fun b hb e => by have := ho7x b hb; omega))) HZ.out.2.2.2.2.2.2.2.2.1 HZ.out.2.2.2.2.2.2.2.2.2.1 HZ.out.2.2.2.2.2.2.2.2.2.2.1 HZ.out.2.2.2.2.2.2.2.2.2.2.2.1 (fun b hb => by rw [j1 b (Ow.lt ho7 b hb).2]; exact k2 b (by have := ho7x b hb; omega)) HZ.out.2.2.2.2.2.2.2.2.2.2.2.2 hsd1 hw1 (by rw [j1 _ hk7.lt, k2 _ (by omega)]) (hcap7.1.chg hc (fun e => Bk.ne_ hcap7.1 hk7 (by decide) e)) (hcap7.2.1.chg hc (fun e => Bk.ne_ hcap7.2.1 hk7 (by decide) e)) (hcap7.2.2.1.chg hc (fun e => Bk.ne_ hcap7.2.2.1 hk7 (by decide) e)) (hcap7.2.2.2.1.chg hc (fun e => Bk.ne_ hcap7.2.2.2.1 hk7 (by decide) e)) (hcap7.2.2.2.2.1.chg hc (fun e => Bk.ne_ hcap7.2.2.2.2.1 hk7 (by decide) e)) ⟨by rw [j1 _ hcap7.1.lt, k2 _ (by have := hcap7.2.2.2.2.2; have e : W4.drew.heap.size = W4.heap.size := rfl; omega)], by rw [j1 _ hcap7.2.1.lt, k2 _ (by have := hcap7.2.2.2.2.2; have e : W4.drew.heap.size = W4.heap.size := rfl; omega)], by rw [j1 _ hcap7.2.2.1.lt, k2 _ (by have := hcap7.2.2.2.2.2; have e : W4.drew.heap.size = W4.heap.size := rfl; omega)], by rw [j1 _ hcap7.2.2.2.1.lt, k2 _ (by have := hcap7.2.2.2.2.2; have e : W4.drew.heap.size = W4.heap.size := rfl; omega)], by rw [j1 _ hcap7.2.2.2.2.1.lt, k2 _ (by have := hcap7.2.2.2.2.2; have e : W4.drew.heap.size = W4.heap.size := rfl; omega)]⟩) (fun dv K' w' ⟨x, k, v', S', h1, h2⟩ => ⟨s, x, k, v', S', h1, h2⟩)))
 have HE := Lib.hid (fun e w' (h : TrR t K0 W7 (w.heap.size + 1) st now draw (bp x) [F] n 0 0 (fun _ K' w' => ∃ s x k v' S', SendsR { v with prt := x } S (sdP v.addr to_) (sdB v.addr (49152 + draw % 16384) to_ tp l) now [] k v' S' [F] ∧ SdS t K' w' st sm d v' S' (some (49152 + draw % 16384, [])) (some (s, true, 49152 + draw % 16384))) e w') => do_end (h := d.h) (sm := sm) ht hQ (fun dv K w ⟨s, x, k, v', S', h1, h⟩ => h.stk) k1 k2 hB7 (by omega) h)
 clear hg4 hk4 hBw4 ho4 hA2x hxw hz0 hb46 hx7 hc67 hx4l hk7 hB7 ho7 hcap7 k1 k2 hs7 ht hl4 n40 hQ ho7x hW7 hcap hb6 p1 p20 p21 p22 p23 p24 p25 p26 p27 p28 hx6 u2 uf2 p1s ew0 ew1 z0 z1 z2 z3 z4 z5 z6 z7 z8 y1 yy0 yy1
 go_wp2_with fail
 refine HTR.out.mono ?_
 rintro e8 w8 hT8
 obtain ⟨y, xx, rfl, hw8, hst8, hfin⟩ := HE.out _ _ hT8
 have HFIN := Lib.hid hfin
 have HK8 := Lib.hid hw8
 have HS8 := Lib.hid hst8
 have v3 : w8.cell? ⟨w.heap.size + 1, 3, none⟩ = some y := hw8.cell 3
 have v4 : w8.cell? ⟨w.heap.size + 1, 4, none⟩ = some xx := hw8.cell 4
 clear hT8 hfin hw8 hst8
 go_wp2_with fail
 refine (again_nil (w.heap.size + 1) st d.h sm now draw y xx (bp x) _ HK8.out HS8.out).mono ?_
 rintro e9 w9 ⟨rfl, rfl⟩
 go_wp2_with fail
 go_quiet (fail)
 go_wp2
 go_ret2
 exact HFIN.out _
end Go.Proofs.YtaeafkdfbcppgaaGreat
