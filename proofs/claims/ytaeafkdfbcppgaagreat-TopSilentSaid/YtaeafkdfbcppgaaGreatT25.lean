/- Proved: a host sends a frame; a host counts; asks for a neighbour; a host asks for a neighbour. Conditions: as each law says. -/
import Derived.Test.YtaeafkdfbcppgaaGreatT24
set_option linter.unusedSectionVars false
set_option linter.unusedSimpArgs false
set_option linter.unusedVariables false
namespace Go.Proofs.YtaeafkdfbcppgaaGreat
open Go.RowKit
abbrev Mac := Int × Int × Int × Int × Int × Int
def macC (m : Mac) : Array Value := #[.int .u8 m.1, .int .u8 m.2.1, .int .u8 m.2.2.1, .int .u8 m.2.2.2.1, .int .u8 m.2.2.2.2.1, .int .u8 m.2.2.2.2.2]
def macL (m : Mac) : List Int := [m.1, m.2.1, m.2.2.1, m.2.2.2.1, m.2.2.2.2.1, m.2.2.2.2.2]
def frV (v : HV) (l : List Int) : HV := if l.length ≤ 1500 then { v with c1 := incC v.c1 } else v
def frL (v : HV) (mt : Mac) (k : Int) (L : List (List Int)) (l : List Int) : List (List Int) := if l.length ≤ 1500 then L ++ [etherB (macL mt) (macL v.m) k l] else L
theorem info_row_ : (Tryz.prog.info? 37).map (fun i => (i.zero, i.size, i.bytes)) = some (some (.slice none 0 0), 1, 24) := by kernel_rfl
theorem CtOk.c1 {v : HV} (h : CtOk v) : CtOk { v with c1 := incC v.c1 } := fun n x hn hx => by
 by_cases e : n = 1
 ·subst e
  have h0 := h 1 v.c1 (by omega) rfl
  have hx' : some (Value.int .i64 (incC v.c1)) = some (.int .i64 x) := hx
  injection hx' with hx'
  injection hx' with _ hx'
  rw [← hx']
  exact incC_bd h0.1
 ·refine h n x hn ?_
  rw [← hx]
  unfold hostC
  rcases n with _ | _ | _ | _ | _ | _ | _ | _ | _ | _ | _ | _ | _ | _ | _ | _ | _ | n
  all_goals first | rfl | omega
theorem RowsAt.offOf {w : World} {F : Nat → Prop} {A : Option Addr} {base n c : Nat} {us : List Value} (ho : Of 37 w base A n c us) : ∀ {vs : List Value} {ls : List (List Int)}, RowsAt w F vs ls → RowsAt w (fun b => F b ∧ blk A ≠ some b) vs ls
 | [], [], _ => trivial
 | v :: vs, l :: ls, h => by
  refine ⟨?_, RowsAt.offOf ho h.2⟩
  obtain ⟨A1, n1, c1, rfl, h1, h2, h3⟩ := h.1
  refine ⟨A1, n1, c1, rfl, h1, fun b e => ⟨h2 b e, fun e2 => ?_⟩, h3⟩
  rcases h1.2 with ⟨q1, _⟩ | ⟨g, cap, cur, q1, q2, q3, q4⟩
  ·cases q1; cases e
  ·rcases ho.2 with ⟨r1, _⟩ | ⟨g', o', cur', r1, r2, r3, r4⟩
   ·subst r1; cases e2
   ·have a1 := (Value.slice.inj q1).1
    subst r1
    rw [a1] at e
    have b1 : g = b := by simpa [blk] using e
    have b2 : g' = b := by simpa [blk] using e2
    rw [b1] at q3
    rw [b2] at r3
    rw [q3] at r3
    injection r3 with r3
    injection r3 with _ r3 _
    revert r3
    decide
 | [], _ :: _, h => h.elim
 | _ :: _, [], h => h.elim
def frK (t k : Nat) : Prop := k = t ∨ k = t + 5 ∨ k = t + 6
set_option maxHeartbeats 4000000 in
set_option maxRecDepth 100000 in
theorem wframe_chg (t : Nat) (K : Nat → Nat) (w : World) (d : HD) (v : HV) (S : List En) (Lr : List Rec) (P : Option (Int × List Dg)) (wk : Nat) (now draw : Int) (L : List (List Int)) (mt : Mac) (k : Int) (hk : 1536 ≤ k ∧ k ≤ 65535) (A : Option Addr) (n c : Nat) (l : List Int) (hn : l.length = n) (hL : L.length ≤ 1000000) (hr : RB w w.heap.size A l)
  (hs : HostS t K w d v S Lr P) (hw : WkS t K w wk d now draw L) (hbl : Bs l) (hbm : Bs (macL mt)) :
  Calls Tryz.prog 95 #[.pointer (some ⟨wk, 0, none⟩), .agg (macC mt), .int .i64 k, .slice A n c] w fun e w' => e = .returned (.tuple #[]) ∧ PostW t K w wk d now draw (frV v l) S Lr P (frL v mt k L l) w' ∧ Chg (fun b => frK t (K b)) w w' := by
 obtain ⟨K1, hk1, hk2⟩ : ∃ K1 : Nat → Nat, (∀ b, b < w.heap.size → K1 b = K b) ∧ ∀ b, w.heap.size ≤ b → K1 b = t + 5 := ⟨fun b => if b < w.heap.size then K b else t + 5, fun b hb => if_pos hb, fun b hb => if_neg (by omega)⟩
 have HKK := Lib.hid (And.intro hk1 hk2)
 have HHS := Lib.hid hs
 have hs := hs.keep (K' := K1) (Chg.refl (fun _ => False) w) (fun _ _ _ e => e) hk1
 have hw := hw.keep (K' := K1) (Chg.refl (fun _ => False) w) (fun _ _ _ e => e) hk1
 have HKW : Hid (wk < w.heap.size) := Lib.hid (by obtain ⟨_, _, _, _, k1, _⟩ := hw.ex; exact k1.lt)
 clear hk1 hk2
 obtain ⟨W, hW⟩ : ∃ W, w.alloc (.cells (macC mt) 26) = W := ⟨_, rfl⟩
 have HW : Hid (w.alloc (.cells #[.int .u8 mt.1, .int .u8 mt.2.1, .int .u8 mt.2.2.1, .int .u8 mt.2.2.2.1, .int .u8 mt.2.2.2.2.1, .int .u8 mt.2.2.2.2.2] 26) = W) := Lib.hid hW
 have hb0 : Below w.heap.size w W := by rw [← hW]; exact (Below.refl _ _).alloc (Nat.le_refl _) _
 have hm0 : Bk W w.heap.size 26 (macC mt) := by rw [← hW]; exact Bk.new _ _ _
 have hs0 := hs.below hb0
 have hw0 := hw.below hb0
 have hr0 : RB W w.heap.size A l := Rw.below hr hb0
 obtain ⟨fA, fn, fc, vs, k1, k2, k3, k4⟩ := hw0.ex
 have q0 : W.drew.cell? ⟨wk, 0, none⟩ = some (bp d.h) := k1.cell 0
 have m0 : W.drew.cell? ⟨d.h, 0, none⟩ = some (.int .u8 v.m.1) := hs0.hx.hb.m0
 have m1 : W.drew.cell? ⟨d.h, 1, none⟩ = some (.int .u8 v.m.2.1) := hs0.hx.hb.m1
 have m2 : W.drew.cell? ⟨d.h, 2, none⟩ = some (.int .u8 v.m.2.2.1) := hs0.hx.hb.m2
 have m3 : W.drew.cell? ⟨d.h, 3, none⟩ = some (.int .u8 v.m.2.2.2.1) := hs0.hx.hb.m3
 have m4 : W.drew.cell? ⟨d.h, 4, none⟩ = some (.int .u8 v.m.2.2.2.2.1) := hs0.hx.hb.m4
 have m5 : W.drew.cell? ⟨d.h, 5, none⟩ = some (.int .u8 v.m.2.2.2.2.2) := hs0.hx.hb.m5
 have b0 : W.drew.cell? ⟨w.heap.size, 0, none⟩ = some (.int .u8 mt.1) := hm0.cell 0
 have b1 : W.drew.cell? ⟨w.heap.size, 1, none⟩ = some (.int .u8 mt.2.1) := hm0.cell 1
 have b2 : W.drew.cell? ⟨w.heap.size, 2, none⟩ = some (.int .u8 mt.2.2.1) := hm0.cell 2
 have b3 : W.drew.cell? ⟨w.heap.size, 3, none⟩ = some (.int .u8 mt.2.2.2.1) := hm0.cell 3
 have b4 : W.drew.cell? ⟨w.heap.size, 4, none⟩ = some (.int .u8 mt.2.2.2.2.1) := hm0.cell 4
 have b5 : W.drew.cell? ⟨w.heap.size, 5, none⟩ = some (.int .u8 mt.2.2.2.2.2) := hm0.cell 5
 have HS0 := Lib.hid hs0
 have HW0 := Lib.hid hw0
 have HB0 := Lib.hid hb0
 have HK := Lib.hid hk
 have HN := Lib.hid hn
 have HR0 := Lib.hid hr0
 have HLL := Lib.hid hL
 have HBS := Lib.hid hbl
 have HBM := Lib.hid hbm
 clear hW hb0 hm0 hs hw hs0 hw0 hr0 hr k1 k2 k3 k4 hk hn hL hbl hbm
 have HWL : Hid (wk < W.heap.size) := Lib.hid (by obtain ⟨_, _, _, _, k1, _⟩ := HW0.out.ex; exact k1.lt)
 have HHL : Hid (d.h < W.heap.size) := Lib.hid HS0.out.lt
 have HZL : Hid (w.heap.size < W.heap.size) := Lib.hid (by rw [← HW.out]; simp)
 unfold macC
 rcases Nat.lt_or_ge 1500 n with h15 | h15
 ·have heth := Lib.hid (eth_long mt.1 mt.2.1 mt.2.2.1 mt.2.2.2.1 mt.2.2.2.2.1 mt.2.2.2.2.2 v.m.1 v.m.2.1 v.m.2.2.1 v.m.2.2.2.1 v.m.2.2.2.2.1 v.m.2.2.2.2.2 k HK.out A n c h15 W.drew)
  have HV : Hid (frV v l = v) := Lib.hid (if_neg (by rw [HN.out]; omega))
  have HLF : Hid (frL v mt k L l = L) := Lib.hid (if_neg (by rw [HN.out]; omega))
  clear h15
  go_enter Tryz.func95, Tryz.ntmps95
  go_wp2_with fail
  rw [HW.out]
  go_region_held3 (fun w' => w'.cell? ⟨wk, 0, none⟩ = some (bp d.h) ∧ w'.cell? ⟨d.h, 0, none⟩ = some (.int .u8 v.m.1) ∧ w'.cell? ⟨d.h, 1, none⟩ = some (.int .u8 v.m.2.1) ∧ w'.cell? ⟨d.h, 2, none⟩ = some (.int .u8 v.m.2.2.1) ∧ w'.cell? ⟨d.h, 3, none⟩ = some (.int .u8 v.m.2.2.2.1) ∧ w'.cell? ⟨d.h, 4, none⟩ = some (.int .u8 v.m.2.2.2.2.1) ∧ w'.cell? ⟨d.h, 5, none⟩ = some (.int .u8 v.m.2.2.2.2.2) ∧ w'.cell? ⟨w.heap.size, 0, none⟩ = some (.int .u8 mt.1) ∧ w'.cell? ⟨w.heap.size, 1, none⟩ = some (.int .u8 mt.2.1) ∧ w'.cell? ⟨w.heap.size, 2, none⟩ = some (.int .u8 mt.2.2.1) ∧ w'.cell? ⟨w.heap.size, 3, none⟩ = some (.int .u8 mt.2.2.2.1) ∧ w'.cell? ⟨w.heap.size, 4, none⟩ = some (.int .u8 mt.2.2.2.2.1) ∧ w'.cell? ⟨w.heap.size, 5, none⟩ = some (.int .u8 mt.2.2.2.2.2))
   (first | (with_reducible exact ⟨by assumption, by assumption, by assumption, by assumption, by assumption, by assumption, by assumption, by assumption, by assumption, by assumption, by assumption, by assumption, by assumption⟩) | go_keep)
   (first
   | (go_at_call 153; refine heth.out.mono ?_; rintro e1 w1 ⟨rfl, hb1⟩; have p0 := bel_cell_ (bel_undr_ hb1) HWL.out q0; have pm0 := bel_cell_ (bel_undr_ hb1) HHL.out m0; have pm1 := bel_cell_ (bel_undr_ hb1) HHL.out m1; have pm2 := bel_cell_ (bel_undr_ hb1) HHL.out m2; have pm3 := bel_cell_ (bel_undr_ hb1) HHL.out m3; have pm4 := bel_cell_ (bel_undr_ hb1) HHL.out m4; have pm5 := bel_cell_ (bel_undr_ hb1) HHL.out m5; have pb0 := bel_cell_ (bel_undr_ hb1) HZL.out b0; have pb1 := bel_cell_ (bel_undr_ hb1) HZL.out b1; have pb2 := bel_cell_ (bel_undr_ hb1) HZL.out b2; have pb3 := bel_cell_ (bel_undr_ hb1) HZL.out b3; have pb4 := bel_cell_ (bel_undr_ hb1) HZL.out b4; have pb5 := bel_cell_ (bel_undr_ hb1) HZL.out b5))
  have hbb := HB0.out.trans (bel_undr_ (hb1.mono HB0.out.size))
  have HSF := Lib.hid ((HS0.out).below (bel_undr_ hb1))
  have HWF := Lib.hid ((HW0.out).below (bel_undr_ hb1))
  have HBB := Lib.hid hbb
  clear hbb hb1
  go_wp2
  refine bodyPost_ret (results_none rfl _ _ _) rfl ?_
  rw [HV.out, HLF.out]
  exact ⟨rfl, ⟨K1, HKK.out.1, HSF.out, HWF.out, Chg.of_below HBB.out⟩, Chg.of_below HBB.out⟩
 ·have heth := Lib.hid (eth_ok mt.1 mt.2.1 mt.2.2.1 mt.2.2.2.1 mt.2.2.2.2.1 mt.2.2.2.2.2 v.m.1 v.m.2.1 v.m.2.2.1 v.m.2.2.2.1 v.m.2.2.2.2.1 v.m.2.2.2.2.2 k HK.out A n c w.heap.size l HN.out h15 W.drew (Rw.drew HR0.out) HB0.out.size)
  have HV : Hid (frV v l = { v with c1 := incC v.c1 }) := Lib.hid (if_pos (by rw [HN.out]; exact h15))
  have HLF : Hid (frL v mt k L l = L ++ [etherB (macL mt) (macL v.m) k l]) := Lib.hid (if_pos (by rw [HN.out]; exact h15))
  have HX15 := Lib.hid h15
  clear h15
  go_enter Tryz.func95, Tryz.ntmps95
  go_wp2_with fail
  rw [HW.out]
  go_region_held3 (fun w' => w'.cell? ⟨wk, 0, none⟩ = some (bp d.h) ∧ w'.cell? ⟨d.h, 0, none⟩ = some (.int .u8 v.m.1) ∧ w'.cell? ⟨d.h, 1, none⟩ = some (.int .u8 v.m.2.1) ∧ w'.cell? ⟨d.h, 2, none⟩ = some (.int .u8 v.m.2.2.1) ∧ w'.cell? ⟨d.h, 3, none⟩ = some (.int .u8 v.m.2.2.2.1) ∧ w'.cell? ⟨d.h, 4, none⟩ = some (.int .u8 v.m.2.2.2.2.1) ∧ w'.cell? ⟨d.h, 5, none⟩ = some (.int .u8 v.m.2.2.2.2.2) ∧ w'.cell? ⟨w.heap.size, 0, none⟩ = some (.int .u8 mt.1) ∧ w'.cell? ⟨w.heap.size, 1, none⟩ = some (.int .u8 mt.2.1) ∧ w'.cell? ⟨w.heap.size, 2, none⟩ = some (.int .u8 mt.2.2.1) ∧ w'.cell? ⟨w.heap.size, 3, none⟩ = some (.int .u8 mt.2.2.2.1) ∧ w'.cell? ⟨w.heap.size, 4, none⟩ = some (.int .u8 mt.2.2.2.2.1) ∧ w'.cell? ⟨w.heap.size, 5, none⟩ = some (.int .u8 mt.2.2.2.2.2))
   (first | (with_reducible exact ⟨by assumption, by assumption, by assumption, by assumption, by assumption, by assumption, by assumption, by assumption, by assumption, by assumption, by assumption, by assumption, by assumption⟩) | go_keep)
   (first
   | (go_at_call 153; refine heth.out.mono ?_; rintro e1 w1 ⟨A1, n1, c1, rfl, ho1, hb1⟩; have p0 := bel_cell_ (bel_undr_ hb1) HWL.out q0; have pm0 := bel_cell_ (bel_undr_ hb1) HHL.out m0; have pm1 := bel_cell_ (bel_undr_ hb1) HHL.out m1; have pm2 := bel_cell_ (bel_undr_ hb1) HHL.out m2; have pm3 := bel_cell_ (bel_undr_ hb1) HHL.out m3; have pm4 := bel_cell_ (bel_undr_ hb1) HHL.out m4; have pm5 := bel_cell_ (bel_undr_ hb1) HHL.out m5; have pb0 := bel_cell_ (bel_undr_ hb1) HZL.out b0; have pb1 := bel_cell_ (bel_undr_ hb1) HZL.out b1; have pb2 := bel_cell_ (bel_undr_ hb1) HZL.out b2; have pb3 := bel_cell_ (bel_undr_ hb1) HZL.out b3; have pb4 := bel_cell_ (bel_undr_ hb1) HZL.out b4; have pb5 := bel_cell_ (bel_undr_ hb1) HZL.out b5))
  have hbb := HB0.out.trans (bel_undr_ (hb1.mono HB0.out.size))
  have HSF := Lib.hid ((HS0.out).below (bel_undr_ hb1))
  have HWF := Lib.hid ((HW0.out).below (bel_undr_ hb1))
  have HBB := Lib.hid hbb
  have HO1 := Lib.hid ho1
  clear hbb hb1 ho1
  obtain ⟨gA, gn, gc, us, j1, j2, j3, j4⟩ := HWF.out.ex
  have HJ := Lib.hid (And.intro j1 (And.intro j2 (And.intro j3 j4)))
  clear j1 j2 j3 j4 q0 m0 m1 m2 m3 m4 m5 b0 b1 b2 b3 b4 b5
  go_wp2_with fail
  refine (HSF.out.hx.hb.count 1 (by omega) v.c1 rfl (HSF.out.ct 1 _ (by omega) rfl).1 (HSF.out.ct 1 _ (by omega) rfl).2).mono ?_
  rintro e2 w2 ⟨rfl, hw2⟩
  have hhb2 : HB w2 d.h { v with c1 := incC v.c1 } := by rw [hw2]; exact HSF.out.hx.hb.set_c1 _
  have hch2 : Chg (fun b => b = d.h) w1 w2 := by rw [hw2]; exact (Chg.refl _ w1).set1 _
  have HS2 := Lib.hid (HSF.out.upd hhb2 hch2 rfl rfl rfl rfl rfl rfl rfl rfl rfl rfl rfl rfl HSF.out.ct.c1 HSF.out.id)
  have HW2 := Lib.hid (HWF.out.keep hch2 (fun b _ hk e => by rw [e, HSF.out.kh] at hk; omega) (fun _ _ => rfl))
  have HC2 := Lib.hid hch2
  have HO2 : Hid (OB 5 w2 W.heap.size A1 n1 c1 (etherB (macL mt) (macL v.m) k l)) := Lib.hid (by
   rw [hw2]
   exact Ow.setCell HO1.out (p := ⟨d.h, 24, none⟩) (Ne.symm (HSF.out.hx.hb.bk.ow_ne HO1.out (by decide))) _)
  have hkd : wk ≠ d.h := fun e => by have a := HWF.out.kw; rw [e, HSF.out.kh] at a; omega
  have hj1 : Bk w2 wk 173 (wkC d.h now draw (.slice gA gn gc) nilS) := HJ.out.1.chg hch2 hkd
  have hj2 : Of 37 w2 0 gA gn gc us := HJ.out.2.1.of_block (fun b hb => hch2.block b (HJ.out.2.1.lt b hb).2 (fun e => by have a := HJ.out.2.2.2 b hb; rw [e, HSF.out.kh] at a; omega))
  have hv3 := hj2.alloc (.cells #[.slice A1 n1 c1] 37)
  have hkA := hj1.alloc (.cells #[.slice A1 n1 c1] 37)
  have hrA : Rw (w2.alloc (.cells #[.slice A1 n1 c1] 37)) (w2.heap.size + 1) (some ⟨w2.heap.size, 0, none⟩) [.slice A1 n1 c1] := rw_lit w2 37 [.slice A1 n1 c1]
  have hone : ∀ u ∈ [Value.slice A1 n1 c1], u.oneCell' = true := by intro u hu; simp at hu; subst hu; rfl
  have hgn : L.length = gn := by rw [← HJ.out.2.2.1.length]; exact hj2.length
  have h63 : gn + 1 ≤ maxLen := by have := HLL.out; unfold maxLen; omega
  have h47 : (gn + 1) * 24 ≤ 140737488355328 := by have := HLL.out; omega
  have hneK : some wk ≠ blk gA := Bk.of_ne (t := 173) hkA hv3 (by decide)
  have y3 : w2.cell? ⟨wk, 3, none⟩ = some (.slice gA gn gc) := hj1.cell 3
  have y0 : w2.cell? ⟨wk, 0, none⟩ = some (bp d.h) := hj1.cell 0
  have z3 : (w2.alloc (.cells #[.slice A1 n1 c1] 37)).cell? ⟨wk, 3, none⟩ = some (.slice gA gn gc) := hkA.cell 3
  have HKA := Lib.hid hkA
  have HNK := Lib.hid hneK
  have HGN := Lib.hid hgn
  have HV3 := Lib.hid hj2
  have HJ1 := Lib.hid hj1
  clear hw2 hhb2 hch2 hj1 hj2 hkd hgn hkA hneK p0 pm0 pm1 pm2 pm3 pm4 pm5 pb0 pb1 pb2 pb3 pb4 pb5
  go_wp2_with (at_builtin; refine wpList_append_of rfl (.tmp 36) (.tmp 38) 46 rfl 0 37 (.slice none 0 0) 24 Tryz.underlying46 info_row_ rfl rfl hv3 rfl hrA rfl (Nat.succ_pos 0) hone h63 h47 (Nat.zero_le _) ?_; intro g2 o2 c2 w4 hO4 hG4 hA4; have hk4 := HKA.out.grown hG4 HNK.out; have u3 : w4.cell? ⟨wk, 3, none⟩ = some (.slice gA gn gc) := hk4.cell 3; have f3 := hk4.frozen 3)
  go_end0
  rw [HV.out, HLF.out]
  have hz1 : w.heap.size ≤ w1.heap.size := HBB.out.size
  have hkdh : K1 d.h = t := HSF.out.kh
  have hKw : K1 wk = t + 6 := HWF.out.kw
  have hc24 : Chg (fun b => blk gA = some b ∨ b = wk) w2 (w4.setCell ⟨wk, 3, none⟩ (.slice (some ⟨g2, o2, none⟩) (gn + 1) c2)) :=
   (((Chg.refl _ w2).alloc _).trans (Chg.of_grown (F := fun b => blk gA = some b ∨ b = wk) hG4 (fun b e => .inl e)) (fun x e => .inl e)).setCell (p := ⟨wk, 3, none⟩) (.inl (.inr rfl)) _
  have hc14 : Chg (fun b => b = d.h ∨ blk gA = some b ∨ b = wk) w1 (w4.setCell ⟨wk, 3, none⟩ (.slice (some ⟨g2, o2, none⟩) (gn + 1) c2)) :=
   (HC2.out.mono (fun x _ e => .inl e)).trans hc24 (fun x e => .inl (.inr e))
  have hgA : ∀ b, blk gA = some b → K1 b = t + 5 := HJ.out.2.2.2
  have hfr : Chg (fun b => frK t (K b)) w (w4.setCell ⟨wk, 3, none⟩ (.slice (some ⟨g2, o2, none⟩) (gn + 1) c2)) := by
   refine (Chg.of_below HBB.out).trans hc14 (fun b e => ?_)
   rcases Nat.lt_or_ge b w.heap.size with hl | hl
   ·left
    show frK t (K b)
    rw [← HKK.out.1 b hl]
    rcases e with e | e | e
    ·rw [e, hkdh]; exact .inl rfl
    ·rw [hgA b e]; exact .inr (.inl rfl)
    ·rw [e, hKw]; exact .inr (.inr rfl)
   ·exact .inr hl
  refine ⟨rfl, ⟨K1, HKK.out.1, HS2.out.keep hc24 (fun b _ hk e => ?_) (fun _ _ => rfl), ⟨⟨some ⟨g2, o2, none⟩, gn + 1, c2, us ++ [.slice A1 n1 c1], ?_, ?_, ?_, ?_⟩, hKw⟩, hfr.mono (fun b _ e => by rcases e with e | e | e; exact ⟨by omega, by omega⟩; exact ⟨by omega, by omega⟩; exact ⟨by omega, by omega⟩)⟩, hfr⟩
  ·rcases e with e | e
   ·have := hgA b e; obtain ⟨q1, q2⟩ := hk; omega
   ·rw [e, hKw] at hk; obtain ⟨q1, q2⟩ := hk; omega
  ·exact hk4.set 3 _
  ·exact hO4.of_block (fun b hb => by
    have hne : b ≠ wk := fun e => by
     rcases hA4 with e4 | e4
     ·have h1 : blk gA = some g2 := e4.symm
      have h2 : some g2 = some b := hb
      rw [h2] at h1
      have := hgA b h1
      rw [e, hKw] at this; omega
     ·have h2 : some g2 = some b := hb
      injection h2 with h2
      have h3 := HJ1.out.lt
      rw [e4] at h2
      have : (w2.alloc (.cells #[.slice A1 n1 c1] 37)).heap.size = w2.heap.size + 1 := by simp
      omega
    exact Below.heap_setCell w4 ⟨wk, 3, none⟩ _ b hne)
  ·refine RowsAt.snoc ?_ ?_
   ·refine (HJ.out.2.2.1.cap.offOf HJ.out.2.1).keep (fun b hb hl => hc14.block b hl (fun e => ?_)) (fun b hb => hb.1.1)
    rcases e with e | e | e
    ·have := hb.1.1; rw [e, hkdh] at this; omega
    ·exact hb.2 e
    ·have := hb.1.1; rw [e, hKw] at this; omega
   ·have hrow : RowAt w2 (fun b => K1 b = t + 5) (.slice A1 n1 c1) (etherB (macL mt) (macL v.m) k l) := by
     refine ⟨A1, n1, c1, rfl, Ow.mono HO2.out (Nat.zero_le _), fun b e => ?_, etherB_bs ?_ ?_ HBS.out, ?_⟩
     ·exact HKK.out.2 b (Nat.le_trans HB0.out.size (Ow.lt HO2.out b e).1)
     ·exact HBM.out
     ·exact HSF.out.mb
     ·have := HO2.out.length
      have h2 := HX15.out
      have h3 := HN.out
      rw [← this]
      simp [etherB, macL, be_length]
      omega
    have hrows : RowsAt w2 (fun b => K1 b = t + 5) [.slice A1 n1 c1] [etherB (macL mt) (macL v.m) k l] := ⟨hrow, trivial⟩
    refine ((hrows.cap.offOf HV3.out).keep (fun b hb hl => hc24.block b hl (fun e => ?_)) (fun b hb => hb.1.1)).1
    rcases e with e | e
    ·exact hb.2 e
    ·have := hb.1.1; rw [e, hKw] at this; omega
  ·intro b hb
   have h2 : some g2 = some b := hb
   injection h2 with h2
   rcases hA4 with e4 | e4
   ·exact hgA b (by rw [← h2]; exact e4.symm)
   ·refine HKK.out.2 b ?_
    rw [← h2, e4]
    have := HC2.out.size
    simp
    omega
theorem wframe_any (t : Nat) (K : Nat → Nat) (w : World) (d : HD) (v : HV) (S : List En) (Lr : List Rec) (P : Option (Int × List Dg)) (wk : Nat) (now draw : Int) (L : List (List Int)) (mt : Mac) (k : Int) (hk : 1536 ≤ k ∧ k ≤ 65535) (A : Option Addr) (n c : Nat) (l : List Int) (hn : l.length = n) (hL : L.length ≤ 1000000) (hr : RB w w.heap.size A l)
  (hs : HostS t K w d v S Lr P) (hw : WkS t K w wk d now draw L) (hbl : Bs l) (hbm : Bs (macL mt)) :
  Calls Tryz.prog 95 #[.pointer (some ⟨wk, 0, none⟩), .agg (macC mt), .int .i64 k, .slice A n c] w fun e w' => e = .returned (.tuple #[]) ∧ PostW t K w wk d now draw (frV v l) S Lr P (frL v mt k L l) w' :=
 (wframe_chg t K w d v S Lr P wk now draw L mt k hk A n c l hn hL hr hs hw hbl hbm).mono fun e w' h => ⟨h.1, h.2.1⟩
open Go.RowKit
def cnt (n : Nat) (v : HV) : HV := match n with
 | 0 => { v with c0 := incC v.c0 } | 1 => { v with c1 := incC v.c1 } | 2 => { v with c2 := incC v.c2 } | 3 => { v with c3 := incC v.c3 } | 4 => { v with c4 := incC v.c4 } | 5 => { v with c5 := incC v.c5 }
 | 6 => { v with c6 := incC v.c6 } | 7 => { v with c7 := incC v.c7 } | 8 => { v with c8 := incC v.c8 } | 9 => { v with c9 := incC v.c9 } | 10 => { v with c10 := incC v.c10 } | 11 => { v with c11 := incC v.c11 }
 | 12 => { v with c12 := incC v.c12 } | 13 => { v with c13 := incC v.c13 } | 14 => { v with c14 := incC v.c14 } | 15 => { v with c15 := incC v.c15 } | _ => { v with c16 := incC v.c16 }
def ctr (n : Nat) (v : HV) : Int := match n with
 | 0 => v.c0 | 1 => v.c1 | 2 => v.c2 | 3 => v.c3 | 4 => v.c4 | 5 => v.c5 | 6 => v.c6 | 7 => v.c7 | 8 => v.c8 | 9 => v.c9 | 10 => v.c10 | 11 => v.c11 | 12 => v.c12 | 13 => v.c13 | 14 => v.c14 | 15 => v.c15 | _ => v.c16
theorem ctr_at (n : Nat) (hn : n < 17) (v : HV) : (hostC v)[23 + n]? = some (.int .i64 (ctr n v)) := by
 rcases n with _ | _ | _ | _ | _ | _ | _ | _ | _ | _ | _ | _ | _ | _ | _ | _ | _ | n
 all_goals first | rfl | omega
theorem cnt_hostC (n : Nat) (hn : n < 17) (v : HV) : hostC (cnt n v) = (hostC v).setIfInBounds (23 + n) (.int .i64 (incC (ctr n v))) := by
 rcases n with _ | _ | _ | _ | _ | _ | _ | _ | _ | _ | _ | _ | _ | _ | _ | _ | _ | n
 all_goals first | rfl | omega
theorem cnt_same (n : Nat) (v : HV) : (cnt n v).k0 = v.k0 ∧ (cnt n v).bkt = v.bkt ∧ (cnt n v).plc = v.plc ∧ (cnt n v).arr = v.arr ∧ (cnt n v).grp = v.grp ∧ (cnt n v).near = v.near ∧ (cnt n v).by_ = v.by_ ∧ (cnt n v).age = v.age ∧ (cnt n v).prt = v.prt ∧ (cnt n v).addr = v.addr ∧ (cnt n v).bits = v.bits ∧ (cnt n v).m = v.m ∧ (cnt n v).id = v.id := by
 rcases n with _ | _ | _ | _ | _ | _ | _ | _ | _ | _ | _ | _ | _ | _ | _ | _ | _ | n
 all_goals exact ⟨rfl, rfl, rfl, rfl, rfl, rfl, rfl, rfl, rfl, rfl, rfl, rfl, rfl⟩
theorem CtOk.cnt {v : HV} (h : CtOk v) (n : Nat) (hn : n < 17) : CtOk (cnt n v) := fun k x hk hx => by
 rw [cnt_hostC n hn] at hx
 by_cases e : n = k
 ·subst e
  rw [Array.getElem?_setIfInBounds_self_of_lt (by show _ < 47; omega)] at hx
  injection hx with hx
  injection hx with _ hx
  rw [← hx]
  exact incC_bd (h n _ hn (ctr_at n hn v)).1
 ·rw [Array.getElem?_setIfInBounds_ne (by omega)] at hx
  exact h k x hk hx
def CntPost (t : Nat) (K : Nat → Nat) (w : World) (d : HD) (n : Nat) (v : HV) (S : List En) (Lr : List Rec) (P : Option (Int × List Dg)) (e : Ending) (w' : World) : Prop :=
 e = .returned (.tuple #[]) ∧ HostS t K w' d (cnt n v) S Lr P ∧ Chg (fun b => b = d.h) w w' ∧ w'.heap.size = w.heap.size
theorem hcount_any (t : Nat) (K : Nat → Nat) (w : World) (d : HD) (v : HV) (S : List En) (Lr : List Rec) (P : Option (Int × List Dg)) (n : Nat) (k : Int) (hk : k = n) (hn : n < 17) (hs : HostS t K w d v S Lr P) :
  Calls Tryz.prog 44 #[.pointer (some ⟨d.h, 0, none⟩), .int .i64 k] w (CntPost t K w d n v S Lr P) := by
 subst hk
 refine (hs.hx.hb.count n hn _ (ctr_at n hn v) (hs.ct n _ hn (ctr_at n hn v)).1 (hs.ct n _ hn (ctr_at n hn v)).2).mono ?_
 rintro e w' ⟨rfl, hw⟩
 subst hw
 have hc : Chg (fun b => b = d.h) w (w.setCell ⟨d.h, 23 + n, none⟩ (.int .i64 (incC (ctr n v)))) := (Chg.refl _ w).set1 _
 have hb : HB (w.setCell ⟨d.h, 23 + n, none⟩ (.int .i64 (incC (ctr n v)))) d.h (cnt n v) := by
  show Bk _ _ _ _
  rw [cnt_hostC n hn]
  exact Bk.set hs.hx.hb.bk (23 + n) _
 obtain ⟨e1, e2, e3, e4, e5, e6, e7, e8, e9, e10, e11, e12, e13⟩ := cnt_same n v
 exact ⟨rfl, hs.upd hb hc e1 e2 e3 e4 e5 e6 e7 e8 e9 e10 e11 e12 (hs.ct.cnt n hn) (by rw [e13]; exact hs.id), hc, size_setCell w _ _⟩
theorem CntPost.work {t : Nat} {K : Nat → Nat} {w w' : World} {d : HD} {n : Nat} {v : HV} {S : List En} {Lr : List Rec} {P : Option (Int × List Dg)} {e : Ending} (h : CntPost t K w d n v S Lr P e w') (hs : HostS t K w d v S Lr P) {wk : Nat} {now draw : Int} {L : List (List Int)} (hw : WkS t K w wk d now draw L) : WkS t K w' wk d now draw L :=
 hw.keep h.2.2.1 (fun b _ hk e => by rw [e, hs.kh] at hk; omega) (fun _ _ => rfl)
theorem CntPost.chg {t : Nat} {K : Nat → Nat} {w w' : World} {d : HD} {n : Nat} {v : HV} {S : List En} {Lr : List Rec} {P : Option (Int × List Dg)} {e : Ending} (h : CntPost t K w d n v S Lr P e w') (hs : HostS t K w d v S Lr P) : Chg (fun b => callK t (K b)) w w' :=
 h.2.2.1.mono (fun b _ e => by rw [e, hs.kh]; exact ⟨by omega, by omega⟩)
theorem everybody_any (w : World) : Calls Tryz.prog 96 #[] w fun e w' => e = .returned (.agg (macC (255, 255, 255, 255, 255, 255))) ∧ Below w.heap.size w w' := by
 go_enter Tryz.func96, Tryz.ntmps96
 go_wp2
 first
  | (go_ret; exact ⟨rfl, Below.refl _ _⟩)
  | (exact bodyPost_ret (v := .agg (macC (255, 255, 255, 255, 255, 255))) (by simp [results, Tryz.results96, go_sem]; rfl) rfl ⟨rfl, (Below.refl _ _).alloc (Nat.le_refl _) _⟩)
open Go.RowKit
def bcast : Mac := (255, 255, 255, 255, 255, 255)
def askW (v : HV) (a : Int) : List Int := arpB 1 (macL v.m) v.addr [0, 0, 0, 0, 0, 0] a
theorem askW_len (v : HV) (a : Int) : (askW v a).length = 28 := by simp [askW, arpB, macL, be_length]
theorem arpB_bs {op fr to_ : Int} {m t : List Int} (hm : Bs m) (ht : Bs t) : Bs (arpB op m fr t to_) := by
 refine ((((Bs.append (Bs.append ?_ (be_bs _ _)) hm).append (be_bs _ _)).append ht).append (be_bs _ _))
 intro x hx; simp at hx; omega
def askU (v : HV) : HV := cnt 1 (cnt 4 v)
def askF (v : HV) (a : Int) (L : List (List Int)) : List (List Int) := L ++ [etherB (macL bcast) (macL v.m) 2054 (askW v a)]
theorem bs_bcast : Bs (macL bcast) := by intro x hx; simp [macL, bcast] at hx; omega
set_option maxHeartbeats 4000000 in
set_option maxRecDepth 100000 in
theorem wasks_any (t : Nat) (K : Nat → Nat) (w : World) (d : HD) (v : HV) (S : List En) (Lr : List Rec) (P : Option (Int × List Dg)) (wk : Nat) (now draw : Int) (L : List (List Int)) (a : Int) (ha : okA a) (hL : L.length ≤ 1000000)
  (hs : HostS t K w d v S Lr P) (hw : WkS t K w wk d now draw L) :
  Calls Tryz.prog 43 #[.pointer (some ⟨wk, 0, none⟩), .int .u32 a] w fun e w' => e = .returned (.tuple #[]) ∧ PostW t K w wk d now draw (askU v) S Lr P (askF v a L) w' := by
 obtain ⟨fA, fn, fc, vs, k1, k2, k3, k4⟩ := hw.ex
 have q0 : w.cell? ⟨wk, 0, none⟩ = some (bp d.h) := k1.cell 0
 have HWL : Hid (wk < w.heap.size) := Lib.hid k1.lt
 have HS := Lib.hid hs
 have HW := Lib.hid hw
 have HA := Lib.hid ha
 have HL := Lib.hid hL
 clear hs hw ha hL k1 k2 k3 k4
 go_enter Tryz.func43, Tryz.ntmps43
 go_wp2_with fail
 refine (hcount_any t K w d v S Lr P 4 4 rfl (by omega) HS.out).mono ?_
 rintro e1 w1 hp1
 obtain rfl := hp1.1
 have HP1 := Lib.hid hp1
 have HW1 := Lib.hid (hp1.work HS.out HW.out)
 have HC1 := Lib.hid (hp1.chg HS.out)
 have HS1 := Lib.hid hp1.2.1
 obtain ⟨gA, gn, gc, us, j1, j2, j3, j4⟩ := HW1.out.ex
 have r0 : w1.cell? ⟨wk, 0, none⟩ = some (bp d.h) := j1.cell 0
 have s0 : w1.drew.cell? ⟨wk, 0, none⟩ = some (bp d.h) := j1.cell 0
 have m0 : w1.drew.cell? ⟨d.h, 0, none⟩ = some (.int .u8 v.m.1) := HS1.out.hx.hb.m0
 have m1 : w1.drew.cell? ⟨d.h, 1, none⟩ = some (.int .u8 v.m.2.1) := HS1.out.hx.hb.m1
 have m2 : w1.drew.cell? ⟨d.h, 2, none⟩ = some (.int .u8 v.m.2.2.1) := HS1.out.hx.hb.m2
 have m3 : w1.drew.cell? ⟨d.h, 3, none⟩ = some (.int .u8 v.m.2.2.2.1) := HS1.out.hx.hb.m3
 have m4 : w1.drew.cell? ⟨d.h, 4, none⟩ = some (.int .u8 v.m.2.2.2.2.1) := HS1.out.hx.hb.m4
 have m5 : w1.drew.cell? ⟨d.h, 5, none⟩ = some (.int .u8 v.m.2.2.2.2.2) := HS1.out.hx.hb.m5
 have m6 : w1.drew.cell? ⟨d.h, 6, none⟩ = some (.int .u32 v.addr) := HS1.out.hx.hb.addr
 have HWL1 : Hid (wk < w1.drew.heap.size) := Lib.hid j1.lt
 have HHL1 : Hid (d.h < w1.drew.heap.size) := Lib.hid HS1.out.lt
 have henc := Lib.hid (arpencode_ok 1 v.m.1 v.m.2.1 v.m.2.2.1 v.m.2.2.2.1 v.m.2.2.2.2.1 v.m.2.2.2.2.2 v.addr 0 0 0 0 0 0 a (.inl rfl) HS1.out.ad.2.2 HA.out w1.drew)
 clear hp1 j1 j2 j3 j4 q0
 go_wp2_with fail
 go_region_held3 (fun w' => w'.cell? ⟨wk, 0, none⟩ = some (bp d.h) ∧ w'.cell? ⟨d.h, 0, none⟩ = some (.int .u8 v.m.1) ∧ w'.cell? ⟨d.h, 1, none⟩ = some (.int .u8 v.m.2.1) ∧ w'.cell? ⟨d.h, 2, none⟩ = some (.int .u8 v.m.2.2.1) ∧ w'.cell? ⟨d.h, 3, none⟩ = some (.int .u8 v.m.2.2.2.1) ∧ w'.cell? ⟨d.h, 4, none⟩ = some (.int .u8 v.m.2.2.2.2.1) ∧ w'.cell? ⟨d.h, 5, none⟩ = some (.int .u8 v.m.2.2.2.2.2) ∧ w'.cell? ⟨d.h, 6, none⟩ = some (.int .u32 v.addr))
  (first | (with_reducible exact ⟨by assumption, by assumption, by assumption, by assumption, by assumption, by assumption, by assumption, by assumption⟩) | go_keep)
  (first
   | (go_at_call 94; refine henc.out.mono ?_; rintro e2 w2 ⟨A2, n2, c2, rfl, ho2, hb2⟩; have p0 := bel_cell_ hb2 HWL1.out s0; have pm0 := bel_cell_ hb2 HHL1.out m0; have pm1 := bel_cell_ hb2 HHL1.out m1; have pm2 := bel_cell_ hb2 HHL1.out m2; have pm3 := bel_cell_ hb2 HHL1.out m3; have pm4 := bel_cell_ hb2 HHL1.out m4; have pm5 := bel_cell_ hb2 HHL1.out m5; have pm6 := bel_cell_ hb2 HHL1.out m6))
 have hbb := bel_undr_ hb2
 have HS2 := Lib.hid (HS1.out.below hbb)
 have HW2 := Lib.hid (HW1.out.below hbb)
 have HB2 := Lib.hid hbb
 have hn2 : (askW v a).length = n2 := (by8_length _).symm.trans (Ow.length ho2)
 have HN2 := Lib.hid hn2
 have HO2 : Hid (OB 5 w2 w1.heap.size A2 n2 c2 (askW v a)) := Lib.hid ho2
 clear hbb hb2 ho2 hn2 p0 pm0 pm1 pm2 pm3 pm4 pm5 pm6 s0 m0 m1 m2 m3 m4 m5 m6
 go_wp2_with fail
 refine (everybody_any w2).mono ?_
 rintro e3 w3 ⟨rfl, hb3⟩
 have HS3 := Lib.hid (HS2.out.below hb3)
 have HW3 := Lib.hid (HW2.out.below hb3)
 have HO3 := Lib.hid (Ow.stays HO2.out hb3)
 have HB3 := Lib.hid hb3
 clear hb3
 go_wp2_with fail
 refine (wframe_any t K w3 d (cnt 4 v) S Lr P wk now draw L bcast 2054 (by omega) A2 n2 c2 (askW v a) HN2.out HL.out (Ow.rw HO3.out) HS3.out HW3.out (arpB_bs HS1.out.mb (by intro x hx; simp at hx; omega)) bs_bcast).mono ?_
 rintro e4 w4 ⟨rfl, hp4⟩
 have HP4 : Hid (PostW t K w wk d now draw (askU v) S Lr P (askF v a L) w4) := Lib.hid (by
  have h1 : frV (cnt 4 v) (askW v a) = askU v := if_pos (by rw [askW_len]; omega)
  have h2 : frL (cnt 4 v) bcast 2054 L (askW v a) = askF v a L := if_pos (by rw [askW_len]; omega)
  rw [h1, h2] at hp4
  refine PostW.trans (fun _ _ => rfl) ?_ hp4
  exact (HC1.out.trans (Chg.of_below (F := fun _ => False) HB2.out) (fun _ e => e.elim)).trans (Chg.of_below (F := fun _ => False) HB3.out) (fun _ e => e.elim))
 clear hp4
 go_wp2
 go_end0
 exact ⟨rfl, HP4.out⟩
end Go.Proofs.YtaeafkdfbcppgaaGreat
