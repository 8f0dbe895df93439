/- Proved: what a socket of UDP answers when it sends. Conditions: as each law says. -/
import Derived.Test.YtaeafkdfbcppgaaGreatT35
set_option linter.unusedSectionVars false
set_option linter.unusedSimpArgs false
set_option linter.unusedVariables false
namespace Go.Proofs.YtaeafkdfbcppgaaGreat
open Go.RowKit
set_option maxHeartbeats 8000000 in
set_option maxRecDepth 100000 in
theorem try_send (t : Nat) (ht : t ≤ 20) (K : Nat → Nat) (w : World) (st sm : Nat) (d : HD) (v : HV) (S : List En) (s wk g9 g5 g6 g7 g8 : Nat) (now draw to_ tp : Int) (tried : Value) (A : Option Addr) (n c : Nat) (l F : List Int)
  (hd : 0 ≤ draw ∧ draw ≤ 2147483647) (hto : okA to_) (hgr : to_ < 3758096384) (hmi : isMine to_ v.addr = false) (htp : 0 ≤ tp ∧ tp ≤ 65535) (hnow : -9223372036854775808 ≤ now ∧ now ≤ 9223372036854775807) (hA : RB w w.heap.size A l) (hn : l.length = n) (hn2 : n ≤ 60000) (hbs : Bs l) (hS1 : n ≤ 1400 ∧ S = [] ∧ isBc to_ v.addr = false ∧ inNet to_) (hAK : ∀ b, blk A = some b → K b = 40)
  (hsr : ∀ x k v' S' L', SendsR { v with prt := x } S (sdP v.addr to_) (sdB v.addr (49152 + draw % 16384) to_ tp l) now [] k v' S' L' → k = 0 ∧ L' = [F])
  (hs : SdS t K w st sm d v S none (some (s, false, 0))) (hw : Bk w wk 374 (swC st now draw nilS nilS tried)) (hkw : K wk = 40)
  (h9 : Bk w g9 4 #[.bool true]) (h5 : Bk w g5 439 #[bp s]) (h6 : Bk w g6 28 #[.int .u32 to_]) (h7 : Bk w g7 3 #[.int .i64 tp]) (h8 : Bk w g8 37 #[.slice A n c]) (hkg : K g9 = 40 ∧ K g5 = 40 ∧ K g6 = 40 ∧ K g7 = 40 ∧ K g8 = 40) :
  Calls Tryz.prog 315 #[bp wk, bp g9, bp g5, bp g6, bp g7, bp g8] w (AttR t K w wk st now draw tried [F] n 0 0 (fun _ K' w' => ∃ x k v' S', SendsR { v with prt := x } S (sdP v.addr to_) (sdB v.addr (49152 + draw % 16384) to_ tp l) now [] k v' S' [F] ∧ SdS t K' w' st sm d v' S' (some (49152 + draw % 16384, [])) (some (s, true, 49152 + draw % 16384)))) := by
 have HS1 := Lib.hid hS1
 clear hS1
 have hport : 0 ≤ 49152 + draw % 16384 ∧ 49152 + draw % 16384 ≤ 65535 := by omega
 obtain ⟨W0, hW0⟩ : ∃ W0, w.alloc (.cells (retC 0 0 0 0 nilS) 65) = W0 := ⟨_, rfl⟩
 have hb0 : Below w.heap.size w W0 := by rw [← hW0]; exact (Below.refl _ _).alloc (Nat.le_refl _) _
 have hr0 : Bk W0 w.heap.size 65 (retC 0 0 0 0 nilS) := by rw [← hW0]; exact Bk.new _ _ _
 have hz0 : W0.heap.size = w.heap.size + 1 := by rw [← hW0, World.size_alloc]
 obtain ⟨K0, k1, k2⟩ : ∃ K0 : Nat → Nat, (∀ b, b < w.heap.size → K0 b = K b) ∧ ∀ b, w.heap.size ≤ b → K0 b = 40 := ⟨fun b => if b < w.heap.size then K b else 40, fun b hb => if_pos hb, fun b hb => if_neg (by omega)⟩
 have hs0 : SdS t K0 W0 st sm d v S none (some (s, false, 0)) := hs.keep (Chg.of_below (F := fun _ => False) hb0) (fun _ _ _ e => e) (fun b hb _ => k1 b hb)
 have hw0 := hw.below hb0 hw.lt
 have hpk := dpicks_first t K0 W0 st sm d v S s wk now draw hd nilS nilS tried hs0 hw0
 obtain ⟨port, hprt⟩ : ∃ port, 49152 + draw % 16384 = port := ⟨_, rfl⟩
 rw [hprt] at hpk hport hsr ⊢
 have HPK := Lib.hid hpk
 have e9 : W0.cell? ⟨g9, 0, none⟩ = some (.bool true) := (h9.below hb0 h9.lt).cell 0
 have e5 : W0.cell? ⟨g5, 0, none⟩ = some (bp s) := (h5.below hb0 h5.lt).cell 0
 have n40 : ¬ sideK t 40 := by
  rintro (h | h)
  ·exact absurd h.2 (by omega)
  ·omega
 have HX := Lib.hid (And.intro hs (And.intro hw (And.intro hkw (And.intro hb0 (And.intro hr0 (And.intro hz0 (And.intro k1 (And.intro k2 n40))))))))
 have HG := Lib.hid (And.intro h9 (And.intro h5 (And.intro h6 (And.intro h7 (And.intro h8 hkg)))))
 have HA := Lib.hid (And.intro hA (And.intro hn (And.intro hn2 (And.intro hbs hAK))))
 have HY := Lib.hid (And.intro hto (And.intro hgr (And.intro hmi (And.intro htp (And.intro hnow (And.intro hport (And.intro hsr ht)))))))
 have HW0 : Hid (w.alloc (.cells #[.int .i64 0, .int .i64 0, .int .i64 0, .int .u32 0, .int .i64 0, .slice none 0 0] 65) = W0) := Lib.hid hW0
 clear hs hw hkw hb0 hr0 hz0 hs0 hw0 hW0 h9 h5 h6 h7 h8 hkg k1 k2 hA hn hn2 hbs hAK hto hgr hmi htp hnow hport hsr ht hpk hprt hd n40
 go_enter Tryz.func315, Tryz.ntmps315
 go_upto_region 1 with (fail)
 rw [HW0.out]
 go_wp2_with fail
 refine HPK.out.mono ?_
 rintro e1 w1 ⟨rfl, K1, x, hs1, q2, q3, q4⟩
 have HQ1 := Lib.hid (And.intro hs1 (And.intro q2 (And.intro q3 q4)))
 have hk40 : ∀ b, b < w.heap.size → K b = 40 → K0 b = 40 := fun b hb h => (HX.out.2.2.2.2.2.2.1 b hb).trans h
 have keep1 : ∀ {g : Nat} {T : TypeId} {cs : Array Value}, Bk w g T cs → K g = 40 → Bk w1 g T cs := fun h hk => (h.below HX.out.2.2.2.1 h.lt).chg q4 (by rw [hk40 _ h.lt hk]; exact HX.out.2.2.2.2.2.2.2.2)
 have hw1 := keep1 HX.out.2.1 HX.out.2.2.1
 have b5 := keep1 HG.out.2.1 HG.out.2.2.2.2.2.2.1
 have b6 := keep1 HG.out.2.2.1 HG.out.2.2.2.2.2.2.2.1
 have b7 := keep1 HG.out.2.2.2.1 HG.out.2.2.2.2.2.2.2.2.1
 have b8 := keep1 HG.out.2.2.2.2.1 HG.out.2.2.2.2.2.2.2.2.2
 have hr1 : Bk w1 w.heap.size 65 (retC 0 0 0 0 nilS) := HX.out.2.2.2.2.1.chg q4 (by rw [HX.out.2.2.2.2.2.2.2.1 _ (Nat.le_refl _)]; exact HX.out.2.2.2.2.2.2.2.2)
 have kg1 : ∀ b, b < W0.heap.size → K0 b = 40 → K1 b = 40 := fun b hb h => (q2 b hb).trans h
 have HB1 := Lib.hid (And.intro hw1 (And.intro b5 (And.intro b6 (And.intro b7 (And.intro b8 hr1)))))
 have HWR := Lib.hid (dwrong_0 t K1 w1 st sm d { v with prt := x } S s wk now draw port nilS nilS tried true port hs1 hw1)
 have e5' : w1.cell? ⟨g5, 0, none⟩ = some (bp s) := b5.cell 0
 clear hs1 q2 q3 q4 keep1 hw1 b5 b6 b7 b8 hr1 kg1 hk40 e9 e5
 go_wp2_with fail
 refine HWR.out.mono ?_
 rintro e2 w2' ⟨rfl, nn, rfl⟩
 obtain ⟨w2, hw2⟩ : ∃ w2, w1.drewN nn = w2 := ⟨_, rfl⟩
 have hd12 : Below w1.heap.size w1 w2 := by rw [← hw2]; exact bel_drewN (Below.refl _ _) nn
 have hz12 : w2.heap.size = w1.heap.size := by rw [← hw2]; rfl
 rw [hw2]
 have hsB := HQ1.out.1.below hd12
 have hwB := HB1.out.1.below hd12 HB1.out.1.lt
 have HSB := Lib.hid hsB
 have hlw : w.heap.size ≤ w1.heap.size := by have h1 := HX.out.2.2.2.1.size; have h2 := HQ1.out.2.2.2.size; omega
 have hrow : RB w2.drew w2.drew.heap.size A l := by
  have r1 : RB W0 W0.heap.size A l := (Rw.below HA.out.1 HX.out.2.2.2.1).more HX.out.2.2.2.1.size
  have r2 : RB w1 W0.heap.size A l := RB.chg2 r1 (Nat.le_refl _) HQ1.out.2.2.2 (fun b hb => by
   rcases Nat.lt_or_ge b w.heap.size with h | h
   ·rw [HX.out.2.2.2.2.2.2.1 b h, HA.out.2.2.2.2 b hb]; exact HX.out.2.2.2.2.2.2.2.2
   ·rw [HX.out.2.2.2.2.2.2.2.1 b h]; exact HX.out.2.2.2.2.2.2.2.2)
  exact (Rw.below (r2.more HQ1.out.2.2.2.size) hd12).more (Nat.le_of_eq hz12.symm)
 have HSE := Lib.hid (hsend_any t HY.out.2.2.2.2.2.2.2 K1 w2.drew d { v with prt := x } S (some (port, [])) port to_ tp now HY.out.1 HY.out.2.1 HY.out.2.2.1 HY.out.2.2.2.2.2.1 HY.out.2.2.2.1 HY.out.2.2.2.2.1 A n c l hrow HA.out.2.1 HA.out.2.2.1 HA.out.2.2.2.1 HS1.out (hsB.hs.drewN 1))
 unfold dgC at HSE
 have y0 : w2.drew.cell? ⟨wk, 0, none⟩ = some (bp st) := hwB.cell 0
 have y1 : w2.drew.cell? ⟨wk, 1, none⟩ = some (.int .i64 now) := hwB.cell 1
 have s0 : w2.drew.cell? ⟨st, 0, none⟩ = some (bp d.h) := hsB.stk.cell 0
 have p4 : w2.drew.cell? ⟨s, 4, none⟩ = some (.int .i64 port) := hsB.sk.2.1.cell 4
 have f5 : w2.drew.cell? ⟨g5, 0, none⟩ = some (bp s) := (HB1.out.2.1.below hd12 HB1.out.2.1.lt).cell 0
 have f6 : w2.drew.cell? ⟨g6, 0, none⟩ = some (.int .u32 to_) := (HB1.out.2.2.1.below hd12 HB1.out.2.2.1.lt).cell 0
 have f7 : w2.drew.cell? ⟨g7, 0, none⟩ = some (.int .i64 tp) := (HB1.out.2.2.2.1.below hd12 HB1.out.2.2.2.1.lt).cell 0
 have f8 : w2.drew.cell? ⟨g8, 0, none⟩ = some (.slice A n c) := (HB1.out.2.2.2.2.1.below hd12 HB1.out.2.2.2.2.1.lt).cell 0
 have nh_ : ∀ b, b < w.heap.size → K b = 40 → ¬ hostK t (K1 b) := fun b hb h e => HX.out.2.2.2.2.2.2.2.2 (by rw [← h, ← HX.out.2.2.2.2.2.2.1 b hb, ← HQ1.out.2.1 b (by have := HX.out.2.2.2.2.2.1; omega)]; exact .inl e)
 have nh8 : ∀ b, K1 b = t + 8 → ¬ hostK t (K1 b) := fun b h e => by rw [h] at e; exact absurd e.2 (by omega)
 have HFK0 : Hid (∀ w3, Chg (fun b => hostK t (K1 b)) w2.drew w3 → w3.cell? ⟨wk, 0, none⟩ = some (bp st)) := Lib.hid (fun w3 z => (hwB.chg (Chg.undr z) (nh_ _ HX.out.2.1.lt HX.out.2.2.1)).cell 0)
 have HFK1 : Hid (∀ w3, Chg (fun b => hostK t (K1 b)) w2.drew w3 → w3.cell? ⟨wk, 1, none⟩ = some (.int .i64 now)) := Lib.hid (fun w3 z => (hwB.chg (Chg.undr z) (nh_ _ HX.out.2.1.lt HX.out.2.2.1)).cell 1)
 have HFK2 : Hid (∀ w3, Chg (fun b => hostK t (K1 b)) w2.drew w3 → w3.cell? ⟨st, 0, none⟩ = some (bp d.h)) := Lib.hid (fun w3 z => (hsB.stk.chg (Chg.undr z) (nh8 _ hsB.kst)).cell 0)
 have HFK3 : Hid (∀ w3, Chg (fun b => hostK t (K1 b)) w2.drew w3 → w3.cell? ⟨s, 4, none⟩ = some (.int .i64 port)) := Lib.hid (fun w3 z => (hsB.sk.2.1.chg (Chg.undr z) (nh8 _ hsB.sk.2.2)).cell 4)
 have HFK4 : Hid (∀ w3, Chg (fun b => hostK t (K1 b)) w2.drew w3 → w3.cell? ⟨g5, 0, none⟩ = some (bp s)) := Lib.hid (fun w3 z => ((HB1.out.2.1.below hd12 HB1.out.2.1.lt).chg (Chg.undr z) (nh_ _ HG.out.2.1.lt HG.out.2.2.2.2.2.2.1)).cell 0)
 have HFK5 : Hid (∀ w3, Chg (fun b => hostK t (K1 b)) w2.drew w3 → w3.cell? ⟨g6, 0, none⟩ = some (.int .u32 to_)) := Lib.hid (fun w3 z => ((HB1.out.2.2.1.below hd12 HB1.out.2.2.1.lt).chg (Chg.undr z) (nh_ _ HG.out.2.2.1.lt HG.out.2.2.2.2.2.2.2.1)).cell 0)
 have HFK6 : Hid (∀ w3, Chg (fun b => hostK t (K1 b)) w2.drew w3 → w3.cell? ⟨g7, 0, none⟩ = some (.int .i64 tp)) := Lib.hid (fun w3 z => ((HB1.out.2.2.2.1.below hd12 HB1.out.2.2.2.1.lt).chg (Chg.undr z) (nh_ _ HG.out.2.2.2.1.lt HG.out.2.2.2.2.2.2.2.2.1)).cell 0)
 have HFK7 : Hid (∀ w3, Chg (fun b => hostK t (K1 b)) w2.drew w3 → w3.cell? ⟨g8, 0, none⟩ = some (.slice A n c)) := Lib.hid (fun w3 z => ((HB1.out.2.2.2.2.1.below hd12 HB1.out.2.2.2.2.1.lt).chg (Chg.undr z) (nh_ _ HG.out.2.2.2.2.1.lt HG.out.2.2.2.2.2.2.2.2.2)).cell 0)
 have HD := Lib.hid (And.intro hd12 (And.intro hz12 (And.intro hwB hlw)))
 clear hw2 hd12 hz12 hsB hwB hrow e5' hlw nh_ nh8
 go_wp2_with fail
 go_region_held3 (fun w' => w'.cell? ⟨wk, 0, none⟩ = some (bp st) ∧ w'.cell? ⟨wk, 1, none⟩ = some (.int .i64 now) ∧ w'.cell? ⟨st, 0, none⟩ = some (bp d.h) ∧ w'.cell? ⟨s, 4, none⟩ = some (.int .i64 port) ∧ w'.cell? ⟨g5, 0, none⟩ = some (bp s) ∧ w'.cell? ⟨g6, 0, none⟩ = some (.int .u32 to_) ∧ w'.cell? ⟨g7, 0, none⟩ = some (.int .i64 tp) ∧ w'.cell? ⟨g8, 0, none⟩ = some (.slice A n c))
  (first | (with_reducible exact ⟨by assumption, by assumption, by assumption, by assumption, by assumption, by assumption, by assumption, by assumption⟩) | go_keep)
  (first
   | (go_at_call 318; refine HSE.out.mono ?_; rintro e3 w3 ⟨k, v', S', L', K3, fA, fc, vs, rfl, hS, z1, z2, z3, z4, z5, z6, z7⟩; have p0 := HFK0.out w3 z4; have p1 := HFK1.out w3 z4; have p2 := HFK2.out w3 z4; have p3 := HFK3.out w3 z4; have p4_ := HFK4.out w3 z4; have p5 := HFK5.out w3 z4; have p6 := HFK6.out w3 z4; have p7 := HFK7.out w3 z4))
 clear p0 p1 p2 p3 p4_ p5 p6 p7
 all_goals
  obtain ⟨rfl, rfl⟩ := HY.out.2.2.2.2.2.2.1 x k v' S' L' hS
  have hc24 : Chg (fun b => hostK t (K1 b)) w2 w3 := Chg.undr z4
  have nh : ∀ b, K1 b = 40 → ¬ hostK t (K1 b) := fun b h e => HX.out.2.2.2.2.2.2.2.2 (by rw [← h]; exact .inl e)
  have h40 : ∀ b, b < w.heap.size → K b = 40 → K1 b = 40 := fun b hb h => (HQ1.out.2.1 b (by have := HX.out.2.2.2.2.2.1; omega)).trans ((HX.out.2.2.2.2.2.2.1 b hb).trans h)
  have hw3 : Bk w3 wk 374 (swC st now draw nilS nilS tried) := HD.out.2.2.1.chg hc24 (nh _ (h40 _ HX.out.2.1.lt HX.out.2.2.1))
  have h83 : Bk w3 g8 37 #[.slice A n c] := (HB1.out.2.2.2.2.1.below HD.out.1 HB1.out.2.2.2.2.1.lt).chg hc24 (nh _ (h40 _ HG.out.2.2.2.2.1.lt HG.out.2.2.2.2.2.2.2.2.2))
  have hr3 : Bk w3 w.heap.size 65 (retC 0 0 0 0 nilS) := (HB1.out.2.2.2.2.2.below HD.out.1 HB1.out.2.2.2.2.2.lt).chg hc24 (nh _ ((HQ1.out.2.1 _ (by have := HX.out.2.2.2.2.2.1; omega)).trans (HX.out.2.2.2.2.2.2.2.1 _ (Nat.le_refl _))))
  have hrw3 : Rw w3 w3.heap.size fA vs := Of.rw z5
  have hvl : vs.length = 1 := z5.length
  have hone : ∀ u ∈ vs, u.oneCell' = true := fun u hu => by
   rcases vs with _ | ⟨v0, _ | ⟨v1, vs⟩⟩
   ·cases hu
   ·obtain ⟨a1, a2, a3, e, _⟩ := z6.1
    rw [List.mem_singleton.1 hu, e]; rfl
   ·exact z6.2.elim
  have y4 : w3.cell? ⟨wk, 4, none⟩ = some (.slice none 0 0) := hw3.cell 4
  have HW3 := Lib.hid hw3
  have HE := Lib.hid (And.intro hS (And.intro z1 (And.intro z2 (And.intro z3 (And.intro hc24 (And.intro z5 (And.intro z6 (And.intro z7 (And.intro h83 (And.intro hr3 (And.intro nh h40)))))))))))
  have hmx : 0 + 1 ≤ maxLen := by unfold maxLen; omega
  have hby : (0 + 1) * 24 ≤ 140737488355328 := by omega
  obtain ⟨fb, fo, rfl, _⟩ := hrw3.at_ (k := 0) (u := vs[0]'(by omega)) (by rw [List.getElem?_eq_getElem (by omega)])
  clear hS z1 z2 z3 z4 z5 z6 z7 hc24 nh h40 hw3 h83 hr3 y0 y1 s0 p4 f5 f6 f7 f8
  simp only [List.length_cons, List.length_nil, Nat.zero_add]
  have hnwr : w.heap.size ≠ wk := by have := Bk.lt HX.out.2.1; omega
  have HNW := Lib.hid hnwr
  clear hnwr
  go_wp2_with (first
   | (at_builtin; refine wpList_append_of rfl (.tmp 60) (.tmp 61) 46 rfl 0 37 (.slice none 0 0) 24 Tryz.underlying46 info_row_ rfl rfl (Of.none_ _ _ _) rfl hrw3 hvl (Nat.succ_pos 0) hone hmx hby (Nat.zero_le _) ?_; intro g4 o4 c4 w4 hO4 hG4 hA4; have hk4 := HW3.out.grown hG4 (fun e => by cases e); have u4 : w4.cell? ⟨wk, 4, none⟩ = some (.slice none 0 0) := hk4.cell 4; have fz4 := hk4.frozen 4; have k8 := HE.out.2.2.2.2.2.2.2.2.1.grown hG4 (fun e => by cases e); have u8 : w4.cell? ⟨g8, 0, none⟩ = some (.slice A n c) := k8.cell 0; have hrr := HE.out.2.2.2.2.2.2.2.2.2.1.grown hG4 (fun e => by cases e))
   | (refine st_box 65 rfl (.tmp 7) (.tmp 73) rfl rfl rfl (cs := retC 0 n 0 0 nilS) rfl (hrr.far HNW.out _) ret_size rfl (retC_all _ _ _ _ _ _ _) ?_; intro w6 hb6 g6_ s6))
  refine bodyPost_ret (results_b1 rfl _ _ w.heap.size 65 (retC 0 n 0 0 nilS) (0, 0) _ rfl hb6 Tryz.underlying65 rfl ret_size) rfl ?_
  clear y4 u4 fz4 k8 u8 hrr
  obtain ⟨hS, z1, z2, z3, hc24, z5, z6, z7, h83, hr3, nh, h40⟩ := HE.out
  obtain ⟨hs, hw, hkw, hb0, hr0, hz0, k1, k2, n40⟩ := HX.out
  obtain ⟨hs1, q2, q3, q4⟩ := HQ1.out
  obtain ⟨hd12, hz12, hwB, hlw⟩ := HD.out
  have hwl := hw.lt
  have l3 := hc24.size
  have l4 := hG4.size
  have l6 := g6_.size
  have l1 := q4.size
  have hg4 : g4 = w3.heap.size := by rcases hA4 with e | e; cases e; exact e
  have e2 : w2.drew.heap.size = w2.heap.size := rfl
  obtain ⟨K', m1, m2⟩ : ∃ K' : Nat → Nat, (∀ b, b < w3.heap.size → K' b = K3 b) ∧ ∀ b, w3.heap.size ≤ b → K' b = 40 := ⟨fun b => if b < w3.heap.size then K3 b else 40, fun b hb => if_pos hb, fun b hb => if_neg (by omega)⟩
  have hc36 : Chg (fun b => b = wk ∨ b = w.heap.size) w3 w6 := ((Chg.of_grown (F := fun b => b = wk ∨ b = w.heap.size) hG4 (fun b e => by cases e)).setCell (p := ⟨wk, 4, none⟩) (.inl (.inl rfl)) _).trans (Chg.of_grown (F := fun b => b = w.heap.size) g6_ (fun b e => by injection e with e; exact e.symm)) (fun x e => .inl (.inr e))
  have hK3 : ∀ b, b < w.heap.size → K3 b = K b := fun b hb => (z2 b (by rw [e2]; omega)).trans ((q2 b (by omega)).trans (k1 b hb))
  have hKr : K3 w.heap.size = 40 := (z2 _ (by rw [e2]; omega)).trans ((q2 _ (by omega)).trans (k2 _ (Nat.le_refl _)))
  have hno : ∀ b, b < w3.heap.size → sideK t (K3 b) → ¬ (b = wk ∨ b = w.heap.size) := fun b _ hk e => n40 (by
   rcases e with e | e
   ·rw [← hkw, ← hK3 wk hwl, ← e]; exact hk
   ·rw [← hKr, ← e]; exact hk)
  have hsd : SdS t K' w6 st sm d v' S' (some (port, [])) (some (s, true, port)) := (HSB.out.host z1 z2 hc24).keep hc36 hno (fun b hb _ => m1 b hb)
  have hW6 : Bk w6 wk 374 (swC st now draw nilS (.slice (some ⟨g4, o4, none⟩) 1 c4) tried) := (hk4.set 4 _).grown g6_ (fun e => by injection e with e; exact HNW.out e.symm)
  have hOf : Of 37 w6 0 (some ⟨g4, o4, none⟩) 1 c4 vs := by
   have := hO4.of_block (w' := w6) (fun b hb => by
    have hb' : g4 = b := by simpa [blk] using hb
    have h5 := Below.heap_setCell w4 ⟨wk, 4, none⟩ (.slice (some ⟨g4, o4, none⟩) 1 c4) b (by show b ≠ wk; omega)
    have hl4 := (hO4.lt b hb).2
    exact (g6_.block b (by rw [size_setCell]; exact hl4) (fun e => by injection e with e; omega)).trans h5)
   simpa using this
  have hrows : RowsAt w6 (fun b => K' b = 40 ∧ w.heap.size ≤ b) vs [F] := z6.cap.keep (fun b hb hl => hc36.block b hl (fun e => by have := hb.1.2; rw [e2] at this; omega)) (fun b hb => ⟨(m1 b hb.2).trans hb.1.1, by have := hb.1.2; rw [e2] at this; omega⟩)
  have hcw : Chg (fun b => sideK t (K b) ∨ b = wk) w w6 := by
   have c1 : Chg (fun b => sideK t (K b) ∨ b = wk) w w1 := (Chg.of_below (F := fun b => sideK t (K b) ∨ b = wk) hb0).trans q4 (fun y e => by
    rcases Nat.lt_or_ge y w.heap.size with h | h
    ·left; left; rw [← k1 y h]; exact e
    ·exact .inr h)
   have c2 := c1.trans (Chg.of_below (F := fun _ => False) hd12) (fun _ e => e.elim)
   have c3 := c2.trans hc24 (fun y e => by
    rcases Nat.lt_or_ge y w.heap.size with h | h
    ·left; left; rw [← k1 y h, ← q2 y (by omega)]; exact .inl e
    ·exact .inr h)
   exact c3.trans hc36 (fun y e => by rcases e with e | e; exact .inl (.inr e); exact .inr (by omega))
  refine ⟨none, 0, 0, K', _, rfl, ⟨x, 0, v', S', hS, hsd⟩, hW6, ⟨some ⟨g4, o4, none⟩, c4, vs, rfl, hOf, hrows, fun b hb => by
   have hb' : g4 = b := by simpa [blk] using hb
   exact ⟨m2 b (by omega), by omega⟩⟩, fun b hb => (m1 b (by omega)).trans (hK3 b hb), fun b hb => ?_, hcw⟩
  rcases Nat.lt_or_ge b w3.heap.size with h | h
  ·rw [m1 b h]
   rcases Nat.lt_or_ge b w2.heap.size with h' | h'
   ·rw [z2 b h']
    rcases Nat.lt_or_ge b W0.heap.size with h'' | h''
    ·right; rw [q2 b h'']; exact k2 b hb
    ·exact q3 b h''
   ·exact (z3 b h').imp sideK_host id
  ·exact .inr (m2 b h)
end Go.Proofs.YtaeafkdfbcppgaaGreat
