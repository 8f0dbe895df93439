/- Proved: a socket of UDP is made, bound, picks a port, and has nothing wrong; what a socket of UDP answers when it is made or bound. Conditions: as each law says. -/
import Derived.Test.YtaeafkdfbcppgaaGreatT34
set_option linter.unusedSectionVars false
set_option linter.unusedSimpArgs false
set_option linter.unusedVariables false
namespace Go.Proofs.YtaeafkdfbcppgaaGreat
open Go.RowKit
def swC (st : Nat) (now draw : Int) (rets frames tried : Value) : Array Value := #[bp st, .int .i64 now, .int .i64 draw, rets, frames, tried]
def retC (er n a p : Int) (dv : Value) : Array Value := #[.int .i64 0, .int .i64 er, .int .i64 n, .int .u32 a, .int .i64 p, dv]
theorem retC_all (er n a p : Int) (A : Option Addr) (k c : Nat) : (retC er n a p (.slice A k c)).all (·.oneCell') = true := by simp [retC, Value.oneCell']
def FrR (K : Nat → Nat) (w : World) (B : Nat) (x : Value) (L : List (List Int)) : Prop :=
 ∃ fA fc vs, x = .slice fA L.length fc ∧ Of 37 w 0 fA L.length fc vs ∧ RowsAt w (fun b => K b = 40 ∧ B ≤ b) vs L ∧ ∀ b, blk fA = some b → K b = 40 ∧ B ≤ b
theorem FrR.nil (K : Nat → Nat) (w : World) (B : Nat) : FrR K w B nilS [] := ⟨none, 0, [], rfl, Of.none_ _ _ _, trivial, fun b e => by cases e⟩
theorem FrR.keep {K K' : Nat → Nat} {w w' : World} {B B' : Nat} {x : Value} {L : List (List Int)} (h : FrR K w B x L) (hk : ∀ b, B ≤ b → K b = 40 → b < w.heap.size → w'.heap[b]? = w.heap[b]?) (hK : ∀ b, K b = 40 → B ≤ b → b < w.heap.size → K' b = 40 ∧ B' ≤ b) : FrR K' w' B' x L := by
 obtain ⟨fA, fc, vs, h1, h2, h3, h4⟩ := h
 exact ⟨fA, fc, vs, h1, h2.of_block (fun b hb => hk b (h4 b hb).2 (h4 b hb).1 (h2.lt b hb).2), h3.cap.keep (fun b hb hl => hk b hb.1.2 hb.1.1 hl) (fun b hb => hK b hb.1.1 hb.1.2 hb.2), fun b hb => hK b (h4 b hb).1 (h4 b hb).2 (h2.lt b hb).2⟩
section
variable {t : Nat} {K K' : Nat → Nat} {w w' : World} {st sm : Nat} {d : HD} {v v' : HV} {S S' : List En} {P P' : Option (Int × List Dg)} {so : Option (Nat × Bool × Int)}
theorem SdS.sock {s : Nat} {b b' : Bool} {p p' : Int} (h : SdS t K w st sm d v S P (some (s, b, p))) (hb : Bk w' s 443 (dgS b' p')) (hc : Chg (fun x => x = s) w w') : SdS t K w' st sm d v S P (some (s, b', p')) where
 stk := h.stk.chg hc (Bk.ne_ h.stk h.sk.2.1 (by decide))
 hs := h.hs.keepH hc (fun x hx hk e => by rw [e, h.sk.2.2] at hk; exact absurd hk.2 (by omega)) (fun _ _ _ => rfl)
 sk := ⟨h.sk.1.keep_ (hc.block _ h.sk.1.lt (fun e => im_bk h.sk.1 (by rw [e]; exact h.sk.2.1))), hb, h.sk.2.2⟩
 kst := h.kst
 ksm := h.ksm
theorem SdS.lay {s : Nat} (h : SdS t K w st sm d v S P none) (hm : IM mkI okI w' sm [(0, ifS s)]) (hb : Bk w' s 443 (dgS false 0)) (hs : w.heap.size ≤ s) (hc : Chg (fun x => x = sm) w w') (hK : ∀ b, b < w.heap.size → K' b = K b) (hk : K' s = t + 8) : SdS t K' w' st sm d v S P (some (s, false, 0)) where
 stk := h.stk.chg hc (fun e => im_bk (show IM mkI okI w sm [] from h.sk) (by rw [← e]; exact h.stk))
 hs := h.hs.keepH hc (fun x hx hk e => by rw [e, h.ksm] at hk; exact absurd hk.2 (by omega)) (fun b hb _ => hK b hb)
 sk := ⟨hm, hb, hk⟩
 kst := (hK _ h.stk.lt).trans h.kst
 ksm := (hK _ h.sk.lt).trans h.ksm
end
theorem full_ok (w : World) : Calls Tryz.prog 311 #[.int .i64 0] w fun e w' => e = .returned (.int .i64 0) ∧ w = w' := by
 go_enter Tryz.func311, Tryz.ntmps311
 go_wp2
 go_ret
 exact ⟨rfl, rfl⟩
def SbPost (t : Nat) (K : Nat → Nat) (w : World) (st sm : Nat) (d : HD) (v : HV) (S : List En) (s : Nat) (port : Int) (w' : World) : Prop :=
 ∃ K' x, SdS t K' w' st sm d { v with prt := x } S (some (port, [])) (some (s, true, port)) ∧ (∀ b, b < w.heap.size → K' b = K b) ∧ (∀ b, w.heap.size ≤ b → sideK t (K' b) ∨ K' b = 40) ∧ Chg (fun b => sideK t (K b)) w w'
theorem sb_post {t : Nat} {K : Nat → Nat} {w w1 : World} {st sm : Nat} {d : HD} {v : HV} {S : List En} {s : Nat} {port : Int} (hs : SdS t K w st sm d v S none (some (s, false, 0))) (h : BdPost t K w.drew d v S port w1) :
  SbPost t K w st sm d v S s port (((w1.setCell ⟨s, 2, none⟩ (.bool true)).setCell ⟨s, 3, none⟩ (.int .u32 0)).setCell ⟨s, 4, none⟩ (.int .i64 port)) := by
 obtain ⟨K', x, h1, h2, h3, h4⟩ := h
 have hc := Chg.undr h4
 have hsd := hs.host h1 h2 hc
 have hbk := ((hsd.sk.2.1.set 2 (.bool true)).set 3 (.int .u32 0)).set 4 (.int .i64 port)
 have hcs : Chg (fun b => b = s) w1 (((w1.setCell ⟨s, 2, none⟩ (.bool true)).setCell ⟨s, 3, none⟩ (.int .u32 0)).setCell ⟨s, 4, none⟩ (.int .i64 port)) := (((Chg.refl _ w1).set1 _).set1 _).set1 _
 exact ⟨K', x, hsd.sock hbk hcs, h2, fun b hb => (h3 b hb).imp sideK_host id, (hc.mono (fun _ _ e => sideK_host e)).trans hcs (fun b e => .inl (by rw [e, ← h2 s hs.sk.2.1.lt, hsd.sk.2.2]; exact sideK_8))⟩
set_option maxHeartbeats 4000000 in
set_option maxRecDepth 100000 in
theorem dbind_first (t : Nat) (K : Nat → Nat) (w : World) (st sm : Nat) (d : HD) (v : HV) (S : List En) (s wk : Nat) (now draw port : Int) (hp : 1 ≤ port ∧ port ≤ 65535) (rets frames tried : Value) (hs : SdS t K w st sm d v S none (some (s, false, 0))) (hw : Bk w wk 374 (swC st now draw rets frames tried)) :
  Calls Tryz.prog 350 #[bp s, bp wk, .int .u32 0, .int .i64 port] w fun e w' => e = .returned (.int .i64 0) ∧ SbPost t K w st sm d v S s port w' := by
 have HBI := Lib.hid (hbind_first t K w.drew d v S port hp (hs.hs.drewN 1))
 have HS := Lib.hid hs
 have y0 : w.cell? ⟨wk, 0, none⟩ = some (bp st) := hw.cell 0
 have s0 : w.cell? ⟨st, 0, none⟩ = some (bp d.h) := hs.stk.cell 0
 have g0 : w.cell? ⟨s, 0, none⟩ = some (.int .i64 0) := hs.sk.2.1.cell 0
 have hnp : (port == 0) = false := by simp; omega
 clear hs hw hp
 go_enter Tryz.func350, Tryz.ntmps350
 go_wp2_with fail
 go_region_with (go_at_call 376; refine HBI.out.mono ?_; rintro e1 w1 ⟨rfl, hP⟩)
 all_goals
  have hbk : Bk w1 s 443 (dgS false 0) := by
   obtain ⟨K', x, h1, h2, h3, h4⟩ := hP
   exact (HS.out.host h1 h2 (Chg.undr h4)).sk.2.1
  have f2 := hbk.frozen 2
  have f3 := hbk.frozen 3
  have f4 := hbk.frozen 4
  have c2 : w1.cell? ⟨s, 2, none⟩ = some (.bool false) := hbk.cell 2
  have c3 : w1.cell? ⟨s, 3, none⟩ = some (.int .u32 0) := hbk.cell 3
  have c4 : w1.cell? ⟨s, 4, none⟩ = some (.int .i64 0) := hbk.cell 4
  have HF := Lib.hid (sb_post HS.out hP)
  clear hP hbk y0 s0 g0
  go_wp2_with fail
  refine (full_ok _).mono ?_
  rintro e2 w2 ⟨rfl, rfl⟩
  go_wp2
  go_ret
  exact ⟨rfl, HF.out⟩
set_option maxHeartbeats 4000000 in
set_option maxRecDepth 100000 in
theorem dbind_pick (t : Nat) (K : Nat → Nat) (w : World) (st sm : Nat) (d : HD) (v : HV) (S : List En) (s wk : Nat) (now draw : Int) (hd : 0 ≤ draw ∧ draw ≤ 2147483647) (rets frames tried : Value) (hs : SdS t K w st sm d v S none (some (s, false, 0))) (hw : Bk w wk 374 (swC st now draw rets frames tried)) :
  Calls Tryz.prog 350 #[bp s, bp wk, .int .u32 0, .int .i64 0] w fun e w' => e = .returned (.int .i64 0) ∧ SbPost t K w st sm d v S s (49152 + draw % 16384) w' := by
 have hbi := hpick_first t K w.drew d v S draw hd (hs.hs.drewN 1)
 obtain ⟨port, hport⟩ : ∃ port, 49152 + draw % 16384 = port := ⟨_, rfl⟩
 rw [hport] at hbi ⊢
 have HBI := Lib.hid hbi
 have HS := Lib.hid hs
 have y0 : w.cell? ⟨wk, 0, none⟩ = some (bp st) := hw.cell 0
 have y2 : w.cell? ⟨wk, 2, none⟩ = some (.int .i64 draw) := hw.cell 2
 have s0 : w.cell? ⟨st, 0, none⟩ = some (bp d.h) := hs.stk.cell 0
 have g0 : w.cell? ⟨s, 0, none⟩ = some (.int .i64 0) := hs.sk.2.1.cell 0
 clear hs hw hd hbi hport
 go_enter Tryz.func350, Tryz.ntmps350
 go_wp2_with fail
 go_region_with (go_at_call 375; refine HBI.out.mono ?_; rintro e1 w1 ⟨rfl, hP⟩)
 all_goals
  have hbk : Bk w1 s 443 (dgS false 0) := by
   obtain ⟨K', x, h1, h2, h3, h4⟩ := hP
   exact (HS.out.host h1 h2 (Chg.undr h4)).sk.2.1
  have f2 := hbk.frozen 2
  have f3 := hbk.frozen 3
  have f4 := hbk.frozen 4
  have c2 : w1.cell? ⟨s, 2, none⟩ = some (.bool false) := hbk.cell 2
  have c3 : w1.cell? ⟨s, 3, none⟩ = some (.int .u32 0) := hbk.cell 3
  have c4 : w1.cell? ⟨s, 4, none⟩ = some (.int .i64 0) := hbk.cell 4
  have HF := Lib.hid (sb_post HS.out hP)
  clear hP hbk y0 y2 s0 g0
  go_wp2_with fail
  refine (full_ok _).mono ?_
  rintro e2 w2 ⟨rfl, rfl⟩
  go_wp2
  go_ret
  exact ⟨rfl, HF.out⟩
theorem dpicks_first (t : Nat) (K : Nat → Nat) (w : World) (st sm : Nat) (d : HD) (v : HV) (S : List En) (s wk : Nat) (now draw : Int) (hd : 0 ≤ draw ∧ draw ≤ 2147483647) (rets frames tried : Value) (hs : SdS t K w st sm d v S none (some (s, false, 0))) (hw : Bk w wk 374 (swC st now draw rets frames tried)) :
  Calls Tryz.prog 316 #[bp s, bp wk] w fun e w' => e = .returned (.int .i64 0) ∧ SbPost t K w st sm d v S s (49152 + draw % 16384) w' := by
 have HBI := Lib.hid (dbind_pick t K w st sm d v S s wk now draw hd rets frames tried hs hw)
 have g2 : w.cell? ⟨s, 2, none⟩ = some (.bool false) := hs.sk.2.1.cell 2
 clear hs hw hd
 go_enter Tryz.func316, Tryz.ntmps316
 go_wp2_with fail
 refine HBI.out.mono ?_
 rintro e2 w2 ⟨rfl, hP⟩
 have HP := Lib.hid hP
 clear hP
 go_wp2
 go_ret
 exact ⟨rfl, HP.out⟩
set_option maxHeartbeats 4000000 in
set_option maxRecDepth 100000 in
theorem dwrong_0 (t : Nat) (K : Nat → Nat) (w : World) (st sm : Nat) (d : HD) (v : HV) (S : List En) (s wk : Nat) (now draw port : Int) (rets frames tried : Value) (b : Bool) (q : Int) (hs : SdS t K w st sm d v S (some (port, [])) (some (s, b, q))) (hw : Bk w wk 374 (swC st now draw rets frames tried)) :
  Calls Tryz.prog 317 #[bp s, bp wk] w fun e w' => e = .returned (.int .i64 0) ∧ ∃ n, w' = w.drewN n := by
 have HBI := Lib.hid (fun n => hwaits_0 t K (w.drewN n) d v S port (hs.hs.drewN n))
 have y0 : w.cell? ⟨wk, 0, none⟩ = some (bp st) := hw.cell 0
 have s0 : w.cell? ⟨st, 0, none⟩ = some (bp d.h) := hs.stk.cell 0
 have g0 : w.cell? ⟨s, 0, none⟩ = some (.int .i64 0) := hs.sk.2.1.cell 0
 clear hs hw
 go_enter Tryz.func317, Tryz.ntmps317
 go_wp2_with fail
 go_quiet ((go_at_call 351; exact Calls.quiet_of (HBI.out _)))
 go_wp2
 go_ret
 exact ⟨rfl, nq, rfl⟩
open Go.RowKit
def callC (k fd a p n : Int) (dv : Value) (now draw : Int) : Array Value := #[.int .i64 k, .int .i64 0, .int .i64 fd, .int .u32 a, .int .i64 p, .int .i64 n, dv, .int .i64 now, .int .i64 draw]
def AttR (t : Nat) (K : Nat → Nat) (w : World) (wk st : Nat) (now draw : Int) (tried : Value) (L : List (List Int)) (n a p : Int) (Q : Value → (Nat → Nat) → World → Prop) (e : Ending) (w' : World) : Prop :=
 ∃ dA dn dc K' x, e = .returned (.tuple #[.agg (retC 0 n a p (.slice dA dn dc)), .bool true]) ∧ Q (.slice dA dn dc) K' w' ∧ Bk w' wk 374 (swC st now draw nilS x tried) ∧ FrR K' w' w.heap.size x L ∧ (∀ b, b < w.heap.size → K' b = K b) ∧ (∀ b, w.heap.size ≤ b → sideK t (K' b) ∨ K' b = 40) ∧ Chg (fun b => sideK t (K b) ∨ b = wk) w w'
set_option maxHeartbeats 4000000 in
set_option maxRecDepth 100000 in
theorem try_socket (t : Nat) (K : Nat → Nat) (w : World) (st sm : Nat) (d : HD) (v : HV) (S : List En) (P : Option (Int × List Dg)) (wk gc : Nat) (now draw : Int) (tried dv : Value) (fd a p n9 d9 : Int) (hs : SdS t K w st sm d v S P none) (hw : Bk w wk 374 (swC st now draw nilS nilS tried)) (hkw : ¬ sideK t (K wk)) (hc : Bk w gc 39 (callC 1 fd a p 17 dv n9 d9)) :
  Calls Tryz.prog 254 #[bp wk, bp gc] w (AttR t K w wk st now draw tried [] 0 0 0 (fun _ K' w' => ∃ s, SdS t K' w' st sm d v S P (some (s, false, 0)))) := by
 obtain ⟨W0, hW0⟩ : ∃ W0, w.alloc (.cells (retC 0 0 0 0 nilS) 65) = W0 := ⟨_, rfl⟩
 have hb0 : Below w.heap.size w W0 := by rw [← hW0]; exact (Below.refl _ _).alloc (Nat.le_refl _) _
 have hr0 : Bk W0 w.heap.size 65 (retC 0 0 0 0 nilS) := by rw [← hW0]; exact Bk.new _ _ _
 have hz0 : W0.heap.size = w.heap.size + 1 := by rw [← hW0, World.size_alloc]
 obtain ⟨W1, hW1⟩ : ∃ W1, W0.alloc (.cells (dgS false 0) 443) = W1 := ⟨_, rfl⟩
 have hb1 : Below W0.heap.size W0 W1 := by rw [← hW1]; exact (Below.refl _ _).alloc (Nat.le_refl _) _
 have hx1 : Bk W1 W0.heap.size 443 (dgS false 0) := by rw [← hW1]; exact Bk.new _ _ _
 have hs0 := hs.below hb0
 have hs1 := hs0.below hb1
 have hm0 : IM mkI okI W0 sm [] := hs0.sk
 have HLAY := Lib.hid (slay_new st d.h sm W0.heap.size (dgS false 0) W1 hs1.stk hs1.sk hx1 rfl)
 have hlen : ∀ ty, (Builtin.len_ #[192] ty #[.map (some sm)]).run Tryz.prog W0 = .ok (.int .i64 0) W0 := fun ty => IM.len hm0 Tryz.underlying192 ty
 have c5 : W0.cell? ⟨gc, 5, none⟩ = some (.int .i64 17) := (hc.below hb0 hc.lt).cell 5
 have y0 : W0.cell? ⟨wk, 0, none⟩ = some (bp st) := (hw.below hb0 hw.lt).cell 0
 have s1 : W0.cell? ⟨st, 1, none⟩ = some (.map (some sm)) := hs0.stk.cell 1
 have c5' : W1.cell? ⟨gc, 5, none⟩ = some (.int .i64 17) := ((hc.below hb0 hc.lt).below hb1 (Nat.lt_of_lt_of_le hc.lt hb0.size)).cell 5
 have y0' : W1.cell? ⟨wk, 0, none⟩ = some (bp st) := ((hw.below hb0 hw.lt).below hb1 (Nat.lt_of_lt_of_le hw.lt hb0.size)).cell 0
 have HX := Lib.hid (And.intro hs (And.intro hw (And.intro hkw (And.intro hb0 (And.intro hb1 (And.intro hr0 (And.intro hz0 hx1)))))))
 have HW0 : Hid (w.alloc (.cells #[.int .i64 0, .int .i64 0, .int .i64 0, .int .u32 0, .int .i64 0, .slice none 0 0] 65) = W0) := Lib.hid hW0
 have HW1 : Hid (W0.alloc (.cells #[.int .i64 0, .bool false, .bool false, .int .u32 0, .int .i64 0, .bool false, .bool false, .int .i64 0, .bool false, .int .u32 0, .int .i64 0] 443) = W1) := Lib.hid hW1
 clear hs hw hkw hc hb0 hb1 hr0 hz0 hx1 hs0 hs1 hm0 hW0 hW1
 go_enter Tryz.func254, Tryz.ntmps254
 go_upto_region 1 with (fail)
 rw [HW0.out]
 go_upto_region 6 with (fail)
 rw [HW1.out]
 go_wp2_with fail
 refine HLAY.out.mono ?_
 rintro e1 w1 ⟨rfl, hI, hC, hB⟩
 obtain ⟨hs, hw, hkw, hb0, hb1, hr0, hz0, hx1⟩ := HX.out
 have hneS : w.heap.size ≠ sm := by have h1 := IM.lt (show IM mkI okI w sm [] from hs.sk); omega
 have hr1 : Bk w1 w.heap.size 65 (retC 0 0 0 0 nilS) := (hr0.below hb1 hr0.lt).chg hC (by omega)
 have HR1 := Lib.hid hr1
 have HI := Lib.hid hI
 have HC := Lib.hid hC
 have HB := Lib.hid hB
 clear hI hC hB hr1 hs hw hkw hb0 hb1 hr0 hz0 hx1 c5 y0 s1 c5' y0' hlen
 go_wp2_with (first | (refine st_box 65 rfl (.tmp 3) (.tmp 44) rfl rfl rfl (cs := retC 0 0 0 0 nilS) rfl HR1.out ret_size rfl (retC_all _ _ _ _ _ _ _) ?_; intro w2 hb2 g2 z2))
 refine bodyPost_ret (results_b1 rfl _ _ w.heap.size 65 (retC 0 0 0 0 nilS) (0, 0) _ rfl hb2 Tryz.underlying65 rfl ret_size) rfl ?_
 obtain ⟨hs, hw, hkw, hb0, hb1, hr0, hz0, hx1⟩ := HX.out
 have hl := hb1.size
 have hsl := IM.lt (show IM mkI okI w sm [] from hs.sk)
 have hwl := hw.lt
 obtain ⟨K', k1, k2, k3⟩ : ∃ K' : Nat → Nat, (∀ b, b < w.heap.size → K' b = K b) ∧ K' W0.heap.size = t + 8 ∧ (∀ b, w.heap.size ≤ b → K' b = t + 8 ∨ K' b = 40) :=
  ⟨fun b => if b < w.heap.size then K b else if b = W0.heap.size then t + 8 else 40, fun b hb => if_pos hb, (if_neg (show ¬ W0.heap.size < w.heap.size by omega)).trans (if_pos rfl), fun b hb => by
   simp only [if_neg (show ¬ b < w.heap.size by omega)]
   split
   ·exact .inl rfl
   ·exact .inr rfl⟩
 have hcc : Chg (fun b => b = sm) w w2 := by
  have q1 : Chg (fun b => b = sm) w W1 := (Chg.of_below (F := fun b => b = sm) hb0).trans (Chg.of_below (F := fun _ => False) hb1) (fun _ e => e.elim)
  have q2 : Chg (fun b => b = sm) w w1 := q1.trans HC.out (fun x e => by rcases e with e | e; exact .inl e; exact .inr (by omega))
  exact q2.trans (Chg.of_grown (F := fun b => b = w.heap.size) g2 (fun b e => by injection e with e; exact e.symm)) (fun x e => .inr (by omega))
 have hne : wk ≠ sm := fun e => im_bk (show IM mkI okI w sm [] from hs.sk) (by rw [← e]; exact hw)
 refine ⟨none, 0, 0, K', nilS, rfl, ⟨W0.heap.size, hs.lay (IM.kept HI.out g2 (fun e => by injection e with e; omega)) (HB.out.grown g2 (fun e => by injection e with e; omega)) (by omega) hcc k1 k2⟩, hw.chg hcc hne, FrR.nil _ _ _, k1, fun b hb => (k3 b hb).imp (fun e => .inr e) id, hcc.mono (fun b _ e => .inl (by rw [e, hs.ksm]; exact sideK_8))⟩
theorem meth_bind (s : Nat) (w : World) : (method 669 439 (bp s) "wharf/sock.bind").run Tryz.prog w = .ok (350, bp s) w := by kernel_rfl
theorem meth_recv (s : Nat) (w : World) : (method 669 439 (bp s) "wharf/sock.recv").run Tryz.prog w = .ok (419, bp s) w := by kernel_rfl
set_option maxHeartbeats 4000000 in
set_option maxRecDepth 100000 in
theorem wbind_first (t : Nat) (K : Nat → Nat) (w : World) (st sm : Nat) (d : HD) (v : HV) (S : List En) (s wk : Nat) (now draw port : Int) (hp : 1 ≤ port ∧ port ≤ 65535) (rets frames tried : Value) (hs : SdS t K w st sm d v S none (some (s, false, 0))) (hw : Bk w wk 374 (swC st now draw rets frames tried)) :
  Calls Tryz.prog 259 #[bp wk, ifS s, .int .u32 0, .int .i64 port] w fun e w' => e = .returned (.int .i64 0) ∧ SbPost t K w st sm d v S s port w' := by
 have hmd : (method 669 439 (bp s) "wharf/sock.base").run Tryz.prog w = .ok (414, bp s) w := meth_base s w
 have hmb : (method 669 439 (bp s) "wharf/sock.bind").run Tryz.prog w = .ok (350, bp s) w := meth_bind s w
 have HBI := Lib.hid (dbind_first t K w st sm d v S s wk now draw port hp rets frames tried hs hw)
 have g2 : w.cell? ⟨s, 2, none⟩ = some (.bool false) := hs.sk.2.1.cell 2
 have p1 : ¬ port < 0 := by omega
 have p2 : ¬ 65535 < port := by omega
 have p3 : decide (port < 0) = false := decide_eq_false p1
 have p4 : decide (65535 < port) = false := decide_eq_false p2
 clear hs hw hp
 go_enter Tryz.func259, Tryz.ntmps259
 go_wp2_with fail
 refine (sbase_any _ _).mono ?_
 rintro e1 w1 ⟨rfl, rfl⟩
 go_wp2_with fail
 refine HBI.out.mono ?_
 rintro e2 w2 ⟨rfl, hP⟩
 have HP := Lib.hid hP
 clear hP
 go_wp2
 go_ret
 exact ⟨rfl, HP.out⟩
set_option maxHeartbeats 4000000 in
set_option maxRecDepth 100000 in
theorem try_bind (t : Nat) (ht : t ≤ 20) (K : Nat → Nat) (w : World) (st sm : Nat) (d : HD) (v : HV) (S : List En) (s wk gs gc : Nat) (now draw port : Int) (hp : 1 ≤ port ∧ port ≤ 65535) (tried dv : Value) (fd n9 n8 d9 : Int) (hs : SdS t K w st sm d v S none (some (s, false, 0))) (hw : Bk w wk 374 (swC st now draw nilS nilS tried)) (hkw : ¬ sideK t (K wk))
  (hgs : Bk w gs 376 #[ifS s]) (hc : Bk w gc 39 (callC 2 fd 0 port n8 dv n9 d9)) :
  Calls Tryz.prog 258 #[bp wk, bp gs, bp gc] w (AttR t K w wk st now draw tried [] 0 0 0 (fun _ K' w' => ∃ s x, SdS t K' w' st sm d { v with prt := x } S (some (port, [])) (some (s, true, port)))) := by
 obtain ⟨W0, hW0⟩ : ∃ W0, w.alloc (.cells (retC 0 0 0 0 nilS) 65) = W0 := ⟨_, rfl⟩
 have hb0 : Below w.heap.size w W0 := by rw [← hW0]; exact (Below.refl _ _).alloc (Nat.le_refl _) _
 have hr0 : Bk W0 w.heap.size 65 (retC 0 0 0 0 nilS) := by rw [← hW0]; exact Bk.new _ _ _
 have hz0 : W0.heap.size = w.heap.size + 1 := by rw [← hW0, World.size_alloc]
 obtain ⟨K0, k1, k2⟩ : ∃ K0 : Nat → Nat, (∀ b, b < w.heap.size → K0 b = K b) ∧ ∀ b, w.heap.size ≤ b → K0 b = 40 := ⟨fun b => if b < w.heap.size then K b else 40, fun b hb => if_pos hb, fun b hb => if_neg (by omega)⟩
 have hs0 : SdS t K0 W0 st sm d v S none (some (s, false, 0)) := hs.keep (Chg.of_below (F := fun _ => False) hb0) (fun _ _ _ e => e) (fun b hb _ => k1 b hb)
 have hw0 := hw.below hb0 hw.lt
 have HBI := Lib.hid (wbind_first t K0 W0 st sm d v S s wk now draw port hp nilS nilS tried hs0 hw0)
 have i0 : W0.cell? ⟨gs, 0, none⟩ = some (ifS s) := (hgs.below hb0 hgs.lt).cell 0
 have c3 : W0.cell? ⟨gc, 3, none⟩ = some (.int .u32 0) := (hc.below hb0 hc.lt).cell 3
 have c4 : W0.cell? ⟨gc, 4, none⟩ = some (.int .i64 port) := (hc.below hb0 hc.lt).cell 4
 have HX := Lib.hid (And.intro hs (And.intro hw (And.intro hkw (And.intro hb0 (And.intro hr0 (And.intro hz0 (And.intro k1 k2)))))))
 have HW0 : Hid (w.alloc (.cells #[.int .i64 0, .int .i64 0, .int .i64 0, .int .u32 0, .int .i64 0, .slice none 0 0] 65) = W0) := Lib.hid hW0
 clear hs hw hkw hc hb0 hr0 hz0 hs0 hw0 hW0 hgs k1 k2 hp
 go_enter Tryz.func258, Tryz.ntmps258
 go_upto_region 1 with (fail)
 rw [HW0.out]
 go_wp2_with fail
 refine HBI.out.mono ?_
 rintro e1 w1 ⟨rfl, hP⟩
 have HP := Lib.hid hP
 clear hP i0 c3 c4
 go_wp2_with fail
 refine (answer_any 0 _).mono ?_
 rintro e2 w2 ⟨rfl, hB2⟩
 obtain ⟨hs, hw, hkw, hb0, hr0, hz0, k1, k2⟩ := HX.out
 obtain ⟨K', x, q1, q2, q3, q4⟩ := HP.out
 have hn40 : ¬ sideK t (K0 w.heap.size) := by
  rw [k2 _ (Nat.le_refl _)]
  rintro (h | h)
  ·exact absurd h.2 (by omega)
  ·omega
 have hr2 := (hr0.chg q4 hn40).below hB2 (Nat.lt_of_lt_of_le hr0.lt q4.size)
 have HR2 := Lib.hid hr2
 have HB2 := Lib.hid hB2
 have HN := Lib.hid hn40
 clear hs hw hkw hb0 hr0 hz0 k1 k2 q1 q2 q3 q4 hn40 hr2 hB2
 go_wp2_with (first | (refine st_box 65 rfl (.tmp 4) (.tmp 14) rfl rfl rfl (cs := retC 0 0 0 0 nilS) rfl HR2.out ret_size rfl (retC_all _ _ _ _ _ _ _) ?_; intro w3 hb3 g3 z3))
 refine bodyPost_ret (results_b1 rfl _ _ w.heap.size 65 (retC 0 0 0 0 nilS) (0, 0) _ rfl hb3 Tryz.underlying65 rfl ret_size) rfl ?_
 obtain ⟨hs, hw, hkw, hb0, hr0, hz0, k1, k2⟩ := HX.out
 obtain ⟨K', x, q1, q2, q3, q4⟩ := HP.out
 have hc3 : Chg (fun b => b = w.heap.size) w1 w3 := (Chg.of_below (F := fun b => b = w.heap.size) HB2.out).trans (Chg.of_grown (F := fun b => b = w.heap.size) g3 (fun b e => by injection e with e; exact e.symm)) (fun _ e => .inl e)
 have hk : K' w.heap.size = K0 w.heap.size := q2 _ (by omega)
 have hcw : Chg (fun b => sideK t (K b) ∨ b = wk) w w3 := ((Chg.of_below (F := fun b => sideK t (K b) ∨ b = wk) hb0).trans q4 (fun y e => by
  rcases Nat.lt_or_ge y w.heap.size with h | h
  ·left; left; rw [← k1 y h]; exact e
  ·exact .inr h)).trans hc3 (fun y e => .inr (by omega))
 have hwk : ¬ sideK t (K0 wk) := by rw [k1 _ hw.lt]; exact hkw
 refine ⟨none, 0, 0, K', nilS, rfl, ⟨s, x, q1.keep hc3 (fun b _ hk' e => HN.out (by rw [← hk, ← e]; exact hk')) (fun _ _ _ => rfl)⟩, ((hw.below hb0 hw.lt).chg q4 hwk).chg hc3 (by have := hw.lt; omega), FrR.nil _ _ _, fun b hb => (q2 b (by omega)).trans (k1 b hb), fun b hb => ?_, hcw⟩
 rcases Nat.lt_or_ge b W0.heap.size with h | h
 ·right; rw [q2 b h]; exact k2 b hb
 ·exact q3 b h
end Go.Proofs.YtaeafkdfbcppgaaGreat
