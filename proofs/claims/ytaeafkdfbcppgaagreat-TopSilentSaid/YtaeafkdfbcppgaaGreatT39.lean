/- Proved: what a socket of UDP answers when it hands out the one datagram that waits. Conditions: as each law says. -/
import Derived.Test.YtaeafkdfbcppgaaGreatT35
import Derived.Test.YtaeafkdfbcppgaaGreatT38
set_option linter.unusedSectionVars false
set_option linter.unusedSimpArgs false
set_option linter.unusedVariables false
namespace Go.Proofs.YtaeafkdfbcppgaaGreat
open Go.RowKit
def RvQ (t st sm h : Nat) (l : List Int) (dv : Value) (K : Nat → Nat) (w : World) : Prop := Bk w st 195 #[bp h, .map (some sm), nilS] ∧ K st = t + 8 ∧ RowAt w (fun b => K b = t + 4) dv l
set_option maxHeartbeats 8000000 in
set_option maxRecDepth 100000 in
theorem try_recv (t : Nat) (ht : t ≤ 20) (K : Nat → Nat) (w : World) (st sm : Nat) (d : HD) (v : HV) (S : List En) (s wk gs gc : Nat) (now draw port : Int) (tried dv : Value) (fd a p n9 d9 nn : Int) (b : Bool) (sp : Int) (q : Dg) (hq : 0 < q.data.length ∧ (q.data.length : Int) ≤ nn) (hnn : nn ≤ 1000000) (hs : SdS t K w st sm d v S (some (port, [q])) (some (s, b, sp))) (hw : Bk w wk 374 (swC st now draw nilS nilS tried)) (hkw : K wk = 40)
  (hgs : Bk w gs 439 #[bp s]) (hkg : K gs = 40) (hc : Bk w gc 39 (callC 9 fd a p nn dv n9 d9)) (hkc : K gc = 40) :
  Calls Tryz.prog 425 #[bp wk, bp gs, bp gc] w (AttR t K w wk st now draw tried [] q.data.length q.fr q.fp (RvQ t st sm d.h q.data)) := by
 obtain ⟨W0, hW0⟩ : ∃ W0, w.alloc (.cells (retC 0 0 0 0 nilS) 65) = W0 := ⟨_, rfl⟩
 have hb0 : Below w.heap.size w W0 := by rw [← hW0]; exact (Below.refl _ _).alloc (Nat.le_refl _) _
 have hr0 : Bk W0 w.heap.size 65 (retC 0 0 0 0 nilS) := by rw [← hW0]; exact Bk.new _ _ _
 have hz0 : W0.heap.size = w.heap.size + 1 := by rw [← hW0, World.size_alloc]
 obtain ⟨K0, k1, k2⟩ : ∃ K0 : Nat → Nat, (∀ b, b < w.heap.size → K0 b = K b) ∧ ∀ b, w.heap.size ≤ b → K0 b = 40 := ⟨fun b => if b < w.heap.size then K b else 40, fun b hb => if_pos hb, fun b hb => if_neg (by omega)⟩
 have hs0 : SdS t K0 W0 st sm d v S (some (port, [q])) (some (s, b, sp)) := hs.keep (Chg.of_below (F := fun _ => False) hb0) (fun _ _ _ e => e) (fun b hb _ => k1 b hb)
 have hbA : Below W0.heap.size W0 (W0.alloc (.cells (dgC 0 0 0 0 nilS) 101)) := (Below.refl _ _).alloc (Nat.le_refl _) _
 have HR1 := Lib.hid (hrecv_one t K0 W0.drew d v S port q (hs0.hs.drewN 1))
 have HR2 := Lib.hid (hrecv_one t K0 (W0.alloc (.cells (dgC 0 0 0 0 nilS) 101)).drew d v S port q ((hs0.below hbA).hs.drewN 1))
 unfold dgC at HR1 HR2
 have n4 : ∀ b, K0 b = 40 → ¬ K0 b = t + 4 := fun b h e => by omega
 have n8 : ∀ b, K0 b = t + 8 → ¬ K0 b = t + 4 := fun b h e => by omega
 have hwl := hw.lt
 have hkw0 : K0 wk = 40 := (k1 _ hw.lt).trans hkw
 have hkg0 : K0 gs = 40 := (k1 _ hgs.lt).trans hkg
 have hkc0 : K0 gc = 40 := (k1 _ hc.lt).trans hkc
 have hw0 := hw.below hb0 hw.lt
 have hg0 := hgs.below hb0 hgs.lt
 have hc0 := hc.below hb0 hc.lt
 have HX := Lib.hid (And.intro hs0 (And.intro hw0 (And.intro hg0 (And.intro hc0 (And.intro hr0 (And.intro hz0 (And.intro k1 (And.intro k2 (And.intro hb0 (And.intro hkw0 (And.intro hkg0 (And.intro hkc0 (And.intro hq (And.intro hnn (And.intro ht hwl)))))))))))))))
 have y0 : W0.drew.cell? ⟨wk, 0, none⟩ = some (bp st) := hw0.cell 0
 have s0 : W0.drew.cell? ⟨st, 0, none⟩ = some (bp d.h) := hs0.stk.cell 0
 have g0 : W0.drew.cell? ⟨gs, 0, none⟩ = some (bp s) := hg0.cell 0
 have f0 : W0.drew.cell? ⟨s, 0, none⟩ = some (.int .i64 0) := hs0.sk.2.1.cell 0
 have y0a : (W0.alloc (.cells #[.int .u32 0, .int .i64 0, .int .u32 0, .int .i64 0, .slice none 0 0] 101)).drew.cell? ⟨wk, 0, none⟩ = some (bp st) := (hw0.alloc _).cell 0
 have s0a : (W0.alloc (.cells #[.int .u32 0, .int .i64 0, .int .u32 0, .int .i64 0, .slice none 0 0] 101)).drew.cell? ⟨st, 0, none⟩ = some (bp d.h) := (hs0.stk.alloc _).cell 0
 have g0a : (W0.alloc (.cells #[.int .u32 0, .int .i64 0, .int .u32 0, .int .i64 0, .slice none 0 0] 101)).drew.cell? ⟨gs, 0, none⟩ = some (bp s) := (hg0.alloc _).cell 0
 have f0a : (W0.alloc (.cells #[.int .u32 0, .int .i64 0, .int .u32 0, .int .i64 0, .slice none 0 0] 101)).drew.cell? ⟨s, 0, none⟩ = some (.int .i64 0) := (hs0.sk.2.1.alloc _).cell 0
 have HC1 : Hid (∀ w1, Chg (fun b => K0 b = t + 4) W0.drew w1 → w1.cell? ⟨wk, 0, none⟩ = some (bp st) ∧ w1.cell? ⟨st, 0, none⟩ = some (bp d.h) ∧ w1.cell? ⟨gs, 0, none⟩ = some (bp s) ∧ w1.cell? ⟨s, 0, none⟩ = some (.int .i64 0)) := Lib.hid (fun w1 z => ⟨(hw0.chg (Chg.undr z) (n4 _ hkw0)).cell 0, (hs0.stk.chg (Chg.undr z) (n8 _ hs0.kst)).cell 0, (hg0.chg (Chg.undr z) (n4 _ hkg0)).cell 0, (hs0.sk.2.1.chg (Chg.undr z) (n8 _ hs0.sk.2.2)).cell 0⟩)
 have HC2 : Hid (∀ w1, Chg (fun b => K0 b = t + 4) (W0.alloc (.cells (dgC 0 0 0 0 nilS) 101)).drew w1 → (w1.cell? ⟨wk, 0, none⟩ = some (bp st) ∧ w1.cell? ⟨st, 0, none⟩ = some (bp d.h) ∧ w1.cell? ⟨gs, 0, none⟩ = some (bp s) ∧ w1.cell? ⟨s, 0, none⟩ = some (.int .i64 0)) ∧ Bk w1 W0.heap.size 101 (dgC 0 0 0 0 nilS)) := Lib.hid (fun w1 z => ⟨⟨((hw0.alloc _).chg (Chg.undr z) (n4 _ hkw0)).cell 0, ((hs0.stk.alloc _).chg (Chg.undr z) (n8 _ hs0.kst)).cell 0, ((hg0.alloc _).chg (Chg.undr z) (n4 _ hkg0)).cell 0, ((hs0.sk.2.1.alloc _).chg (Chg.undr z) (n8 _ hs0.sk.2.2)).cell 0⟩, (Bk.new W0 _ _).chg (Chg.undr z) (n4 _ (k2 _ (by omega)))⟩)
 have HW0 : Hid (w.alloc (.cells #[.int .i64 0, .int .i64 0, .int .i64 0, .int .u32 0, .int .i64 0, .slice none 0 0] 65) = W0) := Lib.hid hW0
 have hneq : wk ≠ W0.heap.size ∧ st ≠ W0.heap.size ∧ gs ≠ W0.heap.size ∧ s ≠ W0.heap.size := ⟨by have := hw0.lt; omega, by have := hs0.stk.lt; omega, by have := hg0.lt; omega, by have := hs0.sk.2.1.lt; omega⟩
 obtain ⟨ne1, ne2, ne3, ne4⟩ := hneq
 have em1 := Ne.symm ne1
 have em2 := Ne.symm ne2
 have em3 := Ne.symm ne3
 have em4 := Ne.symm ne4
 clear hs hw hgs hc hb0 hr0 hz0 hs0 hw0 hg0 hc0 hW0 k1 k2 hkw hkg hkc hkw0 hkg0 hkc0 hq hnn ht hbA n4 n8 hwl
 go_enter Tryz.func425, Tryz.ntmps425
 go_upto_region 1 with (fail)
 rw [HW0.out]
 go_region_held3 (fun w' => w'.cell? ⟨wk, 0, none⟩ = some (bp st) ∧ w'.cell? ⟨st, 0, none⟩ = some (bp d.h) ∧ w'.cell? ⟨gs, 0, none⟩ = some (bp s) ∧ w'.cell? ⟨s, 0, none⟩ = some (.int .i64 0))
  (first | (with_reducible exact ⟨by assumption, by assumption, by assumption, by assumption⟩) | go_keep)
  (first
   | (go_at_call 352; with_reducible refine HR1.out.mono ?_; rintro e1 w1 ⟨dA, dn, dc, rfl, hrow, hch⟩; have ⟨p0, p1, p2, p3⟩ := HC1.out w1 hch)
   | (go_at_call 352; refine HR2.out.mono ?_; rintro e1 w1 ⟨dA, dn, dc, rfl, hrow, hch⟩; have ⟨⟨p0, p1, p2, p3⟩, hbx⟩ := HC2.out w1 hch; have x0 : w1.cell? ⟨W0.heap.size, 0, none⟩ = some (.int .u32 0) := hbx.cell 0; have x1 : w1.cell? ⟨W0.heap.size, 1, none⟩ = some (.int .i64 0) := hbx.cell 1; have x2 : w1.cell? ⟨W0.heap.size, 2, none⟩ = some (.int .u32 0) := hbx.cell 2; have x3 : w1.cell? ⟨W0.heap.size, 3, none⟩ = some (.int .i64 0) := hbx.cell 3; have x4 : w1.cell? ⟨W0.heap.size, 4, none⟩ = some (.slice none 0 0) := hbx.cell 4; have o0 := hbx.frozen 0; have o1 := hbx.frozen 1; have o2 := hbx.frozen 2; have o3 := hbx.frozen 3; have o4 := hbx.frozen 4))
 ·skip
  have hbk5 : Bk (w1.alloc (.cells #[.int .u32 q.fr, .int .i64 q.fp, .int .u32 q.to_, .int .i64 q.tp, .slice dA dn dc] 101)) w1.heap.size 101 (dgC q.fr q.fp q.to_ q.tp (.slice dA dn dc)) := Bk.new _ _ _
  have hc5 : Chg (fun b => K0 b = t + 4 ∨ W0.heap.size ≤ b) W0 (w1.alloc (.cells #[.int .u32 q.fr, .int .i64 q.fp, .int .u32 q.to_, .int .i64 q.tp, .slice dA dn dc] 101)) := ((Chg.undr hch).mono (fun _ _ e => .inl e)).alloc _
  have hrow5 : RowAt (w1.alloc (.cells #[.int .u32 q.fr, .int .i64 q.fp, .int .u32 q.to_, .int .i64 q.tp, .slice dA dn dc] 101)) (fun b => K0 b = t + 4) (.slice dA dn dc) q.data := hrow.keep (fun b _ hl => Below.heap_alloc w1 _ b hl) (fun _ h => h)
  clear p0 p1 p2 p3 hrow hch y0 s0 g0 f0 y0a s0a g0a f0a ne1 ne2 ne3 ne4 em1 em2 em3 em4
  generalize w1.alloc (.cells #[.int .u32 q.fr, .int .i64 q.fp, .int .u32 q.to_, .int .i64 q.tp, .slice dA dn dc] 101) = w5 at hbk5 hc5 hrow5 ⊢
  generalize w1.heap.size = gd at hbk5 ⊢
  have u0 : w5.cell? ⟨gd, 0, none⟩ = some (.int .u32 q.fr) := hbk5.cell 0
  have u1 : w5.cell? ⟨gd, 1, none⟩ = some (.int .i64 q.fp) := hbk5.cell 1
  have u4 : w5.cell? ⟨gd, 4, none⟩ = some (.slice dA dn dc) := hbk5.cell 4
  obtain ⟨hs0, hw0, hg0, hc0, hr0, hz0, k1, k2, hb0, hkw0, hkg0, hkc0, hq, hnn, ht, hwl⟩ := HX.out
  have nk : ∀ b, b < W0.heap.size → K0 b = 40 → ¬ (K0 b = t + 4 ∨ W0.heap.size ≤ b) := fun b hb h e => by rcases e with e | e <;> omega
  have c5 : w5.cell? ⟨gc, 5, none⟩ = some (.int .i64 nn) := (hc0.chg hc5 (nk _ hc0.lt hkc0)).cell 5
  have hr5 := hr0.chg hc5 (nk _ hr0.lt (k2 _ (Nat.le_refl _)))
  have hw5 := hw0.chg hc5 (nk _ hw0.lt hkw0)
  have hst5 := hs0.stk.chg hc5 (fun e => by have := hs0.kst; have := hs0.stk.lt; rcases e with e | e <;> omega)
  obtain ⟨A', n', c', e', ho, hob, hbs, hmx⟩ := hrow5
  injection e' with ea eb ec
  subst ea eb ec
  have hlen := OB.length ho
  have hcap := Ow.cap ho
  obtain ⟨db, dof, rfl, _⟩ := RB.at_ (OB.rb ho) (k := 0) hq.1
  have HF := Lib.hid (And.intro hr5 (And.intro hw5 (And.intro hst5 (And.intro ho (And.intro hob (And.intro hbs (And.intro hmx (And.intro hlen hc5))))))))
  have hle : (dn : Int) ≤ nn := by have := hq.2; omega
  have hle2 : ¬ nn < (dn : Int) := by omega
  have hmin : min nn (dn : Int) = (dn : Int) := by omega
  have hcap2 : (dn : Int) ≤ (dc : Int) := by omega
  clear hs0 hw0 hg0 hc0 hr0 hz0 k1 k2 hb0 hkw0 hkg0 hkc0 hq hnn ht hwl nk hr5 hw5 hst5 ho hob hbs hmx hlen hc5
  go_wp2_with (first
   | (refine st_box 65 rfl (.tmp 4) (.tmp 44) rfl rfl rfl (cs := retC 0 dn q.fr q.fp (.slice (some ⟨db, dof, none⟩) dn dc)) rfl HF.out.1 ret_size rfl (retC_all _ _ _ _ _ _ _) ?_; intro w6 hb6 g6 s6))
  refine bodyPost_ret (results_b1 rfl _ _ w.heap.size 65 (retC 0 dn q.fr q.fp (.slice (some ⟨db, dof, none⟩) dn dc)) (0, 0) _ rfl hb6 Tryz.underlying65 rfl ret_size) rfl ?_
  obtain ⟨hs0, hw0, hg0, hc0, hr0, hz0, k1, k2, hb0, hkw0, hkg0, hkc0, hq, hnn, ht, hwl⟩ := HX.out
  obtain ⟨hr5, hw5, hst5, ho, hob, hbs, hmx, hlen, hc5⟩ := HF.out
  have hwr : some wk ≠ some w.heap.size := fun e => by injection e with e; omega
  have hsr : some st ≠ some w.heap.size := fun e => by
   injection e with e
   have := hs0.kst
   rw [e, k2 _ (Nat.le_refl _)] at this
   omega
  have hrow6 : RowAt w6 (fun b => K0 b = t + 4) (.slice (some ⟨db, dof, none⟩) dn dc) q.data := RowAt.keep ⟨_, _, _, rfl, ho, hob, hbs, hmx⟩ (fun b hb hl => g6.block b hl (fun e => by injection e with e; have h40 := k2 _ (Nat.le_refl w.heap.size); rw [← e, hb] at h40; omega)) (fun _ h => h)
  have hcw : Chg (fun b => sideK t (K b) ∨ b = wk) w w6 := ((Chg.of_below (F := fun b => sideK t (K b) ∨ b = wk) hb0).trans hc5 (fun y e => by
   rcases Nat.lt_or_ge y w.heap.size with h | h
   ·rcases e with e | e
    ·left; left; rw [← k1 y h, e]; exact .inl ⟨by omega, by omega⟩
    ·omega
   ·exact .inr h)).trans (Chg.of_grown (F := fun b => b = w.heap.size) g6 (fun b e => by injection e with e; exact e.symm)) (fun y e => .inr (by omega))
  exact ⟨some ⟨db, dof, none⟩, dn, dc, K0, nilS, (by rw [hlen]; rfl), ⟨hst5.grown g6 hsr, hs0.kst, hrow6⟩, hw5.grown g6 hwr, FrR.nil _ _ _, k1, fun b hb => .inr (k2 b hb), hcw⟩
 ·skip
  have hbk5 : Bk (((((w1.setCell ⟨W0.heap.size, 0, none⟩ (.int .u32 q.fr)).setCell ⟨W0.heap.size, 1, none⟩ (.int .i64 q.fp)).setCell ⟨W0.heap.size, 2, none⟩ (.int .u32 q.to_)).setCell ⟨W0.heap.size, 3, none⟩ (.int .i64 q.tp)).setCell ⟨W0.heap.size, 4, none⟩ (.slice dA dn dc)) W0.heap.size 101 (dgC q.fr q.fp q.to_ q.tp (.slice dA dn dc)) := ((((hbx.set 0 _).set 1 _).set 2 _).set 3 _).set 4 _
  have hcx : Chg (fun b => b = W0.heap.size) w1 (((((w1.setCell ⟨W0.heap.size, 0, none⟩ (.int .u32 q.fr)).setCell ⟨W0.heap.size, 1, none⟩ (.int .i64 q.fp)).setCell ⟨W0.heap.size, 2, none⟩ (.int .u32 q.to_)).setCell ⟨W0.heap.size, 3, none⟩ (.int .i64 q.tp)).setCell ⟨W0.heap.size, 4, none⟩ (.slice dA dn dc)) := (((((Chg.refl _ w1).set1 _).set1 _).set1 _).set1 _).set1 _
  have hc5 : Chg (fun b => K0 b = t + 4 ∨ W0.heap.size ≤ b) W0 (((((w1.setCell ⟨W0.heap.size, 0, none⟩ (.int .u32 q.fr)).setCell ⟨W0.heap.size, 1, none⟩ (.int .i64 q.fp)).setCell ⟨W0.heap.size, 2, none⟩ (.int .u32 q.to_)).setCell ⟨W0.heap.size, 3, none⟩ (.int .i64 q.tp)).setCell ⟨W0.heap.size, 4, none⟩ (.slice dA dn dc)) :=
   ((((Chg.refl _ W0).alloc _).trans (Chg.undr hch) (fun x e => .inl (.inl e)))).trans hcx (fun x e => .inr (by omega))
  have hrow5 : RowAt (((((w1.setCell ⟨W0.heap.size, 0, none⟩ (.int .u32 q.fr)).setCell ⟨W0.heap.size, 1, none⟩ (.int .i64 q.fp)).setCell ⟨W0.heap.size, 2, none⟩ (.int .u32 q.to_)).setCell ⟨W0.heap.size, 3, none⟩ (.int .i64 q.tp)).setCell ⟨W0.heap.size, 4, none⟩ (.slice dA dn dc)) (fun b => K0 b = t + 4) (.slice dA dn dc) q.data := hrow.keep (fun b hb hl => hcx.block b hl (fun e => by
   have h40 := HX.out.2.2.2.2.2.2.2.1 W0.heap.size (by have := HX.out.2.2.2.2.2.1; omega)
   rw [← e, hb] at h40
   have := HX.out.2.2.2.2.2.2.2.2.2.2.2.2.2.2.1
   omega)) (fun _ h => h)
  clear p0 p1 p2 p3 hrow hch hcx y0 s0 g0 f0 y0a s0a g0a f0a ne1 ne2 ne3 ne4 em1 em2 em3 em4 hbx x0 x1 x2 x3 x4 o0 o1 o2 o3 o4
  generalize (((((w1.setCell ⟨W0.heap.size, 0, none⟩ (.int .u32 q.fr)).setCell ⟨W0.heap.size, 1, none⟩ (.int .i64 q.fp)).setCell ⟨W0.heap.size, 2, none⟩ (.int .u32 q.to_)).setCell ⟨W0.heap.size, 3, none⟩ (.int .i64 q.tp)).setCell ⟨W0.heap.size, 4, none⟩ (.slice dA dn dc)) = w5 at hbk5 hc5 hrow5 ⊢
  obtain ⟨gd, hgd⟩ : ∃ gd, W0.heap.size = gd := ⟨_, rfl⟩
  rw [hgd] at hbk5 ⊢
  clear hgd
  have u0 : w5.cell? ⟨gd, 0, none⟩ = some (.int .u32 q.fr) := hbk5.cell 0
  have u1 : w5.cell? ⟨gd, 1, none⟩ = some (.int .i64 q.fp) := hbk5.cell 1
  have u4 : w5.cell? ⟨gd, 4, none⟩ = some (.slice dA dn dc) := hbk5.cell 4
  obtain ⟨hs0, hw0, hg0, hc0, hr0, hz0, k1, k2, hb0, hkw0, hkg0, hkc0, hq, hnn, ht, hwl⟩ := HX.out
  have nk : ∀ b, b < W0.heap.size → K0 b = 40 → ¬ (K0 b = t + 4 ∨ W0.heap.size ≤ b) := fun b hb h e => by rcases e with e | e <;> omega
  have c5 : w5.cell? ⟨gc, 5, none⟩ = some (.int .i64 nn) := (hc0.chg hc5 (nk _ hc0.lt hkc0)).cell 5
  have hr5 := hr0.chg hc5 (nk _ hr0.lt (k2 _ (Nat.le_refl _)))
  have hw5 := hw0.chg hc5 (nk _ hw0.lt hkw0)
  have hst5 := hs0.stk.chg hc5 (fun e => by have := hs0.kst; have := hs0.stk.lt; rcases e with e | e <;> omega)
  obtain ⟨A', n', c', e', ho, hob, hbs, hmx⟩ := hrow5
  injection e' with ea eb ec
  subst ea eb ec
  have hlen := OB.length ho
  have hcap := Ow.cap ho
  obtain ⟨db, dof, rfl, _⟩ := RB.at_ (OB.rb ho) (k := 0) hq.1
  have HF := Lib.hid (And.intro hr5 (And.intro hw5 (And.intro hst5 (And.intro ho (And.intro hob (And.intro hbs (And.intro hmx (And.intro hlen hc5))))))))
  have hle : (dn : Int) ≤ nn := by have := hq.2; omega
  have hle2 : ¬ nn < (dn : Int) := by omega
  have hmin : min nn (dn : Int) = (dn : Int) := by omega
  have hcap2 : (dn : Int) ≤ (dc : Int) := by omega
  clear hs0 hw0 hg0 hc0 hr0 hz0 k1 k2 hb0 hkw0 hkg0 hkc0 hq hnn ht hwl nk hr5 hw5 hst5 ho hob hbs hmx hlen hc5
  go_wp2_with (first
   | (refine st_box 65 rfl (.tmp 4) (.tmp 44) rfl rfl rfl (cs := retC 0 dn q.fr q.fp (.slice (some ⟨db, dof, none⟩) dn dc)) rfl HF.out.1 ret_size rfl (retC_all _ _ _ _ _ _ _) ?_; intro w6 hb6 g6 s6))
  refine bodyPost_ret (results_b1 rfl _ _ w.heap.size 65 (retC 0 dn q.fr q.fp (.slice (some ⟨db, dof, none⟩) dn dc)) (0, 0) _ rfl hb6 Tryz.underlying65 rfl ret_size) rfl ?_
  obtain ⟨hs0, hw0, hg0, hc0, hr0, hz0, k1, k2, hb0, hkw0, hkg0, hkc0, hq, hnn, ht, hwl⟩ := HX.out
  obtain ⟨hr5, hw5, hst5, ho, hob, hbs, hmx, hlen, hc5⟩ := HF.out
  have hwr : some wk ≠ some w.heap.size := fun e => by injection e with e; omega
  have hsr : some st ≠ some w.heap.size := fun e => by
   injection e with e
   have := hs0.kst
   rw [e, k2 _ (Nat.le_refl _)] at this
   omega
  have hrow6 : RowAt w6 (fun b => K0 b = t + 4) (.slice (some ⟨db, dof, none⟩) dn dc) q.data := RowAt.keep ⟨_, _, _, rfl, ho, hob, hbs, hmx⟩ (fun b hb hl => g6.block b hl (fun e => by injection e with e; have h40 := k2 _ (Nat.le_refl w.heap.size); rw [← e, hb] at h40; omega)) (fun _ h => h)
  have hcw : Chg (fun b => sideK t (K b) ∨ b = wk) w w6 := ((Chg.of_below (F := fun b => sideK t (K b) ∨ b = wk) hb0).trans hc5 (fun y e => by
   rcases Nat.lt_or_ge y w.heap.size with h | h
   ·rcases e with e | e
    ·left; left; rw [← k1 y h, e]; exact .inl ⟨by omega, by omega⟩
    ·omega
   ·exact .inr h)).trans (Chg.of_grown (F := fun b => b = w.heap.size) g6 (fun b e => by injection e with e; exact e.symm)) (fun y e => .inr (by omega))
  exact ⟨some ⟨db, dof, none⟩, dn, dc, K0, nilS, (by rw [hlen]; rfl), ⟨hst5.grown g6 hsr, hs0.kst, hrow6⟩, hw5.grown g6 hwr, FrR.nil _ _ _, k1, fun b hb => .inr (k2 b hb), hcw⟩
end Go.Proofs.YtaeafkdfbcppgaaGreat
