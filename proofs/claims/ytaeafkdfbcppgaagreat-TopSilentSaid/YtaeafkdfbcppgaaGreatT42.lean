/- Proved: what world.New leaves, as the laws of the stacks take it; a stack is asked for a socket of UDP; a stack is asked to bind its one socket, to send by it, to hand out what waits. Conditions: as each law says. -/
import Derived.Test.YtaeafkdfbcppgaaGreatT37
import Derived.Test.YtaeafkdfbcppgaaGreatT39
import Derived.Test.YtaeafkdfbcppgaaGreatT40
import Derived.Test.YtaeafkdfbcppgaaGreatT41
set_option linter.unusedSectionVars false
set_option linter.unusedSimpArgs false
set_option linter.unusedVariables false
namespace Go.Proofs.YtaeafkdfbcppgaaGreat
open Go.RowKit
theorem row_bk {E : TypeId} {k : Nat} {w : World} {base : Nat} {A : Option Addr} {n c : Nat} {xs : List Value} (h : Mr E k w base A n c xs) {b : Nat} {T : TypeId} {cs : Array Value} (hb : Bk w b T cs) (hne : E ≠ T) : blk A ≠ some b := fun e => by
 rcases h.2 with ⟨h2, _⟩ | ⟨g, cap, cur, h2, _, h3, _⟩
 ·injection h2 with q1; subst q1; cases e
 ·injection h2 with q1
  subst q1
  injection e with e
  subst e
  unfold Bk at hb
  rw [h3] at hb
  injection hb with hb
  injection hb with _ hb
  exact hne hb
def newK (t : Nat) (st sm : Nat) (d : HD) (b : Nat) : Nat := if b = d.h then t else if b = d.plc then t + 4 else if b = st then t + 8 else if b = sm then t + 8 else t + 1
theorem sds_first (t : Nat) (K : Nat → Nat) (w : World) (F : Nat → Prop) (st sm : Nat) (d : HD) (m : Int × Int × Int × Int × Int × Int) (a : Int) (h : Idle w F st sm d m a) (ha : okH a) (hoa : okA a) (hm : Bs [m.1, m.2.1, m.2.2.1, m.2.2.2.1, m.2.2.2.2.1, m.2.2.2.2.2]) (hK : ∀ b, F b → K b = newK t st sm d b) :
  SdS t K w st sm d (hv0 m a d.S d.bk d.plc d.arr) [] none none := by
 obtain ⟨hs, hsm, ⟨_, hne⟩, hp⟩ := h
 obtain ⟨⟨hb, e1, e2, e3, e4, e5, hr, hbw, har, f1, f2, f3, f4, f5⟩, hst, f6, f7, f8⟩ := hs
 have n1 : d.plc ≠ d.h := fun e => im_bk hp (by rw [e]; exact hb)
 have n2 : d.arr ≠ d.h := fun e => im_bk har (by rw [e]; exact hb)
 have n4 : d.bk ≠ d.plc := fun e => by obtain ⟨_, _, _, _, hk⟩ := hbw; exact im_bk hp (by rw [← e]; exact hk)
 have n5 : d.arr ≠ d.plc := by unfold arrL at har; exact im_im har hp
 have n6 : st ≠ d.h := bk_bk hst hb (by decide)
 have n7 : st ≠ d.plc := fun e => im_bk hp (by rw [← e]; exact hst)
 have n8 : sm ≠ d.h := fun e => im_bk hsm (by rw [e]; exact hb)
 have n9 : d.arr ≠ sm := by unfold arrL at har; exact im_im har hsm
 have n10 : d.arr ≠ st := fun e => im_bk har (by rw [e]; exact hst)
 have n11 : d.bk ≠ sm := fun e => by obtain ⟨_, _, _, _, hk⟩ := hbw; exact im_bk hsm (by rw [← e]; exact hk)
 have n12 : d.bk ≠ st := by obtain ⟨_, _, _, _, hk⟩ := hbw; exact bk_bk hk hst (by decide)
 have n3 : d.bk ≠ d.h := by obtain ⟨_, _, _, _, hk⟩ := hbw; exact bk_bk hk hb (by decide)
 have kt : ∀ b, F b → b ≠ d.h → b ≠ d.plc → b ≠ st → b ≠ sm → K b = t + 1 := fun b q h1 h2 h3 h4 => by rw [hK b q]; unfold newK; rw [if_neg h1, if_neg h2, if_neg h3, if_neg h4]
 have nodes : ∀ b, d.S < b → b ≤ d.S + 24 → K b = t + 1 ∨ b = d.h := fun b h1 h2 => by
  by_cases q : b = d.h
  ·exact .inr q
  ·have hn : ∃ T cs, Bk w b T cs ∧ T ≠ 195 := by
    rcases Nat.lt_or_ge b (d.S + 24) with h3 | h3
    ·have h4 := hr.nodes (b - d.S) (by omega) (by omega)
     rw [show d.S + (b - d.S) = b by omega] at h4
     exact ⟨_, _, h4, by decide⟩
    ·have h4 := hr.last
     rw [show d.S + 24 = b by omega] at h4
     exact ⟨_, _, h4, by decide⟩
   obtain ⟨T, cs, hn, hT⟩ := hn
   exact .inl (kt b (f2 b h1 h2) q (fun e => im_bk hp (by rw [← e]; exact hn)) (fun e => bk_bk hn hst hT e) (fun e => im_bk hsm (by rw [← e]; exact hn)))
 have hho : HostS t K w d (hv0 m a d.S d.bk d.plc d.arr) [] [] none := by
  refine ⟨by rw [hK _ f1]; unfold newK; rw [if_pos rfl], ⟨hb, e1, e2, e3, e4, e5, hr, hbw, har, .inr rfl, nodes, fun b e => .inl (kt b (f3 b e) (fun q => row_bk hr.row hb (by decide) (by rw [e, q])) (fun q => im_row hr.row hp (by rw [e, q])) (fun q => row_bk hr.row hst (by decide) (by rw [e, q])) (fun q => im_row hr.row hsm (by rw [e, q]))), .inl (kt _ f4 n3 n4 n12 n11), .inl (kt _ f5 n2 n5 n10 n9)⟩,
   CacheAt.new hb (.inr rfl), ⟨fun b => b = d.h, sto_new w d.h hb, fun b e => .inr e⟩, ⟨rfl, hp, by show K d.plc = t + 4; rw [hK _ f8]; unfold newK; rw [if_neg n1, if_pos rfl]⟩, fun n x hn hx => ?_, ⟨by show (1 : Int) ≤ 1; omega, by show (1 : Int) ≤ 65535; omega⟩, ⟨ha, rfl, hoa⟩, fun p hp => (by cases hp), hm⟩
  rw [ctr_at n hn] at hx
  injection hx with hx
  injection hx with _ hx
  subst hx
  rcases n with _ | _ | _ | _ | _ | _ | _ | _ | _ | _ | _ | _ | _ | _ | _ | _ | _ | n
  all_goals exact ⟨Int.le_refl 0, by show (0 : Int) ≤ _; omega⟩
 exact ⟨hst, hho, hsm, by rw [hK _ f6]; unfold newK; rw [if_neg n6, if_neg n7, if_pos rfl], by rw [hK _ f7]; unfold newK; rw [if_neg n8, if_neg hne]; split <;> simp⟩
open Go.RowKit
def DoR (t : Nat) (K : Nat → Nat) (w : World) (L : List (List Int)) (n a p : Int) (Q : Value → (Nat → Nat) → World → Prop) (e : Ending) (w' : World) : Prop :=
 ∃ dA dn dc K' x y, e = .returned (.tuple #[y, x]) ∧ Q (.slice dA dn dc) K' w' ∧ RtR K' w' w.heap.size y n a p (.slice dA dn dc) ∧ FrR K' w' w.heap.size x L ∧ (∀ b, b < w.heap.size → K' b = K b) ∧ (∀ b, w.heap.size ≤ b → sideK t (K' b) ∨ K' b = 40) ∧ Chg (fun b => sideK t (K b)) w w'
theorem do_end {t : Nat} (ht : t ≤ 20) {K K0 : Nat → Nat} {w w5 w6 : World} {wk st sm h : Nat} {now draw : Int} {tried : Value} {L : List (List Int)} {n a p : Int} {Q : Value → (Nat → Nat) → World → Prop} {e : Ending} (hQ : Stab t Q) (hQs : ∀ dv K w, Q dv K w → Bk w st 195 #[bp h, .map (some sm), nilS])
  (hk0 : ∀ b, b < w.heap.size → K0 b = K b) (hk1 : ∀ b, w.heap.size ≤ b → K0 b = 40) (hc : Below w.heap.size w w5) (hwk : w.heap.size ≤ wk) (hT : TrR t K0 w5 wk st now draw tried L n a p Q e w6) :
  ∃ y x, e = .returned (.bool true) ∧ Bk w6 wk 374 (swC st now draw y x tried) ∧ Bk w6 st 195 #[bp h, .map (some sm), nilS] ∧ ∀ nq, DoR t K w L n a p Q (.returned (.tuple #[y, x])) (w6.drewN nq) := by
 obtain ⟨dA, dn, dc, K', x, y, rfl, hq, hw, hr, hf, k1, k2, k3⟩ := hT
 have hl := hc.size
 have hl2 := k3.size
 refine ⟨y, x, rfl, hw, hQs _ _ _ hq, fun nq => ⟨dA, dn, dc, K', x, y, rfl, hQ _ _ _ _ _ (fun _ => False) hq ((Chg.refl _ w6).drewN nq) (fun _ _ _ e => e) (fun _ _ _ => rfl), hr.keep (fun _ _ _ _ => rfl) (fun b h1 h2 _ => ⟨h1, by omega⟩), hf.keep (fun _ _ _ _ => rfl) (fun b h1 h2 _ => ⟨h1, by omega⟩), fun b hb => (k1 b (by omega)).trans (hk0 b hb), fun b hb => ?_, ?_⟩⟩
 ·rcases Nat.lt_or_ge b w5.heap.size with h' | h'
  ·right; rw [k1 b h']; exact hk1 b hb
  ·exact k2 b h'
 ·refine ((Chg.of_below (F := fun b => sideK t (K b)) hc).trans k3 (fun y e => ?_)).drewN nq
  rcases e with e | e
  ·rcases Nat.lt_or_ge y w.heap.size with h' | h'
   ·left; rw [← hk0 y h']; exact e
   ·exact .inr h'
  ·exact .inr (by omega)
set_option maxHeartbeats 8000000 in
set_option maxRecDepth 100000 in
theorem do_socket (t : Nat) (ht : t ≤ 20) (K : Nat → Nat) (w : World) (st sm : Nat) (d : HD) (v : HV) (S : List En) (P : Option (Int × List Dg)) (now draw : Int) (hs : SdS t K w st sm d v S P none) :
  Calls Tryz.prog 117 #[bp st, .agg (callC 1 0 0 0 17 nilS now draw)] w (DoR t K w [] 0 0 0 (fun _ K' w' => ∃ s, SdS t K' w' st sm d v S P (some (s, false, 0)))) := by
 obtain ⟨W, hW⟩ : ∃ W, (w.alloc (.cells (callC 1 0 0 0 17 nilS now draw) 39)).alloc (.cells (swC st now draw nilS nilS (.pointer none)) 374) = W := ⟨_, rfl⟩
 have hb0 : Below w.heap.size w W := by rw [← hW]; exact ((Below.refl _ _).alloc (Nat.le_refl _) _).alloc (by simp) _
 have hz0 : W.heap.size = w.heap.size + 2 := by rw [← hW]; simp
 have hg0 : Bk W w.heap.size 39 (callC 1 0 0 0 17 nilS now draw) := by rw [← hW]; exact (Bk.new _ _ _).alloc _
 have hk0 : Bk W (w.heap.size + 1) 374 (swC st now draw nilS nilS (.pointer none)) := by
  rw [← hW]
  have := Bk.new (w.alloc (.cells (callC 1 0 0 0 17 nilS now draw) 39)) 374 (swC st now draw nilS nilS (.pointer none))
  rwa [World.size_alloc] at this
 have HWT := Lib.hid (waits_nil st d.h sm 0 W (hs.below hb0).stk)
 have HX := Lib.hid (And.intro hs (And.intro hb0 (And.intro hz0 (And.intro hg0 (And.intro hk0 ht)))))
 have HW : Hid ((w.alloc (.cells #[.int .i64 1, .int .i64 0, .int .i64 0, .int .u32 0, .int .i64 0, .int .i64 17, .slice none 0 0, .int .i64 now, .int .i64 draw] 39)).alloc (.cells #[bp st, .int .i64 now, .int .i64 draw, .slice none 0 0, .slice none 0 0, .pointer none] 374) = W) := Lib.hid hW
 clear hW hb0 hz0 hg0 hk0 hs ht
 unfold callC
 go_enter Tryz.func117, Tryz.ntmps117
 go_wp2_with fail
 rw [HW.out]
 refine HWT.out.mono ?_
 rintro e1 w1 ⟨rfl, hB1⟩
 have hg1 := HX.out.2.2.2.1.below hB1 (Bk.lt HX.out.2.2.2.1)
 have z0 : w1.cell? ⟨w.heap.size, 0, none⟩ = some (.int .i64 1) := hg1.cell 0
 have z1 : w1.cell? ⟨w.heap.size, 1, none⟩ = some (.int .i64 0) := hg1.cell 1
 have z6 : w1.cell? ⟨w.heap.size, 6, none⟩ = some nilS := hg1.cell 6
 have HB1 := Lib.hid hB1
 have HG1 := Lib.hid hg1
 clear hB1 hg1
 go_wp2_with fail
 refine (oclone_any none 0 0 0 [] rfl (by omega) w1 (fun h => absurd h (by simp [by8])) (Nat.zero_le _)).mono ?_
 rintro e2 w2 ⟨A2, c2, rfl, ho2, hB2⟩
 have hg2 := HG1.out.below hB2 (Bk.lt HG1.out)
 have z6' : w2.cell? ⟨w.heap.size, 6, none⟩ = some nilS := hg2.cell 6
 have zf6 := hg2.frozen 6
 obtain ⟨W3, hW3⟩ : ∃ W3, w2.setCell ⟨w.heap.size, 6, none⟩ (.slice A2 0 c2) = W3 := ⟨_, rfl⟩
 have hg3 : Bk W3 w.heap.size 39 (callC 1 0 0 0 17 (.slice A2 0 c2) now draw) := by rw [← hW3]; exact hg2.set 6 _
 have hB3 : Below w.heap.size w W3 := by
  rw [← hW3]
  exact Below.set1 ((HX.out.2.1.trans (HB1.out.mono HX.out.2.1.size)).trans (hB2.mono (by have := HX.out.2.1.size; have := HB1.out.size; omega))) (Nat.le_refl _) _
 have hl3 : W.heap.size ≤ W3.heap.size := by rw [← hW3, size_setCell]; have := HB1.out.size; have := hB2.size; omega
 have hk3 : Bk W3 (w.heap.size + 1) 374 (swC st now draw nilS nilS (.pointer none)) := by
  rw [← hW3]
  refine Bk.far ((HX.out.2.2.2.2.1.below HB1.out (Bk.lt HX.out.2.2.2.2.1)).below hB2 (Nat.lt_of_lt_of_le (Bk.lt HX.out.2.2.2.2.1) HB1.out.size)) ?_ _
  show w.heap.size + 1 ≠ w.heap.size
  omega
 have hs3 := HX.out.1.below hB3
 have hm3 : IM mkI okI W3 sm [] := hs3.sk
 have x1 : W3.cell? ⟨w.heap.size, 1, none⟩ = some (.int .i64 0) := hg3.cell 1
 have x2 : W3.cell? ⟨w.heap.size, 2, none⟩ = some (.int .i64 0) := hg3.cell 2
 have x0 : W3.cell? ⟨w.heap.size, 0, none⟩ = some (.int .i64 1) := hg3.cell 0
 have s1 : W3.cell? ⟨st, 1, none⟩ = some (.map (some sm)) := hs3.stk.cell 1
 have hlk : (Instr.lookup 192 (.map (some sm)) (.int .i64 0) false).run Tryz.prog W3.drew = .ok Value.nilIface W3.drew := IM.look (hm3.drewN 1) keyI Tryz.underlying192 (zeroIface _) (show okI 0 by unfold okI; omega) false
 have HW3 := Lib.hid hW3
 have HY := Lib.hid (And.intro hg3 (And.intro hB3 (And.intro hl3 (And.intro hk3 (And.intro hs3 ho2)))))
 clear z0 z1 z6 hg2 hW3 hg3 hB3 hl3 hk3 hs3 hm3 ho2 hB2
 go_upto_region 5 with (fail)
 rw [HW3.out]
 go_region
 have hx4 : Bk ((W3.alloc (.cells #[.int .i64 0, Value.nilIface, Value.nilFunc, .int .i64 0] 380)).drew) W3.heap.size 380 #[.int .i64 0, Value.nilIface, Value.nilFunc, .int .i64 0] := Bk.new W3 _ _
 have hB4 : Below W3.heap.size W3 ((W3.alloc (.cells #[.int .i64 0, Value.nilIface, Value.nilFunc, .int .i64 0] 380)).drew) := ((Below.refl _ _).alloc (Nat.le_refl _) _).drew
 generalize (W3.alloc (.cells #[.int .i64 0, Value.nilIface, Value.nilFunc, .int .i64 0] 380)).drew = W4 at hx4 hB4 ⊢
 obtain ⟨hg3, hB3, hl3, hk3, hs3, ho2⟩ := HY.out
 have hz0 := HX.out.2.2.1
 obtain ⟨x, hx⟩ : ∃ x, W3.heap.size = x := ⟨_, rfl⟩
 have hg4 := hg3.below hB4 hg3.lt
 have hk4 := hk3.below hB4 hk3.lt
 have hBw4 : Below w.heap.size w W4 := hB3.trans (hB4.mono hB3.size)
 rw [hx] at hx4 ⊢
 have y0 : W4.cell? ⟨w.heap.size, 0, none⟩ = some (.int .i64 1) := hg4.cell 0
 have y1 : W4.cell? ⟨x, 1, none⟩ = some Value.nilIface := hx4.cell 1
 have yf1 := hx4.frozen 1
 obtain ⟨W5, hW5⟩ : ∃ W5, W4.setCell ⟨x, 1, none⟩ Value.nilIface = W5 := ⟨_, rfl⟩
 have hxw : w.heap.size ≠ x ∧ w.heap.size + 1 ≠ x := by omega
 have hg5 : Bk W5 w.heap.size 39 (callC 1 0 0 0 17 (.slice A2 0 c2) now draw) := by rw [← hW5]; exact hg4.far hxw.1 _
 have hk5 : Bk W5 (w.heap.size + 1) 374 (swC st now draw nilS nilS (.pointer none)) := by rw [← hW5]; exact hk4.far hxw.2 _
 have hx5 : Bk W5 x 380 #[.int .i64 0, Value.nilIface, Value.nilFunc, .int .i64 0] := by rw [← hW5]; exact hx4.set 1 _
 have hB5 : Below w.heap.size w W5 := by rw [← hW5]; exact Below.set1 hBw4 (by have := hB3.size; show w.heap.size ≤ x; omega) _
 have z0 : W5.cell? ⟨w.heap.size, 0, none⟩ = some (.int .i64 1) := hg5.cell 0
 have z1 : W5.cell? ⟨w.heap.size, 1, none⟩ = some (.int .i64 0) := hg5.cell 1
 have z2 : W5.cell? ⟨w.heap.size, 2, none⟩ = some (.int .i64 0) := hg5.cell 2
 have z3 : W5.cell? ⟨w.heap.size, 3, none⟩ = some (.int .u32 0) := hg5.cell 3
 have z4 : W5.cell? ⟨w.heap.size, 4, none⟩ = some (.int .i64 0) := hg5.cell 4
 have z5 : W5.cell? ⟨w.heap.size, 5, none⟩ = some (.int .i64 17) := hg5.cell 5
 have z6 : W5.cell? ⟨w.heap.size, 6, none⟩ = some (.slice A2 0 c2) := hg5.cell 6
 have z7 : W5.cell? ⟨w.heap.size, 7, none⟩ = some (.int .i64 now) := hg5.cell 7
 have z8 : W5.cell? ⟨w.heap.size, 8, none⟩ = some (.int .i64 draw) := hg5.cell 8
 have hgc : Bk (W5.alloc (.cells (callC 1 0 0 0 17 (.slice A2 0 c2) now draw) 39)) W5.heap.size 39 (callC 1 0 0 0 17 (.slice A2 0 c2) now draw) := Bk.new _ _ _
 have q2 : ∀ o, (W5.alloc o).cell? ⟨x, 2, none⟩ = some Value.nilFunc := fun o => (hx5.alloc o).cell 2
 have qf2 : ∀ o, (W5.alloc o).frozen? ⟨x, 2, none⟩ = false := fun o => (hx5.alloc o).frozen 2
 obtain ⟨W7, hW7⟩ : ∃ W7, (W5.alloc (.cells (callC 1 0 0 0 17 (.slice A2 0 c2) now draw) 39)).setCell ⟨x, 2, none⟩ (.func (.func 254) #[] #[bp W5.heap.size]) = W7 := ⟨_, rfl⟩
 have hxl5 := hx5.lt
 have hx7 : Bk W7 x 380 (wtC Value.nilIface 254 #[bp W5.heap.size]) := by rw [← hW7]; exact (hx5.alloc _).set 2 _
 have hgc7 : Bk W7 W5.heap.size 39 (callC 1 0 0 0 17 (.slice A2 0 c2) now draw) := by rw [← hW7]; exact hgc.far (by show W5.heap.size ≠ x; omega) _
 have hk7 : Bk W7 (w.heap.size + 1) 374 (swC st now draw nilS nilS (.pointer none)) := by rw [← hW7]; exact (hk5.alloc _).far hxw.2 _
 have hB7 : Below w.heap.size w W7 := by rw [← hW7]; exact Below.set1 (hB5.alloc hB5.size _) (by have := hB3.size; show w.heap.size ≤ x; omega) _
 obtain ⟨K0, k1, k2⟩ : ∃ K0 : Nat → Nat, (∀ b, b < w.heap.size → K0 b = K b) ∧ ∀ b, w.heap.size ≤ b → K0 b = 40 := ⟨fun b => if b < w.heap.size then K b else 40, fun b hb => if_pos hb, fun b hb => if_neg (by omega)⟩
 have hs7 : SdS t K0 W7 st sm d v S P none := HX.out.1.keep (Chg.of_below (F := fun _ => False) hB7) (fun _ _ _ e => e) (fun b hb _ => k1 b hb)
 have ht := HX.out.2.2.2.2.2
 have n40 : ¬ sideK t 40 := by
  rintro (h | h)
  ·exact absurd h.2 (by omega)
  ·omega
 have hQ : Stab t (fun _ K' w' => ∃ s, SdS t K' w' st sm d v S P (some (s, false, 0))) := fun dv K w K' w' G ⟨s, h⟩ hc hG hK => ⟨s, h.keep hc hG hK⟩
 have hxk : (w.heap.size + 1) ≠ W5.heap.size := by have := hk5.lt; omega
 have HTR := Lib.hid (tries_nil t ht K0 W7 st (w.heap.size + 1) x W5.heap.size now draw (.pointer none) [] 0 0 0 _ hQ hk7 (k2 _ (by omega)) hx7 (k2 _ (by have := hB3.size; omega)) (fun K1 w1 j1 j2 hc hw1 =>
  try_socket t K1 w1 st sm d v S P (w.heap.size + 1) W5.heap.size now draw (bp x) (.slice A2 0 c2) 0 0 0 now draw (hs7.keep hc (fun b hb hk e => by rw [e, k2 _ (by omega)] at hk; exact n40 hk) (fun b hb _ => j1 b hb)) hw1 (by rw [j1 _ hk7.lt, k2 _ (by omega)]; exact n40) (hgc7.chg hc (Ne.symm hxk))))
 have HE := Lib.hid (fun e w' (h : TrR t K0 W7 (w.heap.size + 1) st now draw (bp x) [] 0 0 0 _ e w') => do_end (h := d.h) (sm := sm) ht hQ (fun dv K w ⟨s, h⟩ => h.stk) k1 k2 hB7 (by omega) h)
 have HW5 := Lib.hid hW5
 have HW7 : Hid ((W5.alloc (.cells #[.int .i64 1, .int .i64 0, .int .i64 0, .int .u32 0, .int .i64 0, .int .i64 17, .slice A2 0 c2, .int .i64 now, .int .i64 draw] 39)).setCell ⟨x, 2, none⟩ (.func (.func 254) #[] #[bp W5.heap.size]) = W7) := Lib.hid hW7
 clear hx4 hB4 hg3 hB3 hl3 hk3 hs3 ho2 hz0 hx hg4 hk4 hBw4 hxw hg5 hk5 hx5 hB5 hgc hxl5 hx7 hgc7 hk7 hB7 k1 k2 hs7 ht n40 hQ hxk hW5 hW7 x0 x1 x2 s1 hlk z6' zf6
 go_upto_region 9 with (fail)
 rw [HW5.out]
 go_wp2_with fail
 refine (socketed_any _ _).mono ?_
 rintro e6 w6 ⟨rfl, rfl⟩
 go_upto_region 12 with (fail)
 rw [HW7.out]
 go_wp2_with fail
 refine HTR.out.mono ?_
 rintro e8 w8 hT8
 obtain ⟨y, xx, rfl, hw8, hst8, hfin⟩ := HE.out _ _ hT8
 have HFIN := Lib.hid hfin
 have HK8 := Lib.hid hw8
 have HS8 := Lib.hid hst8
 have v3 : w8.cell? ⟨w.heap.size + 1, 3, none⟩ = some y := hw8.cell 3
 have v4 : w8.cell? ⟨w.heap.size + 1, 4, none⟩ = some xx := hw8.cell 4
 clear hT8 hfin hw8 hst8 z0 z1 z2 z3 z4 z5 z6 z7 z8 q2 qf2 y0 y1 yf1
 go_wp2_with fail
 refine (again_nil (w.heap.size + 1) st d.h sm now draw y xx (bp x) _ HK8.out HS8.out).mono ?_
 rintro e9 w9 ⟨rfl, rfl⟩
 go_wp2_with fail
 go_quiet (fail)
 go_wp2
 go_ret2
 exact HFIN.out _
open Go.RowKit
theorem ow_keep {E : TypeId} {w w' : World} {base : Nat} {A : Option Addr} {n c : Nat} {xs : List Value} {G : Nat → Prop} (h : Ow E w base A n c xs) (hc : Chg G w w') (hG : ∀ b, blk A = some b → ¬ G b) : Ow E w' base A n c xs := Pt.keep_ h (fun b hb => hc.block b (Ow.lt h b hb).2 (hG b hb))
theorem AttR.weak {t : Nat} {K : Nat → Nat} {w : World} {wk st : Nat} {now draw : Int} {tried : Value} {L : List (List Int)} {n a p : Int} {Q Q' : Value → (Nat → Nat) → World → Prop} {prog : Program} {f : Nat} {args : Array Value} (h : Calls prog f args w (AttR t K w wk st now draw tried L n a p Q)) (hQ : ∀ dv K w, Q dv K w → Q' dv K w) : Calls prog f args w (AttR t K w wk st now draw tried L n a p Q') :=
 h.mono fun e w' ⟨dA, dn, dc, K', x, h1, h2, h3⟩ => ⟨dA, dn, dc, K', x, h1, hQ _ _ _ h2, h3⟩
theorem RvQ.stab {t st sm h : Nat} {l : List Int} : Stab t (RvQ t st sm h l) := fun dv K w K' w' G ⟨h1, h2, h3⟩ hc hG hK =>
 ⟨h1.chg hc (hG _ h1.lt (by rw [h2]; exact sideK_8)), (hK _ h1.lt (by rw [h2]; exact sideK_8)).trans h2, h3.cap.keep (fun b hb hl => hc.block b hl (hG b hl (.inl ⟨by omega, by omega⟩))) (fun b hb => (hK b hb.2 (.inl ⟨by omega, by omega⟩)).trans hb.1)⟩
end Go.Proofs.YtaeafkdfbcppgaaGreat
