/- Proved: a new world of two sides, as known()'s calls take it; Settle(2) of known(): the ask, its answer and the datagram arrive; two ticks of nothing; a datagram goes across two new hosts of one net: known() answers true. Conditions: as each law says. -/
import Derived.Laws.IdiomStrings
import Derived.Lib.SlBytesConst
import Derived.Test.YtaeafkdfbcppgaaGreatT50
set_option linter.unusedSectionVars false
set_option linter.unusedSimpArgs false
set_option linter.unusedVariables false
namespace Go.Proofs.YtaeafkdfbcppgaaGreat
open Go.RowKit
theorem k_start {w0 w' : World} {W : Nat} {F0 F1 : Nat → Prop} (h : WIdle w' W F0 F1 mcA mcB adA adB 0 0 false) (hW : w0.heap.size ≤ W) (hF : ∀ b, F0 b ∨ F1 b → w0.heap.size ≤ b ∧ b < w'.heap.size) (hB : Below w0.heap.size w0 w') :
  ∃ K st0 sm0 d0 st1 sm1 d1, W2 w0 K w' W st0 sm0 d0 st1 sm1 d1 0 0 false none (newS mcA adA) (newS mcB adB) := by
 classical
 obtain ⟨⟨st0, sm0, d0, st1, sm1, d1, hb, i0, i1⟩, hap, n0, n1⟩ := h
 obtain ⟨K, hK⟩ : ∃ K : Nat → Nat, ∀ b, K b = if b = W then 30 else if F0 b then newK 0 st0 sm0 d0 b else if F1 b then newK 10 st1 sm1 d1 b else 40 := ⟨_, fun _ => rfl⟩
 have k0 : ∀ b, F0 b → K b = newK 0 st0 sm0 d0 b := fun b e => by rw [hK, if_neg (fun q => n0 (by rw [← q]; exact e)), if_pos e]
 have k1 : ∀ b, F1 b → K b = newK 10 st1 sm1 d1 b := fun b e => by rw [hK, if_neg (fun q => n1 (by rw [← q]; exact e)), if_neg (fun q => hap b q e), if_pos e]
 have kl : ∀ b, b < w0.heap.size → K b = 40 := fun b e => by rw [hK, if_neg (by omega), if_neg (fun q => by have := (hF b (.inl q)).1; omega), if_neg (fun q => by have := (hF b (.inr q)).1; omega)]
 refine ⟨K, st0, sm0, d0, st1, sm1, d1, ⟨by rw [hK, if_pos rfl], kl, hB, nilS, hb, none, 0, 0, [], rfl, Mr.none_ _ _ _ _, fun b e => (by cases e), rfl⟩,
  ⟨_, _, _, _, ⟨⟨rfl, rfl, rfl⟩, rfl, rfl, rfl, rfl⟩, sds_first 0 K w' F0 st0 sm0 d0 mcA adA i0 ⟨by decide, by decide, by kernel_rfl⟩ (by unfold okA; decide) (by unfold Bs mcA; decide) k0⟩,
  ⟨_, _, _, _, ⟨⟨rfl, rfl, rfl⟩, rfl, rfl, rfl, rfl⟩, sds_first 10 K w' F1 st1 sm1 d1 mcB adB i1 ⟨by decide, by decide, by kernel_rfl⟩ (by unfold okA; decide) (by unfold Bs mcB; decide) k1⟩⟩
open Go.RowKit
theorem fr_args {w : World} {K : Nat → Nat} {A : Option Addr} {n c : Nat} {l : List Int} (h : RowAt w (fun b => K b = 40) (.slice A n c) l) : RB w w.heap.size A l ∧ l.length = n ∧ n ≤ c ∧ c ≤ maxLen ∧ Bs l ∧ ∀ b, blk A = some b → b < w.heap.size ∧ K b = 40 := by
 obtain ⟨A', n', c', e, h1, h2, h3, h4⟩ := h
 injection e with e1 e2 e3
 subst e1
 subst e2
 subst e3
 exact ⟨OB.rb h1, OB.length h1, Ow.cap h1, Ow.capMax h1, h3, fun b hb => ⟨(Ow.lt h1 b hb).2, h2 b hb⟩⟩
theorem n40 {t k : Nat} (ht : t ≤ 20) (h : k = 40) : ¬ hostK t k := fun e => by unfold hostK at e; omega
theorem sk_nb (t : Nat) (ht : t ≤ 20) (K3 : Nat → Nat) (w3 : World) (st sm : Nat) (d : HD) (m : Int × Int × Int × Int × Int × Int) (draw : Int) (A : Option Addr) (n c : Nat) (l : List Int) (R R' : SayR) (L : List (List Int)) (hr : RowAt w3 (fun b => K3 b = 40) (.slice A n c) l) (hs : SiR t st sm d R K3 w3)
  (he : ethErr l = 0 ∧ rd2 l 12 = 2054 ∧ macE (at8 l 6, at8 l 7, at8 l 8, at8 l 9, at8 l 10, at8 l 11) m = false ∧ takes m (at8 l 0, at8 l 1, at8 l 2, at8 l 3, at8 l 4, at8 l 5) = true)
  (hm : ∀ v S P so, R v S P so → v.m = m) (hR : ∀ v S P so v' S' L', R v S P so → NbR (cnt 0 v) S 0 (l.drop 14) [] v' S' L' → L' = L ∧ R' v' S' P so) :
  Calls Tryz.prog 113 #[bp st, .slice A n c, .int .i64 0, .int .i64 draw] w3 (SkQ t K3 w3 L (fun _ K w => SiR t st sm d R' K w)) := by
 obtain ⟨h1, h2, h3, h4, h5, h6⟩ := fr_args hr
 obtain ⟨v, S, P, so, hv, hs⟩ := hs
 have hmv := hm _ _ _ _ hv
 refine (skframe_of t ht K3 w3 st sm d v S P so 0 draw A n c _ hs (fun K1 w1 a1 a2 a3 => hframe_nb t ht K1 w1 d v S P 0 draw A n c l ((h1.below a2).more a2.size) h2 h3 h4 h5 (fun b hb => ⟨by have := (h6 b hb).1; have := a2.size; omega, n40 ht ((a1 b (h6 b hb).1).trans (h6 b hb).2)⟩) a3 (by omega) he.1 he.2.1 (by rw [hmv]; exact he.2.2.1) (by rw [hmv]; exact he.2.2.2))).mono ?_
 intro e w' q
 refine q.q L R' (fun v' S' P' L' hq => ?_)
 obtain ⟨rfl, hq⟩ := hq
 exact hR _ _ _ _ _ _ _ hv hq
theorem sk_udp (K3 : Nat → Nat) (w3 : World) (st sm : Nat) (d : HD) (draw : Int) (A : Option Addr) (n c : Nat) (hr : RowAt w3 (fun b => K3 b = 40) (.slice A n c) fr3) (hs : SiR 10 st sm d asS K3 w3) :
  Calls Tryz.prog 113 #[bp st, .slice A n c, .int .i64 0, .int .i64 draw] w3 (SkQ 10 K3 w3 [] (fun _ K w => SiR 10 st sm d gtS K w)) := by
 obtain ⟨h1, h2, h3, h4, h5, h6⟩ := fr_args hr
 obtain ⟨v, S, P, so, ⟨hv, hS, rfl, hso⟩, hs⟩ := hs
 have hma := hv.m
 have had := hv.ad
 obtain ⟨f1, f2, f3, f4⟩ := udp_fact
 have f5 := udp_fact2
 obtain ⟨f6, f7, f8, f9, f10, f11, f12⟩ := udp_fact3
 obtain ⟨f13, f14, f15, f16⟩ := udp_fact4
 refine (skframe_of 10 (by omega) K3 w3 st sm d v S (some (9, [])) so 0 draw A n c _ hs (fun K1 w1 a1 a2 a3 => hframe_udp 10 (by omega) K1 w1 d v S 9 0 draw A n c fr3 ((h1.below a2).more a2.size) h2 h3 h4 h5 (fun b hb => ⟨by have := (h6 b hb).1; have := a2.size; omega, n40 (by omega) ((a1 b (h6 b hb).1).trans (h6 b hb).2)⟩) a3
  f1 f2 (by rw [hma]; exact f3) (by rw [hma]; exact f4) f5 (by rw [had]; exact f6) (by rw [f7]; decide) (by rw [had]; exact f8) f9 f10 f11 (by rw [f7, f12]; exact f13) f14 (by rw [f12]; decide))).mono ?_
 intro e w' q
 refine q.q [] gtS (fun v' S' P' L' hq => ?_)
 obtain ⟨rfl, rfl, rfl, rfl⟩ := hq
 refine ⟨rfl, ⟨hv.m, hv.ad, hv.age⟩, hS, ?_, hso⟩
 rw [f7, f12, f15, f16]
 rfl
theorem sk_tick (t : Nat) (ht : t ≤ 20) (K3 : Nat → Nat) (w3 : World) (st sm : Nat) (d : HD) (now draw : Int) (R : SayR) (h0 : 0 ≤ now ∧ now < 600) (hs : SiR t st sm d R K3 w3)
  (hR : ∀ v S P so, R v S P so → v.age = nilS ∧ (∃ a m0 m1 m2 m3 m4 m5, absT S = [(a, learnt m0 m1 m2 m3 m4 m5 0)]) ∧ ∀ S' nv, absT S' = absT S → R { v with near := nv } S' P so) :
  Calls Tryz.prog 116 #[bp st, .int .i64 now, .int .i64 draw] w3 (SkQ t K3 w3 [] (fun _ K w => SiR t st sm d R K w)) := by
 obtain ⟨v, S, P, so, hv, hs⟩ := hs
 obtain ⟨hg, ⟨a, m0, m1, m2, m3, m4, m5, hS⟩, hk⟩ := hR _ _ _ _ hv
 refine (sktick_of t ht K3 w3 st sm d v S P so now draw _ hs (fun K1 w1 a1 a2 a3 => htick_q t ht K1 w1 d v S P now draw (by omega) hg (by have := congrArg List.length hS; unfold absT at this; rw [List.length_map] at this; exact Nat.le_of_eq this) (tick_fact hS h0.2) a3)).mono ?_
 intro e w' q
 refine q.q [] R (fun v' S' P' L' hq => ?_)
 obtain ⟨h1, ⟨nv, rfl⟩, rfl, rfl⟩ := hq
 exact ⟨rfl, hk _ _ h1⟩
def Lo (K : Nat → Nat) (w : World) (W T wb : Nat) : Prop := Bk w wb 33 #[bp W] ∧ K wb = 40 ∧ Bk w T 80 #[nilS, nilS] ∧ K T = 40
theorem Lo.keep {K K' : Nat → Nat} {w w' : World} {W T wb : Nat} {G : Nat → Prop} (h : Lo K w W T wb) (hc : Chg G w w') (hG : ∀ b, K b = 40 → ¬ G b) (hK : ∀ b, b < w.heap.size → K' b = K b) : Lo K' w' W T wb :=
 ⟨h.1.chg hc (hG _ h.2.1), (hK _ h.1.lt).trans h.2.1, h.2.2.1.chg hc (hG _ h.2.2.2), (hK _ h.2.2.1.lt).trans h.2.2.2⟩
theorem k_settle {w0 : World} {K : Nat → Nat} {w : World} {W st0 sm0 : Nat} {d0 : HD} {st1 sm1 : Nat} {d1 : HD} {last : Int} {begun : Bool} (h : W2 w0 K w W st0 sm0 d0 st1 sm1 d1 0 last begun (some (1, fr1)) sdS bdS) :
  Calls Tryz.prog 21 #[bp W, .int .i64 2] w fun e w' => e = .returned (.tuple #[nilS, nilS]) ∧ ∃ K' last', W2 w0 K' w' W st0 sm0 d0 st1 sm1 d1 2 last' true none anS gtS := by
 refine settle_two W w h.lt _ (fun T tb wb w2 b1 b2 b3 b4 b5 b6 b7 => ?_)
 obtain ⟨K1, k0, k1⟩ : ∃ K1 : Nat → Nat, (∀ b, b < w.heap.size → K1 b = K b) ∧ ∀ b, w.heap.size ≤ b → K1 b = 40 := ⟨fun b => if b < w.heap.size then K b else 40, fun b hb => if_pos hb, fun b hb => if_neg (by omega)⟩
 have h1 := h.below b1 k0
 have hl1 : Lo K1 w2 W T wb := ⟨b7, k1 _ b4, b5, k1 _ b2⟩
 have kw1 := h1.wb.kw
 clear b1 b2 b3 b4 b5 b6 b7 k0 k1 h
 refine rd1_1 w0 K1 w2 W st0 st1 0 last begun fr1 [fr2] _ tb wb _ h1.wb hl1.1 hl1.2.1 (by decide) (SiR.stab (R := asS) (st := st1) (sm := sm1) (d := d1))
  (fun K3 w3 A n c a1 a2 a3 => sk_nb 10 (by omega) K3 w3 st1 sm1 d1 mcB _ A n c fr1 bdS asS [fr2] a3 (h1.s1.keep a2 (fun b _ hk e => by
   rcases e with e | e
   ·rw [e, kw1] at hk; exact (sep0 hk).2.1 rfl
   ·exact (sep0 hk).2.2.1 e) (fun b hb _ => a1 b hb)) arp_fact1 (fun v S P so q => q.1.m) (fun v S P so v' S' L' q r => ?_)) ?_
 ·obtain ⟨hv, rfl, hP, hso⟩ := q
  have := ask_fact (v := cnt 0 v) ⟨hv.m, hv.ad, hv.age⟩ r
  exact ⟨this.1, this.2.1, this.2.2, hP, hso⟩
 intro K2 w3 q1 q2 q3 q4
 have h2 : W2 w0 K2 w3 W st0 sm0 d0 st1 sm1 d1 0 _ true (some (0, fr2)) sdS asS := ⟨q2, h1.oth0 q4 q3, q1⟩
 have hl2 : Lo K2 w3 W T wb := hl1.keep q4 (fun b hb e => by
  rcases e with e | e | e
  ·exact (sep0 e).2.2.2 hb
  ·rw [e, kw1] at hb; cases hb
  ·omega) q3
 have kw2 := h2.wb.kw
 clear q1 q2 q3 q4 h1 hl1 kw1
 refine rd1_0 w0 K2 w3 W st0 st1 0 _ true fr2 [fr3] _ tb wb _ h2.wb hl2.1 hl2.2.1 (by decide) (SiR.stab (R := anS) (st := st0) (sm := sm0) (d := d0))
  (fun K3 w3 A n c a1 a2 a3 => sk_nb 0 (by omega) K3 w3 st0 sm0 d0 mcA _ A n c fr2 sdS anS [fr3] a3 (h2.s0.keep a2 (fun b _ hk e => by
   rcases e with e | e
   ·rw [e, kw2] at hk; exact (sep1 hk).2.1 rfl
   ·exact (sep1 hk).2.2.1 e) (fun b hb _ => a1 b hb)) arp_fact2 (fun v S P so q => q.1.m) (fun v S P so v' S' L' q r => ?_)) ?_
 ·obtain ⟨hv, hS⟩ := q
  have := ans_fact (v := cnt 0 v) ⟨hv.m, hv.ad, hv.age⟩ hS r
  exact ⟨this.1, this.2.1, this.2.2⟩
 intro K4 w4 q1 q2 q3 q4
 have h4 : W2 w0 K4 w4 W st0 sm0 d0 st1 sm1 d1 0 _ true (some (1, fr3)) anS asS := ⟨q2, q1, h2.oth1 q4 q3⟩
 have hl4 : Lo K4 w4 W T wb := hl2.keep q4 (fun b hb e => by
  rcases e with e | e | e
  ·exact (sep1 e).2.2.2 hb
  ·rw [e, kw2] at hb; cases hb
  ·omega) q3
 have kw4 := h4.wb.kw
 clear q1 q2 q3 q4 h2 hl2 kw2
 refine rd1_1 w0 K4 w4 W st0 st1 0 _ true fr3 [] _ tb wb _ h4.wb hl4.1 hl4.2.1 (by decide) (SiR.stab (R := gtS) (st := st1) (sm := sm1) (d := d1))
  (fun K3 w3 A n c a1 a2 a3 => sk_udp K3 w3 st1 sm1 d1 _ A n c a3 (h4.s1.keep a2 (fun b _ hk e => by
   rcases e with e | e
   ·rw [e, kw4] at hk; exact (sep0 hk).2.1 rfl
   ·exact (sep0 hk).2.2.1 e) (fun b hb _ => a1 b hb))) ?_
 intro K5 w5 q1 q2 q3 q4
 have h5 : W2 w0 K5 w5 W st0 sm0 d0 st1 sm1 d1 0 _ true none anS gtS := ⟨q2, h4.oth0 q4 q3, q1⟩
 have hl5 : Lo K5 w5 W T wb := hl4.keep q4 (fun b hb e => by
  rcases e with e | e | e
  ·exact (sep0 e).2.2.2 hb
  ·rw [e, kw4] at hb; cases hb
  ·omega) q3
 have kw5 := h5.wb.kw
 clear q1 q2 q3 q4 h4 hl4 kw4
 have hgt : ∀ v S P so, gtS v S P so → v.age = nilS ∧ (∃ a m0 m1 m2 m3 m4 m5, absT S = [(a, learnt m0 m1 m2 m3 m4 m5 0)]) ∧ ∀ S' nv, absT S' = absT S → gtS { v with near := nv } S' P so :=
  fun v S P so q => ⟨q.1.age, ⟨_, _, _, _, _, _, _, q.2.1⟩, fun S' nv e => ⟨⟨q.1.m, q.1.ad, q.1.age⟩, e.trans q.2.1, q.2.2⟩⟩
 have han : ∀ v S P so, anS v S P so → v.age = nilS ∧ (∃ a m0 m1 m2 m3 m4 m5, absT S = [(a, learnt m0 m1 m2 m3 m4 m5 0)]) ∧ ∀ S' nv, absT S' = absT S → anS { v with near := nv } S' P so :=
  fun v S P so q => ⟨q.1.age, ⟨_, _, _, _, _, _, _, q.2⟩, fun S' nv e => ⟨⟨q.1.m, q.1.ad, q.1.age⟩, e.trans q.2⟩⟩
 refine rd2_two w0 K5 w5 W st0 st1 0 _ true _ _ tb wb _ h5.wb (by omega) (SiR.stab (R := anS) (st := st0) (sm := sm0) (d := d0))
  (fun K3 w3 a1 a2 => sk_tick 0 (by omega) K3 w3 st0 sm0 d0 _ _ anS (by omega) (h5.side0 a2 a1) han)
  (fun K3 w3 a1 a2 => sk_tick 10 (by omega) K3 w3 st1 sm1 d1 _ _ gtS (by omega) (h5.s1.keep a2 (fun b _ hk e => by
   rcases e with e | e
   ·rw [e, kw5] at hk; exact (sep0 hk).2.1 rfl
   ·exact (sep0 hk).1 e) (fun b hb _ => a1 b hb)) hgt) ?_
 intro K6 w6 q0 q1 q2 q3 q4
 have h6 : W2 w0 K6 w6 W st0 sm0 d0 st1 sm1 d1 1 _ true none anS gtS := ⟨q2, q0, q1⟩
 have hl6 : Lo K6 w6 W T wb := hl5.keep q4 (fun b hb e => by
  rcases e with e | e | e
  ·exact (sep1 e).2.2.2 hb
  ·exact (sep0 e).2.2.2 hb
  ·rw [e, kw5] at hb; cases hb) q3
 have kw6 := h6.wb.kw
 clear q0 q1 q2 q3 q4 h5 hl5 kw5
 refine rd2_two w0 K6 w6 W st0 st1 1 _ true _ _ tb wb _ h6.wb (by omega) (SiR.stab (R := anS) (st := st0) (sm := sm0) (d := d0))
  (fun K3 w3 a1 a2 => sk_tick 0 (by omega) K3 w3 st0 sm0 d0 _ _ anS (by omega) (h6.side0 a2 a1) han)
  (fun K3 w3 a1 a2 => sk_tick 10 (by omega) K3 w3 st1 sm1 d1 _ _ gtS (by omega) (h6.s1.keep a2 (fun b _ hk e => by
   rcases e with e | e
   ·rw [e, kw6] at hk; exact (sep0 hk).2.1 rfl
   ·exact (sep0 hk).1 e) (fun b hb _ => a1 b hb)) hgt) ?_
 intro K7 w7 q0 q1 q2 q3 q4
 have h7 : W2 w0 K7 w7 W st0 sm0 d0 st1 sm1 d1 2 _ true none anS gtS := ⟨q2, q0, q1⟩
 have hl7 : Lo K7 w7 W T wb := hl6.keep q4 (fun b hb e => by
  rcases e with e | e | e
  ·exact (sep1 e).2.2.2 hb
  ·exact (sep0 e).2.2.2 hb
  ·rw [e, kw6] at hb; cases hb) q3
 obtain ⟨x, hb, gA, gc, k, cells, rfl, hm, hg, hk⟩ := h7.wb.bk
 have hk' : k = 0 := hk
 subst hk'
 exact ⟨⟨gA, gc, hb.cell 5⟩, hl7.2.2.1.cell 0, hl7.2.2.1.cell 1, fun nq => ⟨K7, _, h7.drewN nq⟩⟩
open Go.RowKit
theorem tsame_eq (A A2 : Option Addr) (n c c2 B B2 : Nat) (l : List Int) (hn : l.length = n) (hmax : n ≤ 1000000) (hb : Bs l) (w : World) (hr : RB w B A l) (hr2 : RB w B2 A2 l) :
  Calls Tryz.prog 20 #[.slice A n c, .slice A2 n c2] w fun e w' => e = .returned (.bool true) ∧ ∃ k, w' = w.drewN k := by
 have Hn := Lib.hid hn
 clear hn
 go_enter Tryz.func20, Tryz.ntmps20
 go_wp2
 go_loopw [5] (fun i wr => ∃ k : Nat, k ≤ n ∧ i = .int .i64 k ∧ ∃ j, wr = w.drewN j) (fun i _ => n - (intOf i).toNat)
 case atStart => exact ⟨0, Nat.zero_le _, rfl, 0, rfl⟩
 case round =>
  obtain ⟨k, hk, rfl, j, rfl⟩ := hrel
  rcases Nat.lt_or_ge k n with c1 | c1
  ·obtain ⟨b, off, rfl, _, hc⟩ := hr.at_ (k := k) (by rw [Hn.out]; exact c1)
   obtain ⟨b', off', rfl, _, hc'⟩ := hr2.at_ (k := k) (by rw [Hn.out]; exact c1)
   have hbx := hb.at_ k
   have hx : (l[k]?.getD 0 != l[k]?.getD 0) = false := by simp
   go_wp2
   go_quiet (fail)
   go_wp2
   go_roundw
   case rel => exact ⟨k + 1, by omega, by go_num, j + nq, rfl⟩
   case measure => simp [intOf]; omega
  ·go_wp2
   go_ret
   exact ⟨rfl, j, rfl⟩
theorem rb_mark (w : World) (E : TypeId) (m : Nat × Nat) : RB (w.alloc (.cells #[.int .u8 104, .int .u8 105] E m)) (w.alloc (.cells #[.int .u8 104, .int .u8 105] E m)).heap.size (some ⟨w.heap.size, 0, none⟩) hiL := fun _ =>
 ⟨w.heap.size, 0, rfl, by rw [World.size_alloc]; omega, fun j u hu => by
  rw [Nat.zero_add, World.cell?_alloc_mark]
  have : by8 hiL = [.int .u8 104, .int .u8 105] := rfl
  rw [this] at hu
  rw [← hu, ← Array.getElem?_toList]⟩
theorem row_hi {w : World} {F : Nat → Prop} {dA : Option Addr} {dn dc : Nat} (h : RowAt w F (.slice dA dn dc) hiL) : RB w w.heap.size dA hiL ∧ dn = 2 := by
 obtain ⟨A', n', c', e, h1, h2, h3, h4⟩ := h
 injection e with e1 e2 e3
 subst e1
 subst e2
 exact ⟨OB.rb h1, (OB.length h1).symm⟩
set_option maxHeartbeats 8000000 in
set_option maxRecDepth 100000 in
theorem tknown_any (w : World) : Calls Tryz.prog 8 #[] w fun e w' => e = .returned (.bool true) ∧ Below w.heap.size w w' := by
 have kc := fun (w : World) (C : Array Value) (n c : Nat) => Lib.run_convert_bytes_const (P := Tryz.prog) w 37 5 C n c Tryz.underlying37 Tryz.underlying5
 have HN := Lib.hid (fun w => wnew_any (2, 0, 0, 0, 0, 1) (2, 0, 0, 0, 0, 2) 167772161 167772162 (by decide) (by unfold okH net; decide) (by decide) (by unfold okH net; decide) w)
 unfold cfgC at HN
 go_enter Tryz.func8, Tryz.ntmps8
 go_wp2_with fail
 refine (hosts_any w).mono ?_
 rintro e1 w1 ⟨rfl, hB1⟩
 have HB1 := Lib.hid hB1
 clear hB1
 unfold cfgC
 go_wp2_with fail
 refine (HN.out _).mono ?_
 rintro e2 w2 ⟨W, F0, F1, rfl, hI, l1, l2, l3, hB2⟩
 obtain ⟨K2, st0, sm0, d0, st1, sm1, d1, h2⟩ := k_start hI l1 l3 hB2
 have H2 := Lib.hid h2
 clear hI l1 l2 l3 hB2 h2
 go_wp2_with fail
 refine (k_sock1 H2.out).mono ?_
 rintro e3 w3 ⟨⟨n3, a3, p3, A3, m3, c3, rfl⟩, K3, h3⟩
 have H3 := Lib.hid h3
 clear h3
 go_wp2_with fail
 refine (k_bind1 H3.out).mono ?_
 rintro e4 w4 ⟨⟨n4, a4, p4, A4, m4, c4, rfl⟩, K4, h4⟩
 have H4 := Lib.hid h4
 clear h4
 go_wp2_with fail
 refine (k_sock0 H4.out).mono ?_
 rintro e5 w5 ⟨⟨n5, a5, p5, A5, m5, c5, rfl⟩, K5, h5⟩
 have H5 := Lib.hid h5
 clear h5
 obtain ⟨w6, hw6⟩ : ∃ w6, w5.alloc (.cells #[.int .u8 104, .int .u8 105] 5 (2, 3)) = w6 := ⟨_, rfl⟩
 have HW6 := Lib.hid hw6
 have hb6 : Below w5.heap.size w5 w6 := by rw [← hw6]; exact (Below.refl _ _).alloc (Nat.le_refl _) _
 have HR6 : Hid (RB w6 w6.heap.size (some ⟨w5.heap.size, 0, none⟩) hiL) := Lib.hid (by rw [← hw6]; exact rb_mark _ _ _)
 have H6 := Lib.hid (H5.out.below hb6 (fun _ _ => rfl))
 have HNE : Hid (∀ b, blk (some ⟨w5.heap.size, 0, none⟩) = some b → b ≠ W) := Lib.hid (fun b hb e => by
  injection hb with hb
  have := H5.out.lt
  have hb' : w5.heap.size = b := hb
  omega)
 clear hw6 hb6
 go_wp2_with fail
 rw [HW6.out]
 refine (k_send0 H6.out draw4 _ _ HR6.out HNE.out).mono ?_
 rintro e7 w7 ⟨⟨n7, a7, p7, A7, m7, c7, rfl⟩, K7, h7⟩
 have H7 := Lib.hid h7
 clear h7
 go_wp2_with fail
 refine (k_settle H7.out).mono ?_
 rintro e8 w8 ⟨rfl, K8, last8, h8⟩
 have H8 := Lib.hid h8
 clear h8
 go_wp2_with fail
 refine (k_recv1 H8.out).mono ?_
 rintro e9 w9 ⟨n9, a9, p9, dA, dn, dc, rfl, hrow, hB9⟩
 obtain ⟨rb9, ln9⟩ := row_hi hrow
 subst ln9
 have HR9 := Lib.hid rb9
 have HB9 := Lib.hid hB9
 obtain ⟨w10, hw10⟩ : ∃ w10, (w9.alloc (.cells #[.int .i64 0, .int .i64 0, .int .i64 n9, .int .u32 a9, .int .i64 p9, .slice dA 2 dc] 65)).alloc (.cells #[.int .u8 104, .int .u8 105] 5 (2, 3)) = w10 := ⟨_, rfl⟩
 have kd : (convert 37 37 (.slice (some ⟨w9.heap.size + 1, 0, none⟩) 2 2)).run Tryz.prog ((w9.alloc (.cells #[.int .i64 0, .int .i64 0, .int .i64 n9, .int .u32 a9, .int .i64 p9, .slice dA 2 dc] 65)).alloc (.cells #[.int .u8 104, .int .u8 105] 5)) = .ok (.slice (some ⟨w9.heap.size + 1, 0, none⟩) 2 2) w10 := by
  rw [← hw10]
  have := kc (w9.alloc (.cells #[.int .i64 0, .int .i64 0, .int .i64 n9, .int .u32 a9, .int .i64 p9, .slice dA 2 dc] 65)) #[.int .u8 104, .int .u8 105] 2 2
  rw [World.size_alloc w9] at this
  exact this
 have hb10 : Below w9.heap.size w9 w10 := by rw [← hw10]; exact ((Below.refl _ _).alloc (Nat.le_refl _) _).alloc (by rw [World.size_alloc]; omega) _
 have HSM : Hid (Calls Tryz.prog 20 #[.slice dA 2 dc, .slice (some ⟨w9.heap.size + 1, 0, none⟩) 2 2] w10 fun e w' => e = .returned (.bool true) ∧ ∃ k, w' = w10.drewN k) := Lib.hid (by
  refine tsame_eq dA (some ⟨w9.heap.size + 1, 0, none⟩) 2 dc 2 _ w10.heap.size hiL rfl (by omega) (by unfold Bs hiL; decide) w10 (Rw.below rb9 hb10) ?_
  rw [← hw10]
  have := rb_mark (w9.alloc (.cells #[.int .i64 0, .int .i64 0, .int .i64 n9, .int .u32 a9, .int .i64 p9, .slice dA 2 dc] 65)) 5 (2, 3)
  rwa [World.size_alloc w9] at this)
 have HB10 := Lib.hid hb10
 clear hrow rb9 hB9 hw10 hb10
 unfold retC
 go_wp2_with (go_at_call 20; refine HSM.out.mono ?_; rintro e10 w11 ⟨rfl, k10, rfl⟩)
 go_wp2
 go_ret
 have hBa := ((Below.refl w1.heap.size w1).alloc (Nat.le_refl _) (.cells (cfgC (2, 0, 0, 0, 0, 1) 167772161) 30)).alloc (by rw [World.size_alloc]; omega) (.cells (cfgC (2, 0, 0, 0, 0, 2) 167772162) 30)
 unfold cfgC at hBa
 have hBb : Below w.heap.size w w9 := HB1.out.trans ((hBa.trans (HB9.out.mono hBa.size)).mono HB1.out.size)
 exact ⟨rfl, bel_drewN (hBb.trans (HB10.out.mono hBb.size)) _⟩
end Go.Proofs.YtaeafkdfbcppgaaGreat
