/- Proved: a step in both caches: they answer alike. Conditions: as the law says. -/
import Derived.Test.YtocigdkndlmikaaJnt
import Derived.Test.YtocigdkndlmikaaAsv
import Derived.StillTailTactics
import Derived.Deep.RegionHeld3
set_option linter.unusedVariables false
set_option linter.unusedSimpArgs false
namespace Go.Proofs.Ytocigdkndlmikaa
open Go.RowKit
theorem kc_bk {w0 w w' : World} {K : Nat → Prop} {g : Nat} {t : TypeId} {cs : Array Value} (h : Bk w g t cs) (hc : KC w0 K w w') (hK : K g) : Bk w' g t cs := h.chg hc (fun e => e.2 hK)
/-- What a step of the law's does. -/
def DoP (w0 : World) (s q : Nat) (e : Ending) (w' : World) : Prop := e = .returned (.bool true) ∧ JG w0 s q (fun _ => False) pmL w'
set_option maxHeartbeats 4000000 in
set_option maxRecDepth 1000000 in
theorem does_learn {w0 w : World} {s q : Nat} (h : JG w0 s q (fun _ => False) pmL w) (x : StA) (hx : StaOk w0 x) (now : Int) (hnow : 0 ≤ now ∧ now ≤ 1099511627776) (hk : x.kd = 2) :
    Calls Try.prog 25 #[.pointer (some ⟨s, 0, none⟩), .pointer (some ⟨q, 0, none⟩), .agg (staC x).toArray, .int .i64 now] w (DoP w0 s q) := by
  obtain ⟨kd, a, pA, pn, pc, pl, m0, m1, m2, m3, m4, m5, fr, tb⟩ := x
  have hk2 : kd = 2 := hk
  subst hk2
  have ha : okA a := hx.a
  unfold staC
  simp only
  obtain ⟨g0, hg0⟩ : ∃ g, w.heap.size = g := ⟨_, rfl⟩
  obtain ⟨W0, hW0⟩ : ∃ W0, w.alloc (.cells #[.int .i64 2, .int .u32 a, .slice pA pn pc, .int .u8 m0, .int .u8 m1, .int .u8 m2, .int .u8 m3, .int .u8 m4, .int .u8 m5, .bool fr, .int .i64 tb] 65) = W0 := ⟨_, rfl⟩
  have hb : Bk W0 g0 65 #[.int .i64 2, .int .u32 a, .slice pA pn pc, .int .u8 m0, .int .u8 m1, .int .u8 m2, .int .u8 m3, .int .u8 m4, .int .u8 m5, .bool fr, .int .i64 tb] := by rw [← hW0, ← hg0]; exact Bk.new w _ _
  have hJ0 : JG w0 s q (fun b => b = g0) pmL W0 := h.grow (by rw [← hW0]; exact (Below.refl _ _).alloc (Nat.le_refl _) _) (fun b hb2 => .inr (by rw [← hW0, World.size_alloc]; have e : b = g0 := hb2; omega))
  have HW0 := Lib.hid hW0
  have HG0 := Lib.hid hg0
  have HB0 := Lib.hid hb
  have HJ0 := Lib.hid hJ0
  have HA := Lib.hid ha
  have y0 : W0.cell? ⟨g0, 0, none⟩ = some (.int .i64 2) := hb.cell 0
  have y1 : W0.cell? ⟨g0, 1, none⟩ = some (.int .u32 a) := hb.cell 1
  have y3 : W0.cell? ⟨g0, 3, none⟩ = some (.int .u8 m0) := hb.cell 3
  have y4 : W0.cell? ⟨g0, 4, none⟩ = some (.int .u8 m1) := hb.cell 4
  have y5 : W0.cell? ⟨g0, 5, none⟩ = some (.int .u8 m2) := hb.cell 5
  have y6 : W0.cell? ⟨g0, 6, none⟩ = some (.int .u8 m3) := hb.cell 6
  have y7 : W0.cell? ⟨g0, 7, none⟩ = some (.int .u8 m4) := hb.cell 7
  have y8 : W0.cell? ⟨g0, 8, none⟩ = some (.int .u8 m5) := hb.cell 8
  have y9 : W0.cell? ⟨g0, 9, none⟩ = some (.bool fr) := hb.cell 9
  clear hW0 hb hJ0 ha h hx hg0 hk
  go_enter Try.func25, Try.ntmps25
  go_upto_region 1 with (fail)
  rw [HW0.out, HG0.out]
  go_wp2_with fail
  refine (j_learn1 HJ0.out a HA.out m0 m1 m2 m3 m4 m5 now hnow fr).mono ?_
  rintro e1 w1 ⟨A1, k1, c1, ws, rfl, hJL, hKC⟩
  have hb1 := kc_bk HB0.out hKC rfl
  have z1 : w1.cell? ⟨g0, 1, none⟩ = some (.int .u32 a) := hb1.cell 1
  have z3 : w1.cell? ⟨g0, 3, none⟩ = some (.int .u8 m0) := hb1.cell 3
  have z4 : w1.cell? ⟨g0, 4, none⟩ = some (.int .u8 m1) := hb1.cell 4
  have z5 : w1.cell? ⟨g0, 5, none⟩ = some (.int .u8 m2) := hb1.cell 5
  have z6 : w1.cell? ⟨g0, 6, none⟩ = some (.int .u8 m3) := hb1.cell 6
  have z7 : w1.cell? ⟨g0, 7, none⟩ = some (.int .u8 m4) := hb1.cell 7
  have z8 : w1.cell? ⟨g0, 8, none⟩ = some (.int .u8 m5) := hb1.cell 8
  have z9 : w1.cell? ⟨g0, 9, none⟩ = some (.bool fr) := hb1.cell 9
  have HJL := Lib.hid hJL
  clear hJL hKC hb1 y0 y1 y3 y4 y5 y6 y7 y8 y9
  go_wp2_with fail
  refine (j_learn2 HJL.out HA.out hnow).mono ?_
  rintro e2 w2 ⟨A2, k2, c2, rfl, hJR, hKC2⟩
  have HJR := Lib.hid hJR
  clear hJR hKC2
  go_wp2_with fail
  refine (j_rows HJR.out c1 c2).mono ?_
  rintro e3 w3 ⟨rfl, hJ3⟩
  have HJ3 := Lib.hid hJ3
  clear hJ3
  go_wp2_with fail
  go_ret
  exact ⟨rfl, HJ3.out.less (fun b e => e.elim)⟩
set_option maxHeartbeats 4000000 in
set_option maxRecDepth 1000000 in
theorem does_tick {w0 w : World} {s q : Nat} (h : JG w0 s q (fun _ => False) pmL w) (x : StA) (now : Int) (hnow : 0 ≤ now ∧ now ≤ 1099511627776) (hk1 : x.kd ≠ 1) (hk2 : x.kd ≠ 2) :
    Calls Try.prog 25 #[.pointer (some ⟨s, 0, none⟩), .pointer (some ⟨q, 0, none⟩), .agg (staC x).toArray, .int .i64 now] w (DoP w0 s q) := by
  obtain ⟨kd, a, pA, pn, pc, pl, m0, m1, m2, m3, m4, m5, fr, tb⟩ := x
  have q1 : (kd == 1) = false := beq_eq_false_iff_ne.2 hk1
  have q2 : (kd == 2) = false := beq_eq_false_iff_ne.2 hk2
  unfold staC
  simp only
  obtain ⟨g0, hg0⟩ : ∃ g, w.heap.size = g := ⟨_, rfl⟩
  obtain ⟨W0, hW0⟩ : ∃ W0, w.alloc (.cells #[.int .i64 kd, .int .u32 a, .slice pA pn pc, .int .u8 m0, .int .u8 m1, .int .u8 m2, .int .u8 m3, .int .u8 m4, .int .u8 m5, .bool fr, .int .i64 tb] 65) = W0 := ⟨_, rfl⟩
  have hb : Bk W0 g0 65 #[.int .i64 kd, .int .u32 a, .slice pA pn pc, .int .u8 m0, .int .u8 m1, .int .u8 m2, .int .u8 m3, .int .u8 m4, .int .u8 m5, .bool fr, .int .i64 tb] := by rw [← hW0, ← hg0]; exact Bk.new w _ _
  have hJ0 : JG w0 s q (fun _ => False) pmL W0 := h.below (by rw [← hW0]; exact (Below.refl _ _).alloc (Nat.le_refl _) _)
  have HW0 := Lib.hid hW0
  have HG0 := Lib.hid hg0
  have HJ0 := Lib.hid hJ0
  have y0 : W0.cell? ⟨g0, 0, none⟩ = some (.int .i64 kd) := hb.cell 0
  clear hW0 hb hJ0 h hk1 hk2 hg0
  go_enter Try.func25, Try.ntmps25
  go_upto_region 1 with (fail)
  rw [HW0.out, HG0.out]
  go_wp2_with fail
  refine (j_tick1 HJ0.out now hnow).mono ?_
  rintro e1 w1 ⟨A1, n1, c1, A2, n2, c2, asks, losts, rfl, hJ1⟩
  have HJ1 := Lib.hid hJ1
  clear hJ1 y0
  go_wp2_with fail
  refine (j_tick2 HJ1.out hnow).mono ?_
  rintro e2 w2 ⟨A3, n3, c3, A4, n4, c4, rfl, hJ2⟩
  have HJ2 := Lib.hid hJ2
  clear hJ2
  go_wp2_with fail
  refine (j_addrs1 HJ2.out).mono ?_
  rintro e3 w3 ⟨rfl, hJ3⟩
  have HJ3 := Lib.hid hJ3
  clear hJ3
  go_wp2_with fail
  refine (j_addrs2 HJ3.out).mono ?_
  rintro e4 w4 ⟨rfl, hJ4⟩
  have HJ4 := Lib.hid hJ4
  clear hJ4
  go_wp2_with fail
  go_ret
  exact ⟨rfl, HJ4.out⟩
theorem JG.fK {w0 w : World} {s q : Nat} {K : Nat → Prop} {link : List En → List En → Prop} (h : JG w0 s q K link w) {b : Nat} (hb : K b) : w0.heap.size ≤ b ∧ b < w.heap.size := by
  obtain ⟨F, G, A, n, c, S, R, h⟩ := h
  exact h.fK b hb
theorem kc_ow {w0 w w' : World} {K : Nat → Prop} {base n c : Nat} {A : Option Addr} {l : List Int} (h : OB 5 w base A n c l) (hc : KC w0 K w w') (hK : ∀ b, blk A = some b → K b) : OB 5 w' base A n c l := by
  refine ⟨h.1, ?_⟩
  rcases h.2 with h4 | ⟨g, cap, cur, h4, h5, h6, h7⟩
  · exact .inl h4
  · have e := (Value.slice.inj h4).1
    have hb : blk A = some g := by rw [e]; rfl
    exact .inr ⟨g, cap, cur, h4, h5, (hc.block g (Array.getElem?_eq_some_iff.1 h6).1 (fun e => e.2 (hK g hb))).trans h6, h7⟩
theorem tld_all (kn : Bool) (m0 m1 m2 m3 m4 m5 : Int) (ask full : Bool) : (tld kn m0 m1 m2 m3 m4 m5 ask full).all (·.oneCell') = true :=
  all_oneCell_toArray (cs := [.bool kn, .int .u8 m0, .int .u8 m1, .int .u8 m2, .int .u8 m3, .int .u8 m4, .int .u8 m5, .bool ask, .bool full]) (by
    intro u hu
    simp only [List.mem_cons, List.not_mem_nil, or_false] at hu
    rcases hu with rfl | rfl | rfl | rfl | rfl | rfl | rfl | rfl | rfl <;> rfl)
/-- What each operation of region 4 yields, but for the call and the memory that is made. -/
def dsC (s g0 : Nat) (a now : Int) (pA : Option Addr) (pn pc : Nat) (A1 : Option Addr) (c1 : Nat) : Nat → Value
  | 0 => .pointer (some ⟨s, 0, none⟩)
  | 1 => .pointer (some ⟨g0, 1, none⟩)
  | 2 => .int .u32 a
  | 3 => .slice A1 (pn + 1) c1
  | 4 => .pointer (some ⟨g0, 2, none⟩)
  | 5 => .slice pA pn pc
  | 6 => .int .i64 (pn : Int)
  | 7 => .slice A1 pn c1
  | 8 => .int .i64 now
  | _ => undef
def dsPlain (j : Nat) : Bool := !(j == 9 || j == 10 || j == 11)
def dsK (g0 : Nat) (A1 : Option Addr) (L : Nat → Bool) (v : Nat → Value) (b : Nat) : Prop := (b = g0 ∨ blk A1 = some b) ∨ (L 10 = true ∧ v 10 = .pointer (some ⟨b, 0, none⟩))
structure DsR (w0 : World) (s q g0 : Nat) (a now : Int) (pl : List Int) (pA : Option Addr) (pn pc : Nat) (A1 : Option Addr) (c1 : Nat) (box : Array Value) (L : Nat → Bool) (v : Nat → Value) (w : World) : Prop where
  pv : ∀ j, L j = true → dsPlain j = true → v j = dsC s g0 a now pA pn pc A1 c1 j
  bx : Bk w g0 65 box
  ow : OB 5 w 0 A1 (pn + 1) c1 (pl ++ [171])
  dp : L 11 = true → L 10 = true ∧ L 9 = true
  J0 : L 9 = false → JG w0 s q (dsK g0 A1 L v) pmL w
  J1 : L 9 = true → ∃ kn m0 m1 m2 m3 m4 m5 ask full, v 9 = .agg (tld kn m0 m1 m2 m3 m4 m5 ask full) ∧ JG w0 s q (dsK g0 A1 L v) (sdL a now pl (tld kn m0 m1 m2 m3 m4 m5 ask full)) w
  T0 : L 10 = true → ∃ t, v 10 = .pointer (some ⟨t, 0, none⟩) ∧ g0 ≠ t ∧ blk A1 ≠ some t ∧ (L 11 = false → Bk w t 34 told0) ∧ (L 11 = true → ∀ cs, v 9 = .agg cs → Bk w t 34 cs)
section
variable {w0 : World} {s q g0 : Nat} {a now : Int} {pl : List Int} {pA : Option Addr} {pn pc : Nat} {A1 : Option Addr} {c1 : Nat} {box : Array Value} {L : Nat → Bool} {v : Nat → Value} {w : World}
theorem DsR.step (h : DsR w0 s q g0 a now pl pA pn pc A1 c1 box L v w) {x : Nat} {u : Value} (hp : dsPlain x = true) (hu : u = dsC s g0 a now pA pn pc A1 c1 x) : DsR w0 s q g0 a now pl pA pn pc A1 c1 box (upd L x true) (upd v x u) w := by
  have n9 : 9 ≠ x := by rintro rfl; cases hp
  have n10 : 10 ≠ x := by rintro rfl; cases hp
  have n11 : 11 ≠ x := by rintro rfl; cases hp
  have hK : ∀ b, dsK g0 A1 (upd L x true) (upd v x u) b → dsK g0 A1 L v b := fun b hb => by
    unfold dsK at hb ⊢
    rwa [upd_ne _ _ n10, upd_ne _ _ n10] at hb
  refine ⟨fun y hy hpy => ?_, h.bx, h.ow, ?_, ?_, ?_, ?_⟩
  · by_cases e : y = x
    · subst e; rw [upd_same]; exact hu
    · rw [upd_ne _ _ e]; rw [upd_ne _ _ e] at hy; exact h.pv y hy hpy
  · rw [upd_ne _ _ n11, upd_ne _ _ n10, upd_ne _ _ n9]; exact h.dp
  · rw [upd_ne _ _ n9]; exact fun e => (h.J0 e).less hK
  · rw [upd_ne _ _ n9, upd_ne _ _ n9]
    intro e
    obtain ⟨kn, m0, m1, m2, m3, m4, m5, ask, full, k1, k2⟩ := h.J1 e
    exact ⟨kn, m0, m1, m2, m3, m4, m5, ask, full, k1, k2.less hK⟩
  · rw [upd_ne _ _ n10, upd_ne _ _ n10, upd_ne _ _ n11, upd_ne _ _ n9]; exact h.T0
/-- The call. -/
theorem DsR.call (h : DsR w0 s q g0 a now pl pA pn pc A1 c1 box L v w) (h9 : L 9 = false) {w' : World} {kn : Bool} {m0 m1 m2 m3 m4 m5 : Int} {ask full : Bool} (hJ : JG w0 s q (dsK g0 A1 L v) (sdL a now pl (tld kn m0 m1 m2 m3 m4 m5 ask full)) w') (hK : KC w0 (dsK g0 A1 L v) w w') :
    DsR w0 s q g0 a now pl pA pn pc A1 c1 box (upd L 9 true) (upd v 9 (.agg (tld kn m0 m1 m2 m3 m4 m5 ask full))) w' := by
  have h11 : L 11 = false := by
    cases e : L 11 with
    | false => rfl
    | true => have := (h.dp e).2; rw [h9] at this; cases this
  refine ⟨fun y hy hpy => ?_, kc_bk h.bx hK (.inl (.inl rfl)), kc_ow h.ow hK (fun b hb => .inl (.inr hb)), fun e => ?_, fun e => by (rw [upd_same] at e; cases e), fun _ => ⟨kn, m0, m1, m2, m3, m4, m5, ask, full, upd_same _ _ _, hJ⟩, fun e => ?_⟩
  · have ny : y ≠ 9 := by rintro rfl; cases hpy
    rw [upd_ne _ _ ny]; rw [upd_ne _ _ ny] at hy; exact h.pv y hy hpy
  · have e2 : L 11 = true := e
    rw [h11] at e2; cases e2
  · have e2 : L 10 = true := e
    obtain ⟨t, t1, t2, t3, t4, t5⟩ := h.T0 e2
    refine ⟨t, t1, t2, t3, fun _ => kc_bk (t4 h11) hK (.inr ⟨e2, t1⟩), fun e3 => ?_⟩
    have e4 : L 11 = true := e3
    rw [h11] at e4; cases e4
/-- The memory. -/
theorem DsR.mem (h : DsR w0 s q g0 a now pl pA pn pc A1 c1 box L v w) (h10 : L 10 = false) :
    DsR w0 s q g0 a now pl pA pn pc A1 c1 box (upd L 10 true) (upd v 10 (.pointer (some ⟨w.heap.size, 0, none⟩))) (w.alloc (.cells told0 34)) := by
  have h11 : L 11 = false := by
    cases e : L 11 with
    | false => rfl
    | true => have := (h.dp e).1; rw [h10] at this; cases this
  have hb : Below w.heap.size w (w.alloc (.cells told0 34)) := (Below.refl _ _).alloc (Nat.le_refl _) _
  have hK : ∀ b, dsK g0 A1 (upd L 10 true) (upd v 10 (.pointer (some ⟨w.heap.size, 0, none⟩))) b → dsK g0 A1 L v b ∨ (w.heap.size ≤ b ∧ b < (w.alloc (.cells told0 34)).heap.size) := fun b hb => by
    rcases hb with e | ⟨_, e⟩
    · exact .inl (.inl e)
    · rw [upd_same] at e
      injection e with e
      injection e with e
      injection e with e
      exact .inr (by rw [World.size_alloc]; omega)
  refine ⟨fun y hy hpy => ?_, h.bx.alloc _, h.ow.alloc _, fun e => ?_, fun e => (h.J0 e).grow hb hK, fun e => ?_, fun _ => ⟨w.heap.size, upd_same _ _ _, ?_, fun e => ?_, fun _ => Bk.new w _ _, fun e => ?_⟩⟩
  · have ny : y ≠ 10 := by rintro rfl; cases hpy
    rw [upd_ne _ _ ny]; rw [upd_ne _ _ ny] at hy; exact h.pv y hy hpy
  · have e2 : L 11 = true := e
    rw [h11] at e2; cases e2
  · obtain ⟨kn, m0, m1, m2, m3, m4, m5, ask, full, k1, k2⟩ := h.J1 e
    exact ⟨kn, m0, m1, m2, m3, m4, m5, ask, full, k1, k2.grow hb hK⟩
  · have := h.bx.lt; omega
  · have := (Ow.lt h.ow _ e).2; omega
  · have e2 : L 11 = true := e
    rw [h11] at e2; cases e2
/-- The store. -/
theorem DsR.sto (h : DsR w0 s q g0 a now pl pA pn pc A1 c1 box L v w) (h11 : L 11 = false) (h10 : L 10 = true) (h9 : L 9 = true) {t : Nat} (ht : v 10 = .pointer (some ⟨t, 0, none⟩)) {cs : Array Value} (hc9 : v 9 = .agg cs) :
    DsR w0 s q g0 a now pl pA pn pc A1 c1 box (upd L 11 true) (upd v 11 undef) (w.setRow t cs) := by
  obtain ⟨t', t1, t2, t3, t4, t5⟩ := h.T0 h10
  rw [ht] at t1
  injection t1 with t1
  injection t1 with t1
  injection t1 with t1
  subst t1
  obtain ⟨b1, b2⟩ := setRow_bk (c := cs) (t4 h11)
  have hKt : dsK g0 A1 L v t := .inr ⟨h10, ht⟩
  have hP : ∀ {link}, JG w0 s q (dsK g0 A1 L v) link w → JG w0 s q (dsK g0 A1 L v) link (w.setRow t cs) := fun {link} hJ => hJ.chg b2 (fun b e => by
    have e2 : b = t := e
    subst e2
    exact ⟨(hJ.fK hKt).1, fun _ => hKt⟩)
  refine ⟨fun y hy hpy => ?_, h.bx.chg b2 t2, ?_, fun _ => ⟨h10, h9⟩, fun e => hP (h.J0 e), fun e => ?_, fun _ => ⟨t, ht, t2, t3, fun e => by (rw [upd_same] at e; cases e), fun _ cs2 e2 => ?_⟩⟩
  · have ny : y ≠ 11 := by rintro rfl; cases hpy
    rw [upd_ne _ _ ny]; rw [upd_ne _ _ ny] at hy; exact h.pv y hy hpy
  · refine ⟨h.ow.1, ?_⟩
    rcases h.ow.2 with h4 | ⟨g, cap, cur, h4, h5, h6, h7⟩
    · exact .inl h4
    · have e := (Value.slice.inj h4).1
      have hb : blk A1 = some g := by rw [e]; rfl
      exact .inr ⟨g, cap, cur, h4, h5, (b2.block g (Array.getElem?_eq_some_iff.1 h6).1 (fun e => t3 (by have e3 : g = t := e; rw [← e3]; exact hb))).trans h6, h7⟩
  · obtain ⟨kn, m0, m1, m2, m3, m4, m5, ask, full, k1, k2⟩ := h.J1 e
    exact ⟨kn, m0, m1, m2, m3, m4, m5, ask, full, k1, hP k2⟩
  · have e3 : v 9 = .agg cs2 := e2
    rw [hc9] at e3
    injection e3 with e3
    subst e3
    exact b1
end
set_option maxHeartbeats 4000000 in
set_option maxRecDepth 1000000 in
theorem does_send {w0 w : World} {s q : Nat} (h : JG w0 s q (fun _ => False) pmL w) (x : StA) (hx : StaOk w0 x) (hsz : x.pn ≤ 4000) (now : Int) (hnow : 0 ≤ now ∧ now ≤ 1099511627776) (hk : x.kd = 1) :
    Calls Try.prog 25 #[.pointer (some ⟨s, 0, none⟩), .pointer (some ⟨q, 0, none⟩), .agg (staC x).toArray, .int .i64 now] w (DoP w0 s q) := by
  obtain ⟨kd, a, pA, pn, pc, pl, m0, m1, m2, m3, m4, m5, fr, tb⟩ := x
  have hk2 : kd = 1 := hk
  subst hk2
  have ha : okA a := hx.a
  have hrb : RB w0 w0.heap.size pA pl := hx.rb
  have hbs : Bs pl := hx.bs
  have hln : pl.length = pn := hx.len
  have hpc : pn ≤ pc := hx.cap
  have hsz' : pn ≤ 4000 := hsz
  unfold staC
  simp only
  obtain ⟨g0, hg0⟩ : ∃ g, w.heap.size = g := ⟨_, rfl⟩
  obtain ⟨W0, hW0⟩ : ∃ W0, w.alloc (.cells #[.int .i64 1, .int .u32 a, .slice pA pn pc, .int .u8 m0, .int .u8 m1, .int .u8 m2, .int .u8 m3, .int .u8 m4, .int .u8 m5, .bool fr, .int .i64 tb] 65) = W0 := ⟨_, rfl⟩
  have hb : Bk W0 g0 65 #[.int .i64 1, .int .u32 a, .slice pA pn pc, .int .u8 m0, .int .u8 m1, .int .u8 m2, .int .u8 m3, .int .u8 m4, .int .u8 m5, .bool fr, .int .i64 tb] := by rw [← hW0, ← hg0]; exact Bk.new w _ _
  have hJ0 : JG w0 s q (fun b => b = g0) pmL W0 := h.grow (by rw [← hW0]; exact (Below.refl _ _).alloc (Nat.le_refl _) _) (fun b hb2 => .inr (by rw [← hW0, World.size_alloc]; have e : b = g0 := hb2; omega))
  have HW0 := Lib.hid hW0
  have HG0 := Lib.hid hg0
  have HB0 := Lib.hid hb
  have HJ0 := Lib.hid hJ0
  have HA := Lib.hid ha
  have HRB := Lib.hid hrb
  have HBS := Lib.hid hbs
  have HLN := Lib.hid hln
  have y0 : W0.cell? ⟨g0, 0, none⟩ = some (.int .i64 1) := hb.cell 0
  have y2 : W0.cell? ⟨g0, 2, none⟩ = some (.slice pA pn pc) := hb.cell 2
  clear hW0 hb hJ0 ha h hx hg0 hk hrb hbs hln hsz
  go_enter Try.func25, Try.ntmps25
  go_upto_region 1 with (fail)
  rw [HW0.out, HG0.out]
  go_wp2_with fail
  refine (roomy_any pA pn pc w0.heap.size pl HLN.out (by omega) HBS.out W0 (Rw.below HRB.out HJ0.out.bl) HJ0.out.bl.size).mono ?_
  rintro e1 w1 ⟨A1, c1, rfl, hO1, hc1, hB1⟩
  have HO1 := Lib.hid hO1
  have HB1 := Lib.hid (HB0.out.below hB1 HB0.out.lt)
  have HJ1 : Hid (JG w0 s q (fun b => b = g0 ∨ blk A1 = some b) pmL w1) := Lib.hid (HJ0.out.grow hB1 (fun b hb => hb.imp id (fun e => Ow.lt hO1 b e)))
  have z1 : w1.cell? ⟨g0, 1, none⟩ = some (.int .u32 a) := HB1.out.cell 1
  have z2 : w1.cell? ⟨g0, 2, none⟩ = some (.slice pA pn pc) := HB1.out.cell 2
  have hr1 : RB w1 w1.heap.size A1 pl := by
    have h1 := hO1.takeN (m := pn) (by omega)
    rw [List.take_append_of_le_length (by rw [HLN.out]; exact Nat.le_refl _), List.take_of_length_le (by rw [HLN.out]; exact Nat.le_refl _)] at h1
    exact OB.rb h1
  have hpnI : (0 : Int) ≤ (pn : Int) ∧ (pn : Int) ≤ (pn : Int) + 1 ∧ (pn : Int) ≤ (c1 : Int) := by omega
  clear hO1 hB1 y0 y2 z1 z2 hr1
  go_wp2_with fail
  refine wp_region_inv [some 24, some 25, some 26, some 27, some 28, some 29, some 30, some 31, some 32, some 33, some 10, none] (DsR w0 s q g0 a now pl pA pn pc A1 c1 #[.int .i64 1, .int .u32 a, .slice pA pn pc, .int .u8 m0, .int .u8 m1, .int .u8 m2, .int .u8 m3, .int .u8 m4, .int .u8 m5, .bool fr, .int .i64 tb]) (by kernel_rfl) rfl (by kernel_rfl) (by kernel_rfl) (by kernel_rfl) (by kernel_rfl) ?_ ?_ ?_
  · refine ⟨(fun _ h => by cases h), HB1.out.drewN 1, Ow.mono (Ow.drewN HO1.out 1) (Nat.zero_le _), (fun h => by cases h), fun _ => (HJ1.out.below (bdrewN (Below.refl _ _) 1)).less (fun b hb => ?_), (fun h => by cases h), (fun h => by cases h)⟩
    rcases hb with e | ⟨e, _⟩
    · exact e
    · cases e
  · refine ⟨?_, ?_, ?_, ?_, ?_, ?_, ?_, ?_, ?_, ?_, ?_, ?_, trivial⟩
    · intro L v w3 f hL hdep hF hR K hK
      have e0 : f.eval (.tmp 0) = .pointer (some ⟨s, 0, none⟩) := (hF.1 0 (by decide)).trans rfl
      unfold Oper.wp
      simp only [execOp, e0]
      exact hK _ _ (hR.step rfl rfl)
    · intro L v w3 f hL hdep hF hR K hK
      have e0 : f.eval (.tmp 6) = .pointer (some ⟨g0, 0, none⟩) := (hF.1 6 (by decide)).trans rfl
      have g0' : f.tmps[6]?.getD undef = .pointer (some ⟨g0, 0, none⟩) := by have := e0; simpa [Act.eval] using this
      clear e0
      unfold Oper.wp
      go_simp
      exact hK _ _ (hR.step rfl rfl)
    · intro L v w3 f hL hdep hF hR K hK
      simp [Region.binds] at hdep
      have e1 : f.eval (.tmp 25) = _ := ((hF.2 1 25 rfl hdep).trans (hR.pv 1 hdep rfl)).trans (show dsC s g0 a now pA pn pc A1 c1 1 = .pointer (some ⟨g0, 1, none⟩) from rfl)
      have e1' : f.tmps[25]?.getD undef = .pointer (some ⟨g0, 1, none⟩) := by have := e1; simpa [Act.eval] using this
      have hc : w3.cell? ⟨g0, 1, none⟩ = some (.int .u32 a) := hR.bx.cell 1
      clear e1
      unfold Oper.wp
      go_simp
      exact hK _ _ (hR.step rfl rfl)
    · intro L v w3 f hL hdep hF hR K hK
      have e0 : f.eval (.tmp 9) = .slice A1 (pn + 1) c1 := (hF.1 9 (by decide)).trans rfl
      unfold Oper.wp
      simp only [execOp, e0]
      exact hK _ _ (hR.step rfl rfl)
    · intro L v w3 f hL hdep hF hR K hK
      have e0 : f.eval (.tmp 6) = .pointer (some ⟨g0, 0, none⟩) := (hF.1 6 (by decide)).trans rfl
      have g0' : f.tmps[6]?.getD undef = .pointer (some ⟨g0, 0, none⟩) := by have := e0; simpa [Act.eval] using this
      clear e0
      unfold Oper.wp
      go_simp
      exact hK _ _ (hR.step rfl rfl)
    · intro L v w3 f hL hdep hF hR K hK
      simp [Region.binds] at hdep
      have e1 : f.eval (.tmp 28) = _ := ((hF.2 4 28 rfl hdep).trans (hR.pv 4 hdep rfl)).trans (show dsC s g0 a now pA pn pc A1 c1 4 = .pointer (some ⟨g0, 2, none⟩) from rfl)
      have e1' : f.tmps[28]?.getD undef = .pointer (some ⟨g0, 2, none⟩) := by have := e1; simpa [Act.eval] using this
      have hc : w3.cell? ⟨g0, 2, none⟩ = some (.slice pA pn pc) := hR.bx.cell 2
      clear e1
      unfold Oper.wp
      go_simp
      exact hK _ _ (hR.step rfl rfl)
    · intro L v w3 f hL hdep hF hR K hK
      simp [Region.binds] at hdep
      have e1 : f.eval (.tmp 29) = _ := ((hF.2 5 29 rfl hdep).trans (hR.pv 5 hdep rfl)).trans (show dsC s g0 a now pA pn pc A1 c1 5 = .slice pA pn pc from rfl)
      have e1' : f.tmps[29]?.getD undef = .slice pA pn pc := by have := e1; simpa [Act.eval] using this
      clear e1
      unfold Oper.wp
      go_simp
      exact hK _ _ (hR.step rfl rfl)
    · intro L v w3 f hL hdep hF hR K hK
      simp [Region.binds] at hdep
      obtain ⟨d3, d6⟩ := hdep
      have e1 : f.eval (.tmp 27) = _ := ((hF.2 3 27 rfl d3).trans (hR.pv 3 d3 rfl)).trans (show dsC s g0 a now pA pn pc A1 c1 3 = .slice A1 (pn + 1) c1 from rfl)
      have e1' : f.tmps[27]?.getD undef = .slice A1 (pn + 1) c1 := by have := e1; simpa [Act.eval] using this
      have e2 : f.eval (.tmp 30) = _ := ((hF.2 6 30 rfl d6).trans (hR.pv 6 d6 rfl)).trans (show dsC s g0 a now pA pn pc A1 c1 6 = .int .i64 (pn : Int) from rfl)
      have e2' : f.tmps[30]?.getD undef = .int .i64 (pn : Int) := by have := e2; simpa [Act.eval] using this
      have hcI : pn ≤ c1 := by omega
      clear e1 e2
      unfold Oper.wp
      go_simp
      exact hK _ _ (hR.step rfl rfl)
    · intro L v w3 f hL hdep hF hR K hK
      have e0 : f.eval (.tmp 3) = .int .i64 now := (hF.1 3 (by decide)).trans rfl
      unfold Oper.wp
      simp only [execOp, e0]
      exact hK _ _ (hR.step rfl rfl)
    · intro L v w3 f hL hdep hF hR K hK
      simp [Region.binds] at hdep
      obtain ⟨d0, d2, d7, d8⟩ := hdep
      have e0 : f.eval (.tmp 24) = .pointer (some ⟨s, 0, none⟩) := ((hF.2 0 24 rfl d0).trans (hR.pv 0 d0 rfl)).trans rfl
      have e2 : f.eval (.tmp 26) = .int .u32 a := ((hF.2 2 26 rfl d2).trans (hR.pv 2 d2 rfl)).trans rfl
      have e7 : f.eval (.tmp 31) = .slice A1 pn c1 := ((hF.2 7 31 rfl d7).trans (hR.pv 7 d7 rfl)).trans rfl
      have e8 : f.eval (.tmp 32) = .int .i64 now := ((hF.2 8 32 rfl d8).trans (hR.pv 8 d8 rfl)).trans rfl
      have hr3 : RB w3 w3.heap.size A1 pl := by
        have h1 := hR.ow.takeN (m := pn) (by omega)
        rw [List.take_append_of_le_length (by rw [HLN.out]; exact Nat.le_refl _), List.take_of_length_le (by rw [HLN.out]; exact Nat.le_refl _)] at h1
        exact OB.rb h1
      unfold Oper.wp
      simp only [execOp, resolve, List.map_toArray, List.map_cons, List.map_nil, e0, e2, e7, e8]
      refine (j_send1 (hR.J0 hL) a HA.out A1 pn c1 pl HLN.out (by omega) HBS.out now hnow hr3).mono ?_
      rintro e w4 ⟨kn, t0, t1, t2, t3, t4, t5, ask, full, rfl, k1, k2⟩
      exact hK _ _ (hR.call hL k1 k2)
    · intro L v w3 f hL hdep hF hR K hK
      clear hdep
      unfold Oper.wp
      go_simp
      exact hK _ _ (hR.mem hL)
    · intro L v w3 f hL hdep hF hR K hK
      simp [Region.binds] at hdep
      obtain ⟨d10, d9, _⟩ := hdep
      obtain ⟨kn, t0, t1, t2, t3, t4, t5, ask, full, k1, k2⟩ := hR.J1 d9
      obtain ⟨t, b1, b2, b3, b4, b5⟩ := hR.T0 d10
      have e10 : f.eval (.tmp 10) = .pointer (some ⟨t, 0, none⟩) := (hF.2 10 10 rfl d10).trans b1
      have e9 : f.eval (.tmp 33) = .agg (tld kn t0 t1 t2 t3 t4 t5 ask full) := (hF.2 9 33 rfl d9).trans k1
      refine wp_store_row 34 (.tmp 10) (.tmp 33) rfl t (tld kn t0 t1 t2 t3 t4 t5 ask full) e10 e9 34 told0 (b4 hL) (by kernel_rfl) rfl (tld_all ..) ?_
      exact hK _ _ (hR.sto hL d10 d9 b1 k1)
  · intro v w2 L hall hR
    have l9 := hall 9 (by decide)
    have l10 := hall 10 (by decide)
    have l11 := hall 11 (by decide)
    obtain ⟨kn, t0, t1, t2, t3, t4, t5, ask, full, k1, k2⟩ := hR.J1 l9
    obtain ⟨t, b1, b2, b3, _, b5⟩ := hR.T0 l10
    have HBT : Hid (Bk w2 t 34 #[.bool kn, .int .u8 t0, .int .u8 t1, .int .u8 t2, .int .u8 t3, .int .u8 t4, .int .u8 t5, .bool ask, .bool full]) := Lib.hid (b5 l11 _ k1)
    have HJ2 : Hid (JG w0 s q (fun b => (b = g0 ∨ blk A1 = some b) ∨ b = t) (sdL a now pl (tld kn t0 t1 t2 t3 t4 t5 ask full)) w2) := Lib.hid (k2.less (fun b hb => hb.imp id (fun e => ⟨l10, by rw [b1, e]⟩)))
    have HBX := Lib.hid hR.bx
    have HOW := Lib.hid hR.ow
    clear hall hR k1 k2 b2 b3 b5 l9 l10 l11
    simp only [frL, if_true, Act.put, List.setIfInBounds_toArray, List.set_cons_zero, List.set_cons_succ]
    rw [b1]
    clear b1
    have HC5 : Hid (Calls Try.prog 43 #[.pointer (some ⟨q, 0, none⟩), .int .u32 a, .slice pA pn pc, .int .i64 now] w2.drew fun e w' => e = .returned (.agg #[.bool kn, .int .u8 t0, .int .u8 t1, .int .u8 t2, .int .u8 t3, .int .u8 t4, .int .u8 t5, .bool ask, .bool full]) ∧ Hid (JG w0 s q (fun b => (b = g0 ∨ blk A1 = some b) ∨ b = t) pmL w' ∧ OB 5 w' 0 A1 (pn + 1) c1 (pl ++ [171])) ∧ w'.cell? ⟨g0, 1, none⟩ = some (.int .u32 a) ∧ w'.cell? ⟨g0, 2, none⟩ = some (.slice pA pn pc) ∧ w'.cell? ⟨t, 0, none⟩ = some (.bool kn) ∧ w'.cell? ⟨t, 1, none⟩ = some (.int .u8 t0) ∧ w'.cell? ⟨t, 2, none⟩ = some (.int .u8 t1) ∧ w'.cell? ⟨t, 3, none⟩ = some (.int .u8 t2) ∧ w'.cell? ⟨t, 4, none⟩ = some (.int .u8 t3) ∧ w'.cell? ⟨t, 5, none⟩ = some (.int .u8 t4) ∧ w'.cell? ⟨t, 6, none⟩ = some (.int .u8 t5) ∧ w'.cell? ⟨t, 7, none⟩ = some (.bool ask) ∧ w'.cell? ⟨t, 8, none⟩ = some (.bool full)) := Lib.hid (by
      have hd : Below w2.heap.size w2 w2.drew := bdrewN (Below.refl _ _) 1
      have hJ := HJ2.out.below hd
      refine (j_send2 hJ HA.out pA pn pc HLN.out (by omega) HBS.out hnow (Rw.below HRB.out hJ.bl)).mono ?_
      rintro e w' ⟨rfl, k1, k2⟩
      have hbx := kc_bk (HBX.out.below hd HBX.out.lt) k2 (.inl (.inl rfl))
      have hbt := kc_bk (HBT.out.below hd HBT.out.lt) k2 (.inr rfl)
      exact ⟨rfl, Lib.hid ⟨k1, kc_ow (Ow.stays HOW.out hd) k2 (fun b hb => .inl (.inr hb))⟩, hbx.cell 1, hbx.cell 2, hbt.cell 0, hbt.cell 1, hbt.cell 2, hbt.cell 3, hbt.cell 4, hbt.cell 5, hbt.cell 6, hbt.cell 7, hbt.cell 8⟩)
    have HST : Hid (∀ W, Hid (JG w0 s q (fun b => (b = g0 ∨ blk A1 = some b) ∨ b = t) pmL W ∧ OB 5 W 0 A1 (pn + 1) c1 (pl ++ [171])) → Calls Try.prog 23 #[.slice A1 (pn + 1) c1, .slice pA pn pc] W fun e w' => e = .returned (.bool true) ∧ ∃ k, w' = W.drewN k) := Lib.hid (fun W hW =>
      stands_any A1 pA pn c1 pc W.heap.size w0.heap.size pl HLN.out (by omega) hc1 HBS.out W (OB.rb hW.out.2) (Rw.below HRB.out hW.out.1.bl))
    have x1 : w2.cell? ⟨g0, 1, none⟩ = some (.int .u32 a) := HBX.out.cell 1
    have x2 : w2.cell? ⟨g0, 2, none⟩ = some (.slice pA pn pc) := HBX.out.cell 2
    have z0 : w2.cell? ⟨t, 0, none⟩ = some (.bool kn) := HBT.out.cell 0
    have z1 : w2.cell? ⟨t, 1, none⟩ = some (.int .u8 t0) := HBT.out.cell 1
    have z2 : w2.cell? ⟨t, 2, none⟩ = some (.int .u8 t1) := HBT.out.cell 2
    have z3 : w2.cell? ⟨t, 3, none⟩ = some (.int .u8 t2) := HBT.out.cell 3
    have z4 : w2.cell? ⟨t, 4, none⟩ = some (.int .u8 t3) := HBT.out.cell 4
    have z5 : w2.cell? ⟨t, 5, none⟩ = some (.int .u8 t4) := HBT.out.cell 5
    have z6 : w2.cell? ⟨t, 6, none⟩ = some (.int .u8 t5) := HBT.out.cell 6
    have z7 : w2.cell? ⟨t, 7, none⟩ = some (.bool ask) := HBT.out.cell 7
    have z8 : w2.cell? ⟨t, 8, none⟩ = some (.bool full) := HBT.out.cell 8
    have hq := eql_told kn ask full t0 t1 t2 t3 t4 t5
    go_wp2_with fail
    go_region_held3 (fun w' => w'.cell? ⟨g0, 1, none⟩ = some (.int .u32 a) ∧ w'.cell? ⟨g0, 2, none⟩ = some (.slice pA pn pc) ∧ w'.cell? ⟨t, 0, none⟩ = some (.bool kn) ∧ w'.cell? ⟨t, 1, none⟩ = some (.int .u8 t0) ∧ w'.cell? ⟨t, 2, none⟩ = some (.int .u8 t1) ∧ w'.cell? ⟨t, 3, none⟩ = some (.int .u8 t2) ∧ w'.cell? ⟨t, 4, none⟩ = some (.int .u8 t3) ∧ w'.cell? ⟨t, 5, none⟩ = some (.int .u8 t4) ∧ w'.cell? ⟨t, 6, none⟩ = some (.int .u8 t5) ∧ w'.cell? ⟨t, 7, none⟩ = some (.bool ask) ∧ w'.cell? ⟨t, 8, none⟩ = some (.bool full))
      (first | (with_reducible exact ⟨by assumption, by assumption, by assumption, by assumption, by assumption, by assumption, by assumption, by assumption, by assumption, by assumption, by assumption⟩) | go_keep)
      (first
        | (go_at_call 43; refine HC5.out.mono ?_; rintro e3 w3 ⟨rfl, HJ3, g1, g2, h0, h1, h2, h3, h4, h5, h6, h7, h8⟩)
        | (go_at_call 23; refine (HST.out _ HJ3).mono ?_; rintro e4 w4 ⟨rfl, k, rfl⟩))
    obtain ⟨w5, hw5⟩ : ∃ w5, w3.drewN k = w5 := ⟨_, rfl⟩
    rw [hw5]
    have HJ5 : Hid (JG w0 s q (fun b => (b = g0 ∨ blk A1 = some b) ∨ b = t) pmL w5 ∧ OB 5 w5 0 A1 (pn + 1) c1 (pl ++ [171])) := Lib.hid (by rw [← hw5]; exact ⟨HJ3.out.1.below (bdrewN (Below.refl _ _) k), Ow.drewN HJ3.out.2 k⟩)
    clear hw5
    go_wp2_with fail
    refine (spoil_any A1 (pn + 1) c1 0 (pl ++ [171]) (by omega) w5 HJ5.out.2 (Nat.zero_le _)).mono ?_
    rintro e6 w6 ⟨rfl, hG⟩
    have HJ6 : Hid (JG w0 s q (fun _ => False) pmL w6) := Lib.hid ((HJ5.out.1.chg (Chg.of_grown (F := fun b => blk A1 = some b) hG (fun b e => e)) (fun b e => ⟨(HJ5.out.1.fK (b := b) (.inl (.inr e))).1, fun _ => .inl (.inr e)⟩)).less (fun b e => e.elim))
    clear hG
    go_wp2_with fail
    go_ret
    exact ⟨rfl, HJ6.out⟩
theorem JG.start {w0 w1 w2 : World} {s q : Nat} (h1 : w0.alloc (.cells #[.map none] 32) = w1) (h2 : w1.alloc (.cells #[.slice none 0 0] 63) = w2) (hs : w0.heap.size = s) (hq : w1.heap.size = q) : JG w0 s q (fun _ => False) pmL w2 := by
  have hz1 : w1.heap.size = w0.heap.size + 1 := by rw [← h1, World.size_alloc]
  have hz2 : w2.heap.size = w1.heap.size + 1 := by rw [← h2, World.size_alloc]
  have hb1 : Below w0.heap.size w0 w1 := by rw [← h1]; exact (Below.refl _ _).alloc (Nat.le_refl _) _
  have hb2 : Below w1.heap.size w1 w2 := by rw [← h2]; exact (Below.refl _ _).alloc (Nat.le_refl _) _
  have hc1 : Bk w1 s 32 #[.map none] := by rw [← h1, ← hs]; exact Bk.new w0 _ _
  have hc2 : Bk w2 q 63 #[.slice none 0 0] := by rw [← h2, ← hq]; exact Bk.new w1 _ _
  refine ⟨fun b => b = s, fun _ => False, none, 0, 0, [], [], CacheAt.new (hc1.below hb2 hc1.lt) rfl, ⟨⟨hc2, Rs.none_ _ _, by simp [blk]⟩, (fun e he => by cases he), (fun e => e), (fun b hb e => e), (fun b e => e.elim), List.Pairwise.nil⟩, List.Perm.refl _, Nat.zero_le _, fun b hb => ?_, fun b hb => ?_, (fun b e => e.elim), hb1.trans (hb2.mono (by omega))⟩
  · have e : b = s := hb
    refine ⟨by omega, by omega, ?_, (fun e => e), (fun e => e)⟩
    rintro (e2 | e2)
    · omega
    · cases e2
  · refine ⟨?_, fun e => e⟩
    rcases hb with (e2 | e2) | e2
    · omega
    · cases e2
    · exact e2.elim
theorem j_view {w0 w : World} {s q : Nat} {K : Nat → Prop} (h : JG w0 s q K pmL w) : ∃ A n c, w.cell? ⟨q, 0, none⟩ = some (.slice A n c) ∧ n ≤ 16 ∧ ∀ k, Calls Try.prog 16 #[.pointer (some ⟨s, 0, none⟩)] (w.drewN k) fun e w' => e = .returned (.int .i64 (n : Int)) ∧ w' = w.drewN k := by
  obtain ⟨F, G, A, n, c, S, R, h⟩ := h
  have hl : R.length = n := h.rc.len
  have he : R.length = S.length := perm_len (List.Perm.refl _) h.lk
  have h16 := cache_len h.ca
  refine ⟨A, n, c, h.rc.st.1.cell 0, by omega, fun k => ?_⟩
  refine (len_any (w.drewN k) F s S (h.ca.keep (fun b _ hl => rfl) (fun _ e => e))).mono ?_
  rintro e w' ⟨rfl, rfl⟩
  exact ⟨by rw [show S.length = n by omega], rfl⟩
/-- A step in both. -/
theorem does_any {w0 w : World} {s q : Nat} (h : JG w0 s q (fun _ => False) pmL w) (x : StA) (hx : StaOk w0 x) (hsz : x.pn ≤ 4000) (now : Int) (hnow : 0 ≤ now ∧ now ≤ 1099511627776) :
    Calls Try.prog 25 #[.pointer (some ⟨s, 0, none⟩), .pointer (some ⟨q, 0, none⟩), .agg (staC x).toArray, .int .i64 now] w (DoP w0 s q) := by
  by_cases h1 : x.kd = 1
  · exact does_send h x hx hsz now hnow h1
  · by_cases h2 : x.kd = 2
    · exact does_learn h x hx now hnow h2
    · exact does_tick h x now hnow h1 h2
end Go.Proofs.Ytocigdkndlmikaa
