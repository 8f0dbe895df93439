/- Proved: what the methods of cong.Cong do, each by its walk. Conditions: the window is a block of the caller's own, its numbers within their bounds. -/
import Derived.Test.YtpeojjaaeckehaaRows
import Derived.Test.YtpeojjaaeckehaaLib
import Derived.Laws.EntriesVeiled
import Derived.Deep.QuietTactic
import Derived.BigQuiet
import Derived.StillTailTactics
import Derived.IntWalk
set_option linter.unusedVariables false
namespace Go.Proofs.Ytpeojjaaeckehaa
open Go.RowKit

/-- how far a is ahead of b -/
def sd (a b : Int) : Int := wrap32 (a - b)
theorem sd_bd (a b : Int) : -2147483648 ≤ sd a b ∧ sd a b ≤ 2147483647 := by unfold sd wrap32; omega
theorem sd_mod (a b : Int) : wrap32 ((a - b) % 4294967296) = sd a b := by unfold sd wrap32; omega
theorem sd_64 (a b : Int) : wrap64 (sd a b) = sd a b := IntWalk.wrap64_in _ (by have := sd_bd a b; omega)
theorem diff_any (a b : Int) (w : World) :
  Calls Try.prog 27 #[.int .u32 a, .int .u32 b] w fun e w' => e = .returned (.int .i64 (sd a b)) ∧ w = w' := by
  go_enter Try.func27, Try.ntmps27
  go_wp2
  go_ret
  refine ⟨?_, rfl⟩
  show Ending.returned (.int .i64 (wrap64 (wrap32 ((a - b) % 4294967296)))) = _
  rw [sd_mod, sd_64]
theorem less_any (a b : Int) (w : World) :
  Calls Try.prog 26 #[.int .u32 a, .int .u32 b] w fun e w' => e = .returned (.bool (decide (sd a b < 0))) ∧ w = w' := by
  go_enter Try.func26, Try.ntmps26
  go_wp2_with (go_at_call 27; refine (diff_any _ _ _).mono ?_; rintro e w' ⟨rfl, rfl⟩)
  go_ret
  exact ⟨rfl, rfl⟩
theorem rdiff_any (a b : Int) (w : World) :
  Calls Try.prog 25 #[.int .u32 a, .int .u32 b] w fun e w' => e = .returned (.int .i64 (sd a b)) ∧ w = w' := by
  go_enter Try.func25, Try.ntmps25
  go_wp2
  go_ret
  refine ⟨?_, rfl⟩
  show Ending.returned (.int .i64 (wrap64 (wrap32 ((a - b) % 4294967296)))) = _
  rw [sd_mod, sd_64]
theorem rless_any (a b : Int) (w : World) :
  Calls Try.prog 19 #[.int .u32 a, .int .u32 b] w fun e w' => e = .returned (.bool (decide (sd a b < 0))) ∧ w = w' := by
  go_enter Try.func19, Try.ntmps19
  go_wp2_with (go_at_call 25; refine (rdiff_any _ _ _).mono ?_; rintro e w' ⟨rfl, rfl⟩)
  go_ret
  exact ⟨rfl, rfl⟩

theorem ret_i64 {x y : Int} (h : x = y) : Ending.returned (.int .i64 x) = .returned (.int .i64 y) := by rw [h]
theorem eql_fn (W : World) (f : FuncId) (a c : Array Value) : (binOp .eql 28 (.func (.func f) a c) .nilFunc).run Try.prog W = .ok (.bool false) W := by kernel_rfl

/-- The numbers of a window: it, its bound, how many were the same, up to where, whether it mends. -/
structure CS where
  wi : Int
  bo : Int
  sa : Int
  up : Int
  me : Bool
/-- What is done at an acknowledgement. -/
def fv (g : Nat) (me : Bool) : Value := match me with
  | true => .func (.func 22) #[.pointer (some ⟨g, 0, none⟩)] #[]
  | false => .func (.func 24) #[.pointer (some ⟨g, 0, none⟩)] #[]
def Co (w : World) (g : Nat) (m : Int) (s : CS) : Prop := Bk w g 43 #[.int .i64 m, .int .i64 s.wi, .int .i64 s.bo, .int .i64 s.sa, .int .u32 s.up, .bool s.me, fv g s.me]
structure CsOk (m : Int) (s : CS) : Prop where
  m0 : 1 ≤ m
  m1 : m ≤ 65535
  w0 : m ≤ s.wi
  w1 : s.wi ≤ 16777216
  b0 : m ≤ s.bo
  b1 : s.bo ≤ 4611686018427387903
  s0 : 0 ≤ s.sa
  s1 : s.sa ≤ 1000
  u0 : 0 ≤ s.up
  u1 : s.up ≤ 4294967295
def hf (m fl : Int) : Int := max (max 0 fl / 2) (2 * m)
def gw (m wi bo n : Int) : Int := if wi < bo then min (wi + min n m) 16777216 else min (wi + max 1 (m * m / wi)) 16777216
def ackS (m n una : Int) (s : CS) : CS := match s.me with
  | false => ⟨gw m s.wi s.bo (max 0 n), s.bo, 0, s.up, false⟩
  | true => if sd una s.up < 0 then ⟨min (max m (s.wi - max 0 n + m)) 16777216, s.bo, s.sa, s.up, true⟩ else ⟨min s.bo 16777216, s.bo, 0, s.up, false⟩
def ackR (una : Int) (s : CS) : Bool := match s.me with
  | false => false
  | true => decide (sd una s.up < 0)
def sameS (m fl nx : Int) (s : CS) : CS := match s.me with
  | true => ⟨min (s.wi + m) 16777216, s.bo, s.sa + 1, s.up, true⟩
  | false => if s.sa = 2 then ⟨min (hf m fl + 3 * m) 16777216, hf m fl, 3, nx, true⟩ else ⟨s.wi, s.bo, s.sa + 1, s.up, false⟩
def sameR (s : CS) : Bool := match s.me with
  | true => false
  | false => decide (s.sa = 2)
def lostS (m fl : Int) (s : CS) : CS := ⟨m, hf m fl, 0, s.up, false⟩
theorem hf_bd (m fl : Int) (h0 : 1 ≤ m) (h1 : m ≤ 65535) (h2 : fl ≤ 9223372036854775807) : 2 * m ≤ hf m fl ∧ hf m fl ≤ 4611686018427387903 := by unfold hf; omega

theorem grownBy_drewN {w w' : World} {row : Option Nat} (h : w.grownBy w' row) (k : Nat) : w.grownBy (w'.drewN k) row := ⟨h.os, h.tape, h.output, h.size, h.block⟩
theorem calm_any (g : Nat) (m wi bo sa up : Int) (me : Bool) (F : Value) (w : World) (hb : Bk w g 43 #[.int .i64 m, .int .i64 wi, .int .i64 bo, .int .i64 sa, .int .u32 up, .bool me, F]) :
    Calls Try.prog 18 #[.pointer (some ⟨g, 0, none⟩)] w fun e w' => e = .returned (.tuple #[]) ∧ Co w' g m ⟨wi, bo, 0, up, false⟩ ∧ w.grownBy w' (some g) := by
  have c3 := hb.cell 3
  have c5 := hb.cell 5
  have c6 := hb.cell 6
  have f3 := hb.frozen 3
  have f5 := hb.frozen 5
  have f6 := hb.frozen 6
  simp only [List.getElem?_toArray, List.getElem?_cons_zero, List.getElem?_cons_succ] at c3 c5 c6
  go_enter Try.func18, Try.ntmps18
  go_wp2
  go_end0
  exact ⟨rfl, ((hb.set 5 _).set 3 _).set 6 _, grownBy_setCell (grownBy_setCell (grownBy_setCell (World.grownBy.refl w _) (by exact .inl rfl) _) (by exact .inl rfl) _) (by exact .inl rfl) _⟩

theorem set_any (g : Nat) (m wi bo sa up n : Int) (me : Bool) (F : Value) (w : World) (hb : Bk w g 43 #[.int .i64 m, .int .i64 wi, .int .i64 bo, .int .i64 sa, .int .u32 up, .bool me, F]) :
    Calls Try.prog 20 #[.pointer (some ⟨g, 0, none⟩), .int .i64 n] w fun e w' => e = .returned (.tuple #[]) ∧ Bk w' g 43 #[.int .i64 m, .int .i64 (min n 16777216), .int .i64 bo, .int .i64 sa, .int .u32 up, .bool me, F] ∧ w.grownBy w' (some g) := by
  have c1 := hb.cell 1
  have f1 := hb.frozen 1
  simp only [List.getElem?_toArray, List.getElem?_cons_zero, List.getElem?_cons_succ] at c1
  rcases (by omega : n ≤ 16777216 ∨ 16777216 < n) with d | d
  · rw [show min n 16777216 = n from by omega]
    go_enter Try.func20, Try.ntmps20
    go_wp2
    go_end0
    exact ⟨rfl, hb.set 1 _, grownBy_setCell (World.grownBy.refl w _) (by exact .inl rfl) _⟩
  · rw [show min n 16777216 = 16777216 from by omega]
    go_enter Try.func20, Try.ntmps20
    go_wp2
    go_end0
    exact ⟨rfl, hb.set 1 _, grownBy_setCell (World.grownBy.refl w _) (by exact .inl rfl) _⟩

theorem half_any (g : Nat) (m wi bo sa up fl : Int) (h0 : 1 ≤ m) (h1 : m ≤ 65535) (hf0 : -9223372036854775808 ≤ fl) (hf1 : fl ≤ 9223372036854775807) (me : Bool) (F : Value) (w : World) (hb : Bk w g 43 #[.int .i64 m, .int .i64 wi, .int .i64 bo, .int .i64 sa, .int .u32 up, .bool me, F]) :
    Calls Try.prog 21 #[.pointer (some ⟨g, 0, none⟩), .int .i64 fl] w fun e w' => e = .returned (.int .i64 (hf m fl)) ∧ w = w' := by
  have c0 := hb.cell 0
  simp only [List.getElem?_toArray, List.getElem?_cons_zero] at c0
  obtain ⟨q, hq⟩ : ∃ q, hf m fl = q := ⟨_, rfl⟩
  rw [hq]
  unfold hf at hq
  have HQ := Lib.hid hq
  rcases (by omega : fl ≤ 0 ∨ (0 < fl ∧ fl / 2 < 2 * m) ∨ (0 < fl ∧ 2 * m ≤ fl / 2)) with d | ⟨d, e⟩ | ⟨d, e⟩
  all_goals
    clear hq
    go_enter Try.func21, Try.ntmps21
    go_wp2
    go_ret
    exact ⟨ret_i64 (by have := HQ.out; omega), rfl⟩

set_option maxHeartbeats 1000000 in
theorem grows_any (g : Nat) (m : Int) (s : CS) (n una : Int) (hn0 : 0 ≤ n) (hn1 : n ≤ 9223372036854775807) (k : CsOk m s) (hme : s.me = false) (w : World) (hb : Co w g m s) :
    Calls Try.prog 24 #[.pointer (some ⟨g, 0, none⟩), .int .i64 n, .int .u32 una] w fun e w' => e = .returned (.bool false) ∧ Co w' g m ⟨gw m s.wi s.bo n, s.bo, 0, s.up, false⟩ ∧ w.grownBy w' (some g) := by
  obtain ⟨wi, bo, sa, up, me⟩ := s
  simp only at hme
  subst hme
  obtain ⟨m0, m1, w0, w1, b0, b1, s0, s1, u0, u1⟩ := k
  simp only at w0 w1 b0 b1 s0 s1 u0 u1
  unfold Co at hb
  simp only at hb
  have hs := hb.set 3 (.int .i64 0)
  have c1 := hs.cell 1
  have c2 := hs.cell 2
  have c0 := hs.cell 0
  have d3 := hb.cell 3
  have f3 := hb.frozen 3
  simp only [List.setIfInBounds_toArray, List.set_cons_succ, List.set_cons_zero, List.getElem?_toArray, List.getElem?_cons_zero, List.getElem?_cons_succ] at c0 c1 c2 d3
  have hg := grownBy_setCell (World.grownBy.refl w (some g)) (p := ⟨g, 3, none⟩) (by exact .inl rfl) (.int .i64 0)
  obtain ⟨W, hW⟩ : ∃ W, w.setCell ⟨g, 3, none⟩ (.int .i64 0) = W := ⟨_, rfl⟩
  rw [hW] at hs c0 c1 c2 hg
  have HW := Lib.hid hW
  have hmm0 : 0 ≤ m * m := Int.mul_nonneg (by omega) (by omega)
  have hmm1 : m * m ≤ 65535 * 65535 := Int.mul_le_mul m1 m1 (by omega) (by omega)
  have hqe : (m * m).tdiv wi = m * m / wi := Int.tdiv_eq_ediv_of_nonneg hmm0
  have hq0 : 0 ≤ m * m / wi := Int.ediv_nonneg hmm0 (by omega)
  have hq1 : m * m / wi ≤ m * m := Int.ediv_le_self _ hmm0
  obtain ⟨q, hq⟩ : ∃ q, m * m / wi = q := ⟨_, rfl⟩
  rw [hq] at hqe hq0 hq1
  obtain ⟨mm, hmm⟩ : ∃ mm, m * m = mm := ⟨_, rfl⟩
  rw [hmm] at hqe hmm0 hmm1 hq1
  have hgw : gw m wi bo n = if wi < bo then min (wi + min n m) 16777216 else min (wi + max 1 q) 16777216 := by unfold gw; rw [hq]
  have HGW := Lib.hid hgw
  have zw : ¬ wi = 0 := by omega
  have zw2 : (wi == 0) = false := by simp; omega
  clear hW hq hgw
  obtain ⟨qq, hqq⟩ : ∃ qq, (if (1 : Int) < q then q else 1) = qq := ⟨_, rfl⟩
  have hqm : max 1 q = qq := by rw [← hqq]; split <;> omega
  have hqb : 1 ≤ qq ∧ qq ≤ 4294836225 := by omega
  have HQM := Lib.hid hqm
  clear hqm
  rcases (by omega : (wi < bo ∧ n ≤ m) ∨ (wi < bo ∧ m < n) ∨ bo ≤ wi) with ⟨d, e⟩ | ⟨d, e⟩ | d
  all_goals
    have v1 : IntKind.i64.wrap (wi + m) = wi + m := IntWalk.i64_in _ (by omega)
    have v2 : IntKind.i64.wrap (wi + qq) = wi + qq := IntWalk.i64_in _ (by omega)
    have v5 : IntKind.i64.wrap mm = mm := IntWalk.i64_in _ (by omega)
    have v6 : IntKind.i64.wrap q = q := IntWalk.i64_in _ (by omega)
  case' inl => have v3 : IntKind.i64.wrap (wi + n) = wi + n := IntWalk.i64_in _ (by omega)
  all_goals
    go_enter Try.func24, Try.ntmps24
    go_wp2
    rw [HW.out]
    go_quiet (fail)
    go_wp2
  case' _ => refine wp_region_still_tail 12 (by kernel_rfl) (by kernel_rfl) ?_
  rotate_left
  case' _ => refine wp_region_still_tail 12 (by kernel_rfl) (by kernel_rfl) ?_
  rotate_left
  case' _ => refine wp_region_still_tail 21 (by kernel_rfl) (by kernel_rfl) ?_
  rotate_left
  all_goals
    change wpStill _ _ (World.drew _) (fun a' => wpList _ _ _ _ a' (World.drew _)) _ _
    simp only [List.take_succ_cons, List.take_zero, List.drop_succ_cons, List.drop_zero]
    repeat still_step
    try refine wpStill_nil ?_
    go_wp2_with (go_at_call 20; refine (set_any g m wi bo 0 up _ false _ _ (hs.drewN _)).mono ?_; rintro e w5 ⟨rfl, hb5, hg5⟩)
    go_ret
    refine ⟨rfl, ?_, (grownBy_drewN hg _).trans hg5⟩
  · rw [HGW.out, if_pos d, show min n m = n from by omega]
    exact hb5
  · rw [HGW.out, if_pos d, show min n m = m from by omega]
    exact hb5
  · rw [HGW.out, if_neg (by omega), HQM.out]
    exact hb5
end Go.Proofs.Ytpeojjaaeckehaa
