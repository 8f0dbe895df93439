/- Proved: what Same, Lost, Window, Mending and New of package cong do, each by its walk. Conditions: the window is a block of the caller's own, its numbers within their bounds. -/
import Derived.Test.YtpeojjaaeckehaaCong2
set_option linter.unusedVariables false
namespace Go.Proofs.Ytpeojjaaeckehaa
open Go.RowKit
set_option maxHeartbeats 1000000 in
theorem same_mend (g : Nat) (m : Int) (s : CS) (fl nx : Int) (hf0 : -9223372036854775808 ≤ fl) (hf1 : fl ≤ 9223372036854775807) (k : CsOk m s) (hme : s.me = true) (w : World) (hb : Co w g m s) :
    Calls Try.prog 13 #[.pointer (some ⟨g, 0, none⟩), .int .i64 fl, .int .u32 nx] w fun e w' => e = .returned (.bool false) ∧ Co w' g m ⟨min (s.wi + m) 16777216, s.bo, s.sa + 1, s.up, true⟩ ∧ w.grownBy w' (some g) := by
  obtain ⟨wi, bo, sa, up, me⟩ := s
  simp only at hme
  subst hme
  obtain ⟨m0, m1, w0, w1, b0, b1, s0, s1, u0, u1⟩ := k
  simp only at w0 w1 b0 b1 s0 s1 u0 u1
  unfold Co at hb
  simp only at hb
  have c0 := hb.cell 0
  have c1 := hb.cell 1
  have c3 := hb.cell 3
  have c5 := hb.cell 5
  have c6 := hb.cell 6
  simp only [List.getElem?_toArray, List.getElem?_cons_zero, List.getElem?_cons_succ, fv] at c0 c1 c3 c5 c6
  have f3 := hb.frozen 3
  have hs := hb.set 3 (.int .i64 (sa + 1))
  have v1 : IntKind.i64.wrap (wi + m) = wi + m := IntWalk.i64_in _ (by omega)
  have e1 := eql_fn
  go_enter Try.func13, Try.ntmps13
  go_wp2
  refine wp_region_still_tail 10 (by kernel_rfl) (by kernel_rfl) ?_
  change wpStill _ _ (World.drew _) (fun a' => wpList _ _ _ _ a' (World.drew _)) _ _
  simp only [List.take_succ_cons, List.take_zero, List.drop_succ_cons, List.drop_zero]
  repeat still_step
  try refine wpStill_nil ?_
  go_wp2_with (go_at_call 20; refine (set_any g m wi bo (sa + 1) up _ true _ _ hs.drew).mono ?_; rintro e w5 ⟨rfl, hb5, hg5⟩)
  go_ret
  exact ⟨rfl, hb5, (grownBy_drew (grownBy_setCell (World.grownBy.refl w _) (by exact .inl rfl) _)).trans hg5⟩
set_option maxHeartbeats 1000000 in
theorem same_more (g : Nat) (m : Int) (s : CS) (fl nx : Int) (hf0 : -9223372036854775808 ≤ fl) (hf1 : fl ≤ 9223372036854775807) (k : CsOk m s) (hme : s.me = false) (h2 : s.sa ≠ 2) (w : World) (hb : Co w g m s) :
    Calls Try.prog 13 #[.pointer (some ⟨g, 0, none⟩), .int .i64 fl, .int .u32 nx] w fun e w' => e = .returned (.bool false) ∧ Co w' g m ⟨s.wi, s.bo, s.sa + 1, s.up, false⟩ ∧ w.grownBy w' (some g) := by
  obtain ⟨wi, bo, sa, up, me⟩ := s
  simp only at hme h2
  subst hme
  obtain ⟨m0, m1, w0, w1, b0, b1, s0, s1, u0, u1⟩ := k
  simp only at w0 w1 b0 b1 s0 s1 u0 u1
  unfold Co at hb
  simp only at hb
  have c0 := hb.cell 0
  have c1 := hb.cell 1
  have c3 := hb.cell 3
  have c5 := hb.cell 5
  have c6 := hb.cell 6
  simp only [List.getElem?_toArray, List.getElem?_cons_zero, List.getElem?_cons_succ, fv] at c0 c1 c3 c5 c6
  have f3 := hb.frozen 3
  have hs := hb.set 3 (.int .i64 (sa + 1))
  have q1 : (sa + 1 == 3) = false := by simp; omega
  have q2 : (sa == 2) = false := by simpa using h2
  have e1 := eql_fn
  clear h2
  go_enter Try.func13, Try.ntmps13
  go_wp2
  go_ret
  exact ⟨rfl, hs, (grownBy_setCell (World.grownBy.refl w _) (by exact .inl rfl) _)⟩
set_option maxHeartbeats 1000000 in
theorem same_third (g : Nat) (m : Int) (s : CS) (fl nx : Int) (hf0 : -9223372036854775808 ≤ fl) (hf1 : fl ≤ 9223372036854775807) (k : CsOk m s) (hme : s.me = false) (h2 : s.sa = 2) (hn0 : 0 ≤ nx) (hn1 : nx ≤ 4294967295) (w : World) (hb : Co w g m s) :
    Calls Try.prog 13 #[.pointer (some ⟨g, 0, none⟩), .int .i64 fl, .int .u32 nx] w fun e w' => e = .returned (.bool true) ∧ Co w' g m ⟨min (hf m fl + 3 * m) 16777216, hf m fl, 3, nx, true⟩ ∧ w.grownBy w' (some g) := by
  obtain ⟨wi, bo, sa, up, me⟩ := s
  simp only at hme h2
  subst hme
  obtain ⟨m0, m1, w0, w1, b0, b1, s0, s1, u0, u1⟩ := k
  simp only at w0 w1 b0 b1 s0 s1 u0 u1
  unfold Co at hb
  simp only at hb
  subst h2
  have c0 := hb.cell 0
  have c1 := hb.cell 1
  have c2 := hb.cell 2
  have c3 := hb.cell 3
  have c5 := hb.cell 5
  have c6 := hb.cell 6
  simp only [List.getElem?_toArray, List.getElem?_cons_zero, List.getElem?_cons_succ, fv] at c0 c1 c2 c3 c5 c6
  have f3 := hb.frozen 3
  have hs := hb.set 3 (.int .i64 3)
  have e1 := eql_fn
  have hh := hf_bd m fl m0 m1 hf1
  have hhalf := half_any g m wi bo 3 up fl m0 m1 hf0 hf1 false _ _ hs
  obtain ⟨H, hH⟩ : ∃ H, hf m fl = H := ⟨_, rfl⟩
  rw [hH] at hh hhalf ⊢
  have HH := Lib.hid hH
  have v1 : IntKind.i64.wrap (3 * m) = 3 * m := IntWalk.i64_in _ (by omega)
  have v2 : IntKind.i64.wrap (H + 3 * m) = H + 3 * m := IntWalk.i64_in _ (by omega)
  have f2 := hb.frozen 2
  have hs2 := hs.set 2 (.int .i64 H)
  clear hH
  go_enter Try.func13, Try.ntmps13
  go_wp2_with (go_at_call 21; refine hhalf.mono ?_; rintro e w' ⟨rfl, rfl⟩)
  refine wp_region_still_tail 11 (by kernel_rfl) (by kernel_rfl) ?_
  change wpStill _ _ (World.drew _) (fun a' => wpList _ _ _ _ a' (World.drew _)) _ _
  simp only [List.take_succ_cons, List.take_zero, List.drop_succ_cons, List.drop_zero]
  repeat still_step
  try refine wpStill_nil ?_
  go_wp2_with (go_at_call 20; refine (set_any g m wi H 3 up _ false _ _ (by exact hs2.drew)).mono ?_; rintro e w5 ⟨rfl, hb5, hg5⟩; have g4 := hb5.cell 4; have g5 := hb5.cell 5; have g6 := hb5.cell 6; have k4 := hb5.frozen 4; have k5 := hb5.frozen 5; have k6 := hb5.frozen 6; simp only [List.getElem?_toArray, List.getElem?_cons_zero, List.getElem?_cons_succ] at g4 g5 g6)
  go_ret
  exact ⟨rfl, (((hb5.set 5 _).set 4 _).set 6 _), grownBy_setCell (grownBy_setCell (grownBy_setCell ((grownBy_drew (grownBy_setCell (grownBy_setCell (World.grownBy.refl w _) (by exact .inl rfl) _) (by exact .inl rfl) _)).trans hg5) (by exact .inl rfl) _) (by exact .inl rfl) _) (by exact .inl rfl) _⟩
theorem same_any (g : Nat) (m : Int) (s : CS) (fl nx : Int) (hf0 : -9223372036854775808 ≤ fl) (hf1 : fl ≤ 9223372036854775807) (hn0 : 0 ≤ nx) (hn1 : nx ≤ 4294967295) (k : CsOk m s) (w : World) (hb : Co w g m s) :
    Calls Try.prog 13 #[.pointer (some ⟨g, 0, none⟩), .int .i64 fl, .int .u32 nx] w fun e w' => e = .returned (.bool (sameR s)) ∧ Co w' g m (sameS m fl nx s) ∧ w.grownBy w' (some g) := by
  obtain ⟨wi, bo, sa, up, me⟩ := s
  cases me
  · simp only [sameR, sameS]
    by_cases h : sa = 2
    · rw [if_pos h, decide_eq_true h]
      exact same_third g m _ fl nx hf0 hf1 k rfl h hn0 hn1 w hb
    · rw [if_neg h, decide_eq_false h]
      exact same_more g m _ fl nx hf0 hf1 k rfl h w hb
  · simp only [sameR, sameS]
    exact same_mend g m _ fl nx hf0 hf1 k rfl w hb
set_option maxHeartbeats 1000000 in
theorem lost_any (g : Nat) (m : Int) (s : CS) (fl : Int) (hf0 : -9223372036854775808 ≤ fl) (hf1 : fl ≤ 9223372036854775807) (k : CsOk m s) (w : World) (hb : Co w g m s) :
    Calls Try.prog 15 #[.pointer (some ⟨g, 0, none⟩), .int .i64 fl] w fun e w' => e = .returned (.tuple #[]) ∧ Co w' g m (lostS m fl s) ∧ w.grownBy w' (some g) := by
  obtain ⟨wi, bo, sa, up, me⟩ := s
  obtain ⟨m0, m1, w0, w1, b0, b1, s0, s1, u0, u1⟩ := k
  simp only at w0 w1 b0 b1 s0 s1 u0 u1
  unfold Co at hb
  simp only [lostS] at hb ⊢
  have e1 := eql_fn
  have hhalf := half_any g m wi bo sa up fl m0 m1 hf0 hf1 me _ _ hb
  obtain ⟨H, hH⟩ : ∃ H, hf m fl = H := ⟨_, rfl⟩
  rw [hH] at hhalf ⊢
  have HH := Lib.hid hH
  clear hH
  cases me
  all_goals
    have c0 := hb.cell 0
    have c2 := hb.cell 2
    have c6 := hb.cell 6
    simp only [List.getElem?_toArray, List.getElem?_cons_zero, List.getElem?_cons_succ, fv] at c0 c2 c6
    have f2 := hb.frozen 2
    have hs2 := hb.set 2 (.int .i64 H)
    go_enter Try.func15, Try.ntmps15
    go_wp2_with (go_at_call 21; refine hhalf.mono ?_; rintro e w' ⟨rfl, rfl⟩)
    refine (set_any g m wi H sa up m _ _ _ (by exact hs2)).mono ?_
    rintro e w5 ⟨rfl, hb5, hg5⟩
    rw [show min m 16777216 = m from by omega] at hb5
    go_wp2_with (go_at_call 18; refine (calm_any g m m H sa up _ _ _ hb5).mono ?_; rintro e w6 ⟨rfl, hb6, hg6⟩)
    go_end0
    exact ⟨rfl, hb6, ((grownBy_setCell (World.grownBy.refl w _) (by exact .inl rfl) _).trans hg5).trans hg6⟩

theorem window_any (g : Nat) (m : Int) (s : CS) (w : World) (hb : Co w g m s) :
    Calls Try.prog 9 #[.pointer (some ⟨g, 0, none⟩)] w fun e w' => e = .returned (.int .i64 s.wi) ∧ w = w' := by
  obtain ⟨wi, bo, sa, up, me⟩ := s
  have c1 := hb.cell 1
  simp only [List.getElem?_toArray, List.getElem?_cons_zero, List.getElem?_cons_succ] at c1
  go_enter Try.func9, Try.ntmps9
  go_wp2
  go_ret
  exact ⟨rfl, rfl⟩
theorem mending_any (g : Nat) (m : Int) (s : CS) (w : World) (hb : Co w g m s) :
    Calls Try.prog 17 #[.pointer (some ⟨g, 0, none⟩)] w fun e w' => e = .returned (.bool s.me) ∧ w = w' := by
  obtain ⟨wi, bo, sa, up, me⟩ := s
  have c1 := hb.cell 5
  simp only [List.getElem?_toArray, List.getElem?_cons_zero, List.getElem?_cons_succ] at c1
  go_enter Try.func17, Try.ntmps17
  go_wp2
  go_ret
  exact ⟨rfl, rfl⟩
def newS (m : Int) : CS := ⟨2 * m, 65535, 0, 0, false⟩
theorem new_ok (m : Int) (h0 : 1 ≤ m) (h1 : m ≤ 65535) (w : World) :
    Calls Try.prog 8 #[.int .i64 m] w fun e w' => e = .returned (.tuple #[.pointer (some ⟨w.heap.size, 0, none⟩), .int .i64 0]) ∧ Co w' w.heap.size m (newS m) ∧ Below w.heap.size w w' := by
  have hb := Bk.new w 43 #[.int .i64 m, .int .i64 (2 * m), .int .i64 65535, .int .i64 0, .int .u32 0, .bool false, .nilFunc]
  go_enter Try.func8, Try.ntmps8
  go_wp2_with (go_at_call 18; refine (calm_any _ m (2 * m) 65535 0 0 false .nilFunc _ hb).mono ?_; rintro e w2 ⟨rfl, hb2, hg2⟩)
  go_ret2
  exact ⟨rfl, hb2, ((Below.refl _ _).alloc (Nat.le_refl _) _).grown hg2 (by simp) (by intro i e; injection e with e; omega)⟩
theorem new_no (m : Int) (h : m < 1 ∨ 65535 < m) (w : World) :
    Calls Try.prog 8 #[.int .i64 m] w fun e w' => e = .returned (.tuple #[.pointer none, .int .i64 1]) ∧ w = w' := by
  rcases h with h | h
  all_goals
    go_enter Try.func8, Try.ntmps8
    go_wp2
    go_ret2
    exact ⟨rfl, rfl⟩
end Go.Proofs.Ytpeojjaaeckehaa
