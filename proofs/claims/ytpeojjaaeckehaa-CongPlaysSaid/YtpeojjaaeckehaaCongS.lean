/- Proved: what the other methods of the reference of chapter 16 do, each by its walk. Conditions: the window is a block of the caller's own, its numbers within their bounds. -/
import Derived.Test.YtpeojjaaeckehaaCongR
set_option linter.unusedVariables false
namespace Go.Proofs.Ytpeojjaaeckehaa
open Go.RowKit
set_option maxRecDepth 100000 in
set_option maxHeartbeats 2000000 in
theorem rover_pos (g : Nat) (m : Int) (s : CS) (n una : Int) (hn0 : -9223372036854775808 ≤ n) (hn1 : n ≤ 9223372036854775807) (hn : 0 < n) (k : CsOk m s) (hme : s.me = true) (hs : ¬ sd una s.up < 0) (w : World) (hb : Cr w g m s) :
    Calls Try.prog 12 #[.pointer (some ⟨g, 0, none⟩), .int .i64 n, .int .u32 una] w fun e w' => e = .returned (.bool false) ∧ Cr w' g m ⟨min s.bo 16777216, s.bo, 0, s.up, false⟩ ∧ w.grownBy w' (some g) := by
  obtain ⟨wi, bo, sa, up, me⟩ := s
  simp only at hme hs
  subst hme
  obtain ⟨m0, m1, w0, w1, b0, b1, s0, s1, u0, u1⟩ := k
  simp only at w0 w1 b0 b1 s0 s1 u0 u1
  unfold Cr at hb
  simp only at hb
  have c1 := hb.cell 1
  have c2 := hb.cell 2
  have c3 := hb.cell 3
  have c4 := hb.cell 4
  have c5 := hb.cell 5
  simp only [List.getElem?_toArray, List.getElem?_cons_zero, List.getElem?_cons_succ] at c1 c2 c3 c4 c5
  have f1 := hb.frozen 1
  have f3 := hb.frozen 3
  have f4 := hb.frozen 4
  have hd : decide (sd una up < 0) = false := decide_eq_false hs
  clear hs
  go_enter Try.func12, Try.ntmps12
  go_wp2_with (go_at_call 19; refine (rless_any _ _ _).mono ?_; rintro e w' ⟨rfl, rfl⟩)
  all_goals go_ret
  all_goals exact ⟨rfl, Cr.of (((hb.set 4 _).set 3 _).set 1 _) (by show _ = min bo 16777216; omega) rfl rfl rfl rfl, (grownBy_setCell (grownBy_setCell (grownBy_setCell (World.grownBy.refl w _) (by exact .inl rfl) _) (by exact .inl rfl) _) (by exact .inl rfl) _)⟩
set_option maxRecDepth 100000 in
set_option maxHeartbeats 2000000 in
theorem ron_pos (g : Nat) (m : Int) (s : CS) (n una : Int) (hn0 : -9223372036854775808 ≤ n) (hn1 : n ≤ 9223372036854775807) (hn : 0 < n) (k : CsOk m s) (hme : s.me = true) (hs : sd una s.up < 0) (w : World) (hb : Cr w g m s) :
    Calls Try.prog 12 #[.pointer (some ⟨g, 0, none⟩), .int .i64 n, .int .u32 una] w fun e w' => e = .returned (.bool true) ∧ Cr w' g m ⟨min (max m (s.wi - max 0 n + m)) 16777216, s.bo, s.sa, s.up, true⟩ ∧ w.grownBy w' (some g) := by
  obtain ⟨wi, bo, sa, up, me⟩ := s
  simp only at hme hs
  subst hme
  obtain ⟨m0, m1, w0, w1, b0, b1, s0, s1, u0, u1⟩ := k
  simp only at w0 w1 b0 b1 s0 s1 u0 u1
  unfold Cr at hb
  simp only at hb
  have c0 := hb.cell 0
  have c1 := hb.cell 1
  have c4 := hb.cell 4
  have c5 := hb.cell 5
  simp only [List.getElem?_toArray, List.getElem?_cons_zero, List.getElem?_cons_succ] at c0 c1 c4 c5
  have f1 := hb.frozen 1
  have hd : decide (sd una up < 0) = true := decide_eq_true hs
  have v1 : IntKind.i64.wrap (wi - n) = wi - n := IntWalk.i64_in _ (by omega)
  have v2 : IntKind.i64.wrap (wi - n + m) = wi - n + m := IntWalk.i64_in _ (by omega)
  have v3 : IntKind.i64.wrap (wi + m) = wi + m := IntWalk.i64_in _ (by omega)
  have v4 : IntKind.i64.wrap wi = wi := IntWalk.i64_in _ (by omega)
  clear hs
  go_enter Try.func12, Try.ntmps12
  go_wp2_with (go_at_call 19; refine (rless_any _ _ _).mono ?_; rintro e w' ⟨rfl, rfl⟩)
  refine wp_region_still_tail 20 (by kernel_rfl) (by kernel_rfl) ?_
  change wpStill _ _ (World.drew _) (fun a' => wpList _ _ _ _ a' (World.drew _)) _ _
  simp only [List.take_succ_cons, List.take_zero, List.drop_succ_cons, List.drop_zero]
  repeat still_step
  try refine wpStill_nil ?_
  go_wp2
  all_goals go_ret
  all_goals exact ⟨rfl, Cr.of (hb.drew.set 1 _) (by show _ = min (max m (wi - max 0 n + m)) 16777216; (repeat' split) <;> omega) rfl rfl rfl rfl, (grownBy_setCell (grownBy_drew (World.grownBy.refl w _)) (by exact .inl rfl) _)⟩
set_option maxRecDepth 100000 in
set_option maxHeartbeats 2000000 in
theorem rover_neg (g : Nat) (m : Int) (s : CS) (n una : Int) (hn0 : -9223372036854775808 ≤ n) (hn1 : n ≤ 9223372036854775807) (hn : n ≤ 0) (k : CsOk m s) (hme : s.me = true) (hs : ¬ sd una s.up < 0) (w : World) (hb : Cr w g m s) :
    Calls Try.prog 12 #[.pointer (some ⟨g, 0, none⟩), .int .i64 n, .int .u32 una] w fun e w' => e = .returned (.bool false) ∧ Cr w' g m ⟨min s.bo 16777216, s.bo, 0, s.up, false⟩ ∧ w.grownBy w' (some g) := by
  obtain ⟨wi, bo, sa, up, me⟩ := s
  simp only at hme hs
  subst hme
  obtain ⟨m0, m1, w0, w1, b0, b1, s0, s1, u0, u1⟩ := k
  simp only at w0 w1 b0 b1 s0 s1 u0 u1
  unfold Cr at hb
  simp only at hb
  have c1 := hb.cell 1
  have c2 := hb.cell 2
  have c3 := hb.cell 3
  have c4 := hb.cell 4
  have c5 := hb.cell 5
  simp only [List.getElem?_toArray, List.getElem?_cons_zero, List.getElem?_cons_succ] at c1 c2 c3 c4 c5
  have f1 := hb.frozen 1
  have f3 := hb.frozen 3
  have f4 := hb.frozen 4
  have hd : decide (sd una up < 0) = false := decide_eq_false hs
  clear hs
  go_enter Try.func12, Try.ntmps12
  go_wp2_with (go_at_call 19; refine (rless_any _ _ _).mono ?_; rintro e w' ⟨rfl, rfl⟩)
  all_goals go_ret
  all_goals exact ⟨rfl, Cr.of (((hb.set 4 _).set 3 _).set 1 _) (by show _ = min bo 16777216; omega) rfl rfl rfl rfl, (grownBy_setCell (grownBy_setCell (grownBy_setCell (World.grownBy.refl w _) (by exact .inl rfl) _) (by exact .inl rfl) _) (by exact .inl rfl) _)⟩
set_option maxRecDepth 100000 in
set_option maxHeartbeats 2000000 in
theorem ron_neg (g : Nat) (m : Int) (s : CS) (n una : Int) (hn0 : -9223372036854775808 ≤ n) (hn1 : n ≤ 9223372036854775807) (hn : n ≤ 0) (k : CsOk m s) (hme : s.me = true) (hs : sd una s.up < 0) (w : World) (hb : Cr w g m s) :
    Calls Try.prog 12 #[.pointer (some ⟨g, 0, none⟩), .int .i64 n, .int .u32 una] w fun e w' => e = .returned (.bool true) ∧ Cr w' g m ⟨min (max m (s.wi - max 0 n + m)) 16777216, s.bo, s.sa, s.up, true⟩ ∧ w.grownBy w' (some g) := by
  obtain ⟨wi, bo, sa, up, me⟩ := s
  simp only at hme hs
  subst hme
  obtain ⟨m0, m1, w0, w1, b0, b1, s0, s1, u0, u1⟩ := k
  simp only at w0 w1 b0 b1 s0 s1 u0 u1
  unfold Cr at hb
  simp only at hb
  have c0 := hb.cell 0
  have c1 := hb.cell 1
  have c4 := hb.cell 4
  have c5 := hb.cell 5
  simp only [List.getElem?_toArray, List.getElem?_cons_zero, List.getElem?_cons_succ] at c0 c1 c4 c5
  have f1 := hb.frozen 1
  have hd : decide (sd una up < 0) = true := decide_eq_true hs
  have v1 : IntKind.i64.wrap (wi - 0) = wi - 0 := IntWalk.i64_in _ (by omega)
  have v2 : IntKind.i64.wrap (wi - 0 + m) = wi - 0 + m := IntWalk.i64_in _ (by omega)
  have v3 : IntKind.i64.wrap (wi + m) = wi + m := IntWalk.i64_in _ (by omega)
  have v4 : IntKind.i64.wrap wi = wi := IntWalk.i64_in _ (by omega)
  clear hs
  go_enter Try.func12, Try.ntmps12
  go_wp2_with (go_at_call 19; refine (rless_any _ _ _).mono ?_; rintro e w' ⟨rfl, rfl⟩)
  refine wp_region_still_tail 20 (by kernel_rfl) (by kernel_rfl) ?_
  change wpStill _ _ (World.drew _) (fun a' => wpList _ _ _ _ a' (World.drew _)) _ _
  simp only [List.take_succ_cons, List.take_zero, List.drop_succ_cons, List.drop_zero]
  repeat still_step
  try refine wpStill_nil ?_
  go_wp2
  all_goals go_ret
  all_goals exact ⟨rfl, Cr.of (hb.drew.set 1 _) (by show _ = min (max m (wi - max 0 n + m)) 16777216; (repeat' split) <;> omega) rfl rfl rfl rfl, (grownBy_setCell (grownBy_drew (World.grownBy.refl w _)) (by exact .inl rfl) _)⟩
theorem racked_any (g : Nat) (m : Int) (s : CS) (n una : Int) (hn0 : -9223372036854775808 ≤ n) (hn1 : n ≤ 9223372036854775807) (k : CsOk m s) (w : World) (hb : Cr w g m s) :
    Calls Try.prog 12 #[.pointer (some ⟨g, 0, none⟩), .int .i64 n, .int .u32 una] w fun e w' => e = .returned (.bool (ackR una s)) ∧ Cr w' g m (ackS m n una s) ∧ w.grownBy w' (some g) := by
  obtain ⟨wi, bo, sa, up, me⟩ := s
  cases me
  · simp only [ackR, ackS]
    rcases (by omega : 0 < n ∨ n ≤ 0) with d | d
    · exact rgrow_pos g m _ n una hn0 hn1 d k rfl w hb
    · exact rgrow_neg g m _ n una hn0 hn1 d k rfl w hb
  · simp only [ackR, ackS]
    by_cases h : sd una up < 0
    · rw [if_pos h, decide_eq_true h]
      rcases (by omega : 0 < n ∨ n ≤ 0) with d | d
      · exact ron_pos g m _ n una hn0 hn1 d k rfl h w hb
      · exact ron_neg g m _ n una hn0 hn1 d k rfl h w hb
    · rw [if_neg h, decide_eq_false h]
      rcases (by omega : 0 < n ∨ n ≤ 0) with d | d
      · exact rover_pos g m _ n una hn0 hn1 d k rfl h w hb
      · exact rover_neg g m _ n una hn0 hn1 d k rfl h w hb
set_option maxRecDepth 100000 in
set_option maxHeartbeats 2000000 in
theorem rsame_mend (g : Nat) (m : Int) (s : CS) (fl nx : Int) (hf0 : -9223372036854775808 ≤ fl) (hf1 : fl ≤ 9223372036854775807) (k : CsOk m s) (hme : s.me = true) (w : World) (hb : Cr w g m s) :
    Calls Try.prog 14 #[.pointer (some ⟨g, 0, none⟩), .int .i64 fl, .int .u32 nx] w fun e w' => e = .returned (.bool false) ∧ Cr w' g m ⟨min (s.wi + m) 16777216, s.bo, s.sa + 1, s.up, true⟩ ∧ w.grownBy w' (some g) := by
  obtain ⟨wi, bo, sa, up, me⟩ := s
  simp only at hme
  subst hme
  obtain ⟨m0, m1, w0, w1, b0, b1, s0, s1, u0, u1⟩ := k
  simp only at w0 w1 b0 b1 s0 s1 u0 u1
  unfold Cr at hb
  simp only at hb
  have c0 := hb.cell 0
  have c1 := hb.cell 1
  have c3 := hb.cell 3
  have c4 := hb.cell 4
  simp only [List.getElem?_toArray, List.getElem?_cons_zero, List.getElem?_cons_succ] at c0 c1 c3 c4
  have f1 := hb.frozen 1
  have f3 := hb.frozen 3
  have v1 : IntKind.i64.wrap (wi + m) = wi + m := IntWalk.i64_in _ (by omega)
  go_enter Try.func14, Try.ntmps14
  go_wp2
  refine wp_region_still_tail 13 (by kernel_rfl) (by kernel_rfl) ?_
  change wpStill _ _ (World.drew _) (fun a' => wpList _ _ _ _ a' (World.drew _)) _ _
  simp only [List.take_succ_cons, List.take_zero, List.drop_succ_cons, List.drop_zero]
  repeat still_step
  try refine wpStill_nil ?_
  go_wp2
  all_goals go_ret
  all_goals exact ⟨rfl, Cr.of (((hb.set 3 _).drew).set 1 _) (by show _ = min (wi + m) 16777216; (repeat' split) <;> omega) rfl (by show _ = sa + 1; (repeat' split) <;> omega) rfl rfl, (grownBy_setCell (grownBy_drew (grownBy_setCell (World.grownBy.refl w _) (by exact .inl rfl) _)) (by exact .inl rfl) _)⟩
set_option maxRecDepth 100000 in
set_option maxHeartbeats 2000000 in
theorem rsame_more (g : Nat) (m : Int) (s : CS) (fl nx : Int) (hf0 : -9223372036854775808 ≤ fl) (hf1 : fl ≤ 9223372036854775807) (k : CsOk m s) (hme : s.me = false) (h2 : s.sa ≠ 2) (w : World) (hb : Cr w g m s) :
    Calls Try.prog 14 #[.pointer (some ⟨g, 0, none⟩), .int .i64 fl, .int .u32 nx] w fun e w' => e = .returned (.bool false) ∧ Cr w' g m ⟨s.wi, s.bo, s.sa + 1, s.up, false⟩ ∧ w.grownBy w' (some g) := by
  obtain ⟨wi, bo, sa, up, me⟩ := s
  simp only at hme h2
  subst hme
  obtain ⟨m0, m1, w0, w1, b0, b1, s0, s1, u0, u1⟩ := k
  simp only at w0 w1 b0 b1 s0 s1 u0 u1
  unfold Cr at hb
  simp only at hb
  have c0 := hb.cell 0
  have c1 := hb.cell 1
  have c3 := hb.cell 3
  have c4 := hb.cell 4
  simp only [List.getElem?_toArray, List.getElem?_cons_zero, List.getElem?_cons_succ] at c0 c1 c3 c4
  have f1 := hb.frozen 1
  have f3 := hb.frozen 3
  have q1 : (sa + 1 != 3) = true := by simp; omega
  have q2 : (sa == 2) = false := by simpa using h2
  have q3 : (sa + 1 == 3) = false := by simp; omega
  clear h2
  go_enter Try.func14, Try.ntmps14
  go_wp2
  all_goals go_ret
  all_goals exact ⟨rfl, Cr.of (hb.set 3 _) rfl rfl (by show _ = sa + 1; (repeat' split) <;> omega) rfl rfl, (grownBy_setCell (World.grownBy.refl w _) (by exact .inl rfl) _)⟩
set_option maxRecDepth 100000 in
set_option maxHeartbeats 2000000 in
theorem rsame_third (g : Nat) (m : Int) (s : CS) (fl nx : Int) (hf0 : -9223372036854775808 ≤ fl) (hf1 : fl ≤ 9223372036854775807) (k : CsOk m s) (hme : s.me = false) (h2 : s.sa = 2) (hn0 : 0 ≤ nx) (hn1 : nx ≤ 4294967295) (w : World) (hb : Cr w g m s) :
    Calls Try.prog 14 #[.pointer (some ⟨g, 0, none⟩), .int .i64 fl, .int .u32 nx] w fun e w' => e = .returned (.bool true) ∧ Cr w' g m ⟨min (hf m fl + 3 * m) 16777216, hf m fl, 3, nx, true⟩ ∧ w.grownBy w' (some g) := by
  obtain ⟨wi, bo, sa, up, me⟩ := s
  simp only at hme h2
  subst hme
  obtain ⟨m0, m1, w0, w1, b0, b1, s0, s1, u0, u1⟩ := k
  simp only at w0 w1 b0 b1 s0 s1 u0 u1
  unfold Cr at hb
  simp only at hb
  subst h2
  have c0 := hb.cell 0
  have c1 := hb.cell 1
  have c2 := hb.cell 2
  have c3 := hb.cell 3
  have c4 := hb.cell 4
  have c5 := hb.cell 5
  simp only [List.getElem?_toArray, List.getElem?_cons_zero, List.getElem?_cons_succ] at c0 c1 c2 c3 c4 c5
  have f1 := hb.frozen 1
  have f2 := hb.frozen 2
  have f3 := hb.frozen 3
  have f4 := hb.frozen 4
  have f5 := hb.frozen 5
  have hs := hb.set 3 (.int .i64 3)
  have hh := hf_bd m fl m0 m1 hf1
  have hhalf := rhalf_any g m wi bo 3 up fl m0 m1 hf0 hf1 false _ hs
  obtain ⟨H, hH⟩ : ∃ H, hf m fl = H := ⟨_, rfl⟩
  rw [hH] at hh hhalf ⊢
  have HH := Lib.hid hH
  have v1 : IntKind.i64.wrap (3 * m) = 3 * m := IntWalk.i64_in _ (by omega)
  have v2 : IntKind.i64.wrap (H + 3 * m) = H + 3 * m := IntWalk.i64_in _ (by omega)
  clear hH
  go_enter Try.func14, Try.ntmps14
  go_wp2_with (go_at_call 23; refine hhalf.mono ?_; rintro e w' ⟨rfl, rfl⟩)
  refine wp_region_still_tail 14 (by kernel_rfl) (by kernel_rfl) ?_
  change wpStill _ _ (World.drew _) (fun a' => wpList _ _ _ _ a' (World.drew _)) _ _
  simp only [List.take_succ_cons, List.take_zero, List.drop_succ_cons, List.drop_zero]
  repeat still_step
  try refine wpStill_nil ?_
  go_wp2
  all_goals go_ret
  all_goals exact ⟨rfl, Cr.of (((((hs.set 2 _).drew).set 1 _).set 4 _).set 5 _) (by show _ = min (H + 3 * m) 16777216; (repeat' split) <;> omega) rfl rfl rfl rfl, (grownBy_setCell (grownBy_setCell (grownBy_setCell (grownBy_drew (grownBy_setCell (grownBy_setCell (World.grownBy.refl w _) (by exact .inl rfl) _) (by exact .inl rfl) _)) (by exact .inl rfl) _) (by exact .inl rfl) _) (by exact .inl rfl) _)⟩
theorem rsame_any (g : Nat) (m : Int) (s : CS) (fl nx : Int) (hf0 : -9223372036854775808 ≤ fl) (hf1 : fl ≤ 9223372036854775807) (hn0 : 0 ≤ nx) (hn1 : nx ≤ 4294967295) (k : CsOk m s) (w : World) (hb : Cr w g m s) :
    Calls Try.prog 14 #[.pointer (some ⟨g, 0, none⟩), .int .i64 fl, .int .u32 nx] w fun e w' => e = .returned (.bool (sameR s)) ∧ Cr w' g m (sameS m fl nx s) ∧ w.grownBy w' (some g) := by
  obtain ⟨wi, bo, sa, up, me⟩ := s
  cases me
  · simp only [sameR, sameS]
    by_cases h : sa = 2
    · rw [if_pos h, decide_eq_true h]
      exact rsame_third g m _ fl nx hf0 hf1 k rfl h hn0 hn1 w hb
    · rw [if_neg h, decide_eq_false h]
      exact rsame_more g m _ fl nx hf0 hf1 k rfl h w hb
  · simp only [sameR, sameS]
    exact rsame_mend g m _ fl nx hf0 hf1 k rfl w hb
set_option maxRecDepth 100000 in
set_option maxHeartbeats 2000000 in
theorem rlost_any (g : Nat) (m : Int) (s : CS) (fl : Int) (hf0 : -9223372036854775808 ≤ fl) (hf1 : fl ≤ 9223372036854775807) (k : CsOk m s) (w : World) (hb : Cr w g m s) :
    Calls Try.prog 16 #[.pointer (some ⟨g, 0, none⟩), .int .i64 fl] w fun e w' => e = .returned (.tuple #[]) ∧ Cr w' g m (lostS m fl s) ∧ w.grownBy w' (some g) := by
  obtain ⟨wi, bo, sa, up, me⟩ := s
  obtain ⟨m0, m1, w0, w1, b0, b1, s0, s1, u0, u1⟩ := k
  simp only at w0 w1 b0 b1 s0 s1 u0 u1
  unfold Cr at hb
  simp only [lostS] at hb ⊢
  have c0 := hb.cell 0
  have c1 := hb.cell 1
  have c2 := hb.cell 2
  have c3 := hb.cell 3
  have c4 := hb.cell 4
  simp only [List.getElem?_toArray, List.getElem?_cons_zero, List.getElem?_cons_succ] at c0 c1 c2 c3 c4
  have f1 := hb.frozen 1
  have f2 := hb.frozen 2
  have f3 := hb.frozen 3
  have f4 := hb.frozen 4
  have hhalf := rhalf_any g m wi bo sa up fl m0 m1 hf0 hf1 me _ hb
  obtain ⟨H, hH⟩ : ∃ H, hf m fl = H := ⟨_, rfl⟩
  rw [hH] at hhalf ⊢
  have HH := Lib.hid hH
  clear hH
  go_enter Try.func16, Try.ntmps16
  go_wp2_with (go_at_call 23; refine hhalf.mono ?_; rintro e w' ⟨rfl, rfl⟩)
  go_end0
  exact ⟨rfl, Cr.of ((((hb.set 2 _).set 1 _).set 3 _).set 4 _) rfl rfl rfl rfl rfl, (grownBy_setCell (grownBy_setCell (grownBy_setCell (grownBy_setCell (World.grownBy.refl w _) (by exact .inl rfl) _) (by exact .inl rfl) _) (by exact .inl rfl) _) (by exact .inl rfl) _)⟩
theorem rnew_ok (m : Int) (h0 : 1 ≤ m) (h1 : m ≤ 65535) (w : World) :
    Calls Try.prog 11 #[.int .i64 m] w fun e w' => e = .returned (.tuple #[.pointer (some ⟨w.heap.size, 0, none⟩), .int .i64 0]) ∧ Cr w' w.heap.size m (newS m) ∧ Below w.heap.size w w' := by
  go_enter Try.func11, Try.ntmps11
  go_wp2
  go_ret2
  exact ⟨rfl, Bk.new w _ _, (Below.refl _ _).alloc (Nat.le_refl _) _⟩
theorem rnew_no (m : Int) (h : m < 1 ∨ 65535 < m) (w : World) :
    Calls Try.prog 11 #[.int .i64 m] w fun e w' => e = .returned (.tuple #[.pointer none, .int .i64 1]) ∧ w = w' := by
  rcases h with h | h
  all_goals
    go_enter Try.func11, Try.ntmps11
    go_wp2
    go_ret2
    exact ⟨rfl, rfl⟩
end Go.Proofs.Ytpeojjaaeckehaa
