/- Proved: what the functions of package seq and of its reference return, each by its walk. Conditions: the arguments lie within their kinds. -/
import Derived.Test.YtdnkonpmfbpncaaRows
import Derived.WalkKit
import Derived.RowKit3
import Derived.Lib.Hide
set_option linter.unusedVariables false
namespace Go.Proofs.Ytdnkonpmfbpncaa
open Go.RowKit

/-- how far a is ahead of b -/
def sd (a b : Int) : Int := wrap32 (a - b)
theorem sd_bd (a b : Int) : -2147483648 ≤ sd a b ∧ sd a b ≤ 2147483647 := by unfold sd wrap32; omega
theorem sd_mod (a b : Int) : wrap32 ((a - b) % 4294967296) = sd a b := by unfold sd wrap32; omega
theorem sd_64 (a b : Int) : wrap64 (sd a b) = sd a b := IntWalk.wrap64_in _ (by have := sd_bd a b; omega)

theorem diff_any (a b : Int) (w : World) :
  Calls Try.prog 12 #[.int .u32 a, .int .u32 b] w fun e w' => e = .returned (.int .i64 (sd a b)) ∧ w = w' := by
  go_enter Try.func12, Try.ntmps12
  go_wp2
  go_ret
  refine ⟨?_, rfl⟩
  show Ending.returned (.int .i64 (wrap64 (wrap32 ((a - b) % 4294967296)))) = _
  rw [sd_mod, sd_64]

theorem less_any (a b : Int) (w : World) :
  Calls Try.prog 14 #[.int .u32 a, .int .u32 b] w fun e w' => e = .returned (.bool (decide (sd a b < 0))) ∧ w = w' := by
  go_enter Try.func14, Try.ntmps14
  go_wp2_with (go_at_call 12; refine (diff_any _ _ _).mono ?_; rintro e w' ⟨rfl, rfl⟩)
  go_ret
  exact ⟨rfl, rfl⟩

theorem in_any (a b n : Int) (w : World) :
  Calls Try.prog 9 #[.int .u32 a, .int .u32 b, .int .i64 n] w fun e w' => e = .returned (.bool (decide ((a - b) % 4294967296 < n))) ∧ w = w' := by
  go_enter Try.func9, Try.ntmps9
  go_wp2
  go_ret
  exact ⟨rfl, rfl⟩

theorem known_any (w : World) :
  Calls Try.prog 11 #[] w fun e w' => e = .returned (.bool true) ∧ w = w' := by
  have h0 : sd 0 4294967295 = 1 := by unfold sd wrap32; rfl
  have h1 : decide (sd 4294967295 0 < 0) = true := by unfold sd wrap32; rfl
  go_enter Try.func11, Try.ntmps11
  go_wp2_with (first | (go_at_call 12; refine (diff_any _ _ _).mono ?_; rintro e w' ⟨rfl, rfl⟩) | (go_at_call 14; refine (less_any _ _ _).mono ?_; rintro e w' ⟨rfl, rfl⟩) | (go_at_call 9; refine (in_any _ _ _ _).mono ?_; rintro e w' ⟨rfl, rfl⟩))
  go_ret
  exact ⟨rfl, rfl⟩



theorem rdiff_any (a b : Int) (w : World) :
  Calls Try.prog 13 #[.int .u32 a, .int .u32 b] w fun e w' => e = .returned (.int .i64 (sd a b)) ∧ w = w' := by
  go_enter Try.func13, Try.ntmps13
  go_wp2
  go_ret
  refine ⟨?_, rfl⟩
  show Ending.returned (.int .i64 (wrap64 (wrap32 ((a - b) % 4294967296)))) = _
  rw [sd_mod, sd_64]

theorem rless_any (a b : Int) (w : World) :
  Calls Try.prog 15 #[.int .u32 a, .int .u32 b] w fun e w' => e = .returned (.bool (decide (sd a b < 0))) ∧ w = w' := by
  go_enter Try.func15, Try.ntmps15
  go_wp2_with (go_at_call 13; refine (rdiff_any _ _ _).mono ?_; rintro e w' ⟨rfl, rfl⟩)
  go_ret
  exact ⟨rfl, rfl⟩

theorem bool_eq {x y : Bool} (h : x = y) : Ending.returned (.bool x) = .returned (.bool y) := by rw [h]
theorem rin_any (a b n : Int) (w : World) :
  Calls Try.prog 10 #[.int .u32 a, .int .u32 b, .int .i64 n] w fun e w' => e = .returned (.bool (decide ((a - b) % 4294967296 < n))) ∧ w = w' := by
  obtain ⟨k1, hk1⟩ : ∃ k, decide ((a - b) % 4294967296 < n) = k := ⟨_, rfl⟩
  have Hk1 := Lib.hid hk1
  rw [hk1]; clear hk1
  rcases (by omega : n ≤ 0 ∨ 0 < n) with c1 | c1
  all_goals
    go_enter Try.func10, Try.ntmps10
    go_wp2
    go_ret
    refine ⟨bool_eq ?_, rfl⟩
    rw [← Hk1.out, Bool.eq_iff_iff]
    try (simp; try omega)

def smax (a b : Int) : Int := if sd a b < 0 then b else a
theorem max_any (a b : Int) (w : World) :
  Calls Try.prog 16 #[.int .u32 a, .int .u32 b] w fun e w' => e = .returned (.int .u32 (smax a b)) ∧ w = w' := by
  unfold smax
  by_cases h : sd a b < 0
  all_goals
    go_enter Try.func16, Try.ntmps16
    go_wp2_with (go_at_call 14; refine (less_any _ _ _).mono ?_; rintro e w' ⟨rfl, rfl⟩)
    go_ret
    exact ⟨rfl, rfl⟩
theorem rmax_any (a b : Int) (w : World) :
  Calls Try.prog 17 #[.int .u32 a, .int .u32 b] w fun e w' => e = .returned (.int .u32 (smax a b)) ∧ w = w' := by
  unfold smax
  by_cases h : sd a b < 0
  all_goals
    go_enter Try.func17, Try.ntmps17
    go_wp2_with (go_at_call 15; refine (rless_any _ _ _).mono ?_; rintro e w' ⟨rfl, rfl⟩)
    go_ret
    exact ⟨rfl, rfl⟩
def tf1 (d n m : Int) : Int := if n < 1 ∨ m < 1 ∨ min (min n 2147483647 - max 0 (-d)) (min m 2147483647 - d - max 0 (-d)) < 1 then 0 else max 0 (-d)
def tf2 (d n m : Int) : Int := if n < 1 ∨ m < 1 ∨ min (min n 2147483647 - max 0 (-d)) (min m 2147483647 - d - max 0 (-d)) < 1 then 0 else min (min n 2147483647 - max 0 (-d)) (min m 2147483647 - d - max 0 (-d))

theorem tup2_eq {x y x' y' : Int} (h : x = x') (h' : y = y') : Ending.returned (.tuple #[.int .i64 x, .int .i64 y]) = .returned (.tuple #[.int .i64 x', .int .i64 y']) := by rw [h, h']
theorem trim_any (a n b m : Int) (hn : -9223372036854775808 ≤ n) (hm : -9223372036854775808 ≤ m) (w : World) :
  Calls Try.prog 20 #[.int .u32 a, .int .i64 n, .int .u32 b, .int .i64 m] w fun e w' => e = .returned (.tuple #[.int .i64 (tf1 (sd a b) n m), .int .i64 (tf2 (sd a b) n m)]) ∧ w = w' := by
  have hb := sd_bd a b
  generalize hd : sd a b = d at *
  have Hd := Lib.hid hd
  clear hd
  obtain ⟨k1, hk1⟩ : ∃ k, tf1 d n m = k := ⟨_, rfl⟩
  have Hk1 := Lib.hid hk1
  rw [hk1]; clear hk1
  obtain ⟨k2, hk2⟩ : ∃ k, tf2 d n m = k := ⟨_, rfl⟩
  have Hk2 := Lib.hid hk2
  rw [hk2]; clear hk2
  rcases (by omega : 2147483647 < n ∨ n ≤ 2147483647) with c3 | c3 <;> rcases (by omega : 2147483647 < m ∨ m ≤ 2147483647) with c4 | c4 <;> rcases (by omega : d < 0 ∨ 0 ≤ d) with c5 | c5 <;> rcases (by omega : n < 1 ∨ 1 ≤ n) with c1 | c1 <;> rcases (by omega : m < 1 ∨ 1 ≤ m) with c2 | c2 <;> try omega
  all_goals
    go_enter Try.func20, Try.ntmps20
    go_wp2_with (go_at_call 12; refine (diff_any _ _ _).mono ?_; rintro e w' ⟨rfl, rfl⟩; rw [Hd.out])
    all_goals
      go_ret2
      refine ⟨tup2_eq ?_ ?_, rfl⟩
      · rw [← Hk1.out]; unfold tf1; omega
      · rw [← Hk2.out]; unfold tf2; omega
theorem rtrim_any (a n b m : Int) (hn : -9223372036854775808 ≤ n) (hm : -9223372036854775808 ≤ m) (w : World) :
  Calls Try.prog 21 #[.int .u32 a, .int .i64 n, .int .u32 b, .int .i64 m] w fun e w' => e = .returned (.tuple #[.int .i64 (tf1 (sd a b) n m), .int .i64 (tf2 (sd a b) n m)]) ∧ w = w' := by
  have hb := sd_bd a b
  generalize hd : sd a b = d at *
  have Hd := Lib.hid hd
  clear hd
  obtain ⟨k1, hk1⟩ : ∃ k, tf1 d n m = k := ⟨_, rfl⟩
  have Hk1 := Lib.hid hk1
  rw [hk1]; clear hk1
  obtain ⟨k2, hk2⟩ : ∃ k, tf2 d n m = k := ⟨_, rfl⟩
  have Hk2 := Lib.hid hk2
  rw [hk2]; clear hk2
  rcases (by omega : 2147483647 < n ∨ n ≤ 2147483647) with c3 | c3 <;> rcases (by omega : 2147483647 < m ∨ m ≤ 2147483647) with c4 | c4 <;> rcases (by omega : d < 0 ∨ 0 ≤ d) with c5 | c5 <;> rcases (by omega : n < 1 ∨ 1 ≤ n) with c1 | c1 <;> rcases (by omega : m < 1 ∨ 1 ≤ m) with c2 | c2 <;> try omega
  all_goals
    go_enter Try.func21, Try.ntmps21
    go_wp2_with (go_at_call 13; refine (rdiff_any _ _ _).mono ?_; rintro e w' ⟨rfl, rfl⟩; rw [Hd.out])
    all_goals
      go_ret2
      refine ⟨tup2_eq ?_ ?_, rfl⟩
      · rw [← Hk1.out]; unfold tf1; omega
      · rw [← Hk2.out]; unfold tf2; omega
def fitB (a n b m : Int) : Bool := decide ((n ≤ 0 ∧ m ≤ 0 ∧ a = b) ∨ (n ≤ 0 ∧ 0 < m ∧ (a-b) % 4294967296 < m) ∨ (0 < n ∧ 0 < m ∧ ((a-b)% 4294967296 < m ∨ (a + (n-1) - b) % 4294967296 < m)))

theorem fits_any (a n b m : Int) (ha : 0 ≤ a) (ha' : a ≤ 4294967295) (hb : 0 ≤ b) (hb' : b ≤ 4294967295) (hn : n ≤ 9223372036854775807) (w : World) :
  Calls Try.prog 18 #[.int .u32 a, .int .i64 n, .int .u32 b, .int .i64 m] w fun e w' => e = .returned (.bool (fitB a n b m)) ∧ w = w' := by
  obtain ⟨k1, hk1⟩ : ∃ k, fitB a n b m = k := ⟨_, rfl⟩
  have Hk1 := Lib.hid hk1
  rw [hk1]; clear hk1
  rcases (by omega : n ≤ 0 ∨ 0 < n) with c1 | c1 <;> rcases (by omega : m ≤ 0 ∨ 0 < m) with c2 | c2 
  all_goals
    go_enter Try.func18, Try.ntmps18
    go_wp2_with (go_at_call 9; refine (in_any _ _ _ _).mono ?_; rintro e w' ⟨rfl, rfl⟩)
    all_goals
      go_ret
      refine ⟨bool_eq ?_, rfl⟩
      rw [← Hk1.out, Bool.eq_iff_iff]
      simp [fitB]; omega
theorem rfits_any (a n b m : Int) (ha : 0 ≤ a) (ha' : a ≤ 4294967295) (hb : 0 ≤ b) (hb' : b ≤ 4294967295) (hn : n ≤ 9223372036854775807) (w : World) :
  Calls Try.prog 19 #[.int .u32 a, .int .i64 n, .int .u32 b, .int .i64 m] w fun e w' => e = .returned (.bool (fitB a n b m)) ∧ w = w' := by
  obtain ⟨k1, hk1⟩ : ∃ k, fitB a n b m = k := ⟨_, rfl⟩
  have Hk1 := Lib.hid hk1
  rw [hk1]; clear hk1
  rcases (by omega : n ≤ 0 ∨ 0 < n) with c1 | c1 <;> rcases (by omega : m ≤ 0 ∨ 0 < m) with c2 | c2 
  all_goals
    go_enter Try.func19, Try.ntmps19
    go_wp2_with (go_at_call 10; refine (rin_any _ _ _ _).mono ?_; rintro e w' ⟨rfl, rfl⟩)
    all_goals
      go_ret
      refine ⟨bool_eq ?_, rfl⟩
      rw [← Hk1.out, Bool.eq_iff_iff]
      simp [fitB]; omega

end Go.Proofs.Ytdnkonpmfbpncaa
