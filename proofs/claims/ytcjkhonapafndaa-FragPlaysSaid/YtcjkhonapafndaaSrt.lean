/- Proved: the closure that spans are sorted by: where they begin, by its walk. Conditions: none. -/
import Derived.Test.YtcjkhonapafndaaTm
import Derived.LoopTactic
import Derived.WalkMore
set_option linter.unusedVariables false
set_option linter.unusedSimpArgs false
namespace Go.Proofs.Ytcjkhonapafndaa
open Go.RowKit

def cmpI (a b : Int) : Int := if a < b then -1 else if b < a then 1 else 0
def cmpS (x y : Int × Int) : Int := cmpI x.1 y.1
theorem nan_any (a : Int) (w : World) : Calls Try.prog 69 #[.int .i64 a] w fun e w' => e = .returned (.bool false) ∧ w' = w := by
  have h : (a != a) = false := by simp
  go_enter Try.func69, Try.ntmps69
  go_wp2
  go_ret
  exact ⟨rfl, rfl⟩
theorem compare_any (a b : Int) (w : World) : Calls Try.prog 62 #[.int .i64 a, .int .i64 b] w fun e w' => e = .returned (.int .i64 (cmpI a b)) ∧ w' = w := by
  unfold cmpI
  rcases (by omega : a < b ∨ (b < a ∧ ¬ a < b) ∨ (¬ a < b ∧ ¬ b < a)) with d | ⟨d, d2⟩ | ⟨d, d2⟩
  · rw [if_pos d]
    have e1 : decide (a < b) = true := decide_eq_true d
    go_enter Try.func62, Try.ntmps62
    go_wp2_with (go_at_call 69; refine (nan_any _ _).mono ?_; rintro e w' ⟨rfl, rfl⟩)
    go_ret
    exact ⟨rfl, rfl⟩
  · rw [if_neg d2, if_pos d]
    have e1 : decide (a < b) = false := decide_eq_false d2
    have e2 : decide (b < a) = true := decide_eq_true d
    go_enter Try.func62, Try.ntmps62
    go_wp2_with (go_at_call 69; refine (nan_any _ _).mono ?_; rintro e w' ⟨rfl, rfl⟩)
    go_ret
    exact ⟨rfl, rfl⟩
  · rw [if_neg d, if_neg d2]
    have e1 : decide (a < b) = false := decide_eq_false d
    have e2 : decide (b < a) = false := decide_eq_false d2
    go_enter Try.func62, Try.ntmps62
    go_wp2_with (go_at_call 69; refine (nan_any _ _).mono ?_; rintro e w' ⟨rfl, rfl⟩)
    go_ret
    exact ⟨rfl, rfl⟩
set_option maxRecDepth 100000 in
theorem lay1_any (x y : Int × Int) (w : World) : Calls Try.prog 65 #[.agg #[.int .i64 x.1, .int .i64 x.2], .agg #[.int .i64 y.1, .int .i64 y.2]] w fun e w' => e = .returned (.int .i64 (cmpS x y)) ∧
    w' = ((w.alloc (.cells #[.int .i64 x.1, .int .i64 x.2] 89)).alloc (.cells #[.int .i64 y.1, .int .i64 y.2] 89)) := by
  unfold cmpS
  have h0 := fun w => compare_any x.1 y.1 w
  generalize cmpI x.1 y.1 = c0 at h0 ⊢
  go_enter Try.func65, Try.ntmps65
  go_wp2_with (go_at_call 62; refine (h0 _).mono ?_; rintro e w' ⟨rfl, rfl⟩)
  go_ret
  exact ⟨rfl, rfl⟩
end Go.Proofs.Ytcjkhonapafndaa
