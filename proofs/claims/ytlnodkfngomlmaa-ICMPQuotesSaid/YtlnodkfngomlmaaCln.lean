/- Proved: a copy of bytes. Conditions: the bytes lie in memory. -/
import Derived.Test.YtlnodkfngomlmaaIpN
set_option linter.unusedVariables false
set_option linter.unusedSimpArgs false
namespace Go.Proofs.Ytlnodkfngomlmaa
open Go.RowKit

/-- A copy of bytes, nil of nil. -/
theorem clone_any (A : Option Addr) (n c B : Nat) (l : List Int) (hn : l.length = n) (hmax : n ≤ 140737488355328) (w : World) (hr : RB w B A l) (hB : B ≤ w.heap.size) :
    Calls Try.prog 53 #[.slice A n c] w fun e w' => ∃ A' c', e = .returned (.slice A' n c') ∧ OB 5 w' w.heap.size A' n c' l ∧ Below w.heap.size w w' := by
  have HN := Lib.hid hn
  clear hn
  have qs : ∀ (w : World) (a : Option Addr) (n c n' c' : Nat), (binOp .eql 23 (.slice a n c) (.slice none n' c')).run Try.prog w = .ok (.bool a.isNone) w := fun w a n c n' c' => Lib.run_eql_slice_nil w _ _ a n c n' c' Try.underlying23
  rcases A with _ | a
  · have hl : n = 0 := by
      rcases Nat.eq_zero_or_pos l.length with h0 | h0
      · rw [← HN.out]; exact h0
      · obtain ⟨_, _, h, _⟩ := hr (by rw [by8_length]; exact h0); cases h
    subst hl
    have hl0 := Lib.hid (List.eq_nil_of_length_eq_zero HN.out)
    go_enter Try.func53, Try.ntmps53
    go_wp2
    go_ret
    exact ⟨none, 0, rfl, by rw [hl0.out]; exact Ow.none_ _ _ _, Below.refl _ _⟩
  · go_enter Try.func53, Try.ntmps53
    go_wp2_with (at_builtin; refine ap8_new rfl (.tmp 5) (.tmp 6) rfl rfl rfl hr hB HN.out (by omega) ?_; intro A1 c1 w1 hO1 hB1 hz1 hc1)
    go_ret
    exact ⟨A1, c1, rfl, hO1, hB1⟩
end Go.Proofs.Ytlnodkfngomlmaa
