/- Proved: what the laws' own helpers roomy and stands of package wharflaw1 do, each by its walk. Conditions: as each says. -/
import Derived.Test.YtocigdkndlmikaaSum
import Derived.Test.YtocigdkndlmikaaAp
set_option linter.unusedVariables false
namespace Go.Proofs.Ytocigdkndlmikaa
open Go.RowKit

theorem roomy_any (A : Option Addr) (n c B : Nat) (l : List Int) (hn : l.length = n) (hmax : n ≤ 1000000) (hb : Bs l) (w : World) (hr : RB w B A l) (hB : B ≤ w.heap.size) :
    Calls Try.prog 20 #[.slice A n c] w fun e w' => ∃ A' c', e = .returned (.slice A' (n + 1) c') ∧ OB 5 w' w.heap.size A' (n + 1) c' (l ++ [171]) ∧ n + 1 ≤ c' ∧ Below w.heap.size w w' := by
  have Hn := Lib.hid hn
  clear hn
  go_enter Try.func20, Try.ntmps20
  go_wp2_with (first
    | (at_builtin; refine ap8_new rfl (.tmp 3) (.tmp 4) rfl rfl rfl hr hB Hn.out (by omega) ?_; intro A1 c1 w1 hO1 hB1 hz1 hc1)
    | (at_builtin; refine ap8_one rfl (.tmp 5) (.tmp 6) rfl w.heap.size rfl hO1 rfl (by omega) (by omega) ?_; intro A2 c2 w2 hO2 hB2 hg2 hA2 hz2 hc2)
    | (at_builtin; refine ap8_one rfl (.tmp 7) (.tmp 8) rfl w.heap.size rfl hO2 rfl (by omega) (by omega) ?_; intro A3 c3 w3 hO3 hB3 hg3 hA3 hz3 hc3))
  go_ret
  refine ⟨A3, c3, rfl, ?_, by omega, (hB1.trans hB2).trans hB3⟩
  have h := OB.takeN hO3 (m := n + 1) (by omega)
  rwa [List.take_append_of_le_length (by rw [List.length_append, Hn.out]; simp), List.take_of_length_le (by rw [List.length_append, Hn.out]; simp)] at h

theorem stands_any (A A2 : Option Addr) (n c c2 B B2 : Nat) (l : List Int) (hn : l.length = n) (hmax : n ≤ 1000000) (hc : n + 1 ≤ c) (hb : Bs l) (w : World) (hr : RB w B A (l ++ [171])) (hr2 : RB w B2 A2 l) :
    Calls Try.prog 23 #[.slice A (n + 1) c, .slice A2 n c2] w fun e w' => e = .returned (.bool true) ∧ ∃ k, w' = w.drewN k := by
  have h1 := hr.take n
  rw [List.take_append_of_le_length (by omega), List.take_of_length_le (by omega)] at h1
  obtain ⟨b, off, rfl, _, hc1⟩ := hr.at_ (k := n) (by rw [List.length_append, hn]; simp)
  rw [show ((l ++ [171])[n]?.getD 0) = 171 from by rw [← hn]; simp] at hc1
  have Hn := Lib.hid hn
  clear hn
  go_enter Try.func23, Try.ntmps23
  go_wp2_with (go_at_call 19; refine (same_any _ _ n _ n _ B B2 l l Hn.out Hn.out (by omega) (by omega) hb hb _ (by exact h1) (by exact hr2)).mono ?_; rintro e w' ⟨rfl, k, rfl⟩)
  go_ret
  exact ⟨rfl, _, rfl⟩
end Go.Proofs.Ytocigdkndlmikaa
