/- Proved: a slice of bytes inside plain data that came in reads as a list of bytes. Conditions: none. -/
import Derived.Test.YtocigdkndlmikaaLib
import Derived.Test.YtocigdkndlmikaaRead
set_option linter.unusedVariables false
namespace Go.Proofs.Ytocigdkndlmikaa
open Go.RowKit
theorem Sh.bytes {w : World} {cs : List Value} (h : (Sh.slice 1 1 (.int .u8)).Is w cs) :
    ∃ A n cap l, cs = [.slice A n cap] ∧ RB w w.heap.size A l ∧ Bs l ∧ l.length = n ∧ n ≤ cap ∧ cap ≤ 140737488351232 := by
  obtain ⟨A, n, cap, l, e, h1, h2, _, h3, h4, h5⟩ := SL.of_is (f := fun x : Int => [Value.int .u8 x]) (Q := fun x => 0 ≤ x ∧ x < 256) h (by omega) fun cs' hl hI => by
    obtain ⟨n, rfl, hw⟩ := hI
    exact ⟨n, rfl, by have := bounds_u8 hw; omega⟩
  refine ⟨A, n, cap, l, e, fun hn => ?_, h5, h3, h1, by omega⟩
  rw [by8_length] at hn
  obtain ⟨b, off, rfl, hb, hc⟩ := h4 hn
  refine ⟨b, off, rfl, hb, fun j u hu => ?_⟩
  have hj : j < l.length := by
    rcases Nat.lt_or_ge j l.length with hj | hj
    · exact hj
    · rw [List.getElem?_eq_none (by rw [by8_length]; exact hj)] at hu; cases hu
  rw [by8_get l j hj] at hu
  have := hc j (l[j]) (List.getElem?_eq_getElem hj) 0 _ rfl
  rw [Nat.mul_one, Nat.add_zero] at this
  rw [this, ← hu, List.getElem?_eq_getElem hj]
  rfl
end Go.Proofs.Ytocigdkndlmikaa
