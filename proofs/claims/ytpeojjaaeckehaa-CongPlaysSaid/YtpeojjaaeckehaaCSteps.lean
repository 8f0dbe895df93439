/- Proved: a script of cong that came in reads as a list of steps. Conditions: none. -/
import Derived.Test.YtpeojjaaeckehaaRows
import Derived.Test.YtpeojjaaeckehaaRead
import Derived.Deep.RegionHeld3
set_option linter.unusedVariables false
namespace Go.Proofs.Ytpeojjaaeckehaa
open Go.RowKit

/-- A step: its kind, its number, its sequence number. -/
def stepC (x : Int × Int × Int) : List Value := [.int .i64 x.1, .int .i64 x.2.1, .int .u32 x.2.2]
def StepOk (x : Int × Int × Int) : Prop := (-9223372036854775808 ≤ x.1 ∧ x.1 ≤ 9223372036854775807) ∧ (-9223372036854775808 ≤ x.2.1 ∧ x.2.1 ≤ 9223372036854775807) ∧ (0 ≤ x.2.2 ∧ x.2.2 ≤ 4294967295)
def ViewSteps (w : World) (v : Value) : Prop := ∃ A len cap, ∃ l : List (Int × Int × Int), v = .slice A len cap ∧ len ≤ cap ∧ cap * 24 ≤ 140737488351232 ∧ l.length = len ∧ SL 3 stepC w w.heap.size A l ∧ ∀ x ∈ l, StepOk x
theorem sh_steps : shapeOf Try.prog 9 31 = some (.slice 3 24 (.part 0 1 (.int .i64) (.part 1 1 (.int .i64) (.part 2 1 (.int .u32) .fin)))) := by kernel_rfl
theorem open_steps {H : Type} {enc : TypeId × Value → H} {W : World} {b0 : Nat} {v : Value} {d : DataW H} {p : List MemPlace} (hv : Value.okWide Try.prog W .any b0 31 v)
    (h : DataW.Trod enc Try.prog W 0 (fun _ => true) true 31 v d p) (hw : ∀ k ∈ d.weights Try.prog 31, k ≤ reachBytes) : ViewSteps W v := by
  have h1 := Sh.open_slice sh_steps Try.underlying31 hv h hw
  obtain ⟨A, len, cap, l, e, h2, h3, _, h4, h5, h6⟩ := SL.of_is (f := stepC) (Q := StepOk) h1 (by omega) fun cs hl hI => by
    match cs, hl with
    | [c0, c1, c2], _ =>
      obtain ⟨⟨n0, e0, k0⟩, ⟨n1, e1, k1⟩, ⟨n2, e2, k2⟩, _⟩ := hI
      simp at e0 e1 e2
      subst e0; subst e1; subst e2
      exact ⟨(n0, n1, n2), rfl, bounds_i64 k0, bounds_i64 k1, bounds_u32 k2⟩
  injection e with e _
  exact ⟨A, len, cap, l, e, h2, h3, h4, h5, h6⟩
end Go.Proofs.Ytpeojjaaeckehaa
