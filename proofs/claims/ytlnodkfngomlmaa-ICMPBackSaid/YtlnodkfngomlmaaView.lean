/- Proved: a message that came in reads as two numbers, a number of four bytes, and a list of bytes. Conditions: none. -/
import Derived.Test.YtlnodkfngomlmaaRows
import Derived.Test.YtlnodkfngomlmaaBytes
set_option linter.unusedVariables false
namespace Go.Proofs.Ytlnodkfngomlmaa
open Go.RowKit
def ViewICMP (w : World) (v : Value) : Prop := ∃ t c r A n cap l, v = .agg #[.int .i64 t, .int .i64 c, .int .u32 r, .slice A n cap] ∧ (-9223372036854775808 ≤ t ∧ t ≤ 9223372036854775807) ∧ (-9223372036854775808 ≤ c ∧ c ≤ 9223372036854775807) ∧ (0 ≤ r ∧ r ≤ 4294967295) ∧
  RB w w.heap.size A l ∧ Bs l ∧ l.length = n ∧ n ≤ cap ∧ cap ≤ 140737488351232
theorem sh_icmp : shapeOf Try.prog 9 25 = some (.part 0 1 (.int .i64) (.part 1 1 (.int .i64) (.part 2 1 (.int .u32) (.part 3 1 (.slice 1 1 (.int .u8)) .fin)))) := by kernel_rfl
theorem cells_icmp : Try.prog.cellsOf 25 = 4 := by kernel_rfl
theorem open_icmp {H : Type} {enc : TypeId × Value → H} {W : World} {b0 : Nat} {v : Value} {d : DataW H} {p : List MemPlace} (hv : Value.okWide Try.prog W .any b0 25 v)
    (h : DataW.Trod enc Try.prog W 0 (fun _ => true) true 25 v d p) (hw : ∀ k ∈ d.weights Try.prog 25, k ≤ reachBytes) : ViewICMP W v := by
  obtain ⟨cs, rfl, hl, hI⟩ := Sh.open_agg sh_icmp ⟨_, Try.underlying25⟩ hv h hw
  rw [cells_icmp] at hl
  match cs, hl with
  | [c0, c1, c2, c3], _ =>
    obtain ⟨⟨n0, e0, k0⟩, ⟨n1, e1, k1⟩, ⟨n2, e2, k2⟩, h3, _⟩ := hI
    obtain ⟨A, n, cap, l, e3, h4, h5, h6, h7, h8⟩ := Sh.bytes h3
    simp at e0 e1 e2 e3
    subst e0; subst e1; subst e2; subst e3
    exact ⟨n0, n1, n2, A, n, cap, l, rfl, bounds_i64 k0, bounds_i64 k1, bounds_u32 k2, h4, h5, h6, h7, h8⟩
end Go.Proofs.Ytlnodkfngomlmaa
