/- Proved: a segment that came in reads as ten numbers and a list of bytes. Conditions: none. -/
import Derived.Test.YtifeomdmbjinoaaRows
import Derived.Test.YtifeomdmbjinoaaBytes
import Derived.Test.YtifeomdmbjinoaaSeg
set_option linter.unusedVariables false
namespace Go.Proofs.Ytifeomdmbjinoaa
open Go.RowKit
def ViewSeg (w : World) (v : Value) : Prop := ∃ (s : Sg) (A : Option Addr) (n cap : Nat) (d : List Int), v = .agg #[.int .u32 s.fr, .int .i64 s.fp, .int .u32 s.to, .int .i64 s.tp, .int .u32 s.seq, .int .u32 s.ack, .int .i64 s.fl, .int .i64 s.win, .int .i64 s.mss, .int .i64 s.sc, .slice A n cap] ∧ s.wf ∧ RB w w.heap.size A d ∧ Bs d ∧ d.length = n ∧ n ≤ cap ∧ cap ≤ 140737488351232
theorem sh_seg : shapeOf Try.prog 9 26 = some (.part 0 1 (.int .u32) (.part 1 1 (.int .i64) (.part 2 1 (.int .u32) (.part 3 1 (.int .i64) (.part 4 1 (.int .u32) (.part 5 1 (.int .u32) (.part 6 1 (.int .i64) (.part 7 1 (.int .i64) (.part 8 1 (.int .i64) (.part 9 1 (.int .i64) (.part 10 1 (.slice 1 1 (.int .u8)) .fin))))))))))) := by kernel_rfl
theorem cells_seg : Try.prog.cellsOf 26 = 11 := by kernel_rfl
theorem open_seg {H : Type} {enc : TypeId × Value → H} {W : World} {b0 : Nat} {v : Value} {d : DataW H} {p : List MemPlace} (hv : Value.okWide Try.prog W .any b0 26 v)
    (h : DataW.Trod enc Try.prog W 0 (fun _ => true) true 26 v d p) (hw : ∀ k ∈ d.weights Try.prog 26, k ≤ reachBytes) : ViewSeg W v := by
  obtain ⟨cs, rfl, hl, hI⟩ := Sh.open_agg sh_seg ⟨_, Try.underlying26⟩ hv h hw
  rw [cells_seg] at hl
  match cs, hl with
  | [c0, c1, c2, c3, c4, c5, c6, c7, c8, c9, c10], _ =>
    obtain ⟨⟨n0, e0, k0⟩, ⟨n1, e1, k1⟩, ⟨n2, e2, k2⟩, ⟨n3, e3, k3⟩, ⟨n4, e4, k4⟩, ⟨n5, e5, k5⟩, ⟨n6, e6, k6⟩, ⟨n7, e7, k7⟩, ⟨n8, e8, k8⟩, ⟨n9, e9, k9⟩, h3, _⟩ := hI
    obtain ⟨A, n, cap, l, e10, h4, h5, h6, h7, h8⟩ := Sh.bytes h3
    simp at e0 e1 e2 e3 e4 e5 e6 e7 e8 e9 e10
    subst e0; subst e1; subst e2; subst e3; subst e4; subst e5; subst e6; subst e7; subst e8; subst e9; subst e10
    exact ⟨⟨n0, n1, n2, n3, n4, n5, n6, n7, n8, n9⟩, A, n, cap, l, rfl, ⟨bounds_u32 k0, bounds_i64 k1, bounds_u32 k2, bounds_i64 k3, bounds_u32 k4, bounds_u32 k5, bounds_i64 k6, bounds_i64 k7, bounds_i64 k8, bounds_i64 k9⟩, h4, h5, h6, h7, h8⟩
end Go.Proofs.Ytifeomdmbjinoaa
