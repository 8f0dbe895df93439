/- Proved: hardware addresses and answers are like themselves. Conditions: none. -/
import Derived.Test.YtocigdkndlmikaaArpV
import Derived.ChangeKeysEq
set_option linter.unusedVariables false
namespace Go.Proofs.Ytocigdkndlmikaa
open Go Go.RowKit
set_option maxRecDepth 100000 in
theorem eqIn_mac (d : Nat) (m0 m1 m2 m3 m4 m5 : Int) (w : World) : (Op.equalIn (d + 2) 26 (.agg #[.int .u8 m0, .int .u8 m1, .int .u8 m2, .int .u8 m3, .int .u8 m4, .int .u8 m5]) (.agg #[.int .u8 m0, .int .u8 m1, .int .u8 m2, .int .u8 m3, .int .u8 m4, .int .u8 m5])).run Try.prog w = .ok true w := by
  obtain ⟨i, hi, _, _, _⟩ := info_parts info_u8
  rw [run_equalIn_array w (d + 1) _ _ Try.underlying26 hi, show Try.prog.cellsOf 5 = 1 from by kernel_rfl, show List.range 6 = [0, 1, 2, 3, 4, 5] from rfl]
  simp only [Op.eqItems]
  go_simp
set_option maxRecDepth 100000 in
theorem eql_mac (m0 m1 m2 m3 m4 m5 : Int) (w : World) : (binOp .eql 26 (.agg #[.int .u8 m0, .int .u8 m1, .int .u8 m2, .int .u8 m3, .int .u8 m4, .int .u8 m5]) (.agg #[.int .u8 m0, .int .u8 m1, .int .u8 m2, .int .u8 m3, .int .u8 m4, .int .u8 m5])).run Try.prog w = .ok (.bool true) w := by
  have h := eqIn_mac 9998 m0 m1 m2 m3 m4 m5 w
  go_simp
set_option maxRecDepth 100000 in
theorem eql_told (k a f : Bool) (m0 m1 m2 m3 m4 m5 : Int) (w : World) : (binOp .eql 34 (.agg #[.bool k, .int .u8 m0, .int .u8 m1, .int .u8 m2, .int .u8 m3, .int .u8 m4, .int .u8 m5, .bool a, .bool f]) (.agg #[.bool k, .int .u8 m0, .int .u8 m1, .int .u8 m2, .int .u8 m3, .int .u8 m4, .int .u8 m5, .bool a, .bool f])).run Try.prog w = .ok (.bool true) w := by
  have h := eqIn_mac 9997 m0 m1 m2 m3 m4 m5 w
  go_simp
end Go.Proofs.Ytocigdkndlmikaa
