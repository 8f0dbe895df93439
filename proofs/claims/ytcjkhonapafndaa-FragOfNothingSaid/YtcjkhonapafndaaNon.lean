/- Proved: a nil Store: Add, Tick, Len by their walks. Conditions: none. -/
import Derived.Test.YtcjkhonapafndaaPcm
set_option linter.unusedVariables false
set_option linter.unusedSimpArgs false
namespace Go.Proofs.Ytcjkhonapafndaa
open Go.RowKit

set_option maxHeartbeats 4000000 in
set_option maxRecDepth 100000 in
theorem add_nil (p : PkV) (oA dA : Option Addr) (on oc dn dc : Nat) (now : Int) (w : World) :
    Calls Try.prog 21 #[.pointer none, .agg (pkC p (.slice oA on oc) (.slice dA dn dc)), .int .i64 now] w fun e w' => e = .returned (.tuple #[.agg (pkC pk0 (.slice none 0 0) (.slice none 0 0)), .bool false, .int .i64 1]) ∧ Below w.heap.size w w' := by
  unfold pkC pk0
  go_enter Try.func21, Try.ntmps21
  go_wp2
  refine bodyPost_ret (v := .tuple #[.agg #[.int .i64 0, .int .i64 0, .bool false, .bool false, .int .i64 0, .int .i64 0, .int .i64 0, .int .u32 0, .int .u32 0, .slice none 0 0, .slice none 0 0], .bool false, .int .i64 1]) (by simp [results, Try.results21, go_sem]) rfl ⟨rfl, ((Below.refl _ _).alloc (Nat.le_refl _) _).alloc (by simp) _⟩
theorem tick_nil (now : Int) (w : World) : Calls Try.prog 24 #[.pointer none, .int .i64 now] w fun e w' => e = .returned (.slice none 0 0) ∧ w' = w := by
  go_enter Try.func24, Try.ntmps24
  go_wp2
  go_ret
  exact ⟨rfl, rfl⟩
theorem len_nil (w : World) : Calls Try.prog 22 #[.pointer none] w fun e w' => e = .returned (.int .i64 0) ∧ w' = w := by
  go_enter Try.func22, Try.ntmps22
  go_wp2
  go_ret
  exact ⟨rfl, rfl⟩
end Go.Proofs.Ytcjkhonapafndaa
