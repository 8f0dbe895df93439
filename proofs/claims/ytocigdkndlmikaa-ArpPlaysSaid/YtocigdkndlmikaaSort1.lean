/- Proved: rows of one address or none are sorted as they are. Conditions: none. -/
import Derived.Test.YtocigdkndlmikaaTickP
set_option linter.unusedVariables false
namespace Go.Proofs.Ytocigdkndlmikaa
open Go.RowKit

set_option maxRecDepth 100000 in
theorem ins1 (A : Option Addr) (n c : Nat) (hn : n ≤ 1) (w : World) : Calls Try.prog 60 #[.slice A n c, .int .i64 0, .int .i64 n] w fun e w' => e = .returned (.tuple #[]) ∧ w = w' := by
  have h : ¬ (1 : Int) < n := by omega
  go_enter Try.func60, Try.ntmps60
  go_wp2
  go_loop [6] (fun i => i = .int .i64 1) (fun _ => 0)
  case atStart => rfl
  case round =>
    subst hrel
    go_wp2
    go_end0
    exact ⟨rfl, rfl⟩
set_option maxRecDepth 100000 in
theorem pdq1 (A : Option Addr) (n c : Nat) (hn : n ≤ 1) (k : Int) (w : World) : Calls Try.prog 57 #[.slice A n c, .int .i64 0, .int .i64 n, .int .i64 k] w fun e w' => e = .returned (.tuple #[]) ∧ w = w' := by
  have h : (n : Int) ≤ 12 := by omega
  have hw : IntKind.i64.wrap ((n : Int) - 0) = n := by rw [IntWalk.i64_in _ (by omega)]; omega
  go_enter Try.func57, Try.ntmps57
  go_wp2
  go_loop [1, 2, 3, 8, 9, 10] (fun a b _ _ _ _ => a = .int .i64 0 ∧ b = .int .i64 n) (fun _ _ _ _ _ _ => 0)
  case atStart => exact ⟨rfl, rfl⟩
  case round =>
    obtain ⟨rfl, rfl⟩ := hrel
    go_wp2_with fail
    refine (ins1 A n c hn _).mono ?_
    rintro e w' ⟨rfl, rfl⟩
    go_wp2
    refine bodyPost_ret (results_none rfl _ _ _) rfl ?_
    exact ⟨rfl, rfl⟩
set_option maxRecDepth 100000 in
theorem len1 (n : Nat) (hn : n ≤ 1) (w : World) : Calls Try.prog 58 #[.int .u64 n] w fun e w' => (∃ k : Int, e = .returned (.int .i64 k)) ∧ w = w' := by
  have h64 : Calls Try.prog 70 #[.int .u64 n] w fun e w' => (∃ k : Int, e = .returned (.int .i64 k)) ∧ w = w' := by
    rcases (by omega : n = 0 ∨ n = 1) with rfl | rfl
    · go_enter Try.func70, Try.ntmps70
      go_wp2
      go_ret
      exact ⟨⟨_, rfl⟩, rfl⟩
    · go_enter Try.func70, Try.ntmps70
      go_wp2
      go_ret
      exact ⟨⟨_, rfl⟩, rfl⟩
  have H64 := Lib.hid h64
  clear h64
  go_enter Try.func58, Try.ntmps58
  go_wp2_with fail
  refine H64.out.mono ?_
  rintro e w' ⟨⟨k, rfl⟩, rfl⟩
  go_wp2
  go_ret
  exact ⟨⟨_, rfl⟩, rfl⟩
set_option maxRecDepth 100000 in
theorem sort1 : SortsTo 1 := by
  intro A n c base l w hn hoa hb hok _
  have hw : IntKind.u64.wrap (n : Int) = n := by rw [IntKind.wrap_u64]; omega
  have HO := Lib.hid hoa
  clear hoa hok
  go_enter Try.func48, Try.ntmps48
  go_wp2_with fail
  refine (len1 n hn _).mono ?_
  rintro e w' ⟨⟨k, rfl⟩, rfl⟩
  go_wp2_with fail
  refine (pdq1 A n c hn _ _).mono ?_
  rintro e w' ⟨rfl, rfl⟩
  go_wp2
  go_end0
  refine ⟨rfl, l, List.Perm.refl _, ?_, HO.out, World.grownBy.refl _ _⟩
  have := HO.out.len
  match l, this with
  | [], _ => exact List.Pairwise.nil
  | [x], _ => exact List.pairwise_singleton _ _
  | _ :: _ :: _, h => simp at h; omega
end Go.Proofs.Ytocigdkndlmikaa
