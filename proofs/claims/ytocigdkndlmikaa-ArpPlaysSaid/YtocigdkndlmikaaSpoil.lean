/- Proved: two numbers as bytes by the reference; a row written over. Conditions: as each law says. -/
import Derived.Test.YtocigdkndlmikaaWriter
set_option linter.unusedVariables false
namespace Go.Proofs.Ytocigdkndlmikaa
open Go.RowKit

theorem rfour_any (v : Int) (h0 : 0 ≤ v) (h1 : v ≤ 4294967295) (w : World) :
    Calls Try.prog 36 #[.int .u32 v] w fun e w' => e = .returned (.slice (some ⟨w.heap.size, 0, none⟩) 4 4) ∧ w.alloc (.cells (by8 (be 4 v)).toArray 5) = w' := by
  go_enter Try.func36, Try.ntmps36
  go_wp2
  go_ret
  refine ⟨rfl, ?_⟩
  rw [be_4' v h0 h1]
  simp [by8, be]

/-- spoil writes over a row of the caller's own, and over no other. -/
theorem spoil_any (A : Option Addr) (n c base : Nat) (l : List Int) (hn : n ≤ 1000000) (w : World) (hO : OB 5 w base A n c l) (hbase : base ≤ w.heap.size) :
    Calls Try.prog 44 #[.slice A n c] w fun e w' => e = .returned (.tuple #[]) ∧ w.grownBy w' (blk A) := by
  go_enter Try.func44, Try.ntmps44
  go_wp2_with (first
    | (at_builtin; refine ap8_one rfl (.tmp 4) (.tmp 5) rfl base rfl hO rfl (by omega) (by omega) ?_; intro A1 c1 w1 hO1 hB1 hg1 hA1 hz1 hc1))
  go_loopw [3] (fun i wr => ∃ (k : Nat) (l2 : List Int), k ≤ n + 1 ∧ i = .int .i64 k ∧ OB 5 wr base A1 (n + 1) c1 l2 ∧ w.grownBy wr (blk A)) (fun i _ => n + 1 - (intOf i).toNat)
  case atStart => exact ⟨0, _, Nat.zero_le _, rfl, hO1, hg1⟩
  case round =>
    obtain ⟨k, l2, hk, rfl, hO2, hg2⟩ := hrel
    rcases Nat.lt_or_ge k (n + 1) with d1 | d1
    · obtain ⟨g, rfl, hg, hc, hf⟩ := hO2.lit_at d1
      have hst := hO2.store d1 98
      have hgb : w.grownBy (wr.setCell ⟨g, k, none⟩ (.int .u8 98)) (blk A) := grownBy_setCell hg2 (by
        rcases hA1 with h | h
        · exact .inl (by rw [← h]; rfl)
        · exact .inr (h g rfl)) _
      go_wp2
      go_roundw
      case rel => exact ⟨k + 1, _, by omega, by go_num, hst, hgb⟩
      case measure => simp [intOf]; omega
    · go_wp2
      go_end0
      exact ⟨rfl, hg2⟩
end Go.Proofs.Ytocigdkndlmikaa
