/- Proved: what the laws' own helpers heavy, wrote and spoil of package wharflaw1 do, each by its walk. Conditions: as each says. -/
import Derived.Test.YtlnodkfngomlmaaOps
import Derived.Test.YtlnodkfngomlmaaWriter
import Derived.Test.YtlnodkfngomlmaaMem
set_option linter.unusedVariables false
namespace Go.Proofs.Ytlnodkfngomlmaa
open Go.RowKit

/-- How much a script is. -/
def htot : List OpV → Int
  | [] => 0
  | o :: r => 4 + o.2.2.length + htot r
theorem htot_append : ∀ (l m : List OpV), htot (l ++ m) = htot l + htot m
  | [], m => by simp [htot]
  | o :: r, m => by simp only [List.cons_append, htot, htot_append r m]; omega
theorem htot_nonneg : ∀ (l : List OpV), 4 * (l.length : Int) ≤ htot l
  | [] => by simp [htot]
  | o :: r => by have := htot_nonneg r; simp only [htot, List.length_cons]; omega
theorem htot_take_le (l : List OpV) (k : Nat) : htot (l.take k) ≤ htot l := by
  have h := htot_append (l.take k) (l.drop k)
  rw [List.take_append_drop] at h
  have := htot_nonneg (l.drop k)
  omega
theorem take_snoc_some {α : Type} (l : List α) (k : Nat) (o : α) (h : l[k]? = some o) : l.take (k + 1) = l.take k ++ [o] := by
  rw [List.take_add_one, h]; rfl

/-- What a step writes. -/
def encOp (o : OpV) : List Int := if o.1 = 1 then be 1 o.2.1 else if o.1 = 2 then be 2 o.2.1 else if o.1 = 4 then be 4 (o.2.1 % 4294967296) else o.2.2
def encs : List OpV → List Int
  | [] => []
  | o :: r => encOp o ++ encs r
theorem encs_append : ∀ (l m : List OpV), encs (l ++ m) = encs l ++ encs m
  | [], m => rfl
  | o :: r, m => by simp only [List.cons_append, encs, encs_append r m, List.append_assoc]
theorem encOp_length (o : OpV) : ((encOp o).length : Int) ≤ 4 + o.2.2.length := by
  unfold encOp
  repeat' split
  all_goals try simp only [be_length]
  all_goals omega
theorem encs_length : ∀ (l : List OpV), ((encs l).length : Int) ≤ htot l
  | [] => by simp [encs, htot]
  | o :: r => by
    have h1 := encOp_length o
    have h2 := encs_length r
    simp only [encs, htot, List.length_append]; omega
theorem encOp_bs (o : OpV) (h : Bs o.2.2) : Bs (encOp o) := by
  unfold encOp
  repeat' split
  all_goals first | exact be_bs _ _ | exact h
theorem encs_bs : ∀ (l : List OpV), (∀ o ∈ l, Bs o.2.2) → Bs (encs l)
  | [], _ => Bs.nil
  | o :: r, h => (encOp_bs o (h o (by simp))).append (encs_bs r fun x hx => h x (by simp [hx]))

theorem rtwo_any (v : Int) (w : World) :
    Calls Try.prog 67 #[.int .i64 v] w fun e w' => e = .returned (.slice (some ⟨w.heap.size, 0, none⟩) 2 2) ∧ w.alloc (.cells (by8 (be 2 v)).toArray 5) = w' := by
  go_enter Try.func67, Try.ntmps67
  go_wp2
  go_ret
  refine ⟨rfl, ?_⟩
  simp [by8, be]
theorem rfour_any (v : Int) (h0 : 0 ≤ v) (h1 : v ≤ 4294967295) (w : World) :
    Calls Try.prog 38 #[.int .u32 v] w fun e w' => e = .returned (.slice (some ⟨w.heap.size, 0, none⟩) 4 4) ∧ w.alloc (.cells (by8 (be 4 v)).toArray 5) = w' := by
  go_enter Try.func38, Try.ntmps38
  go_wp2
  go_ret
  refine ⟨rfl, ?_⟩
  rw [be_4' v h0 h1]
  simp [by8, be]

/-- spoil writes over a row of the caller's own, and over no other. -/
theorem spoil_any (A : Option Addr) (n c base : Nat) (l : List Int) (hn : n ≤ 1000000) (w : World) (hO : OB 5 w base A n c l) (hbase : base ≤ w.heap.size) :
    Calls Try.prog 27 #[.slice A n c] w fun e w' => e = .returned (.tuple #[]) ∧ w.grownBy w' (blk A) := by
  go_enter Try.func27, Try.ntmps27
  go_wp2_with (first
    | (at_builtin; refine ap8_one rfl (.tmp 4) (.tmp 5) rfl base rfl hO rfl (by omega) (by omega) ?_; intro A1 c1 w1 hO1 hB1 hg1 hA1 hz1 hc1))
  go_loopw [3] (fun i wr => ∃ (k : Nat) (l2 : List Int), k ≤ n + 1 ∧ i = .int .i64 k ∧ OB 5 wr base A1 (n + 1) c1 l2 ∧ w.grownBy wr (blk A)) (fun i _ => n + 1 - (intOf i).toNat)
  case atStart => exact ⟨0, _, Nat.zero_le _, rfl, hO1, hg1⟩
  case round =>
    obtain ⟨k, l2, hk, rfl, hO2, hg2⟩ := hrel
    rcases Nat.lt_or_ge k (n + 1) with d1 | d1
    · obtain ⟨g, rfl, hg, hc, hf⟩ := hO2.lit_at d1
      have hst := hO2.store d1 98
      have hgb : w.grownBy (wr.setCell ⟨g, k, none⟩ (.int .u8 98)) (blk A) := grownBy_setCell hg2 (by
        rcases hA1 with h | h
        · exact .inl (by rw [← h]; rfl)
        · exact .inr (h g rfl)) _
      go_wp2
      go_roundw
      case rel => exact ⟨k + 1, _, by omega, by go_num, hst, hgb⟩
      case measure => simp [intOf]; omega
    · go_wp2
      go_end0
      exact ⟨rfl, hg2⟩
end Go.Proofs.Ytlnodkfngomlmaa
