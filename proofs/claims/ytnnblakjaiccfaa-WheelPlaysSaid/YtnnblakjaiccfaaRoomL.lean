/- Proved: the plain law of WheelRoom: so many timers one by one. Conditions: none. -/
import Derived.Test.YtnnblakjaiccfaaNil
set_option linter.unusedVariables false
set_option linter.unusedSimpArgs false
namespace Go.Proofs.Ytnnblakjaiccfaa
open Go.RowKit

def rm (i : Nat) : Mt := (List.range i).map fun (j : Nat) => ((j : Int), (j : Int))
theorem rm_len (i : Nat) : (rm i).length = i := by simp [rm]
theorem rm_mem {i : Nat} {t : Int × Int} : t ∈ rm i ↔ ∃ j : Nat, j < i ∧ t = ((j : Int), (j : Int)) := by
  unfold rm
  rw [List.mem_map]
  constructor
  · rintro ⟨j, hj, rfl⟩; exact ⟨j, List.mem_range.1 hj, rfl⟩
  · rintro ⟨j, hj, rfl⟩; exact ⟨j, List.mem_range.2 hj, rfl⟩
theorem rm_succ (i : Nat) : rm (i + 1) = rm i ++ [((i : Int), (i : Int))] := by
  unfold rm
  rw [List.range_succ, List.map_append]; rfl
theorem getM_none_of {M : Mt} {k : Int} (h : ∀ t ∈ M, t.1 ≠ k) : getM M k = none := by
  cases hg : getM M k with
  | none => rfl
  | some a => exact absurd rfl (h _ (getM_some hg))
theorem rm_set (i : Nat) (h : i < 256) : setM (rm i) i i = (0, rm (i + 1)) := by
  have hg : getM (rm i) i = none := getM_none_of fun t ht => by
    obtain ⟨j, hj, rfl⟩ := rm_mem.1 ht
    simp only; omega
  unfold setM
  rw [if_neg (by omega), if_neg (fun h2 => by have := h2.2; rw [rm_len] at this; omega), delM_none hg, rm_succ]
theorem delM_length : ∀ {M : Mt} {k a : Int}, (M.map (·.1)).Nodup → (k, a) ∈ M → (delM M k).length + 1 = M.length
  | [], _, _, _, h => by cases h
  | t :: r, k, a, hn, h => by
    rw [List.map_cons, List.nodup_cons] at hn
    unfold delM
    rw [List.filter_cons]
    by_cases e : t.1 = k
    · rw [if_neg (by simp [e])]
      have : r.filter (fun t => decide (t.1 ≠ k)) = r := List.filter_eq_self.2 fun x hx => by
        simp only [decide_eq_true_eq]
        exact fun e2 => hn.1 (by rw [e, ← e2]; exact List.mem_map.2 ⟨x, hx, rfl⟩)
      rw [this]; simp
    · rw [if_pos (by simp [e])]
      have hr : (k, a) ∈ r := by
        rcases List.mem_cons.1 h with h | h
        · exact absurd (by rw [← h]) e
        · exact h
      have := delM_length hn.2 hr
      unfold delM at this
      simp only [List.length_cons]; omega
theorem rm_keys (i : Nat) : ((rm i).map (·.1)).Nodup := by
  unfold rm
  rw [List.map_map]
  unfold List.Nodup
  rw [List.pairwise_map]
  refine List.nodup_range.imp fun hne e => hne ?_
  simp only [Function.comp] at e
  exact Int.ofNat.inj e
theorem getM_snoc {M : Mt} {k a : Int} (h : getM M k = none) : getM (M ++ [(k, a)]) k = some a := by
  unfold getM at *
  rw [Option.map_eq_none_iff] at h
  rw [List.find?_append, h]
  simp
theorem set_full (k a : Int) (ha : ¬ (a < 0 ∨ 1099511627776 < a)) (hk : ¬ (0 ≤ k ∧ k < 256)) : setM (rm 256) k a = (6, rm 256) := by
  have hg : getM (rm 256) k = none := getM_none_of fun t ht => by
    obtain ⟨j, hj, rfl⟩ := rm_mem.1 ht
    simp only; omega
  unfold setM
  rw [if_neg ha, if_pos ⟨hg, by rw [rm_len]; exact Nat.le_refl _⟩]
theorem set_anew (k a : Int) (ha : ¬ (a < 0 ∨ 1099511627776 < a)) (hk : 0 ≤ k ∧ k < 256) : setM (rm 256) k a = (0, delM (rm 256) k ++ [(k, a)]) ∧ (delM (rm 256) k ++ [(k, a)]).length = 256 ∧ getM (delM (rm 256) k ++ [(k, a)]) k = some a := by
  have hm : (k, k) ∈ rm 256 := rm_mem.2 ⟨k.toNat, by omega, by rw [Int.toNat_of_nonneg hk.1]⟩
  refine ⟨?_, ?_, getM_snoc (getM_del _ _)⟩
  · unfold setM
    rw [if_neg ha, if_neg (fun h => absurd rfl (getM_none h.1 _ hm))]
  · have := delM_length (rm_keys 256) hm
    rw [rm_len] at this
    rw [List.length_append]; simp only [List.length_cons, List.length_nil]; omega
end Go.Proofs.Ytnnblakjaiccfaa
