/- Proved: the plain law of a list of timers against the wheel's map. Conditions: none. -/
import Derived.Test.YtnnblakjaiccfaaRfS
set_option linter.unusedVariables false
set_option linter.unusedSimpArgs false
namespace Go.Proofs.Ytnnblakjaiccfaa
open Go.RowKit
/-- Sorted by tick, then by key. -/
def Srd (S : Mt) : Prop := S.Pairwise (fun x y => cmpT x y ≤ 0)
theorem cmpT_le (x y : Int × Int) : cmpT x y ≤ 0 ↔ (x.2 < y.2 ∨ (x.2 = y.2 ∧ x.1 ≤ y.1)) := by
  unfold cmpT cmpI
  repeat' split
  all_goals omega
theorem getM_perm {M S : Mt} (h : M.Perm S) (hn : (M.map (·.1)).Nodup) (k : Int) : getM M k = getM S k := by
  have hs : (S.map (·.1)).Nodup := (h.map (·.1)).nodup_iff.1 hn
  cases hg : getM M k with
  | none =>
    cases hg2 : getM S k with
    | none => rfl
    | some a => exact absurd rfl (getM_none hg _ (h.mem_iff.2 (getM_some hg2)))
  | some a => exact (getM_of hs (h.mem_iff.1 (getM_some hg))).symm
theorem delM_perm {M S : Mt} (h : M.Perm S) (k : Int) : (delM M k).Perm (delM S k) := h.filter _
theorem Srd.del {S : Mt} (h : Srd S) (k : Int) : Srd (delM S k) := List.Pairwise.filter _ h
theorem cmpT_trans {x y z : Int × Int} (h1 : cmpT x y ≤ 0) (h2 : cmpT y z ≤ 0) : cmpT x z ≤ 0 := by
  rw [cmpT_le] at *; omega
theorem Srd.ins {T : Mt} {k a : Int} {j : Nat} (h : Srd T) (hk : ∀ t ∈ T, t.1 ≠ k) (h1 : ∀ t ∈ T.take j, bef t k a) (h2 : ∀ t, T[j]? = some t → ¬ bef t k a) : Srd (T.take j ++ (k, a) :: T.drop j) := by
  have ht : Srd (T.take j ++ T.drop j) := by rw [List.take_append_drop]; exact h
  obtain ⟨p1, p2, p3⟩ := List.pairwise_append.1 ht
  have hd : ∀ t ∈ T.drop j, cmpT (k, a) t ≤ 0 := by
    intro t htm
    cases hd : T.drop j with
    | nil => rw [hd] at htm; cases htm
    | cons u r =>
      have hu : T[j]? = some u := by
        have := congrArg (fun l => l[0]?) hd
        simpa using this
      have hub := h2 u hu
      have hum : u ∈ T := List.mem_of_getElem? hu
      have huk := hk u hum
      have h0 : cmpT (k, a) u ≤ 0 := by
        rw [cmpT_le]; unfold bef at hub; simp only; omega
      rw [hd] at htm p2
      rcases List.mem_cons.1 htm with rfl | htr
      · exact h0
      · exact cmpT_trans h0 ((List.pairwise_cons.1 p2).1 t htr)
  refine List.pairwise_append.2 ⟨p1, List.pairwise_cons.2 ⟨hd, p2⟩, fun x hx y hy => ?_⟩
  have hxb := h1 x hx
  have hxk : cmpT x (k, a) ≤ 0 := by
    rw [cmpT_le]; unfold bef at hxb; simp only; omega
  rcases List.mem_cons.1 hy with rfl | hy
  · exact hxk
  · exact cmpT_trans hxk (hd y hy)
/-- What the reference's Set does. -/
def SetR (S : Mt) (k a r : Int) (S' : Mt) : Prop :=
  (a < 0 ∨ 1099511627776 < a ∧ 0 ≤ a) ∧ r = 1 ∧ S' = S ∨
  (0 ≤ a ∧ a ≤ 1099511627776) ∧ getM S k = none ∧ 256 ≤ S.length ∧ r = 6 ∧ S' = S ∨
  (0 ≤ a ∧ a ≤ 1099511627776) ∧ ¬ (getM S k = none ∧ 256 ≤ S.length) ∧ r = 0 ∧ ∃ j, S' = (delM S k).take j ++ (k, a) :: (delM S k).drop j ∧
    (∀ t ∈ (delM S k).take j, bef t k a) ∧ (∀ t, (delM S k)[j]? = some t → ¬ bef t k a)
theorem setR_law {M S S' : Mt} {k a r : Int} (hp : M.Perm S) (hn : (M.map (·.1)).Nodup) (hs : Srd S) (h : SetR S k a r S') : (setM M k a).1 = r ∧ (setM M k a).2.Perm S' ∧ Srd S' := by
  have hg := getM_perm hp hn k
  have hl := hp.length_eq
  unfold setM
  rcases h with ⟨d, rfl, rfl⟩ | ⟨d, e1, e2, rfl, rfl⟩ | ⟨d, e1, rfl, j, rfl, h1, h2⟩
  · rw [if_pos (by omega)]; exact ⟨rfl, hp, hs⟩
  · rw [if_neg (by omega), if_pos (by rw [hg, hl]; exact ⟨e1, e2⟩)]; exact ⟨rfl, hp, hs⟩
  · rw [if_neg (by omega), if_neg (by rw [hg, hl]; exact e1)]
    refine ⟨rfl, ?_, Srd.ins (hs.del k) (fun t ht => (mem_delM.1 ht).2) h1 h2⟩
    show (delM M k ++ [(k, a)]).Perm _
    refine (List.perm_append_comm).trans ?_
    refine List.Perm.trans ?_ (List.perm_middle).symm
    rw [List.take_append_drop]
    exact (delM_perm hp k).cons _
theorem perm_srd_eq : ∀ {D E : Mt}, D.Perm E → Srd D → Srd E → D = E := by
  intro D E h h1 h2
  refine h.eq_of_pairwise (le := fun x y => cmpT x y ≤ 0) ?_ h1 h2
  intro x y _ _ e1 e2
  rw [cmpT_le] at e1 e2
  exact Prod.ext (by omega) (by omega)
theorem filter_take_drop {S : Mt} {i : Nat} {now : Int} (hs : Srd S) (h1 : ∀ t ∈ S.take i, t.2 ≤ now) (h2 : ∀ t, S[i]? = some t → now < t.2) :
    dueS now S = S.take i ∧ (S.filter fun t => decide (now < t.2)) = S.drop i := by
  have ht : Srd (S.take i ++ S.drop i) := by rw [List.take_append_drop]; exact hs
  obtain ⟨p1, p2, p3⟩ := List.pairwise_append.1 ht
  have hd : ∀ t ∈ S.drop i, now < t.2 := by
    intro t htm
    cases hd : S.drop i with
    | nil => rw [hd] at htm; cases htm
    | cons u r =>
      have hu : S[i]? = some u := by
        have := congrArg (fun l => l[0]?) hd
        simpa using this
      have h0 := h2 u hu
      rw [hd] at htm p2
      rcases List.mem_cons.1 htm with rfl | htr
      · exact h0
      · have := (cmpT_le _ _).1 ((List.pairwise_cons.1 p2).1 t htr); omega
  constructor
  · have : dueS now (S.take i ++ S.drop i) = S.take i := by
      unfold dueS
      rw [List.filter_append, List.filter_eq_self.2 (fun t ht => decide_eq_true (h1 t ht)), List.filter_eq_nil_iff.2 (fun t ht => by have := hd t ht; simp; omega), List.append_nil]
    rwa [List.take_append_drop] at this
  · have : (S.take i ++ S.drop i).filter (fun t => decide (now < t.2)) = S.drop i := by
      rw [List.filter_append, List.filter_eq_nil_iff.2 (fun t ht => by have := h1 t ht; simp; omega), List.filter_eq_self.2 (fun t ht => decide_eq_true (hd t ht)), List.nil_append]
    rwa [List.take_append_drop] at this
theorem due_law {M S D : Mt} {i : Nat} {now : Int} (hp : M.Perm S) (hs : Srd S) (hD : D.Perm (dueS now M)) (hDs : Srd D) (h1 : ∀ t ∈ S.take i, t.2 ≤ now) (h2 : ∀ t, S[i]? = some t → now < t.2) :
    D = S.take i ∧ (M.filter fun t => decide (now < t.2)).Perm (S.drop i) ∧ Srd (S.drop i) := by
  obtain ⟨e1, e2⟩ := filter_take_drop hs h1 h2
  refine ⟨perm_srd_eq ?_ hDs (List.Pairwise.sublist (List.take_sublist _ _) hs), ?_, List.Pairwise.sublist (List.drop_sublist _ _) hs⟩
  · rw [← e1]; exact hD.trans (hp.filter _)
  · rw [← e2]; exact hp.filter _
theorem next_law {M S : Mt} {n : Int} {b : Bool} (hp : M.Perm S) (hs : Srd S) (h : NextIs M n b) : (S = [] ∧ n = 0 ∧ b = false) ∨ ∃ t, S[0]? = some t ∧ b = true ∧ n = t.2 := by
  rcases h with ⟨rfl, h1, h2⟩ | ⟨h0, h1, h2, t, ht, rfl⟩
  · exact .inl ⟨hp.symm.eq_nil, h1, h2⟩
  · right
    cases S with
    | nil => exact absurd hp.eq_nil h0
    | cons u r =>
      refine ⟨u, rfl, h1, ?_⟩
      have e1 := h2 u (hp.mem_iff.2 (List.mem_cons_self))
      rcases List.mem_cons.1 (hp.mem_iff.1 ht) with rfl | hr
      · rfl
      · have := (cmpT_le _ _).1 ((List.pairwise_cons.1 hs).1 t hr); omega
end Go.Proofs.Ytnnblakjaiccfaa
