/- Proved: the plain law of WheelOnce: timers whose keys count up, and what is due of them step by step. Conditions: none. -/
import Derived.Test.YtnnblakjaiccfaaRowI
set_option linter.unusedVariables false
set_option linter.unusedSimpArgs false
namespace Go.Proofs.Ytnnblakjaiccfaa
open Go.RowKit

def tm (l : List Int) (i : Nat) : Mt := (List.range i).map fun (j : Nat) => ((j : Int), l[j]?.getD 0)
theorem tm_len (l : List Int) (i : Nat) : (tm l i).length = i := by simp [tm]
theorem tm_mem {l : List Int} {i : Nat} {t : Int × Int} : t ∈ tm l i ↔ ∃ j : Nat, j < i ∧ t = ((j : Int), l[j]?.getD 0) := by
  unfold tm
  rw [List.mem_map]
  constructor
  · rintro ⟨j, hj, rfl⟩; exact ⟨j, List.mem_range.1 hj, rfl⟩
  · rintro ⟨j, hj, rfl⟩; exact ⟨j, List.mem_range.2 hj, rfl⟩
theorem tm_succ (l : List Int) (i : Nat) : tm l (i + 1) = tm l i ++ [((i : Int), l[i]?.getD 0)] := by
  unfold tm
  rw [List.range_succ, List.map_append]; rfl
theorem tm_set (l : List Int) (i : Nat) (a : Int) (h : i < 256) (e : l[i]?.getD 0 = a) (ha : 0 ≤ a ∧ a ≤ 100000) : setM (tm l i) i a = (0, tm l (i + 1)) := by
  have hg : getM (tm l i) i = none := getM_none_of fun t ht => by
    obtain ⟨j, hj, rfl⟩ := tm_mem.1 ht
    simp only; omega
  unfold setM
  rw [if_neg (by omega), if_neg (fun h2 => by have := h2.2; rw [tm_len] at this; omega), delM_none hg, tm_succ, e]
theorem split_len (now : Int) : ∀ M : Mt, (dueS now M).length + (M.filter fun t => decide (now < t.2)).length = M.length
  | [] => rfl
  | t :: r => by
    have := split_len now r
    unfold dueS at *
    rw [List.filter_cons, List.filter_cons]
    by_cases h : t.2 ≤ now
    · rw [if_pos (by simpa using h), if_neg (by simpa using h)]
      simp only [List.length_cons]; omega
    · rw [if_neg (by simpa using h), if_pos (by simp; omega)]
      simp only [List.length_cons]; omega
/-- What the law's outer loop knows. -/
def OnS (l : List Int) (n : Nat) (step now last : Int) (out : Nat) (M : Mt) : Prop :=
  M = (tm l n).filter (fun t => decide (now - step < t.2)) ∧ out + M.length = n ∧ (last = -1 ∨ (0 ≤ last ∧ last ≤ now - step))
theorem OnS.start {l : List Int} {n : Nat} {step : Int} (hs : 1 ≤ step) (hb : ∀ j, j < n → 0 ≤ l[j]?.getD 0 ∧ l[j]?.getD 0 ≤ 100000) : OnS l n step 0 (-1) 0 (tm l n) := by
  refine ⟨(List.filter_eq_self.2 fun t ht => ?_).symm, by rw [tm_len]; omega, .inl rfl⟩
  obtain ⟨j, hj, rfl⟩ := tm_mem.1 ht
  have := hb j hj
  simp only [decide_eq_true_eq]; omega
/-- One that is due is one that was set, behind the tick of the step ahead. -/
theorem OnS.due {l : List Int} {n : Nat} {step now last : Int} {out : Nat} {M : Mt} (h : OnS l n step now last out M) {D : Mt} (hp : D.Perm (dueS now M)) (hb : ∀ j, j < n → 0 ≤ l[j]?.getD 0 ∧ l[j]?.getD 0 ≤ 100000) {t : Int × Int} (ht : t ∈ D) :
    ∃ j : Nat, j < n ∧ t.1 = (j : Int) ∧ t.2 = l[j]?.getD 0 ∧ 0 ≤ t.2 ∧ t.2 ≤ 100000 ∧ t.2 ≤ now ∧ now - step < t.2 ∧ last ≤ t.2 := by
  have h1 := hp.mem_iff.1 ht
  unfold dueS at h1
  rw [h.1] at h1
  obtain ⟨h1, h2⟩ := List.mem_filter.1 h1
  obtain ⟨h1, h3⟩ := List.mem_filter.1 h1
  obtain ⟨j, hj, rfl⟩ := tm_mem.1 h1
  have := hb j hj
  simp only [decide_eq_true_eq] at h2 h3
  exact ⟨j, hj, rfl, rfl, this.1, this.2, h2, h3, by rcases h.2.2 with q | q <;> omega⟩
theorem OnS.next {l : List Int} {n : Nat} {step now last : Int} {out : Nat} {M : Mt} (h : OnS l n step now last out M) (hs : 1 ≤ step) {D : Mt} (hp : D.Perm (dueS now M)) {last' : Int} (hl : last' = -1 ∨ (0 ≤ last' ∧ last' ≤ now)) :
    OnS l n step (now + step) last' (out + D.length) (M.filter fun t => decide (now < t.2)) := by
  refine ⟨?_, ?_, hl.elim .inl (fun q => .inr ⟨q.1, by omega⟩)⟩
  · rw [h.1, List.filter_filter]
    refine List.filter_congr fun t _ => ?_
    rw [← Bool.decide_and, decide_eq_decide]
    constructor
    · intro q; have := q.1; omega
    · intro q; exact ⟨by omega, by omega⟩
  · have h1 := split_len now M
    have h2 := hp.length_eq
    have h3 := h.2.1
    omega
theorem OnS.le {l : List Int} {n : Nat} {step now last : Int} {out : Nat} {M : Mt} (h : OnS l n step now last out M) : out ≤ n := by have := h.2.1; omega
theorem sorted_le {D : Mt} {i j : Nat} {x y : Int × Int} (hs : D.Pairwise (fun x y => cmpT x y ≤ 0)) (hij : i ≤ j) (hx : D[i]? = some x) (hy : D[j]? = some y) : x.2 ≤ y.2 := by
  rcases Nat.lt_or_ge i j with h | h
  · obtain ⟨h1, rfl⟩ := List.getElem?_eq_some_iff.1 hx
    obtain ⟨h2, rfl⟩ := List.getElem?_eq_some_iff.1 hy
    have h3 := List.pairwise_iff_getElem.1 hs i j h1 h2 h
    unfold cmpT cmpI at h3
    revert h3
    repeat' split
    all_goals omega
  · obtain rfl : i = j := by omega
    rw [hx] at hy; injection hy with hy; rw [hy]; exact Int.le_refl _
/-- The last tick that was seen is no later than what comes. -/
def LastOk (D : Mt) (i : Nat) (last now : Int) : Prop := (∀ q t, i ≤ q → D[q]? = some t → last ≤ t.2) ∧ (last = -1 ∨ (0 ≤ last ∧ last ≤ now))
theorem LastOk.step {D : Mt} {i : Nat} {now : Int} {t : Int × Int} (hs : D.Pairwise (fun x y => cmpT x y ≤ 0)) (ht : D[i]? = some t) (h0 : 0 ≤ t.2) (h1 : t.2 ≤ now) : LastOk D (i + 1) t.2 now :=
  ⟨fun q u hq hu => sorted_le hs (by omega : i ≤ q) ht hu, .inr ⟨h0, h1⟩⟩
theorem next_gt {M : Mt} {now n : Int} {b : Bool} (h : NextIs (M.filter fun t => decide (now < t.2)) n b) : b = false ∨ (b = true ∧ decide (n ≤ now) = false) := by
  rcases h with ⟨_, _, rfl⟩ | ⟨_, rfl, _, t, ht, rfl⟩
  · exact .inl rfl
  · have := (List.mem_filter.1 ht).2
    simp only [decide_eq_true_eq] at this
    exact .inr ⟨rfl, decide_eq_false (by omega)⟩
end Go.Proofs.Ytnnblakjaiccfaa
