/- Proved: who is there of a crowd. Conditions: none. -/
import Derived.Test.YtocigdkndlmikaaLearnR
import Derived.Test.YtocigdkndlmikaaKeep
set_option linter.unusedVariables false
namespace Go.Proofs.Ytocigdkndlmikaa
open Go.RowKit

def lnt (i : Nat) : Int × Nb := ((i : Int), learnt i 0 0 0 0 0 i)
/-- Who is there when k have been learnt. -/
def crowd (k : Nat) : List (Int × Nb) := ((List.range k).drop (k - 16)).map lnt
theorem crowd_len (k : Nat) : (crowd k).length = min k 16 := by simp [crowd]; omega
theorem mem_crowd {k : Nat} {p : Int × Nb} : p ∈ crowd k ↔ ∃ i, i < k ∧ k - 16 ≤ i ∧ p = lnt i := by
  unfold crowd
  rw [List.mem_map]
  constructor
  · rintro ⟨i, hi, rfl⟩
    obtain ⟨j, hj, rfl⟩ := List.mem_iff_getElem.1 hi
    simp at hj
    exact ⟨_, by simp; omega, by simp, rfl⟩
  · rintro ⟨i, h1, h2, rfl⟩
    refine ⟨i, List.mem_iff_getElem.2 ⟨i - (k - 16), by simp; omega, by simp; omega⟩, rfl⟩
theorem crowd_small {k : Nat} (h : k < 16) : crowd k ++ [lnt k] = crowd (k + 1) := by
  unfold crowd
  rw [show k - 16 = 0 by omega, show k + 1 - 16 = 0 by omega, List.range_succ]
  simp
theorem crowd_big {k : Nat} (h : 16 ≤ k) : crowd k = lnt (k - 16) :: ((List.range k).drop (k - 15)).map lnt := by
  unfold crowd
  have : k - 16 < (List.range k).length := by simp; omega
  rw [List.drop_eq_getElem_cons this, List.map_cons, List.getElem_range, show k - 16 + 1 = k - 15 by omega]
theorem crowd_next {k : Nat} (h : 16 ≤ k) : ((List.range k).drop (k - 15)).map lnt ++ [lnt k] = crowd (k + 1) := by
  unfold crowd
  rw [show k + 1 - 16 = k - 15 by omega, List.range_succ, List.drop_append_of_le_length (by simp), List.map_append]
  rfl
theorem crowd_drop {k : Nat} (h : 16 ≤ k) : dropT (crowd k) ((k - 16 : Nat) : Int) = ((List.range k).drop (k - 15)).map lnt := by
  rw [crowd_big h]
  unfold dropT
  rw [List.filter_cons_of_neg (by simp [lnt])]
  refine List.filter_eq_self.2 fun p hp => ?_
  obtain ⟨i, hi, rfl⟩ := List.mem_map.1 hp
  obtain ⟨j, hj, rfl⟩ := List.mem_iff_getElem.1 hi
  simp at hj
  simp [lnt]
  omega
theorem mem_absT {S : List En} {p : Int × Nb} : p ∈ absT S ↔ ∃ e ∈ S, (e.a, e.n) = p := by unfold absT; rw [List.mem_map]
theorem absT_len (S : List En) : (absT S).length = S.length := by simp [absT]
theorem laterP_small {i : Nat} (h : i ≤ 60) : laterP (i : Int) 600 = i + 600 := by unfold laterP; rw [if_neg (by omega)]
/-- Where room is made in a crowd, the one that was learnt first has gone. -/
theorem crowd_room {S S2 : List En} {k : Nat} (hk : k ≤ 60) (hS : absT S = crowd k) (h : RoomOK S S2) : absT S2 = if k < 16 then crowd k else ((List.range k).drop (k - 15)).map lnt := by
  have hl : S.length = min k 16 := by rw [← absT_len, hS, crowd_len]
  rcases h with ⟨h1, rfl⟩ | ⟨h1, x, ⟨hx, hkn, hle⟩, rfl⟩
  · rw [if_pos (by omega)]; exact hS
  · rw [if_neg (by omega), absT_filter, hS]
    have h16 : 16 ≤ k := by omega
    obtain ⟨i, hi1, hi2, hxi⟩ := mem_crowd.1 (hS ▸ mem_absT.2 ⟨x, hx, rfl⟩ : (x.a, x.n) ∈ crowd k)
    obtain ⟨e, he, hee⟩ := mem_absT.1 (hS ▸ mem_crowd.2 ⟨k - 16, by omega, Nat.le_refl _, rfl⟩ : lnt (k - 16) ∈ absT S)
    have hx1 : x.a = i := congrArg Prod.fst hxi
    have hx2 : x.n = learnt i 0 0 0 0 0 i := congrArg Prod.snd hxi
    have he1 : e.a = (k - 16 : Nat) := congrArg Prod.fst hee
    have he2 : e.n = learnt (k - 16 : Nat) 0 0 0 0 0 (k - 16 : Nat) := congrArg Prod.snd hee
    have ha := hle e he (by rw [he2]; rfl)
    unfold ahead at ha
    rw [hx2, he2, hx1, he1] at ha
    simp only [learnt] at ha
    rw [laterP_small (by omega), laterP_small (by omega)] at ha
    have : i = k - 16 := by omega
    rw [hx1, this]
    exact crowd_drop h16
theorem crowd_step {S S2 : List En} {k : Nat} (hk : k ≤ 60) (hS : absT S = crowd k) (h : RoomOK S S2) : absT S2 ++ [lnt k] = crowd (k + 1) := by
  rw [crowd_room hk hS h]
  split
  · exact crowd_small (by assumption)
  · exact crowd_next (by omega)
theorem crowd_has {S : List En} {k : Nat} (hS : absT S = crowd k) : S.length ≤ 15 ∨ ∃ x ∈ S, x.n.kn = true := by
  have hl : S.length = min k 16 := by rw [← absT_len, hS, crowd_len]
  rcases Nat.lt_or_ge S.length 16 with h | h
  · exact .inl (by omega)
  · match S, h with
    | x :: r, h =>
      obtain ⟨i, _, _, hi⟩ := mem_crowd.1 (hS ▸ mem_absT.2 ⟨x, by simp, rfl⟩ : (x.a, x.n) ∈ crowd k)
      have h2 : x.n = learnt i 0 0 0 0 0 i := congrArg Prod.snd hi
      exact .inr ⟨x, by simp, by rw [h2]; rfl⟩
theorem crowd_not {S : List En} {k j : Nat} (hS : absT S = crowd k) (hj : k ≤ j ∨ j < k - 16) : ∀ e ∈ S, e.a ≠ (j : Int) := by
  intro e he h
  obtain ⟨i, h1, h2, hi⟩ := mem_crowd.1 (hS ▸ mem_absT.2 ⟨e, he, rfl⟩ : (e.a, e.n) ∈ crowd k)
  have := congrArg Prod.fst hi
  simp only [lnt] at this
  omega
theorem crowd_in {S : List En} {k j : Nat} (hS : absT S = crowd k) (h1 : j < k) (h2 : k - 16 ≤ j) : ∃ e ∈ S, e.a = (j : Int) ∧ e.n = learnt j 0 0 0 0 0 j := by
  obtain ⟨e, he, hee⟩ := mem_absT.1 (hS ▸ mem_crowd.2 ⟨j, h1, h2, rfl⟩ : lnt j ∈ absT S)
  exact ⟨e, he, congrArg Prod.fst hee, congrArg Prod.snd hee⟩
/-- Who is asked for. -/
def asked (k : Nat) : List (Int × Nb) := (List.range k).map fun i : Nat => ((i : Int), newNb 0 [1])
theorem asked_next (k : Nat) : asked k ++ [((k : Int), newNb 0 [1])] = asked (k + 1) := by unfold asked; rw [List.range_succ]; simp
theorem asked_len (k : Nat) : (asked k).length = k := by simp [asked]
theorem asked_not {S : List En} {k : Nat} (hS : absT S = asked k) : ∀ e ∈ S, e.a ≠ (k : Int) := by
  intro e he h
  have hm : (e.a, e.n) ∈ asked k := hS ▸ mem_absT.2 ⟨e, he, rfl⟩
  unfold asked at hm
  obtain ⟨i, hi, hq⟩ := List.mem_map.1 hm
  have := congrArg Prod.fst hq
  simp at hi this
  omega
end Go.Proofs.Ytocigdkndlmikaa
