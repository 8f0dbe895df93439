/- Proved: Cancel of the reference's wheel, whether the key stands or not. Conditions: the wheel lies in memory, its keys are apart. -/
import Derived.Test.YtnnblakjaiccfaaRfC
set_option linter.unusedVariables false
set_option linter.unusedSimpArgs false
namespace Go.Proofs.Ytnnblakjaiccfaa
open Go.RowKit
theorem key_at {S : Mt} (hn : (S.map (·.1)).Nodup) {i j : Nat} {t u : Int × Int} (hi : S[i]? = some t) (hj : S[j]? = some u) (e : t.1 = u.1) : i = j := by
  obtain ⟨h1, rfl⟩ := List.getElem?_eq_some_iff.1 hi
  obtain ⟨h2, rfl⟩ := List.getElem?_eq_some_iff.1 hj
  have h := List.pairwise_iff_getElem.1 hn
  rcases Nat.lt_trichotomy i j with d | d | d
  · have := h i j (by simpa using h1) (by simpa using h2) d
    simp only [List.getElem_map] at this
    exact absurd e this
  · exact d
  · have := h j i (by simpa using h2) (by simpa using h1) d
    simp only [List.getElem_map] at this
    exact absurd e.symm this
theorem del_at : ∀ {S : Mt} {k a : Int} {i : Nat}, (S.map (·.1)).Nodup → S[i]? = some (k, a) → delM S k = S.take i ++ S.drop (i + 1)
  | [], _, _, _, _, h => by simp at h
  | t :: r, k, a, 0, hn, h => by
    simp at h
    subst h
    rw [List.map_cons, List.nodup_cons] at hn
    unfold delM
    rw [List.filter_cons, if_neg (by simp)]
    simp only [List.take_zero, List.nil_append, Nat.zero_add, List.drop_succ_cons, List.drop_zero]
    refine List.filter_eq_self.2 fun x hx => ?_
    simp only [decide_eq_true_eq]
    exact fun e => hn.1 (by show k ∈ _; rw [← e]; exact List.mem_map.2 ⟨x, hx, rfl⟩)
  | t :: r, k, a, i + 1, hn, h => by
    rw [List.map_cons, List.nodup_cons] at hn
    simp only [List.getElem?_cons_succ] at h
    have hne : t.1 ≠ k := fun e => hn.1 (by rw [e]; exact List.mem_map.2 ⟨_, List.mem_of_getElem? h, rfl⟩)
    have := del_at hn.2 h
    unfold delM at this ⊢
    rw [List.filter_cons, if_pos (by simpa using hne), this]
    simp
def RcanPost (q : Nat) (A : Option Addr) (S : Mt) (k : Int) (w : World) (e : Ending) (w' : World) : Prop :=
  e = .returned (.bool (getM S k).isSome) ∧ ∃ A' n' c', RfAt w' q A' n' c' (delM S k) ∧ Chg (fun b => b = q) w w' ∧ ∀ b, blk A' = some b → blk A = some b ∨ w.heap.size ≤ b
set_option maxHeartbeats 2000000 in
set_option maxRecDepth 100000 in
theorem rcan_any (q : Nat) (A : Option Addr) (n c : Nat) (S : Mt) (k : Int) (w : World) (h : RfAt w q A n c S) (hn : n ≤ 1000) (hk : (S.map (·.1)).Nodup) :
    Calls Try.prog 24 #[.pointer (some ⟨q, 0, none⟩), .int .i64 k] w (RcanPost q A S k w) := by
  have hsp := spot_any q A n c S k w h (by omega)
  cases hg : getM S k with
  | none =>
    have HS : Hid (Calls Try.prog 32 #[.pointer (some ⟨q, 0, none⟩), .int .i64 k] w fun e w' => e = .returned (.int .i64 (-1)) ∧ ∃ j, w' = w.drewN j) :=
      Lib.hid (hsp.mono fun e w' ⟨z, h1, h2, h3⟩ => by
        rcases spotIs_at h2 hk with ⟨rfl, _⟩ | ⟨i, a, _, _, h4⟩
        · exact ⟨h1, h3⟩
        · rw [hg] at h4; cases h4)
    have hd := delM_none hg
    have HF : Hid (∀ j, ∃ A' n' c', RfAt (w.drewN j) q A' n' c' (delM S k) ∧ Chg (fun b => b = q) w (w.drewN j) ∧ ∀ b, blk A' = some b → blk A = some b ∨ w.heap.size ≤ b) :=
      Lib.hid (fun j => ⟨A, n, c, by rw [hd]; exact h.drewN j, (Chg.refl _ w).drewN j, fun b hb => .inl hb⟩)
    have HG := Lib.hid hg
    unfold RcanPost
    rw [hg]
    clear hsp h hk hd hg
    go_enter Try.func24, Try.ntmps24
    go_wp2_with fail
    refine HS.out.mono ?_
    rintro e w1 ⟨rfl, jj, rfl⟩
    go_wp2
    go_ret
    exact ⟨rfl, HF.out jj⟩
  | some a =>
    obtain ⟨i, hi⟩ := List.getElem?_of_mem (getM_some hg)
    have hin : i < n := by have := (List.getElem?_eq_some_iff.1 hi).1; rw [h.2.2.1] at this; exact this
    obtain ⟨g, off, hA, _⟩ := h.at_ hi
    subst hA
    have hsp2 : Calls Try.prog 32 #[.pointer (some ⟨q, 0, none⟩), .int .i64 k] w fun e w' => e = .returned (.int .i64 (i : Int)) ∧ ∃ j, w' = w.drewN j :=
      hsp.mono fun e w' ⟨z, h1, h2, h3⟩ => by
        rcases spotIs_at h2 hk with ⟨_, h4⟩ | ⟨i', a', rfl, h4, _⟩
        · rw [hg] at h4; cases h4
        · rw [key_at hk hi h4 rfl]; exact ⟨h1, h3⟩
    refine (rcan_hit q g off n c i S k w h hn hin hsp2).mono ?_
    rintro e w' ⟨he, A', n', c', h1, h2, h3⟩
    exact ⟨by rw [hg]; exact he, A', n', c', by rw [del_at hk hi]; exact h1, h2, fun b hb => .inr (h3 b hb)⟩
end Go.Proofs.Ytnnblakjaiccfaa
