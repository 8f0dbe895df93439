/- Proved: reading from a row of bytes that may end too early: whatever is read, and that the error is told once too much was asked. Conditions: none. -/
import Derived.Test.YtlnodkfngomlmaaRdAt
set_option linter.unusedVariables false
namespace Go.Proofs.Ytlnodkfngomlmaa
open Go.RowKit
/-- c bytes of L were asked for: all were there, or it has been told that they were not. -/
def RdS (L c : Nat) (rest : List Int) (er : Int) : Prop := (er = 0 ∧ c ≤ L ∧ rest.length + c = L) ∨ (er = 2 ∧ L < c ∧ rest = [])
theorem RdS.start (l : List Int) : RdS l.length 0 l 0 := .inl ⟨rfl, by omega, by omega⟩
theorem RdS.step {L c : Nat} {rest : List Int} {er : Int} (h : RdS L c rest er) (k : Nat) : RdS L (c + k) (rdRest rest er k) (rdErr rest er k) := by
  unfold rdRest rdErr
  rcases h with ⟨rfl, h1, h2⟩ | ⟨rfl, h1, _⟩
  · by_cases hk : c + k ≤ L
    · have hc : (0 : Int) = 0 ∧ (0 : Int) ≤ (k : Nat) ∧ ((k : Nat) : Int) ≤ rest.length := ⟨rfl, by omega, by omega⟩
      rw [if_pos hc, if_pos hc]
      exact .inl ⟨rfl, hk, by rw [List.length_drop]; simp; omega⟩
    · have hc : ¬ ((0 : Int) = 0 ∧ (0 : Int) ≤ (k : Nat) ∧ ((k : Nat) : Int) ≤ rest.length) := fun h => by omega
      rw [if_neg hc, if_neg hc]
      exact .inr ⟨rfl, by omega, rfl⟩
  · have hc : ¬ ((2 : Int) = 0 ∧ (0 : Int) ≤ (k : Nat) ∧ ((k : Nat) : Int) ≤ rest.length) := fun h => by omega
    rw [if_neg hc, if_neg hc]
    exact .inr ⟨rfl, by omega, rfl⟩
theorem RdS.over {L c : Nat} {rest : List Int} {er : Int} (h : RdS L c rest er) (hc : L < c) : er = 2 := by
  rcases h with ⟨_, h1, _⟩ | ⟨h1, _, _⟩
  · omega
  · exact h1
theorem RdS.len {L c : Nat} {rest : List Int} {er : Int} (h : RdS L c rest er) : rest.length ≤ L := by
  rcases h with ⟨_, _, h2⟩ | ⟨_, _, rfl⟩
  · omega
  · simp
theorem numBE_bd2 : ∀ (l : List Int), Bs l → l.length ≤ 2 → 0 ≤ numBE l ∧ numBE l ≤ 65535
  | [], _, _ => by simp [numBE]
  | [a], h, _ => by have := h a (by simp); simp [numBE]; omega
  | [a, b], h, _ => by have := h a (by simp); have := h b (by simp); simp [numBE]; omega
  | _ :: _ :: _ :: _, _, h => by simp at h
theorem numBE_bd1 : ∀ (l : List Int), Bs l → l.length ≤ 1 → 0 ≤ numBE l ∧ numBE l ≤ 255
  | [], _, _ => by simp [numBE]
  | [a], h, _ => by have := h a (by simp); simp [numBE]; omega
  | _ :: _ :: _, _, h => by simp at h
theorem numBE_bd4 : ∀ (l : List Int), Bs l → l.length ≤ 4 → 0 ≤ numBE l ∧ numBE l ≤ 4294967295
  | [], _, _ => by simp [numBE]
  | [a], h, _ => by have := h a (by simp); simp [numBE]; omega
  | [a, b], h, _ => by have := h a (by simp); have := h b (by simp); simp [numBE]; omega
  | [a, b, c], h, _ => by have := h a (by simp); have := h b (by simp); have := h c (by simp); simp [numBE]; omega
  | [a, b, c, d], h, _ => by have := h a (by simp); have := h b (by simp); have := h c (by simp); have := h d (by simp); simp [numBE]; omega
  | _ :: _ :: _ :: _ :: _ :: _, _, h => by simp at h

theorem byte_s (base g L c : Nat) (rest : List Int) (er : Int) (h : RdS L c rest er) (w : World) (hr : Rd w base g rest er) (hbase : base ≤ w.heap.size) :
    Calls Try.prog 44 #[.pointer (some ⟨g, 0, none⟩)] w fun e w' => ∃ (x : Int) (rest' : List Int) (er' : Int), e = .returned (.int .i64 x) ∧ 0 ≤ x ∧ x ≤ 255 ∧ RdS L (c + 1) rest' er' ∧ Rd w' base g rest' er' ∧ w.grownBy w' (some g) :=
  (rbyte_any base g rest er w hr hbase).mono fun e w' ⟨h1, h2, h3⟩ => by
    have hb := numBE_bd1 (rdOut rest er 1) (rdOut_bs hr.bs er 1) (Nat.le_trans (rdOut_len _ _ _) (by decide))
    exact ⟨_, _, _, h1, hb.1, hb.2, h.step 1, h2, h3⟩
theorem two_s (base g L c : Nat) (rest : List Int) (er : Int) (h : RdS L c rest er) (w : World) (hr : Rd w base g rest er) (hbase : base ≤ w.heap.size) :
    Calls Try.prog 45 #[.pointer (some ⟨g, 0, none⟩)] w fun e w' => ∃ (x : Int) (rest' : List Int) (er' : Int), e = .returned (.int .i64 x) ∧ 0 ≤ x ∧ x ≤ 65535 ∧ RdS L (c + 2) rest' er' ∧ Rd w' base g rest' er' ∧ w.grownBy w' (some g) :=
  (rtwo16_any base g rest er w hr hbase).mono fun e w' ⟨h1, h2, h3⟩ => by
    have hb := numBE_bd2 (rdOut rest er 2) (rdOut_bs hr.bs er 2) (Nat.le_trans (rdOut_len _ _ _) (by decide))
    exact ⟨_, _, _, h1, hb.1, hb.2, h.step 2, h2, h3⟩
theorem four_s (base g L c : Nat) (rest : List Int) (er : Int) (h : RdS L c rest er) (w : World) (hr : Rd w base g rest er) (hbase : base ≤ w.heap.size) :
    Calls Try.prog 46 #[.pointer (some ⟨g, 0, none⟩)] w fun e w' => ∃ (x : Int) (rest' : List Int) (er' : Int), e = .returned (.int .u32 x) ∧ 0 ≤ x ∧ x ≤ 4294967295 ∧ RdS L (c + 4) rest' er' ∧ Rd w' base g rest' er' ∧ w.grownBy w' (some g) :=
  (rfour32_any base g rest er w hr hbase).mono fun e w' ⟨h1, h2, h3⟩ => by
    have hb := numBE_bd4 (rdOut rest er 4) (rdOut_bs hr.bs er 4) (Nat.le_trans (rdOut_len _ _ _) (by decide))
    exact ⟨_, _, _, h1, hb.1, hb.2, h.step 4, h2, h3⟩
theorem rdRest_le (l : List Int) (er k : Int) : (rdRest l er k).length ≤ l.length := by
  unfold rdRest; split
  · rw [List.length_drop]; omega
  · simp
theorem raw_s (base g L c k : Nat) (rest : List Int) (er : Int) (h : RdS L c rest er) (hl : rest.length ≤ 1000000) (w : World) (hr : Rd w base g rest er) (hbase : base ≤ w.heap.size) :
    Calls Try.prog 47 #[.pointer (some ⟨g, 0, none⟩), .int .i64 k] w fun e w' => ∃ (A : Option Addr) (n c' : Nat) (x rest' : List Int) (er' : Int), e = .returned (.slice A n c') ∧ OB 5 w' w.heap.size A n c' x ∧ n ≤ k ∧ RdS L (c + k) rest' er' ∧ Rd w' base g rest' er' ∧ w.grownBy w' (some g) :=
  (rraw_any base g rest hl er k w hr hbase).mono fun e w' ⟨A, n, c', h1, h2, h3, h4⟩ => by
    exact ⟨A, n, c', _, _, _, h1, h2, by rw [← h2.length]; exact Nat.le_trans (rdOut_len _ _ _) (by simp), h.step k, h3, h4⟩
end Go.Proofs.Ytlnodkfngomlmaa
