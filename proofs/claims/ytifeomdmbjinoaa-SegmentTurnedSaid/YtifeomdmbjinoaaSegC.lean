/- Proved: a byte of a segment that is turned, and another address, spoil its sum. Conditions: as each says. -/
import Derived.Test.YtifeomdmbjinoaaSegB
set_option linter.unusedVariables false
set_option linter.unusedSimpArgs false
namespace Go.Proofs.Ytifeomdmbjinoaa
open Go.RowKit
theorem dErr_sum {a b : Int} {l : List Int} (h : dErr a b l = 0) : segSum a b l = 0 := by
  rcases dErr_cases a b l with ⟨_, e⟩ | ⟨_, e⟩ | ⟨_, _, ⟨_, e⟩ | ⟨_, e⟩ | ⟨_, e⟩ | ⟨_, e⟩ | ⟨m, k, h5, e, _⟩⟩
  all_goals first
    | (exact h5.2.2.1)
    | (rw [e] at h; omega)
theorem turned_dErr (s : Sg) (d : List Int) (hd : Bs d) (k : Nat) (v : Int) (hk : k < (segAll s d).length) (hv0 : 0 ≤ v) (hv1 : v < 256) (hne : v ≠ (segAll s d)[k]?.getD 0) : dErr s.fr s.to ((segAll s d).set k v) ≠ 0 := fun h => by
  have h0 := dErr_sum h
  unfold segSum at h0
  rw [List.length_set] at h0
  have h1 := segAll_sum s d hd
  have e : pseu s.fr s.to (segAll s d).length ++ (segAll s d).set k v = (pseu s.fr s.to (segAll s d).length ++ segAll s d).set (12 + k) v := by
    rw [List.set_append_right _ _ (by rw [pseu_len]; omega), pseu_len, show 12 + k - 12 = k from by omega]
  rw [e] at h0
  refine partC_set _ (12 + k) v ((pseu_bs _ _ _).append (segAll_bs hd)) (by rw [List.length_append, pseu_len]; omega) hv0 hv1 ?_ h1 (by omega)
  rw [List.getElem?_append_right (by rw [pseu_len]; omega), pseu_len, show 12 + k - 12 = k from by omega]
  exact hne
theorem xor_u32_nat (a b : Nat) (ha : a < 4294967296) (hb : b < 4294967296) : bits .xor .u32 (a : Int) (b : Int) = ((a ^^^ b : Nat) : Int) := by
  have hx : a ^^^ b < 2 ^ 32 := Nat.xor_lt_two_pow (by omega) (by omega)
  have e : ∀ c : Nat, c < 4294967296 → (BitVec.ofInt 32 (c : Int)).toNat = c := fun c hc => by
    rw [BitVec.ofInt_natCast, BitVec.toNat_ofNat]; exact Nat.mod_eq_of_lt (by omega)
  show IntKind.u32.wrap ((BitVec.ofInt 32 (a : Int) ^^^ BitVec.ofInt 32 (b : Int)).toNat : Int) = _
  rw [BitVec.toNat_xor, e a ha, e b hb, IntKind.wrap_u32]
  omega
theorem xor_u32_low (b y : Int) (hb : U32 b) (hy : 1 ≤ y ∧ y ≤ 255) : U32 (bits .xor .u32 b y) ∧ bits .xor .u32 b y / 256 = b / 256 ∧ bits .xor .u32 b y % 256 ≠ b % 256 := by
  obtain ⟨b0, b1⟩ := hb
  obtain ⟨n, rfl⟩ := Int.eq_ofNat_of_zero_le b0
  obtain ⟨m, rfl⟩ := Int.eq_ofNat_of_zero_le (show 0 ≤ y by omega)
  rw [xor_u32_nat n m (by omega) (by omega)]
  have hx : n ^^^ m < 2 ^ 32 := Nat.xor_lt_two_pow (by omega) (by omega)
  have hd : (n ^^^ m) / 256 = n / 256 := by
    have h1 : (n ^^^ m) >>> 8 = n >>> 8 ^^^ m >>> 8 := Nat.shiftRight_xor_distrib
    rw [Nat.shiftRight_eq_div_pow, Nat.shiftRight_eq_div_pow, Nat.shiftRight_eq_div_pow] at h1
    rw [show m / 2 ^ 8 = 0 from Nat.div_eq_of_lt (by omega), Nat.xor_zero] at h1
    exact h1
  have hne : n ^^^ m ≠ n := fun e => by
    have h2 : n ^^^ (n ^^^ m) = n ^^^ n := by rw [e]
    rw [← Nat.xor_assoc, Nat.xor_self, Nat.zero_xor] at h2
    omega
  refine ⟨⟨by omega, by omega⟩, by omega, fun h => hne ?_⟩
  omega
theorem other_dErr (s : Sg) (hg : s.good) (d : List Int) (hd : Bs d) (hl : 20 + (optB s.mss s.sc).length + d.length ≤ 65515) (b' : Int) (hb : U32 s.to) (hb' : U32 b') (h1 : b' / 256 = s.to / 256) (h2 : b' % 256 ≠ s.to % 256) :
    dErr s.fr b' (segAll s d) = 4 := by
  have hs : segSum s.fr b' (segAll s d) ≠ 0 := fun h => by
    unfold segSum at h
    have e : pseu s.fr b' (segAll s d).length ++ segAll s d = (pseu s.fr s.to (segAll s d).length ++ segAll s d).set 7 (b' % 256) := by
      unfold pseu
      simp only [be, List.cons_append, List.nil_append, List.append_assoc, List.set_cons_succ, List.set_cons_zero]
      unfold U32 at hb hb'
      have q1 : b' / 256 ^ 3 % 256 = s.to / 256 ^ 3 % 256 := by omega
      have q2 : b' / 256 ^ 2 % 256 = s.to / 256 ^ 2 % 256 := by omega
      have q3 : b' / 256 ^ 1 % 256 = s.to / 256 ^ 1 % 256 := by omega
      rw [q1, q2, q3]
      simp
    rw [e] at h
    refine partC_set _ 7 (b' % 256) ((pseu_bs _ _ _).append (segAll_bs hd)) (by rw [List.length_append, pseu_len]; omega) (by omega) (by omega) ?_ (segAll_sum s d hd) (by omega)
    unfold pseu
    simp [be]
    exact h2
  unfold dErr
  rw [segAll_len, segAll_hd, if_neg (by omega), if_neg (by omega), if_neg (by omega), if_neg (by omega), if_pos hs]
end Go.Proofs.Ytifeomdmbjinoaa
