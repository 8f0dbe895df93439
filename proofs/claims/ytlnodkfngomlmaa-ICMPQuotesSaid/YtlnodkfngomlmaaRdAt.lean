/- Proved: reading at a place of a row of bytes: what octet.Reader hands out while there is enough, and what the reference's Get2 and Get4 read. Conditions: there are enough bytes. -/
import Derived.Test.YtlnodkfngomlmaaReader
import Derived.Deep.QuietTactic
import Derived.BigQuiet
import Derived.IntWalk
set_option linter.unusedVariables false
namespace Go.Proofs.Ytlnodkfngomlmaa
open Go.RowKit

/-- The byte at a place. -/
def at8 (l : List Int) (k : Nat) : Int := l[k]?.getD 0
def rd2 (l : List Int) (k : Nat) : Int := at8 l k * 256 + at8 l (k + 1)
def rd4 (l : List Int) (k : Nat) : Int := at8 l k * 16777216 + at8 l (k + 1) * 65536 + at8 l (k + 2) * 256 + at8 l (k + 3)
theorem at8_bd {l : List Int} (h : Bs l) (k : Nat) : 0 ≤ at8 l k ∧ at8 l k < 256 := h.at_ k
theorem rd2_bd {l : List Int} (h : Bs l) (k : Nat) : 0 ≤ rd2 l k ∧ rd2 l k ≤ 65535 := by have := at8_bd h k; have := at8_bd h (k + 1); unfold rd2; omega
theorem rd4_bd {l : List Int} (h : Bs l) (k : Nat) : 0 ≤ rd4 l k ∧ rd4 l k ≤ 4294967295 := by
  have := at8_bd h k; have := at8_bd h (k + 1); have := at8_bd h (k + 2); have := at8_bd h (k + 3); unfold rd4; omega
theorem drop_at8 (l : List Int) (k : Nat) (h : k < l.length) : l.drop k = at8 l k :: l.drop (k + 1) := by
  rw [List.drop_eq_getElem_cons h]; unfold at8; rw [List.getElem?_eq_getElem h]; rfl
theorem numBE_at1 (l : List Int) (k : Nat) (h : k + 1 ≤ l.length) : numBE ((l.drop k).take 1) = at8 l k := by
  rw [drop_at8 l k (by omega)]; simp [numBE]
theorem numBE_at2 (l : List Int) (k : Nat) (h : k + 2 ≤ l.length) : numBE ((l.drop k).take 2) = rd2 l k := by
  rw [drop_at8 l k (by omega), drop_at8 l (k + 1) (by omega)]; simp [numBE, rd2]
theorem numBE_at4 (l : List Int) (k : Nat) (h : k + 4 ≤ l.length) : numBE ((l.drop k).take 4) = rd4 l k := by
  rw [drop_at8 l k (by omega), drop_at8 l (k + 1) (by omega), drop_at8 l (k + 1 + 1) (by omega), drop_at8 l (k + 1 + 1 + 1) (by omega)]
  simp [numBE, rd4, Nat.add_assoc]; omega
theorem rdOut_at (l : List Int) (k m : Nat) (h : k + m ≤ l.length) : rdOut (l.drop k) 0 (m : Nat) = (l.drop k).take m := by
  unfold rdOut; rw [if_pos ⟨rfl, by omega, by rw [List.length_drop]; omega⟩]; simp
theorem rdRest_at (l : List Int) (k m : Nat) (h : k + m ≤ l.length) : rdRest (l.drop k) 0 (m : Nat) = l.drop (k + m) := by
  unfold rdRest; rw [if_pos ⟨rfl, by omega, by rw [List.length_drop]; omega⟩]; simp
theorem rdErr_at (l : List Int) (k m : Nat) (h : k + m ≤ l.length) : rdErr (l.drop k) 0 (m : Nat) = 0 := by
  unfold rdErr; rw [if_pos ⟨rfl, by omega, by rw [List.length_drop]; omega⟩]

theorem byte_at (base g : Nat) (l : List Int) (k : Nat) (h : k + 1 ≤ l.length) (w : World) (hr : Rd w base g (l.drop k) 0) (hbase : base ≤ w.heap.size) :
    Calls Try.prog 44 #[.pointer (some ⟨g, 0, none⟩)] w fun e w' => e = .returned (.int .i64 (at8 l k)) ∧ Rd w' base g (l.drop (k + 1)) 0 ∧ w.grownBy w' (some g) := by
  have := rbyte_any base g (l.drop k) 0 w hr hbase
  have e1 := rdOut_at l k 1 h
  have e2 := rdRest_at l k 1 h
  have e3 := rdErr_at l k 1 h
  rw [show ((1 : Nat) : Int) = 1 from rfl] at e1 e2 e3
  rwa [e1, e2, e3, numBE_at1 l k h] at this
theorem two_at (base g : Nat) (l : List Int) (k : Nat) (h : k + 2 ≤ l.length) (w : World) (hr : Rd w base g (l.drop k) 0) (hbase : base ≤ w.heap.size) :
    Calls Try.prog 45 #[.pointer (some ⟨g, 0, none⟩)] w fun e w' => e = .returned (.int .i64 (rd2 l k)) ∧ Rd w' base g (l.drop (k + 2)) 0 ∧ w.grownBy w' (some g) := by
  have := rtwo16_any base g (l.drop k) 0 w hr hbase
  have e1 := rdOut_at l k 2 h
  have e2 := rdRest_at l k 2 h
  have e3 := rdErr_at l k 2 h
  rw [show ((2 : Nat) : Int) = 2 from rfl] at e1 e2 e3
  rwa [e1, e2, e3, numBE_at2 l k h] at this
theorem four_at (base g : Nat) (l : List Int) (k : Nat) (h : k + 4 ≤ l.length) (w : World) (hr : Rd w base g (l.drop k) 0) (hbase : base ≤ w.heap.size) :
    Calls Try.prog 46 #[.pointer (some ⟨g, 0, none⟩)] w fun e w' => e = .returned (.int .u32 (rd4 l k)) ∧ Rd w' base g (l.drop (k + 4)) 0 ∧ w.grownBy w' (some g) := by
  have := rfour32_any base g (l.drop k) 0 w hr hbase
  have e1 := rdOut_at l k 4 h
  have e2 := rdRest_at l k 4 h
  have e3 := rdErr_at l k 4 h
  rw [show ((4 : Nat) : Int) = 4 from rfl] at e1 e2 e3
  rwa [e1, e2, e3, numBE_at4 l k h] at this
theorem raw_at (base g : Nat) (l : List Int) (k m : Nat) (h : k + m ≤ l.length) (hl : l.length ≤ 1000000) (w : World) (hr : Rd w base g (l.drop k) 0) (hbase : base ≤ w.heap.size) :
    Calls Try.prog 47 #[.pointer (some ⟨g, 0, none⟩), .int .i64 m] w fun e w' => ∃ A n c, e = .returned (.slice A n c) ∧ OB 5 w' w.heap.size A n c ((l.drop k).take m) ∧ Rd w' base g (l.drop (k + m)) 0 ∧ w.grownBy w' (some g) := by
  have := rraw_any base g (l.drop k) (by rw [List.length_drop]; omega) 0 m w hr hbase
  rwa [rdOut_at l k m h, rdRest_at l k m h, rdErr_at l k m h] at this

theorem or_u32_join (j : Nat) (x y : Int) (h0 : 0 ≤ x) (h1 : x < 4294967296) (h2 : 0 ≤ y) (h3 : y < 2 ^ j) (h4 : y < 4294967296) (h5 : x % 2 ^ j = 0) : bits .or .u32 x y = x + y := by
  obtain ⟨a, rfl⟩ := Int.eq_ofNat_of_zero_le h0
  obtain ⟨c, rfl⟩ := Int.eq_ofNat_of_zero_le h2
  rw [u32_or_nat _ _ (by omega) (by omega), nat_join j a c (by exact_mod_cast h5) (by exact_mod_cast h3)]
  omega

theorem get4_any (A : Option Addr) (n c B : Nat) (l : List Int) (k : Nat) (hn : l.length = n) (hk : k + 4 ≤ n) (hmax : n ≤ 140737488355328) (hb : Bs l) (w : World) (hr : RB w B A l) :
    Calls Try.prog 49 #[.slice A n c, .int .i64 k] w fun e w' => e = .returned (.int .u32 (rd4 l k)) ∧ ∃ j, w' = w.drewN j := by
  obtain ⟨b, off, rfl, _, c0⟩ := hr.at_ (k := k) (by omega)
  obtain ⟨b', off', e', _, c1⟩ := hr.at_ (k := k + 1) (by omega)
  injection e' with e'; injection e' with e1 e2; subst e1; subst e2
  obtain ⟨b', off', e', _, c2⟩ := hr.at_ (k := k + 2) (by omega)
  injection e' with e'; injection e' with e1 e2; subst e1; subst e2
  obtain ⟨b', off', e', _, c3⟩ := hr.at_ (k := k + 3) (by omega)
  injection e' with e'; injection e' with e1 e2; subst e1; subst e2
  have a0 := hb.at_ k
  have a1 := hb.at_ (k + 1)
  have a2 := hb.at_ (k + 2)
  have a3 := hb.at_ (k + 3)
  have hR : rd4 l k = l[k]?.getD 0 * 16777216 + l[k + 1]?.getD 0 * 65536 + l[k + 2]?.getD 0 * 256 + l[k + 3]?.getD 0 := rfl
  obtain ⟨x0, h0⟩ : ∃ x, l[k]?.getD 0 = x := ⟨_, rfl⟩
  obtain ⟨x1, h1⟩ : ∃ x, l[k + 1]?.getD 0 = x := ⟨_, rfl⟩
  obtain ⟨x2, h2⟩ : ∃ x, l[k + 2]?.getD 0 = x := ⟨_, rfl⟩
  obtain ⟨x3, h3⟩ : ∃ x, l[k + 3]?.getD 0 = x := ⟨_, rfl⟩
  rw [h0, h1, h2, h3] at hR
  rw [h0] at c0 a0
  rw [h1] at c1 a1
  rw [h2] at c2 a2
  rw [h3] at c3 a3
  rw [hR]
  have o1 : bits .or .u32 (x0 * 16777216) (x1 * 65536) = x0 * 16777216 + x1 * 65536 := or_u32_join 24 _ _ (by omega) (by omega) (by omega) (by omega) (by omega) (by omega)
  have o2 : bits .or .u32 (x0 * 16777216 + x1 * 65536) (x2 * 256) = x0 * 16777216 + x1 * 65536 + x2 * 256 := or_u32_join 16 _ _ (by omega) (by omega) (by omega) (by omega) (by omega) (by omega)
  have o3 : bits .or .u32 (x0 * 16777216 + x1 * 65536 + x2 * 256) x3 = x0 * 16777216 + x1 * 65536 + x2 * 256 + x3 := or_u32_join 8 _ _ (by omega) (by omega) (by omega) (by omega) (by omega) (by omega)
  have w1 : IntKind.i64.wrap ((k : Int) + 1) = k + 1 := IntWalk.i64_in _ (by omega)
  have w2 : IntKind.i64.wrap ((k : Int) + 2) = k + 2 := IntWalk.i64_in _ (by omega)
  have w3 : IntKind.i64.wrap ((k : Int) + 3) = k + 3 := IntWalk.i64_in _ (by omega)
  have v0 : IntKind.u32.wrap (x0 * 16777216) = x0 * 16777216 := by rw [IntKind.wrap_u32]; omega
  have v1 : IntKind.u32.wrap (x1 * 65536) = x1 * 65536 := by rw [IntKind.wrap_u32]; omega
  have v2 : IntKind.u32.wrap (x2 * 256) = x2 * 256 := by rw [IntKind.wrap_u32]; omega
  have n1 : ((k : Int) + 1).toNat = k + 1 := by omega
  have n2 : ((k : Int) + 2).toNat = k + 2 := by omega
  have n3 : ((k : Int) + 3).toNat = k + 3 := by omega
  have p1 : (0 : Int) ≤ (k : Int) + 1 := by omega
  have p2 : (0 : Int) ≤ (k : Int) + 2 := by omega
  have p3 : (0 : Int) ≤ (k : Int) + 3 := by omega
  have p0 : (0 : Int) ≤ (k : Int) := by omega
  have l0 : (k : Int) < n := by omega
  have l1 : (k : Int) + 1 < n := by omega
  have l2 : (k : Int) + 2 < n := by omega
  have l3 : (k : Int) + 3 < n := by omega
  clear hn h0 h1 h2 h3 hR
  go_enter Try.func49, Try.ntmps49
  go_wp2
  go_quiet (fail)
  go_wp2
  go_ret
  exact ⟨rfl, _, rfl⟩

theorem i64_or_nat' (a b : Nat) (ha : a < 1099511627776) (hb : b < 1099511627776) : bits .or .i64 (a : Int) (b : Int) = ((a ||| b : Nat) : Int) := by
  have hx : a ||| b < 2 ^ 40 := Nat.or_lt_two_pow (by omega) (by omega)
  have e : ∀ c : Nat, c < 1099511627776 → (BitVec.ofInt 64 (c : Int)).toNat = c := fun c hc => by
    rw [BitVec.ofInt_natCast, BitVec.toNat_ofNat]; exact Nat.mod_eq_of_lt (by omega)
  show IntKind.i64.wrap ((BitVec.ofInt 64 (a : Int) ||| BitVec.ofInt 64 (b : Int)).toNat : Int) = _
  rw [BitVec.toNat_or, e a ha, e b hb]
  exact IntWalk.i64_in _ (by omega)
theorem or_i64_8 (x y : Int) (h0 : 0 ≤ x) (h1 : x < 65536) (h2 : 0 ≤ y) (h3 : y < 256) : bits .or .i64 (x * 256) y = x * 256 + y := by
  obtain ⟨a, rfl⟩ := Int.eq_ofNat_of_zero_le h0
  obtain ⟨c, rfl⟩ := Int.eq_ofNat_of_zero_le h2
  rw [show (a : Int) * 256 = ((a * 256 : Nat) : Int) from by omega, i64_or_nat' _ _ (by omega) (by omega), nat_join 8 (a * 256) c (by omega) (by omega)]
  omega
theorem get2_any (A : Option Addr) (n c B : Nat) (l : List Int) (k : Nat) (hn : l.length = n) (hk : k + 2 ≤ n) (hmax : n ≤ 140737488355328) (hb : Bs l) (w : World) (hr : RB w B A l) :
    Calls Try.prog 51 #[.slice A n c, .int .i64 k] w fun e w' => e = .returned (.int .i64 (rd2 l k)) ∧ ∃ j, w' = w.drewN j := by
  obtain ⟨b, off, rfl, _, c0⟩ := hr.at_ (k := k) (by omega)
  obtain ⟨b', off', e', _, c1⟩ := hr.at_ (k := k + 1) (by omega)
  injection e' with e'; injection e' with e1 e2; subst e1; subst e2
  have a0 := hb.at_ k
  have a1 := hb.at_ (k + 1)
  have hR : rd2 l k = l[k]?.getD 0 * 256 + l[k + 1]?.getD 0 := rfl
  obtain ⟨x0, h0⟩ : ∃ x, l[k]?.getD 0 = x := ⟨_, rfl⟩
  obtain ⟨x1, h1⟩ : ∃ x, l[k + 1]?.getD 0 = x := ⟨_, rfl⟩
  rw [h0, h1] at hR
  rw [h0] at c0 a0
  rw [h1] at c1 a1
  rw [hR]
  have o1 := or_i64_8 x0 x1 (by omega) (by omega) (by omega) (by omega)
  have w1 : IntKind.i64.wrap ((k : Int) + 1) = k + 1 := IntWalk.i64_in _ (by omega)
  have v0 : IntKind.i64.wrap (x0 * 256) = x0 * 256 := IntWalk.i64_in _ (by omega)
  have n1 : ((k : Int) + 1).toNat = k + 1 := by omega
  have p1 : (0 : Int) ≤ (k : Int) + 1 := by omega
  have p0 : (0 : Int) ≤ (k : Int) := by omega
  have l0 : (k : Int) < n := by omega
  have l1 : (k : Int) + 1 < n := by omega
  clear hn h0 h1 hR
  go_enter Try.func51, Try.ntmps51
  go_wp2
  go_quiet (fail)
  go_wp2
  go_ret
  exact ⟨rfl, _, rfl⟩
end Go.Proofs.Ytlnodkfngomlmaa
