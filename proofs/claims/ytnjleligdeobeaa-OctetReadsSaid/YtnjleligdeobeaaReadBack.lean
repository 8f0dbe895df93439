/- Proved: numbers that were written as bytes are read as they were. Conditions: as each says. -/
import Derived.Test.YtnjleligdeobeaaWriter
import Derived.Test.YtnjleligdeobeaaReader
import Derived.Test.YtnjleligdeobeaaScript
import Derived.Deep.RegionHeld3
namespace Go.Proofs.Ytnjleligdeobeaa
open Go.RowKit
theorem numBE_be2 (v : Int) : numBE (be 2 v) = v % 65536 := by
  simp only [numBE, be, List.foldl_cons, List.foldl_nil, Int.pow_one, Int.pow_zero]
  omega
theorem numBE_be4 (v : Int) : numBE (be 4 v) = v % 4294967296 := by
  simp only [numBE, be, List.foldl_cons, List.foldl_nil]
  simp only [show (256 : Int) ^ 3 = 16777216 from rfl, show (256 : Int) ^ 2 = 65536 from rfl, show (256 : Int) ^ 1 = 256 from rfl, show (256 : Int) ^ 0 = 1 from rfl]
  omega
theorem numBE_be1 (v : Int) : numBE (be 1 v) = v % 256 := by
  simp only [numBE, be, List.foldl_cons, List.foldl_nil, Int.pow_zero]
  omega

/-- What a step of OctetBack writes. -/
def enc2 (o : OpV) : List Int := be 2 o.2.1 ++ (o.2.2 ++ be 4 (o.2.1 % 4294967296))
def encs2 : List OpV → List Int
  | [] => []
  | o :: r => enc2 o ++ encs2 r
theorem encs2_append : ∀ (l m : List OpV), encs2 (l ++ m) = encs2 l ++ encs2 m
  | [], m => rfl
  | o :: r, m => by simp only [List.cons_append, encs2, encs2_append r m, List.append_assoc]
theorem encs2_length : ∀ (l : List OpV), ((encs2 l).length : Int) ≤ 2 * htot l
  | [] => by simp [encs2, htot]
  | o :: r => by
    have h2 := encs2_length r
    simp only [encs2, enc2, htot, List.length_append, be_length]; omega
theorem encs2_bs : ∀ (l : List OpV), (∀ o ∈ l, Bs o.2.2) → Bs (encs2 l)
  | [], _ => Bs.nil
  | o :: r, h => ((be_bs _ _).append ((h o (by simp)).append (be_bs _ _))).append (encs2_bs r fun x hx => h x (by simp [hx]))
theorem drop_cons_some {α : Type} (l : List α) (k : Nat) (o : α) (h : l[k]? = some o) : l.drop k = o :: l.drop (k + 1) := by
  obtain ⟨hk, e⟩ := List.getElem?_eq_some_iff.1 h
  rw [List.drop_eq_getElem_cons hk, e]
theorem htot_get (l : List OpV) (k : Nat) (o : OpV) (h : l[k]? = some o) : 4 + (o.2.2.length : Int) ≤ htot l := by
  have h1 := htot_take_le l (k + 1)
  rw [take_snoc_some l k o h, htot_append] at h1
  have h2 := htot_nonneg (l.take k)
  simp only [htot] at h1
  omega
theorem htot_drop_le (l : List OpV) (k : Nat) : htot (l.drop k) ≤ htot l := by
  have h := htot_append (l.take k) (l.drop k)
  rw [List.take_append_drop] at h
  have := htot_nonneg (l.take k)
  omega
/-- A reader of p that stands at q, or is dead. -/
def RdSt (w : World) (base g : Nat) (p : List Int) (q : Nat) (dd : Bool) : Prop := match dd with | true => Rd w base g [] 2 | false => Rd w base g (p.drop q) 0
end Go.Proofs.Ytnjleligdeobeaa
