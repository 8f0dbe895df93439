/- Proved: a script of octet that came in reads as a list of steps. Conditions: none. -/
import Derived.Test.YtlnodkfngomlmaaRows
import Derived.Test.YtlnodkfngomlmaaIn
import Derived.SizedLaws
import Derived.Deep.Strs
import Derived.Deep.Slices
set_option linter.unusedVariables false
namespace Go.Proofs.Ytlnodkfngomlmaa
open Go.RowKit Go.ChangeShapes Go.WideShapes Go.Deep

/-- A step: its kind, its number, its bytes. -/
abbrev OpV := Int × Int × List Int
def i64ok (x : Int) : Prop := -9223372036854775808 ≤ x ∧ x ≤ 9223372036854775807
structure OpAt (w : World) (B b off : Nat) (o : OpV) : Prop where
  kind : w.cell? ⟨b, off, none⟩ = some (.int .i64 o.1)
  num : w.cell? ⟨b, off + 1, none⟩ = some (.int .i64 o.2.1)
  raw : ∃ A n c, w.cell? ⟨b, off + 2, none⟩ = some (.slice A n c) ∧ RB w B A o.2.2 ∧ o.2.2.length = n ∧ n ≤ c ∧ c ≤ 140737488351232
  bs : Bs o.2.2
  ok0 : i64ok o.1
  ok1 : i64ok o.2.1
def Ops (w : World) (B : Nat) (A : Option Addr) (l : List OpV) : Prop :=
  0 < l.length → ∃ b off, A = some ⟨b, off, none⟩ ∧ b < B ∧ ∀ i o, l[i]? = some o → OpAt w B b (off + i * 3) o

theorem OpAt.keep {w w' : World} {B b off : Nat} {o : OpV} (h : OpAt w B b off o) (hb : b < B) (hk : ∀ p : Addr, p.block < B → w'.cell? p = w.cell? p) : OpAt w' B b off o := by
  obtain ⟨h1, h2, ⟨A, n, c, h3, h4, h5⟩, h6, h7, h8⟩ := h
  exact ⟨(hk _ hb).trans h1, (hk _ hb).trans h2, ⟨A, n, c, (hk _ hb).trans h3, Rw.keep h4 hk, h5⟩, h6, h7, h8⟩
theorem Ops.keep {w w' : World} {B : Nat} {A : Option Addr} {l : List OpV} (h : Ops w B A l) (hk : ∀ p : Addr, p.block < B → w'.cell? p = w.cell? p) : Ops w' B A l := fun hn => by
  obtain ⟨b, off, e, hb, h1⟩ := h hn
  exact ⟨b, off, e, hb, fun i o ho => (h1 i o ho).keep hb hk⟩
theorem Ops.below {w w' : World} {B : Nat} {A : Option Addr} {l : List OpV} (h : Ops w B A l) (hb : Below B w w') : Ops w' B A l := h.keep fun _ hp => hb.cell hp

theorem weightsAll_mem {H : Type} {P : Program} {e : TypeId} : ∀ {ds : List (DataW H)} {d : DataW H}, d ∈ ds → ∀ n ∈ d.weights P e, n ∈ DataW.weightsAll P e ds
  | [], _, h, _, _ => by cases h
  | x :: r, d, h, n, hn => by
    simp only [DataW.weightsAll, List.mem_append]
    rcases List.mem_cons.1 h with rfl | h
    · exact .inl hn
    · exact .inr (weightsAll_mem h n hn)

theorem exists_list {α : Type} {n : Nat} {R : Nat → α → Prop} (h : ∀ i, i < n → ∃ o, R i o) : ∃ l : List α, l.length = n ∧ ∀ i o, l[i]? = some o → R i o := by
  induction n with
  | zero => exact ⟨[], rfl, fun i o hi => by simp at hi⟩
  | succ n ih =>
    obtain ⟨l, hl, hR⟩ := ih fun i hi => h i (by omega)
    obtain ⟨o, ho⟩ := h n (by omega)
    refine ⟨l ++ [o], by simp [hl], fun i x hx => ?_⟩
    rcases Nat.lt_or_ge i n with hi | hi
    · rw [List.getElem?_append_left (by omega)] at hx
      exact hR i x hx
    · rw [List.getElem?_append_right (by omega), hl] at hx
      rcases Nat.eq_or_lt_of_le hi with e | e
      · subst e; simp at hx; subst hx; exact ho
      · rw [List.getElem?_eq_none (by simp; omega)] at hx; cases hx

end Go.Proofs.Ytlnodkfngomlmaa
