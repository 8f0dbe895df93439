/- Proved: a slice of numbers that came in reads as a list of numbers; the plain law of WheelSorted. Conditions: none. -/
import Derived.Test.YtnnblakjaiccfaaIn
import Derived.Test.YtnnblakjaiccfaaRoomL
import Derived.Test.YtnnblakjaiccfaaNext
set_option linter.unusedVariables false
set_option linter.unusedSimpArgs false
namespace Go.Proofs.Ytnnblakjaiccfaa
open Go.RowKit

/-- A row of numbers that came in. -/
def RowI (w : World) (A : Option Addr) (n c : Nat) (l : List Int) : Prop := Rw w w.heap.size A (int64s l) ∧ l.length = n ∧ n ≤ c ∧ ∀ x ∈ l, okI x
theorem RowI.below {w w' : World} {A : Option Addr} {n c : Nat} {l : List Int} (h : RowI w A n c l) (hb : Below w.heap.size w w') : RowI w' A n c l := ⟨Rw.more (Rw.below h.1 hb) hb.size, h.2⟩
theorem IsRow.ri {w : World} {a : Option Addr} {len cap : Nat} {zs : List Int} (h : IsRow .i64 w a len cap zs) : ∃ l, RowI w a len cap l := by
  rcases h with ⟨rfl, rfl, rfl, rfl⟩ | ⟨x, rfl, hl, _, hz, hcell, hwf⟩
  · exact ⟨[], Rw.nil _ _ _, rfl, Nat.le_refl _, fun x hx => by cases hx⟩
  · refine ⟨zs.take len, fun hn => ?_, by rw [List.length_take]; omega, hl, fun n hn => bounds_i64 (hwf n (List.mem_of_mem_take hn))⟩
    have hlen : (int64s (zs.take len)).length = len := by rw [int64s, List.length_map, List.length_take]; omega
    rw [hlen] at hn
    have h0 := hcell 0 (by omega)
    obtain ⟨b, off, spot⟩ := x
    have hs : spot = none := by simpa [Addr.add] using World.cell?_spot h0
    subst hs
    refine ⟨b, off, rfl, ?_, fun j u hu => ?_⟩
    · have := World.block_lt_of_cell? w _ h0
      rwa [add_eq] at this
    · have hj : j < len := by
        rcases Nat.lt_or_ge j len with h1 | h1
        · exact h1
        · rw [List.getElem?_eq_none (by rw [hlen]; exact h1)] at hu; cases hu
      rw [int64s_get _ _ (by rw [List.length_take]; omega)] at hu
      injection hu with hu
      have h1 := hcell j (by omega)
      rw [add_eq] at h1
      rw [h1, ← hu, List.getElem?_take, if_pos (by omega)]
      simp
theorem RowI.at_ {w : World} {A : Option Addr} {n c : Nat} {l : List Int} (h : RowI w A n c l) {k : Nat} (hk : k < n) : ∃ b off, A = some ⟨b, off, none⟩ ∧ b < w.heap.size ∧ w.cell? ⟨b, off + k, none⟩ = some (.int .i64 (l[k]?.getD 0)) ∧ okI (l[k]?.getD 0) := by
  have hkl : k < l.length := by rw [h.2.1]; exact hk
  obtain ⟨b, off, e, hb, hc⟩ := h.1.at_ (int64s_get l k hkl)
  exact ⟨b, off, e, hb, hc, by rw [List.getElem?_eq_getElem hkl]; exact h.2.2.2 _ (List.getElem_mem hkl)⟩

theorem bcell {B b o : Nat} {u : Value} {w w2 : World} (h : Below B w w2) (hb : b < B) (hc : w.cell? ⟨b, o, none⟩ = some u) : w2.cell? ⟨b, o, none⟩ = some u := (h.cell (p := ⟨b, o, none⟩) hb).trans hc
/-! ### the law's own state -/
/-- What is set, pair by pair. -/
def setAll (kl al : List Int) : Nat → Mt
  | 0 => []
  | i + 1 => delM (setAll kl al i) (kl[i]?.getD 0) ++ [(kl[i]?.getD 0, al[i]?.getD 0)]
theorem setAll_len (kl al : List Int) : ∀ i, (setAll kl al i).length ≤ i
  | 0 => Nat.le_refl _
  | i + 1 => by
    have := setAll_len kl al i
    have h2 := List.length_filter_le (fun t : Int × Int => decide (t.1 ≠ kl[i]?.getD 0)) (setAll kl al i)
    rw [setAll, List.length_append]
    unfold delM
    simp only [List.length_cons, List.length_nil]; omega
theorem setAll_set (kl al : List Int) (i : Nat) (hi : i < 256) (ha : 0 ≤ al[i]?.getD 0 ∧ al[i]?.getD 0 ≤ 1099511627776) : setM (setAll kl al i) (kl[i]?.getD 0) (al[i]?.getD 0) = (0, setAll kl al (i + 1)) := by
  have := setAll_len kl al i
  unfold setM
  rw [if_neg (by omega), if_neg (fun h => by have := h.2; omega)]
  rfl
theorem setAll_key (kl al : List Int) : ∀ i, i ≤ kl.length → ∀ t ∈ setAll kl al i, t.1 ∈ kl.take i
  | 0, _, t, h => by cases h
  | i + 1, hi, t, h => by
    have e : kl.take (i + 1) = kl.take i ++ [kl[i]?.getD 0] := take_succ_getD kl i (by omega)
    rw [setAll] at h
    rw [e]
    rcases List.mem_append.1 h with h | h
    · exact List.mem_append.2 (.inl (setAll_key kl al i (by omega) t (mem_delM.1 h).1))
    · simp at h; subst h; simp
/-- What the law looks up: what stands at a key among the first ones. -/
def lookP (kl : List Int) (k : Nat) (a X : Int) : Int := if a ∈ kl.take k then X else 0
theorem lookP_hit {kl : List Int} {k : Nat} {a X : Int} (hk : k < kl.length) (h : kl[k]?.getD 0 = a) : lookP kl (k + 1) a X = X := by
  unfold lookP
  rw [take_succ_getD kl k hk, h, if_pos (by simp)]
theorem lookP_miss {kl : List Int} {k : Nat} {a X : Int} (hk : k < kl.length) (h : kl[k]?.getD 0 ≠ a) : lookP kl (k + 1) a X = lookP kl k a X := by
  unfold lookP
  rw [take_succ_getD kl k hk]
  have : (a ∈ kl.take k ++ [kl[k]?.getD 0]) ↔ a ∈ kl.take k := by
    rw [List.mem_append, List.mem_singleton]
    exact ⟨fun h2 => h2.elim id (fun e => absurd e.symm h), .inl⟩
  by_cases h2 : a ∈ kl.take k
  · rw [if_pos (this.2 h2), if_pos h2]
  · rw [if_neg (fun h3 => h2 (this.1 h3)), if_neg h2]
theorem sorted_lt {D : Mt} {i : Nat} {x y : Int × Int} (hs : D.Pairwise (fun x y => cmpT x y ≤ 0)) (hn : (D.map (·.1)).Nodup) (hx : D[i]? = some x) (hy : D[i + 1]? = some y) : x.2 < y.2 ∨ (x.2 = y.2 ∧ x.1 < y.1) := by
  obtain ⟨h1, rfl⟩ := List.getElem?_eq_some_iff.1 hx
  obtain ⟨h2, rfl⟩ := List.getElem?_eq_some_iff.1 hy
  have h3 := List.pairwise_iff_getElem.1 hs i (i + 1) h1 h2 (Nat.lt_succ_self _)
  have h4 : D[i].1 ≠ D[i + 1].1 := by
    have := List.pairwise_iff_getElem.1 hn i (i + 1) (by simpa using h1) (by simpa using h2) (Nat.lt_succ_self _)
    simpa using this
  unfold cmpT cmpI at h3
  revert h3
  repeat' split
  all_goals omega
end Go.Proofs.Ytnnblakjaiccfaa
