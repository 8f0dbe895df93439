/- Proved: a slice of bytes that came in reads as a list of bytes. Conditions: none. -/
import Derived.Test.YtocigdkndlmikaaLib
import Derived.ProofKit
import Derived.OpenShut
namespace Go.Proofs.Ytocigdkndlmikaa
open Go.RowKit
/-- What is known of a slice of integers that came in: it is nil, or it leads to a row of as many cells as it has room for. -/
def IsRow (k : IntKind) (w : World) (a : Option Addr) (len cap : Nat) (zs : List Int) : Prop :=
  (a = none ∧ len = 0 ∧ cap = 0 ∧ zs = []) ∨
  ∃ x, a = some x ∧ len ≤ cap ∧ cap ≤ maxLen ∧ zs.length = cap ∧ (∀ i, i < zs.length → w.cell? (x.add i) = some (.int k (zs.getD i 0))) ∧ ∀ n ∈ zs, (Lit.int k n).wf = true

theorem IsRow.rb {w : World} {a : Option Addr} {len cap : Nat} {zs : List Int} (h : IsRow .u8 w a len cap zs) : ∃ l, RB w w.heap.size a l ∧ Bs l ∧ l.length = len ∧ len ≤ cap := by
  rcases h with ⟨rfl, rfl, rfl, rfl⟩ | ⟨x, rfl, hl, _, hz, hcell, hwf⟩
  · exact ⟨[], Rw.nil _ _ _, Bs.nil, rfl, Nat.le_refl _⟩
  · refine ⟨zs.take len, fun hn => ?_, fun n hn => ?_, by rw [List.length_take]; omega, hl⟩
    · rw [by8_length, List.length_take] at hn
      have h0 := hcell 0 (by omega)
      obtain ⟨b, off, spot⟩ := x
      have hs : spot = none := by simpa [Addr.add] using World.cell?_spot h0
      subst hs
      refine ⟨b, off, rfl, ?_, fun j u hu => ?_⟩
      · have := World.block_lt_of_cell? w _ h0
        rwa [add_eq] at this
      · have hj : j < (by8 (zs.take len)).length := by
          rcases Nat.lt_or_ge j (by8 (zs.take len)).length with h1 | h1
          · exact h1
          · rw [List.getElem?_eq_none h1] at hu; cases hu
        rw [by8_length, List.length_take] at hj
        rw [by8_get _ _ (by rw [List.length_take]; exact hj)] at hu
        injection hu with hu
        have h1 := hcell j (by omega)
        rw [add_eq] at h1
        rw [h1, ← hu, List.getElem?_take, if_pos (by omega)]
        simp
    · have := bounds_u8 (hwf n (List.mem_of_mem_take hn))
      omega
end Go.Proofs.Ytocigdkndlmikaa
