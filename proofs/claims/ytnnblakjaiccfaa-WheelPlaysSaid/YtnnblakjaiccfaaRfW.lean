/- Proved: append to a row of the reference's timers that is the call's own, of whatever source. Conditions: as the law says. -/
import Derived.Test.YtnnblakjaiccfaaRfX
set_option linter.unusedVariables false
set_option linter.unusedSimpArgs false
namespace Go.Proofs.Ytnnblakjaiccfaa
open Go.RowKit
/-- A row of the reference's timers of the call's own. -/
def Rt (w : World) (base : Nat) (v : Value) (n : Nat) (S : Mt) : Prop := w.ownsRow base 60 2 v n (tmsC S)
theorem run_ap_rt (ty : TypeId) (w : World) (base : Nat) {A : Option Addr} {n c : Nat} {S : Mt} (hown : Rt w base (.slice A n c) n S) {B : Nat} {A2 : Option Addr} {m c2 : Nat} {S2 : Mt} (hr : Rw w B A2 (tmsC S2)) (hm : S2.length = m)
    (hn : n + m ≤ 100000) (hbase : base ≤ w.heap.size) :
    ∃ A' c' w', (Builtin.append_ #[41, 41] ty #[.slice A n c, .slice A2 m c2]).run Try.prog w = .ok (.slice A' (n + m) c') w' ∧ Rt w' base (.slice A' (n + m) c') (n + m) (S ++ S2) ∧ w.grownBy w' (blk A) := by
  obtain ⟨ti, i1, i2, i3, i4⟩ := info_rtm
  rcases Nat.eq_zero_or_pos m with h0 | h0
  · subst h0
    have hS2 : S2 = [] := List.eq_nil_of_length_eq_zero hm
    subst hS2
    rw [List.append_nil]
    have hrun : (Builtin.append_ #[41, 41] ty #[.slice A n c, .slice A2 0 c2]).run Try.prog w = .ok (.slice A n c) w := by
      rcases Tm.cases_ (E := 60) hown with ⟨rfl, rfl, rfl, _⟩ | ⟨g, cur, rfl, _, _, hnc, _⟩
      · cases A2 <;> simp [Builtin.append_, run_underlying Try.underlying41, sizeOf, typeInfo, i1, Builtin.lenOf, Builtin.firstCells, loadCells, loadCellsFrom, storeCells]
      · cases A2 <;> simp [Builtin.append_, run_underlying Try.underlying41, sizeOf, typeInfo, i1, Builtin.lenOf, Builtin.firstCells, hnc, loadCells, loadCellsFrom, storeCells]
    exact ⟨A, c, w, hrun, hown, World.grownBy.refl w _⟩
  · obtain ⟨b, off, rfl, hb, hcs⟩ := hr (by rw [tmsC_len]; omega)
    obtain ⟨u, w4, hrun, hO4, hG, _⟩ := run_append_own (P := Try.prog) (w := w) base 41 ty 60 ti _ 2 16 Try.underlying41 i1 i2 i3 i4 rfl (by omega) (.slice A n c) n _ hown ⟨b, off, none⟩ m c2 (tmsC S2) (by rw [tmsC_len, hm])
      (fun j u hu => by rw [add_eq]; exact hcs j u hu) (tmsC_one _) (by unfold maxLen; omega) (by omega) hbase
    rw [ownBlock_slice] at hG
    rcases hO4.2 with ⟨_, h⟩ | ⟨g, cap, cur, rfl, rest⟩
    · omega
    · exact ⟨_, cap, w4, hrun, by unfold Rt; rw [tmsC_append]; exact hO4, hG⟩
theorem Rt.rw_ {w : World} {base : Nat} {A : Option Addr} {n c : Nat} {S : Mt} (h : Rt w base (.slice A n c) n S) : Rw w w.heap.size A (tmsC S) ∧ S.length = n ∧ n ≤ c ∧ ∀ b, blk A = some b → base ≤ b := by
  have hl : S.length = n := by have := h.1; rw [tmsC_len] at this; omega
  rcases h.2 with ⟨h1, h2⟩ | ⟨g, cap, cur, h1, hb, hh, hc, _, _, ht⟩
  · injection h1 with e1 e2 e3
    subst e1
    exact ⟨fun hn => absurd hn (by rw [tmsC_len]; omega), hl, by omega, fun b hb => by cases hb⟩
  · injection h1 with e1 e2 e3
    subst e1
    refine ⟨fun hn => ⟨g, 0, rfl, (Array.getElem?_eq_some_iff.1 hh).1, fun j u hu => ?_⟩, hl, by omega, fun b hb' => by simp [blk] at hb'; omega⟩
    rw [Nat.zero_add, cell_of_row w g j cur 60 (0, 0) hh]
    rw [← ht, List.getElem?_take] at hu
    split at hu
    · simpa using hu
    · cases hu
section
variable {ops : Array Oper} {rest : List Oper} {o : Oper} {a : Act} {w : World} {Q : Exit → Act → World → Prop}
theorem ap_rt (hgd : o.guard = none) (s x : Operand)
    (ho : o.op = .call { callee := .builtin .append, args := #[s, x], argTypes := #[41, 41] })
    (base : Nat) {A : Option Addr} {n c : Nat} {S : Mt} (hs : a.eval s = .slice A n c) (hown : Rt w base (.slice A n c) n S)
    {B : Nat} {A2 : Option Addr} {m c2 : Nat} {S2 : Mt} (hx : a.eval x = .slice A2 m c2) (hr : Rw w B A2 (tmsC S2)) (hm : S2.length = m) (hn : n + m ≤ 100000) (hbase : base ≤ w.heap.size)
    (h : ∀ A' c' w', Rt w' base (.slice A' (n + m) c') (n + m) (S ++ S2) → w.grownBy w' (blk A) → wpList Try.prog ops Q rest (a.put o.dst (.slice A' (n + m) c')) w') :
    wpList Try.prog ops Q (o :: rest) a w := by
  refine wpList_plain hgd fun K hK => ?_
  obtain ⟨A', c', w', hrun, h1, h2⟩ := run_ap_rt o.type w base hown (c2 := c2) hr hm hn hbase
  unfold Oper.wp execOp
  simp only [ho, resolve, invoke, builtin, Sem.run_bind, Sem.run_pure, Result.andThen_ok, List.map_toArray, List.map_cons, List.map_nil, hs, hx, hrun]
  exact hK _ _ (h A' c' w' h1 h2)
end
end Go.Proofs.Ytnnblakjaiccfaa
