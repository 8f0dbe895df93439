/- Proved: append to a row of the call's own at any offset, at the operation. Conditions: as each law says, for any program. -/
import Derived.Test.YtocigdkndlmikaaOff
set_option linter.unusedVariables false
namespace Go.Proofs.Ytocigdkndlmikaa
open Go.RowKit
theorem Of.alloc {E : TypeId} {w : World} {base : Nat} {A : Option Addr} {n c : Nat} {xs : List Value} (h : Of E w base A n c xs) (o : Obj) : Of E (w.alloc o) base A n c xs := by
  refine h.kept (World.grownBy_alloc w o none) ?_
  cases hA : blk A with
  | none => exact .inl rfl
  | some b => exact .inr (by simp)
theorem Bk.of_ne {w : World} {g : Nat} {t E : TypeId} {cs : Array Value} {base : Nat} {A : Option Addr} {n c : Nat} {xs : List Value} (h : Bk w g t cs) (ho : Of E w base A n c xs) (hne : t ≠ E) : some g ≠ blk A := by
  rcases ho.2 with ⟨rfl, _⟩ | ⟨g', off, cur, rfl, _, hh, _⟩
  · simp [blk]
  · intro e
    have e : g = g' := by simpa [blk] using e
    exact Bk.ne_ h (show Bk w g' E cur from hh) hne e
section
variable {P : Program} {w : World}
theorem wp_append_of {o : Oper} {a : Act} {K : Act → World → Prop} {Q : Exit → Act → World → Prop} (s x : Operand) (t : TypeId)
    (ho : o.op = .call { callee := .builtin .append, args := #[s, x], argTypes := #[t, t] })
    (base : Nat) (e : TypeId) (z : Value) (bytes : Nat) (ht : P.underlying t = some (.slice e))
    (hinfo : (P.info? e).map (fun i => (i.zero, i.size, i.bytes)) = some (some z, 1, bytes)) (hzs : z.cells.size = 1)
    {A : Option Addr} {n c : Nat} {xs : List Value} (hs : a.eval s = .slice A n c) (hown : Of e w base A n c xs)
    {B : Nat} {A2 : Option Addr} {m c2 : Nat} {ys : List Value} (hx : a.eval x = .slice A2 m c2) (hr : Rw w B A2 ys) (hm : ys.length = m) (hm0 : 0 < m) (h1 : ∀ u ∈ ys, u.oneCell' = true)
    (h63 : n + m ≤ maxLen) (hbytes : (n + m) * bytes ≤ 140737488355328) (hbase : base ≤ w.heap.size)
    (h : ∀ g' o' c' w', Of e w' base (some ⟨g', o', none⟩) (n + m) c' (xs ++ ys) → w.grownBy w' (blk A) → (some g' = blk A ∨ g' = w.heap.size) → K (a.put o.dst (.slice (some ⟨g', o', none⟩) (n + m) c')) w') : o.wp P a w K Q := by
  obtain ⟨A', c', w', hrun, h2, h3, h4, h5⟩ := run_append_of (P := P) (w := w) t o.type e z bytes ht hinfo hzs hown (c2 := c2) hr hm hm0 h1 h63 hbytes hbase
  unfold Oper.wp execOp
  simp only [ho, resolve, invoke, builtin, Sem.run_bind, Sem.run_pure, Result.andThen_ok, List.map_toArray, List.map_cons, List.map_nil, hs, hx, hrun]
  rcases h2.2 with ⟨rfl, _⟩ | ⟨g', o', cur, rfl, _⟩
  · exact absurd rfl h5
  · exact h g' o' c' w' h2 h3 (h4.imp id (fun e => by simpa [blk] using e))
theorem wpList_append_of {ops : Array Oper} {rest : List Oper} {o : Oper} {a : Act} {Q : Exit → Act → World → Prop} (hgd : o.guard = none) (s x : Operand) (t : TypeId)
    (ho : o.op = .call { callee := .builtin .append, args := #[s, x], argTypes := #[t, t] })
    (base : Nat) (e : TypeId) (z : Value) (bytes : Nat) (ht : P.underlying t = some (.slice e))
    (hinfo : (P.info? e).map (fun i => (i.zero, i.size, i.bytes)) = some (some z, 1, bytes)) (hzs : z.cells.size = 1)
    {A : Option Addr} {n c : Nat} {xs : List Value} (hs : a.eval s = .slice A n c) (hown : Of e w base A n c xs)
    {B : Nat} {A2 : Option Addr} {m c2 : Nat} {ys : List Value} (hx : a.eval x = .slice A2 m c2) (hr : Rw w B A2 ys) (hm : ys.length = m) (hm0 : 0 < m) (h1 : ∀ u ∈ ys, u.oneCell' = true)
    (h63 : n + m ≤ maxLen) (hbytes : (n + m) * bytes ≤ 140737488355328) (hbase : base ≤ w.heap.size)
    (h : ∀ g' o' c' w', Of e w' base (some ⟨g', o', none⟩) (n + m) c' (xs ++ ys) → w.grownBy w' (blk A) → (some g' = blk A ∨ g' = w.heap.size) → wpList P ops Q rest (a.put o.dst (.slice (some ⟨g', o', none⟩) (n + m) c')) w') : wpList P ops Q (o :: rest) a w :=
  wpList_plain hgd fun _ hK => wp_append_of s x t ho base e z bytes ht hinfo hzs hs hown hx hr hm hm0 h1 h63 hbytes hbase fun g' o' c' w' h2 h3 h4 => hK _ _ (h g' o' c' w' h2 h3 h4)
end
end Go.Proofs.Ytocigdkndlmikaa
