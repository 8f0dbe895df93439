/- Proved: rows of bytes that came in read as lists of bytes. Conditions: none. -/
import Derived.Test.YtocigdkndlmikaaRows
import Derived.Test.YtocigdkndlmikaaRead
import Derived.Test.YtocigdkndlmikaaBytes
import Derived.Test.YtocigdkndlmikaaSameRows
set_option linter.unusedVariables false
namespace Go.Proofs.Ytocigdkndlmikaa
open Go.RowKit

structure RowV where
  A : Option Addr
  n : Nat
  c : Nat
  l : List Int
def rowV (x : RowV) : Value := .slice x.A x.n x.c
def rowC (x : RowV) : List Value := [rowV x]
def RowOk (w : World) (x : RowV) : Prop := RB w w.heap.size x.A x.l ∧ Bs x.l ∧ x.l.length = x.n ∧ x.n ≤ x.c ∧ x.c ≤ 140737488351232
def ViewRows (w : World) (v : Value) : Prop := ∃ A n cap, ∃ l : List RowV, v = .slice A n cap ∧ n ≤ cap ∧ cap * 24 ≤ 140737488351232 ∧ l.length = n ∧ SL 1 rowC w w.heap.size A l ∧ ∀ x ∈ l, RowOk w x
theorem sh_rows : shapeOf Try.prog 9 24 = some (.slice 1 24 (.slice 1 1 (.int .u8))) := by kernel_rfl
set_option maxRecDepth 100000 in
theorem open_rows {H : Type} {enc : TypeId × Value → H} {W : World} {b0 : Nat} {v : Value} {d : DataW H} {p : List MemPlace} (hv : Value.okWide Try.prog W .any b0 24 v)
    (h : DataW.Trod enc Try.prog W 0 (fun _ => true) true 24 v d p) (hw : ∀ k ∈ d.weights Try.prog 24, k ≤ reachBytes) : ViewRows W v := by
  have h1 := Sh.open_slice sh_rows Try.underlying24 hv h hw
  obtain ⟨A, len, cap, l, e, h2, h3, _, h4, h5, h6⟩ := SL.of_is (f := rowC) (Q := RowOk W) h1 (by omega) fun cs hl hI => by
    obtain ⟨A, n, cap, l, e10, h4, h5, h6, h7, h8⟩ := Sh.bytes hI
    exact ⟨⟨A, n, cap, l⟩, e10.symm, h4, h5, h6, h7, h8⟩
  injection e with e _
  exact ⟨A, len, cap, l, e, h2, h3, h4, h5, h6⟩
theorem SL.rw1 {w : World} {B : Nat} {A : Option Addr} {l : List RowV} (h : SL 1 rowC w B A l) : Rw w B A (l.map rowV) := fun hn => by
  obtain ⟨b, off, e, hb, h1⟩ := h (by simpa using hn)
  refine ⟨b, off, e, hb, fun j u hu => ?_⟩
  rw [List.getElem?_map, Option.map_eq_some_iff] at hu
  obtain ⟨x, hx, rfl⟩ := hu
  have := h1 j x hx 0 (rowV x) rfl
  simpa using this
theorem RdRows.of_ok {w : World} : ∀ {l : List RowV}, (∀ x ∈ l, RowOk w x) → RdRows w (l.map rowV) (l.map (·.l))
  | [], _ => trivial
  | x :: r, h => ⟨by
      obtain ⟨h1, h2, h3, h4, h5⟩ := h x (by simp)
      exact ⟨x.A, x.n, x.c, rfl, h1, h2, h3, by omega⟩, RdRows.of_ok fun y hy => h y (by simp [hy])⟩
end Go.Proofs.Ytocigdkndlmikaa
