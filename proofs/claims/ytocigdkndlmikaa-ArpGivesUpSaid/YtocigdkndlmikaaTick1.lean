/- Proved: what Tick does to a cache of one neighbour that is asked for. Conditions: as each law says. -/
import Derived.Test.YtocigdkndlmikaaTick
import Derived.Test.YtocigdkndlmikaaSort1
import Derived.Test.YtocigdkndlmikaaKeep
set_option linter.unusedVariables false
namespace Go.Proofs.Ytocigdkndlmikaa
open Go.RowKit

theorem SortedAs.one {p : En → Prop} {e : En} {l : List Int} (h : SortedAs p [e] l) (hp : p e) : l = [e.a] := by
  have hm : ∀ a, a ∈ l ↔ a = e.a := fun a => (h.2 a).trans ⟨by rintro ⟨x, hx, rfl, _⟩; simp at hx; rw [hx], by rintro rfl; exact ⟨e, by simp, rfl, hp⟩⟩
  match l, h.1, hm with
  | [], _, hm => exact absurd ((hm e.a).2 rfl) (by simp)
  | [x], _, hm => rw [(hm x).1 (by simp)]
  | x :: y :: r, hs, hm =>
    have h1 := (hm x).1 (by simp)
    have h2 := (hm y).1 (by simp)
    have := (List.pairwise_cons.1 hs).1 y (by simp)
    omega
theorem SortedAs.none_ {p : En → Prop} {e : En} {l : List Int} (h : SortedAs p [e] l) (hp : ¬ p e) : l = [] := by
  cases l with
  | nil => rfl
  | cons x r =>
    obtain ⟨y, hy, _, hq⟩ := (h.2 x).1 (by simp)
    simp at hy
    rw [hy] at hq
    exact absurd hq hp
/-- A neighbour that is asked for. -/
def waitNb (tk tr : Int) : Nb := ⟨false, 0, 0, 0, 0, 0, 0, tk, tr, [[1]]⟩
theorem tick_one (now : Int) (hnow : -9223372036854775808 ≤ now ∧ now ≤ 9223372036854775807) (w : World) (F : Nat → Prop) (g : Nat) (e : En) (h : CacheAt w F g [e]) :
    Calls Try.prog 26 #[.pointer (some ⟨g, 0, none⟩), .int .i64 now] w (TickPost w (fun b => F b ∧ b < w.heap.size) g now [e]) := by
  obtain ⟨mv, h⟩ := h
  obtain ⟨b, rfl⟩ : ∃ b, mv = some b := by
    rcases mv with _ | b
    · have := h.1.2.1 rfl
      simp at this
    · exact ⟨b, rfl⟩
  exact tick_some 1 sort1 now hnow w _ g b [e] (fun x hx => hx.2) h.cap (by simp)
end Go.Proofs.Ytocigdkndlmikaa
