/- Proved: a reader is not hurt by a store into a block that holds no bytes. Conditions: that block is of another type. -/
import Derived.Test.YtlnodkfngomlmaaRdAt
set_option linter.unusedVariables false
namespace Go.Proofs.Ytlnodkfngomlmaa
open Go.RowKit
def NoU8 (cs : Array Value) : Prop := ∀ (i : Nat) (x : Int), cs[i]? ≠ some (Value.int .u8 x)
theorem RB.apart {w : World} {B : Nat} {A : Option Addr} {l : List Int} {gm : Nat} {T : TypeId} {cs : Array Value} (h : RB w B A l) (hm : Bk w gm T cs) (hu : NoU8 cs) {w' : World} (hk : ∀ b, b ≠ gm → w'.heap[b]? = w.heap[b]?) : RB w' B A l := fun hn => by
  obtain ⟨b, off, rfl, hb, hc⟩ := h hn
  have hne : b ≠ gm := by
    rintro rfl
    rw [by8_length] at hn
    have h0 := hc 0 _ (by8_get l 0 hn)
    rw [hm.cell] at h0
    exact hu _ _ h0
  exact ⟨b, off, rfl, hb, fun j u hu => (World.cell?_of_block (hk b hne)).trans (hc j u hu)⟩
theorem RB.store {w : World} {B : Nat} {A : Option Addr} {l : List Int} {gm : Nat} {T : TypeId} {cs : Array Value} (h : RB w B A l) (hm : Bk w gm T cs) (hu : NoU8 cs) (i : Nat) (v : Value) : RB (w.setCell ⟨gm, i, none⟩ v) B A l :=
  h.apart hm hu fun b hb => Below.heap_setCell w ⟨gm, i, none⟩ v b hb
theorem Rd.store {w : World} {base g : Nat} {l : List Int} {er : Int} {gm : Nat} {T : TypeId} {cs : Array Value} (h : Rd w base g l er) (hm : Bk w gm T cs) (h1 : T ≠ 91) (h2 : T ≠ 77) (hu : NoU8 cs) (i : Nat) (v : Value) :
    Rd (w.setCell ⟨gm, i, none⟩ v) base g l er := by
  obtain ⟨F, h0, hs, hF, A, n, c, hb, q2, q3, q4, q5, q6⟩ := h
  have hsz : (w.setCell ⟨gm, i, none⟩ v).heap.size = w.heap.size := by simp [World.setCell]
  have hk : ∀ b, b ≠ gm → (w.setCell ⟨gm, i, none⟩ v).heap[b]? = w.heap[b]? := fun b hb => Below.heap_setCell w ⟨gm, i, none⟩ v b hb
  refine ⟨F, h0, hs, ?_, A, n, c, (hk g (Bk.ne_ hb hm (Ne.symm h1))).trans hb, q2, q3, q4, ?_, q6⟩
  · rcases hF with hF | ⟨e, r1, r2, r3, r4⟩
    · exact .inl hF
    · exact .inr ⟨e, r1, r2, r3, (hk e (Bk.ne_ r4 hm (Ne.symm h2))).trans r4⟩
  · rw [hsz]
    exact q5.store hm hu i v
theorem Rd.ne {w : World} {base g : Nat} {l : List Int} {er : Int} {gm : Nat} {T : TypeId} {cs : Array Value} (h : Rd w base g l er) (hm : Bk w gm T cs) (h1 : T ≠ 91) : g ≠ gm := by
  obtain ⟨F, _, _, _, A, n, c, hb, _⟩ := h
  exact Bk.ne_ hb hm (Ne.symm h1)
end Go.Proofs.Ytlnodkfngomlmaa
