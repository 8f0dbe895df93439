/- Proved: one piece told to a new Store (plain). Conditions: as the law says. -/
import Derived.Test.YtcjkhonapafndaaPlf
set_option linter.unusedVariables false
set_option linter.unusedSimpArgs false
namespace Go.Proofs.Ytcjkhonapafndaa
open Go.RowKit
/-- One piece put into a new Store. -/
theorem one_law {p : PkV} {ol dl : List Int} {now er : Int} {L' : List Rec} {out : Pk3} {is : Bool} (hp : p.Ok) (ho : ol.length ≤ 1000000) (hg : Good p dl.length) (hm : p.more = true) (h : GoodR [] p ol dl now L' out is er) :
    is = false ∧ er = 0 ∧ ∃ r, L' = [r] ∧ r.bg = now ∧ RecOk r ∧ r.first = (if p.off = 0 then some (p, ol, dl) else none) := by
  obtain ⟨K1, r, K2, hO, hcase⟩ := h
  have hr : K1 = [] ∧ K2 = [] ∧ r = newRec (pkK p) now := by
    rcases hO with ⟨e, _⟩ | ⟨_, e1, e2, e3⟩
    · simp at e
    · rcases e3 with ⟨_, e3⟩ | ⟨e3, _⟩
      · exact ⟨e3, e1, e2⟩
      · simp at e3
  obtain ⟨rfl, rfl, rfl⟩ := hr
  have hA := RecOk.new (pkK p) now
  have hoff := hg.off
  rcases hcase with ⟨hf, _⟩ | ⟨hf, rfl, S1, hl1, hcase⟩
  · have : fitsW (newRec (pkK p) now).fin (newRec (pkK p) now).S p.more (p.off + ↑dl.length) = true := (fits_cov hA.sps _ _ (by omega)).2 (by rw [hm]; simp [newRec])
    rw [this] at hf; cases hf
  obtain ⟨f1, k1, b1, s1⟩ := layRec_f (newRec (pkK p) now) p ol dl S1
  have hR1 := hA.lay hg hp ho rfl hl1
  generalize layRec (setR (newRec (pkK p) now) p ol dl) p.off.toNat dl S1 = r' at *
  rw [hm, if_pos rfl] at f1
  have f1' : r'.fin = -1 := f1
  rcases hcase with ⟨hd, _⟩ | ⟨_, rfl, _, rfl⟩
  · have := hd.1; omega
  · refine ⟨rfl, rfl, r', rfl, b1, hR1, ?_⟩
    rw [s1]
    by_cases c : p.off = 0
    · rw [if_pos ⟨c, rfl⟩, if_pos c]
    · rw [if_neg (fun e => c e.1), if_neg c]; rfl
end Go.Proofs.Ytcjkhonapafndaa
