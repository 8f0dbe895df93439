/- Proved: parts of a row of bytes, and their comparison in any world that drew. Conditions: none. -/
import Derived.Test.YtcjkhonapafndaaSto
import Derived.Test.YtcjkhonapafndaaKnw
set_option linter.unusedVariables false
set_option linter.unusedSimpArgs false
namespace Go.Proofs.Ytcjkhonapafndaa
open Go.RowKit
theorem Sto.drewN {w : World} {ps : Nat} {F : Nat → Prop} {L : List Rec} (h : Sto w ps F L) (k : Nat) : Sto (w.drewN k) ps F L := h.chg ((Chg.refl (fun _ => False) w).drewN k) (fun _ _ e => e)
theorem rb_part {w : World} {B b o : Nat} {x y z : List Int} (h : RB w B (some ⟨b, o, none⟩) (x ++ (y ++ z))) : RB w B (some ⟨b, o + x.length, none⟩) y := fun hn => by
  rw [by8_length] at hn
  obtain ⟨b', o', e, hb, hc⟩ := h (by rw [by8_length, List.length_append, List.length_append]; omega)
  injection e with e
  injection e with e1 e2
  subst e1; subst e2
  refine ⟨b, o + x.length, rfl, hb, fun j u hu => ?_⟩
  have hj : j < y.length := by have := (List.getElem?_eq_some_iff.1 hu).1; rwa [by8_length] at this
  have := hc (x.length + j) u (by rw [by8_append, by8_append, List.getElem?_append_right (by rw [by8_length]; omega), by8_length, Nat.add_sub_cancel_left, List.getElem?_append_left (by rw [by8_length]; exact hj)]; exact hu)
  rwa [← Nat.add_assoc] at this
theorem rb_drop {w : World} {B b o : Nat} {l : List Int} (h : RB w B (some ⟨b, o, none⟩) l) (k : Nat) (hk : k ≤ l.length) : RB w B (some ⟨b, o + k, none⟩) (l.drop k) := by
  have e : l = l.take k ++ (l.drop k ++ []) := by rw [List.append_nil, List.take_append_drop]
  rw [e] at h
  have := rb_part h
  rwa [List.length_take, Nat.min_eq_left hk] at this
theorem same_at (W : World) (A A2 : Option Addr) (n c c2 B B2 : Nat) (l : List Int) (hn : l.length = n) (hm : n ≤ 100000) (hb : Bs l) (h1 : RB W B A l) (h2 : RB W B2 A2 l) : ∀ Y, (∃ k, Y = W.drewN k) →
    Calls Try.prog 20 #[.slice A n c, .slice A2 n c2] Y fun e w' => e = .returned (.bool true) ∧ ∃ k, w' = W.drewN k := by
  rintro Y ⟨k, rfl⟩
  refine (same_any A A2 n c n c2 B B2 l l hn hn (by omega) (by omega) hb hb (W.drewN k) h1 h2).mono ?_
  rintro e w' ⟨rfl, j, rfl⟩
  exact ⟨by simp, k + j, World.drewN_drewN _ _ _⟩
end Go.Proofs.Ytcjkhonapafndaa
