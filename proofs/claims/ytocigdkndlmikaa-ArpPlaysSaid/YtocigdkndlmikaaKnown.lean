/- Proved: what a law shows of a cache beside what it says: a packet that asks. Conditions: none. -/
import Derived.Test.YtocigdkndlmikaaLearn
import Derived.Test.YtocigdkndlmikaaSum
set_option linter.unusedVariables false
set_option linter.unusedSimpArgs false
namespace Go.Proofs.Ytocigdkndlmikaa
open Go.RowKit

theorem absT_one {S : List En} {a : Int} {n : Nb} (h : absT S = [(a, n)]) : ∃ e, S = [e] ∧ e.a = a ∧ e.n = n := by
  match S, h with
  | [e], h =>
    simp [absT] at h
    exact ⟨e, rfl, h.1, h.2⟩
  | [], h => simp [absT] at h
  | _ :: _ :: _, h => simp [absT] at h
theorem RowsAt.one_ {w : World} {F : Nat → Prop} {vs : List Value} {l : List Int} (h : RowsAt w F vs [l]) : ∃ v, vs = [v] ∧ RowAt w F v l := by
  match vs, h with
  | [v], h => exact ⟨v, rfl, h.1⟩
  | [], h => exact h.elim
  | _ :: _ :: _, h => exact h.2.elim

set_option maxHeartbeats 4000000 in
set_option maxRecDepth 100000 in
theorem known_any (w : World) : Calls Try.prog 12 #[] w fun e w' => e = .returned (.bool true) ∧ Below w.heap.size w w' := by
  obtain ⟨g, hg⟩ : ∃ g, w.heap.size = g := ⟨_, rfl⟩
  obtain ⟨W0, hW0⟩ : ∃ W0, w.alloc (.cells #[.map none] 32) = W0 := ⟨_, rfl⟩
  obtain ⟨W1, hW1⟩ : ∃ W1, W0.alloc (.cells #[.int .u8 1] 5) = W1 := ⟨_, rfl⟩
  have hk0 : Bk W0 g 32 #[.map none] := by rw [← hW0, ← hg]; exact Bk.new w _ _
  have hz0 : W0.heap.size = g + 1 := by rw [← hW0, ← hg]; simp
  have hz1 : W1.heap.size = g + 1 + 1 := by rw [← hW1, World.size_alloc, hz0]
  have hB0 : Below g w W0 := by rw [← hW0, ← hg]; exact (Below.refl _ _).alloc (Nat.le_refl _) _
  have hB1 : Below W0.heap.size W0 W1 := by rw [← hW1]; exact (Below.refl _ _).alloc (Nat.le_refl _) _
  have hc1 : CacheAt W1 (fun b => g ≤ b) g [] := CacheAt.below (CacheAt.new hk0 (Nat.le_refl _)) hB1
  have hr1 : RB W1 (g + 1 + 1) (some ⟨g + 1, 0, none⟩) [1] := by
    have := rw_lit W0 5 (by8 [1])
    rw [hz0] at this
    rw [← hW1]; exact this
  have HW1 : Hid ((w.alloc (.cells #[.map none] 32)).alloc (.cells #[.int .u8 1] 5) = W1) := Lib.hid (by rw [hW0]; exact hW1)
  have HB1 : Hid (Below g w W1) := Lib.hid (hB0.trans (hB1.mono (by omega)))
  have HG := Lib.hid hg
  have HZ := Lib.hid hz1
  clear hW0 hW1 hk0 hz0 hB0 hB1 hg hz1
  go_enter Try.func12, Try.ntmps12
  go_wp2_with fail
  rw [HW1.out, HG.out]
  refine (send_new 5 (by unfold okA; omega) (some ⟨g + 1, 0, none⟩) 1 1 (g + 1 + 1) [1] rfl (by omega) (by intro x hx; simp at hx; omega) 0 (by omega) _ hr1 (by rw [HZ.out]; exact Nat.le_refl _) _ g [] hc1 (fun _ h => by cases h) (by simp)).mono ?_
  rintro e w2 ⟨rfl, S1, hc2, hS1, hC2⟩
  obtain ⟨e1, rfl, he1a, he1n⟩ := absT_one (S := S1) (by rw [hS1]; rfl)
  have hB2 : Below g w w2 := HB1.out.trans (hC2.below (fun _ h => h) (by rw [HZ.out]; omega))
  have hz2 : W1.heap.size ≤ w2.heap.size := hC2.size
  have hcc : CacheAt w2 (fun b => g ≤ b ∧ b < w2.heap.size) g [e1] := (hc2.cap).mono fun b hb => ⟨by rcases hb.1 with h | h; exact h; have := HZ.out; omega, hb.2⟩
  obtain ⟨w3, hw3⟩ : ∃ w3, w2.alloc (.cells (toldC false noMac true false) 34) = w3 := ⟨_, rfl⟩
  have ht3 : Bk w3 w2.heap.size 34 (toldC false noMac true false) := by rw [← hw3]; exact Bk.new w2 _ _
  have hB3 : Below w2.heap.size w2 w3 := by rw [← hw3]; exact (Below.refl _ _).alloc (Nat.le_refl _) _
  have hc3 := hcc.below hB3
  have HW3 : Hid (w2.alloc (.cells #[.bool false, .int .u8 0, .int .u8 0, .int .u8 0, .int .u8 0, .int .u8 0, .int .u8 0, .bool true, .bool false] 34) = w3) := Lib.hid (by rw [← hw3]; rfl)
  have HC3 := Lib.hid hc3
  have HT3 := Lib.hid ht3
  have HB3 : Hid (Below g w w3) := Lib.hid (hB2.trans (hB3.mono hB2.size |> fun h => by have := HZ.out; have := HG.out; exact h.mono (by omega)))
  have HC2 := Lib.hid hS1
  have hz3 : w2.heap.size < w3.heap.size := ht3.lt
  have HE1 := Lib.hid he1a
  have HN1 := Lib.hid he1n
  clear hw3 hB2 hc2 hS1 hC2 hcc hB3 hc3 ht3 he1a he1n hc1 hr1
  unfold toldC noMac
  go_wp2_with fail
  rw [HW3.out]
  refine (learn_found 5 (by unfold okA; omega) 2 0 0 0 0 0 1 (by omega) false _ _ g _ HC3.out e1 (by simp) HE1.out).mono ?_
  rintro e w4 ⟨A4, k4, c4, rfl, ⟨vs, hv1, hv2⟩, S2, hc4, hS2, hC4⟩
  rw [HN1.out] at hv2
  change RowsAt w4 _ vs [[1]] at hv2
  obtain ⟨v, rfl, hv⟩ := hv2.one_
  obtain ⟨Ar, nr, cr, rfl, hOr, _, _, hnr⟩ := hv
  have hnr1 : nr = 1 := by have := Ow.length hOr; simpa [by8] using this.symm
  subst hnr1
  have hk4 : k4 = 1 := by have := hv1.length; simpa using this.symm
  subst hk4
  obtain ⟨gv, ov, rfl, _, cv⟩ := hv1.rw.at_ (k := 0) rfl
  rw [Nat.add_zero] at cv
  obtain ⟨e2, rfl, he2a, he2n⟩ := absT_one (S := S2) (a := 5) (n := learnt 2 0 0 0 0 0 1) (by rw [hS2]; simp [absT, updT, HE1.out])
  have ht4 := HT3.out.chg hC4 (fun h => by omega)
  have t0 := ht4.cell 0
  have t7 := ht4.cell 7
  simp only [toldC, noMac, List.getElem?_toArray, List.getElem?_cons_zero, List.getElem?_cons_succ] at t0 t7
  have hB4 : Below g w w4 := HB3.out.trans (hC4.below (fun b h => h.1) (by have := HB3.out.size; have := HG.out; omega))
  have HB4 := Lib.hid hB4
  have HC4 := Lib.hid hc4
  have HE2 := Lib.hid he2a
  have HN2 := Lib.hid he2n
  have hOB : RB w4 w4.heap.size Ar [1] := Ow.rw hOr
  obtain ⟨w5, hw5⟩ : ∃ w5, w4.alloc (.cells #[.int .u8 1] 5) = w5 := ⟨_, rfl⟩
  have hr5 : RB w5 w4.heap.size Ar [1] := by rw [← hw5]; exact Rw.alloc hOB (Nat.le_refl _) _
  have hr5b : RB w5 (w4.heap.size + 1) (some ⟨w4.heap.size, 0, none⟩) [1] := by rw [← hw5]; exact rw_lit w4 5 (by8 [1])
  have hB5 : Below w4.heap.size w4 w5 := by rw [← hw5]; exact (Below.refl _ _).alloc (Nat.le_refl _) _
  have HW5 := Lib.hid hw5
  have HB5 := Lib.hid hB5
  clear hw5 hB5 hB4 hc4 he2a he2n hv1 hv2 hS2 hC4 ht4 hOr hOB
  go_wp2_with fail
  rw [HW5.out]
  refine (same_any Ar (some ⟨w4.heap.size, 0, none⟩) 1 cr 1 1 _ _ [1] [1] rfl rfl (by omega) (by omega) (by intro x hx; simp at hx; omega) (by intro x hx; simp at hx; omega) _ hr5 hr5b).mono ?_
  rintro e w6 ⟨rfl, k6, rfl⟩
  have hc6 : CacheAt (w5.drewN k6) (fun b => (g ≤ b ∧ b < w2.heap.size) ∨ w3.heap.size ≤ b) g [e2] := CacheAt.below (HC4.out.below HB5.out) (bel_drewN (Below.refl _ _) k6)
  have HC6 := Lib.hid hc6
  clear hc6
  go_wp2_with fail
  refine (send_known 5 (by unfold okA; omega) none 0 0 0 [] rfl (by omega) Bs.nil 2 (by omega) _ (Rw.nil _ _ _) (Nat.zero_le _) _ g [e2] HC6.out e2 (by simp) HE2.out (by rw [HN2.out]; rfl) (by rw [HN2.out]; show (2 : Int) < laterP 1 600; decide)).mono ?_
  rintro e w7 ⟨rfl, S7, hc7, hS7, hC7⟩
  rw [HN2.out]
  unfold toldC macOf learnt
  have hf : ∀ w, (Instr.field 34 (.agg #[.bool true, .int .u8 2, .int .u8 0, .int .u8 0, .int .u8 0, .int .u8 0, .int .u8 0, .bool false, .bool false]) 1).run Try.prog w = .ok (.agg #[.int .u8 2, .int .u8 0, .int .u8 0, .int .u8 0, .int .u8 0, .int .u8 0]) w := fun w => by kernel_rfl
  have hq : ∀ w, (binOp .eql 26 (.agg #[.int .u8 2, .int .u8 0, .int .u8 0, .int .u8 0, .int .u8 0, .int .u8 0]) (.agg #[.int .u8 2, .int .u8 0, .int .u8 0, .int .u8 0, .int .u8 0, .int .u8 0])).run Try.prog w = .ok (.bool true) w := fun w => by kernel_rfl
  have hz5 := HB5.out.size
  have hb7 : Below g w w7 := (HB4.out.trans (HB5.out.mono (by have := HB4.out.size; have := HG.out; omega))).trans ((hC7.below (B := g) (fun b h => by rcases h with h | h; exact h.1; have := HB3.out.size; have := HG.out; omega) (by show g ≤ w5.heap.size; have := HB4.out.size; have := HG.out; omega) |> fun h => h) |> fun h => ⟨h.os, h.tape, h.output, h.size, h.block⟩)
  have HB7 := Lib.hid hb7
  clear hc7 hS7 hC7 hb7
  go_wp2
  go_ret
  exact ⟨rfl, by rw [HG.out]; exact HB7.out⟩
end Go.Proofs.Ytocigdkndlmikaa
