/- Proved: what the reference's Encode hands out: the same bytes as segment.Encode. Conditions: the segment is one that came in. -/
import Derived.Test.YtifeomdmbjinoaaSegF
import Derived.Deep.DeepCutAuto
set_option linter.unusedVariables false
set_option linter.unusedSimpArgs false
namespace Go.Proofs.Ytifeomdmbjinoaa
open Go.RowKit

theorem rfour_own (v : Int) (h0 : 0 ≤ v) (h1 : v ≤ 4294967295) (w : World) :
    Calls Try.prog 37 #[.int .u32 v] w fun e w' => e = .returned (.slice (some ⟨w.heap.size, 0, none⟩) 4 4) ∧ OB 5 w' w.heap.size (some ⟨w.heap.size, 0, none⟩) 4 4 (be 4 v) ∧ Below w.heap.size w w' :=
  (rfour_any v h0 h1 w).mono fun e w' ⟨he, hw⟩ => by
    subst hw
    have := ob_lit w w.heap.size (be 4 v) (Nat.le_refl _) (by simp [be_length])
    rw [be_length] at this
    exact ⟨he, this, (Below.refl _ _).alloc (Nat.le_refl _) _⟩
theorem rtwo_own (v : Int) (w : World) :
    Calls Try.prog 36 #[.int .i64 v] w fun e w' => e = .returned (.slice (some ⟨w.heap.size, 0, none⟩) 2 2) ∧ OB 5 w' w.heap.size (some ⟨w.heap.size, 0, none⟩) 2 2 (be 2 v) ∧ Below w.heap.size w w' :=
  (rtwo_any v w).mono fun e w' ⟨he, hw⟩ => by
    subst hw
    have := ob_lit w w.heap.size (be 2 v) (Nat.le_refl _) (by simp [be_length])
    rw [be_length] at this
    exact ⟨he, this, (Below.refl _ _).alloc (Nat.le_refl _) _⟩
theorem be_six : be 2 6 = [0, 6] := by simp [be]

theorem pseudo_any (a b : Int) (ha : U32 a) (hb : U32 b) (n : Nat) (hn : n ≤ 100000) (w : World) :
    Calls Try.prog 55 #[.int .u32 a, .int .u32 b, .int .i64 6, .int .i64 n] w fun e w' => ∃ A c, e = .returned (.slice A 12 c) ∧ OB 5 w' w.heap.size A 12 c (pseu a b n) ∧ Below w.heap.size w w' := by
  obtain ⟨a0, a1⟩ := ha
  obtain ⟨b0, b1⟩ := hb
  go_enter Try.func55, Try.ntmps55
  go_wp2_with fail
  refine (rfour_own a a0 a1 _).mono ?_
  rintro e w1 ⟨rfl, hO1, hB1⟩
  have z1 := hB1.size
  go_wp2_with fail
  refine (rfour_own b b0 b1 _).mono ?_
  rintro e w2 ⟨rfl, hO2, hB2⟩
  have z2 := hB2.size
  have hO1' : OB _ _ _ _ _ _ _ := Ow.stays hO1 hB2
  go_wp2_with (first
    | (at_builtin; refine ap8 rfl (.tmp 11) (.tmp 13) rfl w.heap.size rfl hO1' rfl hO2.rb (by simp [be_length]) (by omega) (by omega) ?_; intro A3 c3 w3 hO3 hB3 hg3 hA3 hz3 hc3)
    | (at_builtin; refine ap8_lit rfl (.tmp 15) (.tmp 18) rfl w.heap.size rfl hO3 [0, 6] rfl rfl rfl (by omega) (by omega) ?_; intro A4 c4 w4 hO4 hB4 hg4 hA4 hz4 hc4))
  refine (rtwo_own n _).mono ?_
  rintro e w5 ⟨rfl, hO5, hB5⟩
  have z5 := hB5.size
  have hO4' : OB _ _ _ _ _ _ _ := Ow.stays hO4 hB5
  have hB05 : Below w.heap.size w w5 := (((hB1.trans (hB2.mono z1)).trans hB3).trans hB4).trans (hB5.mono (by omega))
  go_wp2_with (first
    | (at_builtin; refine ap8 rfl (.tmp 19) (.tmp 21) rfl w.heap.size rfl hO4' rfl hO5.rb (by simp [be_length]) (by omega) (by omega) ?_; intro A6 c6 w6 hO6 hB6 hg6 hA6 hz6 hc6))
  go_ret
  refine ⟨A6, c6, rfl, ?_, hB05.trans hB6⟩
  unfold pseu
  rw [be_six]
  exact hO6

theorem summed_any (a b : Int) (ha : U32 a) (hb : U32 b) (A : Option Addr) (n c B : Nat) (l : List Int) (hn : l.length = n) (hmax : n ≤ 100000) (hl : Bs l) (w : World) (hr : RB w B A l) (hB : B ≤ w.heap.size) :
    Calls Try.prog 38 #[.int .u32 a, .int .u32 b, .int .i64 6, .slice A n c] w fun e w' => e = .returned (.int .i64 (segSum a b l)) ∧ Below w.heap.size w w' := by
  have H := Lib.hid hn
  have hs : segSum a b l = 65535 - foldC (partC (pseu a b n) % 65536 + partC l % 65536) := by
    unfold segSum
    rw [partC_join _ _ (pseu_bs _ _ _) hl (by rw [pseu_len]), hn]
  have hp := partC_bd (pseu a b n) (pseu_bs _ _ _)
  have hq := partC_bd l hl
  have hfb : 0 ≤ foldC (partC (pseu a b n) % 65536 + partC l % 65536) ∧ foldC (partC (pseu a b n) % 65536 + partC l % 65536) ≤ 65535 := foldC_bd (by omega)
  rw [hs]
  clear hn hs
  go_enter Try.func38, Try.ntmps38
  go_wp2_with fail
  refine (pseudo_any a b ha hb n hmax _).mono ?_
  rintro e w1 ⟨A1, c1, rfl, hO1, hB1⟩
  have z1 := hB1.size
  go_wp2_with fail
  refine (rpart_any A1 12 c1 _ _ (by rw [pseu_len]) (by omega) (pseu_bs _ _ _) _ hO1.rb).mono ?_
  rintro e w2 ⟨rfl, rfl⟩
  go_wp2_with fail
  refine (rpart_any A n c _ l H.out (by omega) hl _ (Rw.below hr (hB1.mono hB))).mono ?_
  rintro e w2 ⟨rfl, rfl⟩
  go_wp2_with fail
  refine (rjoin_any _ _ _).mono ?_
  rintro e w2 ⟨rfl, rfl⟩
  go_wp2
  go_ret
  exact ⟨rfl, hB1⟩
end Go.Proofs.Ytifeomdmbjinoaa
