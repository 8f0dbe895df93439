/- Proved: comparing two addresses; insertion sort of a part of a row of addresses, by its walk. Conditions: the part lies in the row. -/
import Derived.Test.YtocigdkndlmikaaTickP
import Derived.Test.YtocigdkndlmikaaSx
import Derived.LoopTactic
import Derived.BigRegion
import Derived.BigQuiet
import Derived.Deep.QuietTactic
set_option linter.unusedVariables false
set_option linter.unusedSimpArgs false
namespace Go.Proofs.Ytocigdkndlmikaa
open Go.RowKit

/-- A row of addresses at a block's beginning. -/
def SR (w : World) (base g n c : Nat) (D : List Int) : Prop := OA w base (some ⟨g, 0, none⟩) n c D
section
variable {w w' : World} {base g n c : Nat} {D : List Int}
theorem SR.len (h : SR w base g n c D) : D.length = n := OA.len h
theorem SR.cell (h : SR w base g n c D) {k : Nat} (hk : k < n) : w.cell? ⟨g, k, none⟩ = some (.int .u32 (gt D k)) := by
  have hl := h.len
  have hr : Rw w w.heap.size (some ⟨g, 0, none⟩) (by32 D) := Ow.rw h
  obtain ⟨b, off, e, _, hc⟩ := hr (by rw [by32_length]; omega)
  injection e with e
  injection e with e1 e2
  subst e1; subst e2
  have := hc k (.int .u32 (gt D k)) (by unfold by32; rw [List.getElem?_map, gt_some (by omega)]; rfl)
  rwa [Nat.zero_add] at this
theorem SR.frozen (h : SR w base g n c D) (k : Nat) : w.frozen? ⟨g, k, none⟩ = false := Ow.frozen h rfl k
theorem SR.lt (h : SR w base g n c D) : base ≤ g ∧ g < w.heap.size := Ow.lt h g rfl
theorem by32_set (D : List Int) (k : Nat) (x : Int) : (by32 D).set k (.int .u32 x) = by32 (D.set k x) := by unfold by32; rw [List.map_set]
theorem SR.set (h : SR w base g n c D) {k : Nat} (hk : k < n) (x : Int) : SR (w.setCell ⟨g, k, none⟩ (.int .u32 x)) base g n c (D.set k x) := by
  obtain ⟨g', e, h2⟩ := Ow.store h hk (.int .u32 x)
  injection e with e
  injection e with e1
  subst e1
  unfold SR OA
  rw [← by32_set]
  exact h2
/-- Two places exchanged. -/
theorem SR.swap (h : SR w base g n c D) {i j : Nat} (hi : i < n) (hj : j < n) {x y : Int} (hx : gt D j = x) (hy : gt D i = y) : SR ((w.setCell ⟨g, i, none⟩ (.int .u32 x)).setCell ⟨g, j, none⟩ (.int .u32 y)) base g n c (swp D i j) := by
  subst hx; subst hy
  exact (h.set hi _).set hj _
theorem SR.drewN (h : SR w base g n c D) (k : Nat) : SR (w.drewN k) base g n c D := Ow.drewN h k
end
/-- The row of another world that holds the like. -/
def SRC (w : World) (base g n c : Nat) (D : List Int) (w' : World) (D' : List Int) : Prop := SR w' base g n c D' ∧ w.grownBy w' (some g)
theorem SRC.refl {w : World} {base g n c : Nat} {D : List Int} (h : SR w base g n c D) : SRC w base g n c D w D := ⟨h, World.grownBy.refl _ _⟩
theorem SRC.swap {w w' : World} {base g n c : Nat} {D E : List Int} (h : SRC w base g n c D w' E) {i j : Nat} (hi : i < n) (hj : j < n) {x y : Int} (hx : gt E j = x) (hy : gt E i = y) :
    SRC w base g n c D ((w'.setCell ⟨g, i, none⟩ (.int .u32 x)).setCell ⟨g, j, none⟩ (.int .u32 y)) (swp E i j) :=
  ⟨h.1.swap hi hj hx hy, grownBy_setCell (grownBy_setCell h.2 (.inl rfl) _) (.inl rfl) _⟩
theorem SRC.drewN {w w' : World} {base g n c : Nat} {D E : List Int} (h : SRC w base g n c D w' E) (k : Nat) : SRC w base g n c D (w'.drewN k) E :=
  ⟨h.1.drewN k, ⟨h.2.os, h.2.tape, h.2.output, h.2.size, h.2.block⟩⟩
theorem SRC.trans {w w' w2 : World} {base g n c : Nat} {D E F : List Int} (h : SRC w base g n c D w' E) (k : SRC w' base g n c E w2 F) : SRC w base g n c D w2 F := ⟨k.1, h.2.trans k.2⟩
theorem isnan_any (x : Int) (w : World) : Calls Try.prog 76 #[.int .u32 x] w fun e w' => e = .returned (.bool false) ∧ w = w' := by
  go_enter Try.func76, Try.ntmps76
  go_wp2
  go_ret
  exact ⟨rfl, rfl⟩
theorem less_any (x y : Int) (w : World) : Calls Try.prog 66 #[.int .u32 x, .int .u32 y] w fun e w' => e = .returned (.bool (decide (x < y))) ∧ w = w' := by
  have hn := fun z w => isnan_any z w
  go_enter Try.func66, Try.ntmps66
  go_wp2_with ((refine (hn _ _).mono ?_; rintro e w' ⟨rfl, rfl⟩))
  go_ret
  exact ⟨rfl, rfl⟩
theorem less_q (x y : Int) {v : Bool} (h : decide (x < y) = v) (w : World) : Calls Try.prog 66 #[.int .u32 x, .int .u32 y] w fun e w' => e = .returned (.bool v) ∧ w' = w :=
  (less_any x y w).mono fun e w' k => by rw [← h]; exact ⟨k.1, k.2.symm⟩

def InsPost (w : World) (base g n c a b : Nat) (D : List Int) (e : Ending) (w' : World) : Prop :=
  e = .returned (.tuple #[]) ∧ ∃ D', SRC w base g n c D w' D' ∧ Loc a b D D' ∧ Srt D' a b
/-- The outer loop's state. -/
def InsA (w : World) (base g n c a b : Nat) (D : List Int) (v6 : Value) (wr : World) : Prop :=
  ∃ (i : Nat) (E : List Int), a + 1 ≤ i ∧ (i ≤ b ∨ i = a + 1) ∧ v6 = .int .i64 i ∧ SRC w base g n c D wr E ∧ Loc a b D E ∧ Srt E a i
/-- The inner loop's. -/
def InsB (w : World) (base g n c a b i : Nat) (D : List Int) (v7 : Value) (wr : World) : Prop :=
  ∃ (j : Nat) (E : List Int), a ≤ j ∧ j ≤ i ∧ v7 = .int .i64 j ∧ SRC w base g n c D wr E ∧ Loc a b D E ∧ Ins E a i j
set_option maxHeartbeats 4000000 in
set_option maxRecDepth 1000000 in
theorem ins_any (base g n c a b : Nat) (D : List Int) (w : World) (h : SR w base g n c D) (hn : n ≤ 1000) (hab : a ≤ b) (hb : b ≤ n) :
    Calls Try.prog 60 #[.slice (some ⟨g, 0, none⟩) n c, .int .i64 a, .int .i64 b] w (InsPost w base g n c a b D) := by
  have HH := Lib.hid h
  clear h
  have hw1 : IntKind.i64.wrap ((a : Int) + 1) = (a : Int) + 1 := IntWalk.i64_in _ (by omega)
  go_enter Try.func60, Try.ntmps60
  go_wp2
  clear hw1
  go_loopw [6, 7] (fun v6 v7 wr => InsA w base g n c a b D v6 wr) (fun v6 _ _ => b - (intOf v6).toNat)
  case atStart => exact ⟨a + 1, D, Nat.le_refl _, .inr rfl, by go_num, SRC.refl HH.out, Loc.refl _ _ _, Srt.nil _ (Nat.le_refl _)⟩
  case round =>
    obtain ⟨i, E, h1, h2, rfl, hR⟩ := hrel
    have HR := Lib.hid hR
    clear hR
    rcases Nat.lt_or_ge i b with r | r
    · have r' : (i : Int) < (b : Int) := by omega
      clear r
      go_wp2_with fail
      go_loopw [7] (fun v7 wr => InsB w base g n c a b i D v7 wr) (fun v7 _ => (intOf v7).toNat)
      case atStart => exact ⟨i, E, by omega, Nat.le_refl _, rfl, HR.out.1, HR.out.2.1, Ins.start HR.out.2.2⟩
      case round =>
        obtain ⟨j, F, g1, g2, rfl, hQ⟩ := hrel
        have HQ := Lib.hid hQ
        clear hQ
        rcases Nat.lt_or_ge a j with q | q
        · have t1 : decide ((j : Int) > (a : Int)) = true := decide_eq_true (by omega)
          have t2 : (j : Int) > (a : Int) := by omega
          have hwj : IntKind.i64.wrap ((j : Int) - 1) = ((j - 1 : Nat) : Int) := by rw [IntWalk.i64_in _ (by omega)]; omega
          obtain ⟨x, hx⟩ : ∃ x, gt F j = x := ⟨_, rfl⟩
          obtain ⟨y, hy⟩ : ∃ y, gt F (j - 1) = y := ⟨_, rfl⟩
          have cj : wr.cell? ⟨g, j, none⟩ = some (.int .u32 x) := by rw [← hx]; exact HQ.out.1.1.cell (by omega)
          have ck : wr.cell? ⟨g, j - 1, none⟩ = some (.int .u32 y) := by rw [← hy]; exact HQ.out.1.1.cell (by omega)
          have fj := HQ.out.1.1.frozen j
          have fk := HQ.out.1.1.frozen (j - 1)
          have b1 : (j : Int) < (n : Int) := by omega
          have b2 : ((j - 1 : Nat) : Int) < (n : Int) := by omega
          have HX := Lib.hid hx
          have HY := Lib.hid hy
          clear hx hy
          by_cases l : x < y
          · have hl : decide (x < y) = true := decide_eq_true l
            have HLT := Lib.hid l
            clear l
            go_wp2_with fail
            go_quiet ((go_at_call 66; exact Calls.quiet_of_same (less_q x y hl _)))
            go_wp2_with fail
            generalize hWq : wr.drewN nq = wq
            have HSW : Hid (SRC w base g n c D wq F) := Lib.hid (by rw [← hWq]; exact HQ.out.1.drewN nq)
            have dj : wq.cell? ⟨g, j, none⟩ = some (.int .u32 x) := by rw [← hWq]; exact cj
            have dk : wq.cell? ⟨g, j - 1, none⟩ = some (.int .u32 y) := by rw [← hWq]; exact ck
            have ej : wq.frozen? ⟨g, j, none⟩ = false := by rw [← hWq]; exact fj
            have ek : wq.frozen? ⟨g, j - 1, none⟩ = false := by rw [← hWq]; exact fk
            clear cj ck fj fk hWq
            go_region
            go_wp2_with fail
            have hlF : F.length = n := HQ.out.1.1.len
            go_roundw
            case rel =>
              exact ⟨j - 1, swp F j (j - 1), by omega, by omega, rfl, (HSW.out.swap (by omega) (by omega) HY.out HX.out).drewN 1, HQ.out.2.1.trans (Loc.ex (by omega) (by omega) (by omega) (by omega) (by omega)), HQ.out.2.2.step q g2 (by omega) (by rw [HX.out, HY.out]; exact HLT.out)⟩
            case measure => simp only [intOf]; omega
          · have hl : decide (x < y) = false := decide_eq_false l
            have HLT := Lib.hid l
            clear l
            go_wp2_with fail
            go_quiet ((go_at_call 66; exact Calls.quiet_of_same (less_q x y hl _)))
            go_wp2_with fail
            refine ⟨⟨i + 1, F, by omega, .inl (by omega), by rw [Int.natCast_succ], HQ.out.1.drewN _, HQ.out.2.1, HQ.out.2.2.stop (.inr ⟨q, by rw [HX.out, HY.out]; exact HLT.out⟩)⟩, by simp only [intOf]; omega⟩
        · obtain rfl : j = a := by omega
          have t1 : decide ((j : Int) > (j : Int)) = false := decide_eq_false (by omega)
          have t2 : ¬ (j : Int) > (j : Int) := by omega
          go_wp2_with fail
          go_quiet (fail)
          go_wp2_with fail
          refine ⟨⟨i + 1, F, by omega, .inl (by omega), by rw [Int.natCast_succ], HQ.out.1.drewN _, HQ.out.2.1, HQ.out.2.2.stop (.inl rfl)⟩, by simp only [intOf]; omega⟩
    · have r' : ¬ (i : Int) < (b : Int) := by omega
      go_wp2_with fail
      go_end0
      refine ⟨rfl, E, HR.out.1, HR.out.2.1, ?_⟩
      rcases h2 with q | q
      · obtain rfl : i = b := by omega
        exact HR.out.2.2
      · exact Srt.nil _ (by omega)
end Go.Proofs.Ytocigdkndlmikaa
