/- Proved: how many numbers a segment takes, and whether it has a flag. Conditions: its data is not longer than any slice can be. -/
import Derived.Test.YtifeomdmbjinoaaSegF
set_option linter.unusedVariables false
set_option linter.unusedSimpArgs false
namespace Go.Proofs.Ytifeomdmbjinoaa
open Go.RowKit

theorem bel_undr {B : Nat} {w w' : World} (h : Below B w.drew w') : Below B w w' := ⟨h.os, h.tape, h.output, h.size, h.block⟩
theorem cell_far {w : World} {b g o i : Nat} {v u : Value} (hc : w.cell? ⟨b, o, none⟩ = some u) (h : b ≠ g) : (w.setCell ⟨g, i, none⟩ v).cell? ⟨b, o, none⟩ = some u :=
  (World.cell?_setCell_other w ⟨g, i, none⟩ ⟨b, o, none⟩ v (by intro q; injection q with q; exact h (by first | exact q | exact q.symm))).trans hc
theorem has_any (s : Sg) (A : Option Addr) (n c : Nat) (k : Int) (w : World) :
    Calls Try.prog 39 #[.agg #[.int .u32 s.fr, .int .i64 s.fp, .int .u32 s.to, .int .i64 s.tp, .int .u32 s.seq, .int .u32 s.ack, .int .i64 s.fl, .int .i64 s.win, .int .i64 s.mss, .int .i64 s.sc, .slice A n c], .int .i64 k] w fun e w' => e = .returned (.bool (bits .and .i64 s.fl k != 0)) ∧ Below w.heap.size w w' := by
  go_enter Try.func39, Try.ntmps39
  go_wp2
  go_ret
  exact ⟨rfl, (Below.refl _ _).alloc (Nat.le_refl _) _⟩
def bitV (fl k : Int) : Int := if (bits .and .i64 fl k != 0) = true then 1 else 0
def lenV (fl : Int) (n : Nat) : Int := n + bitV fl 2 + bitV fl 1
theorem bitV_bd (fl k : Int) : 0 ≤ bitV fl k ∧ bitV fl k ≤ 1 := by unfold bitV; split <;> omega
theorem bitV_yes {fl k : Int} (h : (bits .and .i64 fl k != 0) = true) : bitV fl k = 1 := if_pos h
theorem bitV_no {fl k : Int} (h : (bits .and .i64 fl k != 0) = false) : bitV fl k = 0 := if_neg (by rw [h]; simp)
theorem lenV_bd (fl : Int) (n : Nat) : 0 ≤ lenV fl n ∧ lenV fl n ≤ n + 2 := by have := bitV_bd fl 2; have := bitV_bd fl 1; unfold lenV; omega

theorem rlength_any (s : Sg) (A : Option Addr) (n c : Nat) (hn : n ≤ 140737488351232) (w : World) :
    Calls Try.prog 22 #[.agg #[.int .u32 s.fr, .int .i64 s.fp, .int .u32 s.to, .int .i64 s.tp, .int .u32 s.seq, .int .u32 s.ack, .int .i64 s.fl, .int .i64 s.win, .int .i64 s.mss, .int .i64 s.sc, .slice A n c]] w fun e w' => e = .returned (.int .i64 (lenV s.fl n)) ∧ Below w.heap.size w w' := by
  obtain ⟨W, hW⟩ : ∃ W, w.alloc (.cells #[.int .u32 s.fr, .int .i64 s.fp, .int .u32 s.to, .int .i64 s.tp, .int .u32 s.seq, .int .u32 s.ack, .int .i64 s.fl, .int .i64 s.win, .int .i64 s.mss, .int .i64 s.sc, .slice A n c] 26) = W := ⟨_, rfl⟩
  have hm : Bk W w.heap.size 26 #[.int .u32 s.fr, .int .i64 s.fp, .int .u32 s.to, .int .i64 s.tp, .int .u32 s.seq, .int .u32 s.ack, .int .i64 s.fl, .int .i64 s.win, .int .i64 s.mss, .int .i64 s.sc, .slice A n c] := by rw [← hW]; exact Bk.new w _ _
  have hB : Below w.heap.size w W := by rw [← hW]; exact (Below.refl _ _).alloc (Nat.le_refl _) _
  have z0 := hm.lt
  have HW := Lib.hid hW
  have HM := Lib.hid hm
  have HB := Lib.hid hB
  clear hW hm hB
  have key : Hid (∀ w', Below W.heap.size W w' → (w'.cell? ⟨w.heap.size, 0, none⟩ = some (.int .u32 s.fr) ∧ w'.cell? ⟨w.heap.size, 1, none⟩ = some (.int .i64 s.fp) ∧ w'.cell? ⟨w.heap.size, 2, none⟩ = some (.int .u32 s.to) ∧ w'.cell? ⟨w.heap.size, 3, none⟩ = some (.int .i64 s.tp) ∧ w'.cell? ⟨w.heap.size, 4, none⟩ = some (.int .u32 s.seq) ∧ w'.cell? ⟨w.heap.size, 5, none⟩ = some (.int .u32 s.ack) ∧ w'.cell? ⟨w.heap.size, 6, none⟩ = some (.int .i64 s.fl) ∧ w'.cell? ⟨w.heap.size, 7, none⟩ = some (.int .i64 s.win) ∧ w'.cell? ⟨w.heap.size, 8, none⟩ = some (.int .i64 s.mss) ∧ w'.cell? ⟨w.heap.size, 9, none⟩ = some (.int .i64 s.sc) ∧ w'.cell? ⟨w.heap.size, 10, none⟩ = some (.slice A n c))) := Lib.hid fun w' h => by
    have q := HM.out.below h z0
    exact ⟨q.cell 0, q.cell 1, q.cell 2, q.cell 3, q.cell 4, q.cell 5, q.cell 6, q.cell 7, q.cell 8, q.cell 9, q.cell 10⟩
  obtain ⟨k0, k1, k2, k3, k4, k5, k6, k7, k8, k9, k10⟩ := key.out W (Below.refl _ _)
  cases h2 : (bits .and .i64 s.fl 2 != 0) <;> cases h1 : (bits .and .i64 s.fl 1 != 0)
  all_goals
    (first | have HV2 := Lib.hid (bitV_yes h2) | have HV2 := Lib.hid (bitV_no h2))
    (first | have HV1 := Lib.hid (bitV_yes h1) | have HV1 := Lib.hid (bitV_no h1))
    go_enter Try.func22, Try.ntmps22
    go_wp2_with fail
    rw [HW.out]
    refine (has_any s A n c 2 W).mono ?_
    rintro e w1 ⟨rfl, hB1⟩
    clear k0 k1 k2 k3 k4 k5 k6 k7 k8 k9 k10
    obtain ⟨k0, k1, k2, k3, k4, k5, k6, k7, k8, k9, k10⟩ := key.out w1 hB1
    go_wp2_with fail
    refine (has_any s A n c 1 w1).mono ?_
    rintro e w2 ⟨rfl, hB2⟩
    have hB3 := HB.out.trans ((hB1.trans (hB2.mono hB1.size)).mono HB.out.size)
    go_wp2
    go_ret
    refine ⟨ret_i64 ?_, hB3⟩
    unfold lenV
    rw [HV2.out, HV1.out]
    try simp
set_option maxHeartbeats 1000000 in
theorem length_any (s : Sg) (A : Option Addr) (n c : Nat) (hn : n ≤ 140737488351232) (w : World) :
    Calls Try.prog 21 #[.agg #[.int .u32 s.fr, .int .i64 s.fp, .int .u32 s.to, .int .i64 s.tp, .int .u32 s.seq, .int .u32 s.ack, .int .i64 s.fl, .int .i64 s.win, .int .i64 s.mss, .int .i64 s.sc, .slice A n c]] w fun e w' => e = .returned (.int .i64 (lenV s.fl n)) ∧ Below w.heap.size w w' := by
  obtain ⟨W, hW⟩ : ∃ W, w.alloc (.cells #[.int .u32 s.fr, .int .i64 s.fp, .int .u32 s.to, .int .i64 s.tp, .int .u32 s.seq, .int .u32 s.ack, .int .i64 s.fl, .int .i64 s.win, .int .i64 s.mss, .int .i64 s.sc, .slice A n c] 26) = W := ⟨_, rfl⟩
  have hm : Bk W w.heap.size 26 #[.int .u32 s.fr, .int .i64 s.fp, .int .u32 s.to, .int .i64 s.tp, .int .u32 s.seq, .int .u32 s.ack, .int .i64 s.fl, .int .i64 s.win, .int .i64 s.mss, .int .i64 s.sc, .slice A n c] := by rw [← hW]; exact Bk.new w _ _
  have hB : Below w.heap.size w W := by rw [← hW]; exact (Below.refl _ _).alloc (Nat.le_refl _) _
  have k6 : W.cell? ⟨w.heap.size, 6, none⟩ = some (.int .i64 s.fl) := hm.cell 6
  have k10 : W.cell? ⟨w.heap.size, 10, none⟩ = some (.slice A n c) := hm.cell 10
  have HW := Lib.hid hW
  have HB := Lib.hid hB
  clear hW hm hB
  have i0 : ∀ w, (Instr.index 65 (.agg #[.int .i64 2, .int .i64 1]) (.int .i64 0)).run Try.prog w = .ok (.int .i64 2) w := fun _ => by kernel_rfl
  have i1 : ∀ w, (Instr.index 65 (.agg #[.int .i64 2, .int .i64 1]) (.int .i64 1)).run Try.prog w = .ok (.int .i64 1) w := fun _ => by kernel_rfl
  have b2 := bitV_bd s.fl 2
  have b1 := bitV_bd s.fl 1
  have HL : Hid (lenV s.fl n = n + bitV s.fl 2 + bitV s.fl 1) := Lib.hid rfl
  go_enter Try.func21, Try.ntmps21
  go_wp2
  rw [HW.out]
  go_loop [3, 10] (fun v i => (i = .int .i64 0 ∧ v = .int .i64 n) ∨ (i = .int .i64 1 ∧ v = .int .i64 (n + bitV s.fl 2)) ∨ (i = .int .i64 2 ∧ v = .int .i64 (n + bitV s.fl 2 + bitV s.fl 1))) (fun _ i => 2 - (intOf i).toNat)
  case atStart => exact .inl ⟨rfl, rfl⟩
  case round =>
    rcases hrel with ⟨rfl, rfl⟩ | ⟨rfl, rfl⟩ | ⟨rfl, rfl⟩
    · cases h2 : (bits .and .i64 s.fl 2 != 0)
      · have HV := Lib.hid (bitV_no h2)
        go_wp2
        go_round
        case rel => exact .inr (.inl ⟨rfl, by rw [HV.out]; simp⟩)
        case measure => simp [intOf]
      · have HV := Lib.hid (bitV_yes h2)
        go_wp2
        go_round
        case rel => exact .inr (.inl ⟨rfl, by rw [HV.out]⟩)
        case measure => simp [intOf]
    · cases h2 : (bits .and .i64 s.fl 1 != 0)
      · have HV := Lib.hid (bitV_no h2)
        go_wp2
        go_round
        case rel => exact .inr (.inr ⟨rfl, by rw [HV.out]; simp⟩)
        case measure => simp [intOf]
      · have HV := Lib.hid (bitV_yes h2)
        go_wp2
        go_round
        case rel => exact .inr (.inr ⟨rfl, by rw [HV.out]⟩)
        case measure => simp [intOf]
    · go_wp2
      go_ret
      exact ⟨ret_i64 HL.out.symm, HB.out⟩
end Go.Proofs.Ytifeomdmbjinoaa
