/- Proved: where two pieces have bytes of one place, those that came first stay. Conditions: none, for every input. -/
import Derived.Test.YtcjkhonapafndaaRows
import Derived.WalkKit
import Derived.ProofKit
import Derived.OpenShut
import Derived.ShutString
import Derived.ChangeOld
import Derived.Below
import Derived.SizedLaws
import Derived.Test.YtcjkhonapafndaaFst
import Derived.Test.YtcjkhonapafndaaPlf
import Derived.Test.YtcjkhonapafndaaKnw
import Derived.Test.YtcjkhonapafndaaIn
namespace Go.Proofs.Ytcjkhonapafndaa.fragFirst
open Go.ChangeShapes Go.WideShapes Go.ChangeAt Go.RowKit
open Go.ChangeMaps (open_string shut_string)
set_option linter.unusedVariables false

theorem own : ownKnob Try.prog.godebug = none := by kernel_rfl
theorem laidOut : laidOutB Try.prog = true := by kernel_rfl

/-! ### the walk -/
set_option maxRecDepth 100000 in
set_option maxHeartbeats 8000000 in
theorem walk (a0 : Option Addr) (len0 cap0 : Nat) (z0 : List Int) (a1 : Option Addr) (len1 cap1 : Nat) (z1 : List Int) (a2 : Option Addr) (len2 cap2 : Nat) (z2 : List Int) (w : World) (w0 : IsRow .u8 w a0 len0 cap0 z0 ∧ cap0 ≤ 140737488351232) (w1 : IsRow .u8 w a1 len1 cap1 z1 ∧ cap1 ≤ 140737488351232) (w2 : IsRow .u8 w a2 len2 cap2 z2 ∧ cap2 ≤ 140737488351232) :
    Calls Try.prog 5 #[.slice a0 len0 cap0, .slice a1 len1 cap1, .slice a2 len2 cap2] w fun e w' => e = .returned (.bool true) ∧ Below w.heap.size w w' := by
  obtain ⟨al, ra, ba, la, ca⟩ := w0.1.rb
  obtain ⟨bl, rb, bb, lb, cb⟩ := w1.1.rb
  obtain ⟨tl, rt, bt, lt, ct⟩ := w2.1.rb
  have HA := Lib.hid ra
  have HB := Lib.hid rb
  have HT := Lib.hid rt
  have HLA := Lib.hid la
  have HLB := Lib.hid lb
  have HLT := Lib.hid lt
  have HCA := Lib.hid ca
  have HCB := Lib.hid cb
  have HCT := Lib.hid ct
  clear ra rb rt la lb lt w0 w1 w2 ca cb ct
  go_enter Try.func5, Try.ntmps5
  go_upto_region 1 with (fail)
  go_cut [57] (fun s57 wx => ∃ q : Bool, s57 = .bool q ∧ wx = w ∧ Hid (q = false → len0 ≤ 2000 ∧ len1 ≤ 2000 ∧ len2 ≤ 2000 ∧ len0 % 8 = 0 ∧ len1 % 8 = 0 ∧ 0 < len0 ∧ 0 < len1 ∧ 0 < len2))
  case first =>
    have W1 : (2000 < len0) ∨ (¬ 2000 < len0 ∧ 2000 < len1) ∨ (¬ 2000 < len0 ∧ ¬ 2000 < len1 ∧ 2000 < len2) ∨ (¬ 2000 < len0 ∧ ¬ 2000 < len1 ∧ ¬ 2000 < len2 ∧ len0 % 8 ≠ 0) ∨ (¬ 2000 < len0 ∧ ¬ 2000 < len1 ∧ ¬ 2000 < len2 ∧ len0 % 8 = 0 ∧ len1 % 8 ≠ 0) ∨ (¬ 2000 < len0 ∧ ¬ 2000 < len1 ∧ ¬ 2000 < len2 ∧ len0 % 8 = 0 ∧ len1 % 8 = 0 ∧ len0 = 0) ∨ (¬ 2000 < len0 ∧ ¬ 2000 < len1 ∧ ¬ 2000 < len2 ∧ len0 % 8 = 0 ∧ len1 % 8 = 0 ∧ ¬ len0 = 0 ∧ len1 = 0) ∨ (¬ 2000 < len0 ∧ ¬ 2000 < len1 ∧ ¬ 2000 < len2 ∧ len0 % 8 = 0 ∧ len1 % 8 = 0 ∧ ¬ len0 = 0 ∧ ¬ len1 = 0 ∧ len2 = 0) ∨ (¬ 2000 < len0 ∧ ¬ 2000 < len1 ∧ ¬ 2000 < len2 ∧ len0 % 8 = 0 ∧ len1 % 8 = 0 ∧ ¬ len0 = 0 ∧ ¬ len1 = 0 ∧ ¬ len2 = 0) := by omega
    rcases W1 with hw | hw | hw | hw | hw | hw | hw | hw | hw
    · have t0 : decide ((2000 : Int) < (len0 : Int)) = true := decide_eq_true (by omega)
      have s0 : decide (2000 < len0) = true := decide_eq_true (by omega)
      have HW := Lib.hid hw
      clear hw
      go_wp2_with fail
      go_meet
      exact ⟨true, rfl, rfl, Lib.hid (fun e => by cases e)⟩
    · have t0 : decide ((2000 : Int) < (len0 : Int)) = false := decide_eq_false (by omega)
      have s0 : decide (2000 < len0) = false := decide_eq_false (by omega)
      have t1 : decide ((2000 : Int) < (len1 : Int)) = true := decide_eq_true (by omega)
      have s1 : decide (2000 < len1) = true := decide_eq_true (by omega)
      have HW := Lib.hid hw
      clear hw
      go_wp2_with fail
      go_meet
      exact ⟨true, rfl, rfl, Lib.hid (fun e => by cases e)⟩
    · have t0 : decide ((2000 : Int) < (len0 : Int)) = false := decide_eq_false (by omega)
      have s0 : decide (2000 < len0) = false := decide_eq_false (by omega)
      have t1 : decide ((2000 : Int) < (len1 : Int)) = false := decide_eq_false (by omega)
      have s1 : decide (2000 < len1) = false := decide_eq_false (by omega)
      have t2 : decide ((2000 : Int) < (len2 : Int)) = true := decide_eq_true (by omega)
      have s2 : decide (2000 < len2) = true := decide_eq_true (by omega)
      have HW := Lib.hid hw
      clear hw
      go_wp2_with fail
      go_meet
      exact ⟨true, rfl, rfl, Lib.hid (fun e => by cases e)⟩
    · have t0 : decide ((2000 : Int) < (len0 : Int)) = false := decide_eq_false (by omega)
      have s0 : decide (2000 < len0) = false := decide_eq_false (by omega)
      have t1 : decide ((2000 : Int) < (len1 : Int)) = false := decide_eq_false (by omega)
      have s1 : decide (2000 < len1) = false := decide_eq_false (by omega)
      have t2 : decide ((2000 : Int) < (len2 : Int)) = false := decide_eq_false (by omega)
      have s2 : decide (2000 < len2) = false := decide_eq_false (by omega)
      have m3 : (len0 : Int).tmod 8 = ((len0 % 8 : Nat) : Int) := by rw [Int.tmod_eq_emod_of_nonneg (by omega)]; omega
      have t3 : ((len0 : Int).tmod 8 != 0) = true := by rw [m3]; simp; omega
      have u3 : ¬ ((len0 : Int).tmod 8 = 0) := by rw [m3]; omega
      have v3 : (len0 % 8 == 0) = false := beq_eq_false_iff_ne.2 (by omega)
      have x3 : (((len0 : Int) % 8) == 0) = false := beq_eq_false_iff_ne.2 (by omega)
      have y3 : ¬ (len0 % 8 = 0) := by omega
      have z3 : ¬ ((len0 : Int) % 8 = 0) := by omega
      clear m3
      have HW := Lib.hid hw
      clear hw
      go_wp2_with fail
      go_meet
      exact ⟨true, rfl, rfl, Lib.hid (fun e => by cases e)⟩
    · have t0 : decide ((2000 : Int) < (len0 : Int)) = false := decide_eq_false (by omega)
      have s0 : decide (2000 < len0) = false := decide_eq_false (by omega)
      have t1 : decide ((2000 : Int) < (len1 : Int)) = false := decide_eq_false (by omega)
      have s1 : decide (2000 < len1) = false := decide_eq_false (by omega)
      have t2 : decide ((2000 : Int) < (len2 : Int)) = false := decide_eq_false (by omega)
      have s2 : decide (2000 < len2) = false := decide_eq_false (by omega)
      have t3 : (len0 : Int).tmod 8 = 0 := by rw [Int.tmod_eq_emod_of_nonneg (by omega)]; omega
      have m4 : (len1 : Int).tmod 8 = ((len1 % 8 : Nat) : Int) := by rw [Int.tmod_eq_emod_of_nonneg (by omega)]; omega
      have t4 : ((len1 : Int).tmod 8 != 0) = true := by rw [m4]; simp; omega
      have u4 : ¬ ((len1 : Int).tmod 8 = 0) := by rw [m4]; omega
      have v4 : (len1 % 8 == 0) = false := beq_eq_false_iff_ne.2 (by omega)
      have x4 : (((len1 : Int) % 8) == 0) = false := beq_eq_false_iff_ne.2 (by omega)
      have y4 : ¬ (len1 % 8 = 0) := by omega
      have z4 : ¬ ((len1 : Int) % 8 = 0) := by omega
      clear m4
      have HW := Lib.hid hw
      clear hw
      go_wp2_with fail
      go_meet
      exact ⟨true, rfl, rfl, Lib.hid (fun e => by cases e)⟩
    · have t0 : decide ((2000 : Int) < (len0 : Int)) = false := decide_eq_false (by omega)
      have s0 : decide (2000 < len0) = false := decide_eq_false (by omega)
      have t1 : decide ((2000 : Int) < (len1 : Int)) = false := decide_eq_false (by omega)
      have s1 : decide (2000 < len1) = false := decide_eq_false (by omega)
      have t2 : decide ((2000 : Int) < (len2 : Int)) = false := decide_eq_false (by omega)
      have s2 : decide (2000 < len2) = false := decide_eq_false (by omega)
      have t3 : (len0 : Int).tmod 8 = 0 := by rw [Int.tmod_eq_emod_of_nonneg (by omega)]; omega
      have t4 : (len1 : Int).tmod 8 = 0 := by rw [Int.tmod_eq_emod_of_nonneg (by omega)]; omega
      have t5 : ((len0 : Int) == 0) = true := beq_iff_eq.2 (by omega)
      have s5 : (len0 == 0) = true := beq_iff_eq.2 (by omega)
      have HW := Lib.hid hw
      clear hw
      go_wp2_with fail
      go_meet
      exact ⟨true, rfl, rfl, Lib.hid (fun e => by cases e)⟩
    · have t0 : decide ((2000 : Int) < (len0 : Int)) = false := decide_eq_false (by omega)
      have s0 : decide (2000 < len0) = false := decide_eq_false (by omega)
      have t1 : decide ((2000 : Int) < (len1 : Int)) = false := decide_eq_false (by omega)
      have s1 : decide (2000 < len1) = false := decide_eq_false (by omega)
      have t2 : decide ((2000 : Int) < (len2 : Int)) = false := decide_eq_false (by omega)
      have s2 : decide (2000 < len2) = false := decide_eq_false (by omega)
      have t3 : (len0 : Int).tmod 8 = 0 := by rw [Int.tmod_eq_emod_of_nonneg (by omega)]; omega
      have t4 : (len1 : Int).tmod 8 = 0 := by rw [Int.tmod_eq_emod_of_nonneg (by omega)]; omega
      have t5 : ((len0 : Int) == 0) = false := beq_eq_false_iff_ne.2 (by omega)
      have s5 : (len0 == 0) = false := beq_eq_false_iff_ne.2 (by omega)
      have t6 : ((len1 : Int) == 0) = true := beq_iff_eq.2 (by omega)
      have s6 : (len1 == 0) = true := beq_iff_eq.2 (by omega)
      have HW := Lib.hid hw
      clear hw
      go_wp2_with fail
      go_meet
      exact ⟨true, rfl, rfl, Lib.hid (fun e => by cases e)⟩
    · have t0 : decide ((2000 : Int) < (len0 : Int)) = false := decide_eq_false (by omega)
      have s0 : decide (2000 < len0) = false := decide_eq_false (by omega)
      have t1 : decide ((2000 : Int) < (len1 : Int)) = false := decide_eq_false (by omega)
      have s1 : decide (2000 < len1) = false := decide_eq_false (by omega)
      have t2 : decide ((2000 : Int) < (len2 : Int)) = false := decide_eq_false (by omega)
      have s2 : decide (2000 < len2) = false := decide_eq_false (by omega)
      have t3 : (len0 : Int).tmod 8 = 0 := by rw [Int.tmod_eq_emod_of_nonneg (by omega)]; omega
      have t4 : (len1 : Int).tmod 8 = 0 := by rw [Int.tmod_eq_emod_of_nonneg (by omega)]; omega
      have t5 : ((len0 : Int) == 0) = false := beq_eq_false_iff_ne.2 (by omega)
      have s5 : (len0 == 0) = false := beq_eq_false_iff_ne.2 (by omega)
      have t6 : ((len1 : Int) == 0) = false := beq_eq_false_iff_ne.2 (by omega)
      have s6 : (len1 == 0) = false := beq_eq_false_iff_ne.2 (by omega)
      have t7 : ((len2 : Int) == 0) = true := beq_iff_eq.2 (by omega)
      have s7 : (len2 == 0) = true := beq_iff_eq.2 (by omega)
      have HW := Lib.hid hw
      clear hw
      go_wp2_with fail
      go_meet
      exact ⟨true, rfl, rfl, Lib.hid (fun e => by cases e)⟩
    · have t0 : decide ((2000 : Int) < (len0 : Int)) = false := decide_eq_false (by omega)
      have s0 : decide (2000 < len0) = false := decide_eq_false (by omega)
      have t1 : decide ((2000 : Int) < (len1 : Int)) = false := decide_eq_false (by omega)
      have s1 : decide (2000 < len1) = false := decide_eq_false (by omega)
      have t2 : decide ((2000 : Int) < (len2 : Int)) = false := decide_eq_false (by omega)
      have s2 : decide (2000 < len2) = false := decide_eq_false (by omega)
      have t3 : (len0 : Int).tmod 8 = 0 := by rw [Int.tmod_eq_emod_of_nonneg (by omega)]; omega
      have t4 : (len1 : Int).tmod 8 = 0 := by rw [Int.tmod_eq_emod_of_nonneg (by omega)]; omega
      have t5 : ((len0 : Int) == 0) = false := beq_eq_false_iff_ne.2 (by omega)
      have s5 : (len0 == 0) = false := beq_eq_false_iff_ne.2 (by omega)
      have t6 : ((len1 : Int) == 0) = false := beq_eq_false_iff_ne.2 (by omega)
      have s6 : (len1 == 0) = false := beq_eq_false_iff_ne.2 (by omega)
      have t7 : ((len2 : Int) == 0) = false := beq_eq_false_iff_ne.2 (by omega)
      have s7 : (len2 == 0) = false := beq_eq_false_iff_ne.2 (by omega)
      have HW := Lib.hid hw
      clear hw
      go_wp2_with fail
      go_meet
      exact ⟨false, rfl, rfl, Lib.hid (fun e => by have := HW.out; omega)⟩
  case rest =>
    obtain ⟨q, rfl, rfl, HQ⟩ := hcut
    rcases (Bool.eq_false_or_eq_true q) with rfl | rfl
    · go_wp2_with fail
      refine (known_any _).mono ?_
      rintro e1 W1 ⟨rfl, hB1⟩
      go_wp2
      go_ret
      exact ⟨rfl, hB1⟩
    · obtain ⟨h1, h2, h3, h4, h5, h6, h7, h8⟩ := HQ.out rfl
      obtain ⟨ps, hps⟩ : ∃ ps, wc.heap.size = ps := ⟨_, rfl⟩
      obtain ⟨W0, hW0⟩ : ∃ W0, wc.alloc (.cells #[.map none, .slice none 0 0] 46) = W0 := ⟨_, rfl⟩
      have hz0 : W0.heap.size = ps + 1 := by rw [← hW0, World.size_alloc, hps]
      have hB0 : Below ps wc W0 := by rw [← hW0]; exact (Below.refl _ _).alloc (by omega) _
      have hS0 : Sto W0 ps (fun b => b = ps) [] := sto_new W0 ps (by rw [← hW0, ← hps]; exact Bk.new wc _ _)
      have hra : RB W0 ps a0 al := Rw.below (by have := HA.out; rwa [hps] at this) hB0
      have hrb : RB W0 ps a1 bl := Rw.below (by have := HB.out; rwa [hps] at this) hB0
      have hrt : RB W0 ps a2 tl := Rw.below (by have := HT.out; rwa [hps] at this) hB0
      have hda : ∀ b, blk a0 = some b → b < ps := fun b hb => rb_lt hra (by rw [HLA.out]; exact h6) hb
      have hdb : ∀ b, blk a1 = some b → b < ps := fun b hb => rb_lt hrb (by rw [HLB.out]; exact h7) hb
      have hdt : ∀ b, blk a2 = some b → b < ps := fun b hb => rb_lt hrt (by rw [HLT.out]; exact h8) hb
      obtain ⟨mx, hmx⟩ : ∃ mx : Nat, max len0 len1 = mx := ⟨_, rfl⟩
      have hmi : max (len0 : Int) (len1 : Int) = (mx : Int) := by omega
      have hm8 : (mx : Int).tmod 8 = 0 := by rw [Int.tmod_eq_emod_of_nonneg (by omega)]; omega
      have hmb : 0 < mx ∧ mx ≤ 2000 ∧ len0 ≤ mx ∧ len1 ≤ mx := by omega
      have hg1 : Good ⟨0, 1, false, true, 0, 0, 0, 0, 0⟩ al.length := by rw [HLA.out]; exact ⟨h6, Int.le_refl 0, rfl, fun _ => h4, .inl rfl, by show (0 : Int) + len0 ≤ 65515; omega⟩
      have hg2 : Good ⟨0, 1, false, true, 0, 0, 0, 0, 0⟩ bl.length := by rw [HLB.out]; exact ⟨h7, Int.le_refl 0, rfl, fun _ => h5, .inl rfl, by show (0 : Int) + len1 ≤ 65515; omega⟩
      have hg3 : Good ⟨0, 1, false, false, mx, 0, 0, 0, 0⟩ tl.length := by rw [HLT.out]; exact ⟨h8, by show (0 : Int) ≤ mx; omega, hm8, fun h => (by cases h), .inr (by show (0 : Int) < mx; omega), by show (mx : Int) + len2 ≤ 65515; omega⟩
      have hp3 : PkV.Ok ⟨0, 1, false, false, mx, 0, 0, 0, 0⟩ := by constructor <;> (dsimp only; omega)
      have HM8 := Lib.hid hm8
      have HP3 := Lib.hid hp3
      have HG1 := Lib.hid hg1
      have HG2 := Lib.hid hg2
      have HG3 := Lib.hid hg3
      have HRA := Lib.hid hra
      have HRB := Lib.hid hrb
      have HRT := Lib.hid hrt
      have HDA := Lib.hid hda
      have HDB := Lib.hid hdb
      have HDT := Lib.hid hdt
      have HMX := Lib.hid hmx
      have HW0 := Lib.hid hW0
      have HPS := Lib.hid hps
      have HB0 := Lib.hid hB0
      have HZ0 := Lib.hid hz0
      have HS0 := Lib.hid hS0
      have HA1 := Lib.hid (sto_add ps (fun b => b = ps) [] ⟨0, 1, false, true, 0, 0, 0, 0, 0⟩ pok1 none a0 0 0 len0 cap0 ps [] al rfl (by omega) HLA.out HCA.out (by omega) 0 W0 (Rw.nil _ _ _) hra (by omega) hS0 (fun b hb => by
        rcases hb with hb | hb
        · cases hb.2
        · have := hda b hb
          exact ⟨by omega, fun hf => by omega⟩))
      unfold pkC at HA1
      simp only at HA1
      clear hW0 hps hB0 hz0 hS0 hra hrb hrt hda hdb hdt hmx hg1 hg2 hg3 hm8 hp3
      go_wp2_with fail
      rw [HW0.out, HPS.out]
      refine HA1.out.mono ?_
      rintro e w1 hp1
      obtain ⟨F1, L1, ⟨⟨p1a, p1b, p1c, p1d, p1e, p1f, p1g, p1h, p1i⟩, ol1, dl1⟩, i1, r1, A11, A12, n11, c11, n12, c12, rfl, hS1, _, _, hf1, hC1, hR1⟩ := hp1
      obtain ⟨W1, hW1⟩ : ∃ W1, w1.alloc (.cells #[.int .i64 p1a, .int .i64 p1b, .bool p1c, .bool p1d, .int .i64 p1e, .int .i64 p1f, .int .i64 p1g, .int .u32 p1h, .int .u32 p1i, .slice A11 n11 c11, .slice A12 n12 c12] 26) = W1 := ⟨_, rfl⟩
      have hfo1 : ∀ b, F1 b → ps ≤ b := fun b hb => by
        rcases hf1 b hb with h | h
        · omega
        · have := HZ0.out; omega
      have hBw1 : Below ps W0 w1 := hC1.below (fun b hb => by omega) (by have := HZ0.out; omega)
      have hSW1 : Sto W1 ps F1 L1 := by rw [← hW1]; exact hS1.alloc _
      have hB1 : Below ps W0 W1 := by rw [← hW1]; exact (hBw1.alloc (by have := HZ0.out; have := hBw1.size; omega) _)
      have hz1 : ps + 1 ≤ W1.heap.size := by have := HZ0.out; have := hB1.size; omega
      have HA2 := Lib.hid (sto_add ps F1 L1 ⟨0, 1, false, true, 0, 0, 0, 0, 0⟩ pok1 none a1 0 0 len1 cap1 ps [] bl rfl (by omega) HLB.out HCB.out (by omega) 0 W1 (Rw.nil _ _ _) (Rw.below HRB.out hB1) (by omega) hSW1 (fun b hb => by
        rcases hb with hb | hb
        · cases hb.2
        · have := HDB.out b hb
          exact ⟨by omega, fun hf => by have := hfo1 b hf; omega⟩))
      unfold pkC at HA2
      simp only at HA2
      have HW1 := Lib.hid hW1
      have HR1 := Lib.hid hR1
      have HF1 := Lib.hid hfo1
      have HB1 := Lib.hid hB1
      have HZ1 := Lib.hid hz1
      clear hW1 hR1 hfo1 hB1 hz1 hS1 hf1 hC1 hBw1 hSW1
      unfold pkC
      simp only
      go_wp2_with fail
      rw [HW1.out]
      refine HA2.out.mono ?_
      rintro e w2 hp2
      obtain ⟨F2, L2, ⟨⟨p2a, p2b, p2c, p2d, p2e, p2f, p2g, p2h, p2i⟩, ol2, dl2⟩, i2, r2, A21, A22, n21, c21, n22, c22, rfl, hS2, _, _, hf2, hC2, hR2⟩ := hp2
      obtain ⟨W2, hW2⟩ : ∃ W2, w2.alloc (.cells #[.int .i64 p2a, .int .i64 p2b, .bool p2c, .bool p2d, .int .i64 p2e, .int .i64 p2f, .int .i64 p2g, .int .u32 p2h, .int .u32 p2i, .slice A21 n21 c21, .slice A22 n22 c22] 26) = W2 := ⟨_, rfl⟩
      have hfo2 : ∀ b, F2 b → ps ≤ b := fun b hb => by
        rcases hf2 b hb with h | h
        · exact HF1.out b h
        · have := HZ1.out; omega
      have hBw2 : Below ps W1 w2 := hC2.below (fun b hb => HF1.out b hb) (by have := HZ1.out; omega)
      have hSW2 : Sto W2 ps F2 L2 := by rw [← hW2]; exact hS2.alloc _
      have hB2 : Below ps W0 W2 := by rw [← hW2]; exact HB1.out.trans ((hBw2.alloc (by have := HZ1.out; have := hBw2.size; omega) _))
      have hz2 : ps + 1 ≤ W2.heap.size := by have := HZ0.out; have := hB2.size; omega
      have HA3 := Lib.hid (sto_add ps F2 L2 ⟨0, 1, false, false, mx, 0, 0, 0, 0⟩ HP3.out none a2 0 0 len2 cap2 ps [] tl rfl (by omega) HLT.out HCT.out (by omega) 0 W2 (Rw.nil _ _ _) (Rw.below HRT.out hB2) (by omega) hSW2 (fun b hb => by
        rcases hb with hb | hb
        · cases hb.2
        · have := HDT.out b hb
          exact ⟨by omega, fun hf => by have := hfo2 b hf; omega⟩))
      unfold pkC at HA3
      simp only at HA3
      have HW2 := Lib.hid hW2
      have HR2 := Lib.hid hR2
      have HF2 := Lib.hid hfo2
      have HB2 := Lib.hid hB2
      have HZ2 := Lib.hid hz2
      clear hW2 hR2 hfo2 hB2 hz2 hS2 hf2 hC2 hBw2 hSW2
      unfold pkC
      simp only
      go_wp2_with fail
      rw [HW2.out]
      refine HA3.out.mono ?_
      rintro e w3 hp3
      obtain ⟨F3, L3, ⟨⟨p3a, p3b, p3c, p3d, p3e, p3f, p3g, p3h, p3i⟩, ol3, T⟩, i3, r3, A31, A32, n31, c31, n32, c32, rfl, hS3, hO3, _, hf3, hC3, hR3⟩ := hp3
      have hall := first_law ⟨0, 1, false, true, 0, 0, 0, 0, 0⟩ ⟨0, 1, false, true, 0, 0, 0, 0, 0⟩ ⟨0, 1, false, false, mx, 0, 0, 0, 0⟩ [] [] [] al bl tl rfl rfl pok1 pok1 HP3.out (by decide) (by decide) (by decide) ⟨rfl, rfl⟩ ⟨rfl, rfl⟩ ⟨rfl, by show (mx : Int) = _; rw [HLA.out, HLB.out, HMX.out]⟩ HG1.out HG2.out HG3.out L1 L2 L3 _ _ _ i1 i2 i3 r1 r2 r3 (addR_good HR1.out HG1.out) (addR_good HR2.out HG2.out) (addR_good hR3 HG3.out)
      obtain ⟨⟨rfl, rfl⟩, ⟨rfl, rfl⟩, rfl, rfl, hT⟩ := hall
      have hT' : T = al ++ bl.drop al.length ++ tl := hT
      obtain ⟨W3, hW3⟩ : ∃ W3, w3.alloc (.cells #[.int .i64 p3a, .int .i64 p3b, .bool p3c, .bool p3d, .int .i64 p3e, .int .i64 p3f, .int .i64 p3g, .int .u32 p3h, .int .u32 p3i, .slice A31 n31 c31, .slice A32 n32 c32] 26) = W3 := ⟨_, rfl⟩
      obtain ⟨g3, hg3⟩ : ∃ g3, w3.heap.size = g3 := ⟨_, rfl⟩
      have hB3 : Below ps W2 w3 := hC3.below (fun b hb => HF2.out b hb) (by have := HZ2.out; omega)
      have hlen : n32 = mx + len2 := by
        have := OB.length hO3.2.1
        rw [hT', List.length_append, List.length_append, List.length_drop, HLA.out, HLB.out, HLT.out] at this
        have := HMX.out
        omega
      have hbk : Bk W3 g3 26 #[.int .i64 p3a, .int .i64 p3b, .bool p3c, .bool p3d, .int .i64 p3e, .int .i64 p3f, .int .i64 p3g, .int .u32 p3h, .int .u32 p3i, .slice A31 n31 c31, .slice A32 n32 c32] := by rw [← hW3, ← hg3]; exact Bk.new w3 _ _
      have m10 : W3.cell? ⟨g3, 10, none⟩ = some (.slice A32 n32 c32) := hbk.cell 10
      have hrow : RB W3 g3 A32 T := by rw [← hW3, ← hg3]; exact Rw.alloc (OB.rb hO3.2.1) (Nat.le_refl _) _
      have hcap := Ow.cap hO3.2.1
      obtain ⟨b3, o3, rfl, hb3, _⟩ := hrow (by rw [by8_length, hT', List.length_append, List.length_append, HLA.out]; omega)
      obtain ⟨bk1, ob1, rfl, hbb, _⟩ := HRB.out (by rw [by8_length, HLB.out]; omega)
      have tn : ((n32 : Int) != (mx : Int) + (len2 : Int)) = false := by simp; omega
      have HBK := Lib.hid hbk
      have HROW := Lib.hid hrow
      have HB3 := Lib.hid hB3
      have HW3 := Lib.hid hW3
      have HG3' := Lib.hid hg3
      have HT' := Lib.hid hT'
      have HLEN := Lib.hid hlen
      clear hbk hrow hB3 hW3 hg3 hT hT' hlen hS3 hO3 hf3 hC3 hR3
      unfold pkC
      simp only
      go_wp2_with fail
      obtain ⟨mn, hmn⟩ : ∃ mn : Nat, min len0 len1 = mn := ⟨_, rfl⟩
      have hmn1 : min (len0 : Int) (len1 : Int) = (mn : Int) := by omega
      have hmn2 : min (len0 : Int) (mx : Int) = (len0 : Int) := by omega
      have hmn3 : mn ≤ len1 := by omega
      have hlb := HLB.out
      have hdr : bl.drop mn = bl.drop len0 := by
        rcases Nat.le_total len0 len1 with q | q
        · rw [show mn = len0 by omega]
        · rw [show mn = len1 by omega, List.drop_eq_nil_of_le (by omega), List.drop_eq_nil_of_le (by omega)]
      have hrw := HROW.out
      rw [HT'.out, List.append_assoc] at hrw
      have hcc := HCB.out
      have hla := HLA.out
      rw [hla] at hrw
      have hr1 : RB W3 g3 (some ⟨b3, o3, none⟩) al := rb_part (x := []) hrw
      have hr2 : RB W3 g3 (some ⟨b3, o3 + len0, none⟩) (bl.drop len0) := by have := rb_part hrw; rwa [hla] at this
      have hr3 : RB W3 g3 (some ⟨b3, o3 + mx, none⟩) tl := by
        have q : RB W3 g3 (some ⟨b3, o3, none⟩) ((al ++ bl.drop len0) ++ (tl ++ [])) := by rw [List.append_nil, List.append_assoc]; exact hrw
        have := rb_part q
        rwa [List.length_append, List.length_drop, hla, hlb, show len0 + (len1 - len0) = mx by have := HMX.out; omega] at this
      have hBB : Below ps W0 W3 := by rw [← HW3.out]; exact (HB2.out.trans HB3.out).alloc (by have := HB2.out.size; have := HB3.out.size; have := HZ0.out; omega) _
      have hq1 : RB W3 ps a0 al := Rw.below HRA.out hBB
      have hq2 : RB W3 ps (if cap1 = mn then some ⟨bk1, ob1, none⟩ else some ⟨bk1, ob1 + mn, none⟩) (bl.drop len0) := by
        split
        · rw [← hdr, List.drop_eq_nil_of_le (by omega)]; exact Rw.nil _ _ _
        · rw [← hdr]; exact rb_drop (Rw.below HRB.out hBB) mn (by omega)
      obtain ⟨A9, hA9⟩ : ∃ A9, (if cap1 = mn then some (⟨bk1, ob1, none⟩ : Addr) else some ⟨bk1, ob1 + mn, none⟩) = A9 := ⟨_, rfl⟩
      rw [hA9] at hq2
      have hq3 : RB W3 ps a2 tl := Rw.below HRT.out hBB
      have HS1 := Lib.hid (same_at W3 (some ⟨b3, o3, none⟩) a0 len0 c32 cap0 g3 ps al HLA.out (by omega) ba hr1 hq1)
      have HS2 := Lib.hid (same_at W3 (some ⟨b3, o3 + len0, none⟩) A9 (len1 - mn) (c32 - len0) (cap1 - mn) g3 ps (bl.drop len0) (by rw [← hdr, List.length_drop, hlb]) (by omega) (bb.drop len0) hr2 hq2)
      have HS3 := Lib.hid (same_at W3 (some ⟨b3, o3 + mx, none⟩) a2 len2 (c32 - mx) cap2 g3 ps tl HLT.out (by omega) bt hr3 hq3)
      have HBB := Lib.hid hBB
      have hle := HLEN.out
      have hk1 : ¬ c32 = len0 := by omega
      have hk2 : ¬ c32 = mx := by omega
      clear hle
      have hln : n32 - mx = len2 := by have := HLEN.out; omega
      have hlm : mx - len0 = len1 - mn := by have := HMX.out; omega
      have HDR : Hid (g3 < W3.heap.size ∧ mx + len2 = n32) := Lib.hid ⟨HBK.out.lt, HLEN.out.symm⟩
      clear hrw hr1 hr2 hr3 hq1 hq2 hq3 hBB hdr hla hlb hmn hcc
      have hi1 : (0 : Int) ≤ (len0 : Int) ∧ (len0 : Int) ≤ (n32 : Int) ∧ (n32 : Int) ≤ (c32 : Int) := by have := HLEN.out; omega
      have hi2 : (0 : Int) ≤ (mx : Int) ∧ (mx : Int) ≤ (n32 : Int) ∧ (len0 : Int) ≤ (mx : Int) ∧ (mx : Int) ≤ (c32 : Int) ∧ (len0 : Int) ≤ (c32 : Int) := by have := HLEN.out; omega
      have hi3 : (0 : Int) ≤ (mn : Int) ∧ (mn : Int) ≤ (len1 : Int) ∧ (mn : Int) ≤ (cap1 : Int) ∧ (len1 : Int) ≤ (cap1 : Int) := by have := HCB.out; omega
      rw [HW3.out, HG3'.out]
      go_region_held3 (fun w' => w'.cell? ⟨g3, 10, none⟩ = some (.slice (some ⟨b3, o3, none⟩) n32 c32))
        (first | with_reducible assumption | go_keep)
        (first
          | (go_at_call 20; (with_reducible refine (HS1.out W3.drew ⟨1, rfl⟩).mono ?_); rintro e wA ⟨rfl, hA⟩
             have xA : wA.cell? ⟨g3, 10, none⟩ = some (.slice (some ⟨b3, o3, none⟩) n32 c32) := by obtain ⟨kA, rfl⟩ := hA; exact m10
             have HA9 := Lib.hid hA; clear hA)
          | (go_at_call 20; (with_reducible refine (HS2.out wA HA9.out).mono ?_); rintro e wB ⟨rfl, hB⟩
             have xB : wB.cell? ⟨g3, 10, none⟩ = some (.slice (some ⟨b3, o3, none⟩) n32 c32) := by obtain ⟨kB, rfl⟩ := hB; exact m10
             have HB9 := Lib.hid hB; clear hB)
          | (go_at_call 20; (with_reducible refine (HS3.out wB HB9.out).mono ?_); rintro e wC ⟨rfl, hC⟩
             have xC : wC.cell? ⟨g3, 10, none⟩ = some (.slice (some ⟨b3, o3, none⟩) n32 c32) := by obtain ⟨kC, rfl⟩ := hC; exact m10
             have HC9 := Lib.hid hC; clear hC)
          | (go_at_call 18; refine (known_any _).mono ?_; rintro e wD ⟨rfl, hD⟩; have HD9 := Lib.hid hD; have xD := (hD.cell (p := ⟨g3, 10, none⟩) (by obtain ⟨kC, hk⟩ := HC9.out; rw [hk]; exact HDR.out.1)).trans xC; clear hD))
      all_goals
        go_wp2
        go_ret
        refine ⟨rfl, ?_⟩
        have hps := HPS.out
        rw [hps]
        have hz0 := HZ0.out
        have hzb := HBB.out.size
        obtain ⟨kC, hkC⟩ := HC9.out
        have hD := HD9.out
        rw [hkC] at hD
        exact HB0.out.trans ((bel_drewN HBB.out kC).trans (hD.mono (by show ps ≤ W3.heap.size; omega)))

/-! ### the row -/
set_option maxRecDepth 100000 in
theorem lifted (os : Os) (started : os.Started) (H : Type) (enc : TypeId × Value → H) :
    ReturnsInHanded {} Try.checked os 5 .any (Rows.fragFirstSpec.pre6 enc Try.prog Try.f5 Rows.fragFirstRow.domain false) (Rows.fragFirstSpec.post enc Try.prog Try.f5 false true false false) := by
  refine returnsInHanded_of_change_sized (C := Try.checked) own started (by kernel_rfl) Try.func5
    (ChangeSpec.witness6 (enc := enc) (C := Try.checked) false ⟨#[], #[.slice none 0 0, .slice none 0 0, .slice none 0 0], []⟩ 8 (by kernel_rfl) (by kernel_rfl) (by kernel_rfl) (by kernel_rfl)) ?_
  intro W base args ds gs before hval0 hW hcnd hsz0 _
  have hval : ∀ (j : Nat) t v, Try.f5.params[j]? = some t → args[j]? = some v → Value.okWide Try.prog W .any base t v := hval0
  have hsz : (DataW.weightsEach Try.prog (Try.f5.params.toList ++ Rows.fragFirstSpec.plain.varTypes Try.prog) (ds ++ gs)).all (· ≤ reachBytes) = true := hsz0
  clear hsz0
  have hW' := hW
  obtain ⟨p, q, hA0, hV, rfl, hfz, hnd⟩ := hW
  have hA : DataW.TrodAll enc Try.prog W 0 (fun _ => true) true Try.f5.params.toList args.toList ds p := hA0
  rw [Try.params5] at hA hval hsz
  obtain ⟨v0, vs0, d0, ds0, p0, q0, hargs, rfl, rfl, h0, r0⟩ := trodAll_cons hA
  obtain ⟨v1, vs1, d1, ds1, p1, q1, rfl, rfl, rfl, h1, r1⟩ := trodAll_cons r0
  obtain ⟨v2, vs2, d2, ds2, p2, q2, rfl, rfl, rfl, h2, r2⟩ := trodAll_cons r1
  obtain ⟨rfl, rfl, rfl⟩ := trodAll_nil r2
  obtain rfl : args = #[v0, v1, v2] := by cases args; simp_all
  obtain ⟨rfl, rfl⟩ := trodVars_none hV
  obtain ⟨a0, len0, cap0, rfl⟩ := okWide_slice Try.underlying24 (hval 0 24 v0 rfl rfl)
  have k0 := h0
  have lt0 : ∀ x ∈ p0, x.block < W.heap.size := by obtain ⟨m, hm⟩ := k0; exact DataW.trod_lt m _ _ _ hm
  obtain ⟨z0, w0⟩ : ∃ zs, IsRow .u8 W a0 len0 cap0 zs ∧ cap0 ≤ 140737488351232 := by
    obtain ⟨fuel, hf⟩ := h0
    rcases open_ints Try.underlying24 Try.underlying5 (by kernel_rfl) hf with ⟨hcs, _⟩ | ⟨x, l, c, zs, hcs, _, hl, hm, hz, hx, hcell, hwz⟩
    · simp [Value.cells] at hcs
      obtain ⟨rfl, rfl, rfl⟩ := hcs
      exact ⟨[], .inl ⟨rfl, rfl, rfl, rfl⟩, by omega⟩
    · simp [Value.cells] at hcs
      obtain ⟨rfl, rfl, rfl⟩ := hcs
      simp only [Prod.mk.injEq] at hx
      obtain ⟨rfl, rfl⟩ := hx
      simp only [if_true] at hz
      have hm2 := sized_slice hsz (j := 0) (t := 24) (e := 5) rfl rfl Try.underlying24
      rw [show Try.prog.bytesOf 5 = 1 from by kernel_rfl] at hm2
      simp only [lits, List.length_map, List.length_take, List.length_drop, reachBytes] at hm2
      exact ⟨zs, .inr ⟨_, rfl, hl, hm, hz, hcell, hwz⟩, by omega⟩
  obtain ⟨a1, len1, cap1, rfl⟩ := okWide_slice Try.underlying24 (hval 1 24 v1 rfl rfl)
  have k1 := h1
  have lt1 : ∀ x ∈ p1, x.block < W.heap.size := by obtain ⟨m, hm⟩ := k1; exact DataW.trod_lt m _ _ _ hm
  obtain ⟨z1, w1⟩ : ∃ zs, IsRow .u8 W a1 len1 cap1 zs ∧ cap1 ≤ 140737488351232 := by
    obtain ⟨fuel, hf⟩ := h1
    rcases open_ints Try.underlying24 Try.underlying5 (by kernel_rfl) hf with ⟨hcs, _⟩ | ⟨x, l, c, zs, hcs, _, hl, hm, hz, hx, hcell, hwz⟩
    · simp [Value.cells] at hcs
      obtain ⟨rfl, rfl, rfl⟩ := hcs
      exact ⟨[], .inl ⟨rfl, rfl, rfl, rfl⟩, by omega⟩
    · simp [Value.cells] at hcs
      obtain ⟨rfl, rfl, rfl⟩ := hcs
      simp only [Prod.mk.injEq] at hx
      obtain ⟨rfl, rfl⟩ := hx
      simp only [if_true] at hz
      have hm2 := sized_slice hsz (j := 1) (t := 24) (e := 5) rfl rfl Try.underlying24
      rw [show Try.prog.bytesOf 5 = 1 from by kernel_rfl] at hm2
      simp only [lits, List.length_map, List.length_take, List.length_drop, reachBytes] at hm2
      exact ⟨zs, .inr ⟨_, rfl, hl, hm, hz, hcell, hwz⟩, by omega⟩
  obtain ⟨a2, len2, cap2, rfl⟩ := okWide_slice Try.underlying24 (hval 2 24 v2 rfl rfl)
  have k2 := h2
  have lt2 : ∀ x ∈ p2, x.block < W.heap.size := by obtain ⟨m, hm⟩ := k2; exact DataW.trod_lt m _ _ _ hm
  obtain ⟨z2, w2⟩ : ∃ zs, IsRow .u8 W a2 len2 cap2 zs ∧ cap2 ≤ 140737488351232 := by
    obtain ⟨fuel, hf⟩ := h2
    rcases open_ints Try.underlying24 Try.underlying5 (by kernel_rfl) hf with ⟨hcs, _⟩ | ⟨x, l, c, zs, hcs, _, hl, hm, hz, hx, hcell, hwz⟩
    · simp [Value.cells] at hcs
      obtain ⟨rfl, rfl, rfl⟩ := hcs
      exact ⟨[], .inl ⟨rfl, rfl, rfl, rfl⟩, by omega⟩
    · simp [Value.cells] at hcs
      obtain ⟨rfl, rfl, rfl⟩ := hcs
      simp only [Prod.mk.injEq] at hx
      obtain ⟨rfl, rfl⟩ := hx
      simp only [if_true] at hz
      have hm2 := sized_slice hsz (j := 2) (t := 24) (e := 5) rfl rfl Try.underlying24
      rw [show Try.prog.bytesOf 5 = 1 from by kernel_rfl] at hm2
      simp only [lits, List.length_map, List.length_take, List.length_drop, reachBytes] at hm2
      exact ⟨zs, .inr ⟨_, rfl, hl, hm, hz, hcell, hwz⟩, by omega⟩
  clear hA0 hval0
  refine (walk a0 len0 cap0 z0 a1 len1 cap1 z1 a2 len2 cap2 z2 W w0 w1 w2).mono fun e W' ⟨he, bel⟩ => ?_
  subst he
  exact ⟨_, rfl, _, _, _, [], _, [], hW', trodAll_mk1 (shut_bool Try.underlying4 _), (trodAll_cons_mk (Below.trod laidOut (by kernel_rfl) (of_decide_eq_true (by kernel_rfl)) k0 bel lt0) (trodAll_cons_mk (Below.trod laidOut (by kernel_rfl) (of_decide_eq_true (by kernel_rfl)) k1 bel lt1) (trodAll_cons_mk (Below.trod laidOut (by kernel_rfl) (of_decide_eq_true (by kernel_rfl)) k2 bel lt2) trodAll_mk0))), rfl, bel.frame _, fun h => by cases h⟩

theorem over : Rows.fragFirstRow.holds Try.pinned (OpenSpec.ofChange Rows.fragFirstSpec) :=
  OpenClaim.holds_of_wide 5 Try.f5 rfl rfl rfl rfl rfl rfl rfl ⟨rfl, rfl, rfl, rfl, rfl⟩ rfl rfl rfl rfl rfl (by kernel_rfl) Try.func5 (by kernel_rfl)
    (of_decide_eq_true (by kernel_rfl)) (by unfold Func.isWrapper; first | (rw [if_pos (by decide +kernel)]; kernel_rfl) | (rw [if_neg (by decide +kernel)]; exact ⟨rfl, rfl⟩))
    (fun os started H enc _ => lifted os started H enc)

theorem proved : Rows.FragFirstSaid := over
#print axioms proved
end Go.Proofs.Ytcjkhonapafndaa.fragFirst
