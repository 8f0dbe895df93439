/- Proved: what segment.Encode hands out, by its walk. Conditions: the segment is one that came in. -/
import Derived.Test.YtifeomdmbjinoaaSeg
import Derived.Laws.EntriesVeiled
set_option linter.unusedVariables false
set_option linter.unusedSimpArgs false
namespace Go.Proofs.Ytifeomdmbjinoaa
open Go.RowKit

def Sg.bad (s : Sg) : Prop := s.fp < 0 ∨ 65535 < s.fp ∨ s.tp < 0 ∨ 65535 < s.tp ∨ s.win < 0 ∨ 65535 < s.win ∨ s.fl < 0 ∨ 63 < s.fl ∨ s.mss < 0 ∨ 65535 < s.mss ∨ s.sc < -1 ∨ 14 < s.sc
structure Sg.good (s : Sg) : Prop where
  fp : 0 ≤ s.fp ∧ s.fp ≤ 65535
  tp : 0 ≤ s.tp ∧ s.tp ≤ 65535
  win : 0 ≤ s.win ∧ s.win ≤ 65535
  fl : 0 ≤ s.fl ∧ s.fl ≤ 63
  mss : 0 ≤ s.mss ∧ s.mss ≤ 65535
  sc : -1 ≤ s.sc ∧ s.sc ≤ 14
theorem Sg.good_of {s : Sg} (h : ¬ s.bad) : s.good := by
  unfold Sg.bad at h
  exact ⟨by omega, by omega, by omega, by omega, by omega, by omega⟩
/-- The first part of a segment that may not be so. -/
theorem Sg.bad_cases {s : Sg} (h : s.bad) :
    (s.fp < 0 ∨ 65535 < s.fp) ∨ ((0 ≤ s.fp ∧ s.fp ≤ 65535) ∧ (s.tp < 0 ∨ 65535 < s.tp)) ∨ ((0 ≤ s.fp ∧ s.fp ≤ 65535) ∧ (0 ≤ s.tp ∧ s.tp ≤ 65535) ∧ (s.win < 0 ∨ 65535 < s.win)) ∨
    ((0 ≤ s.fp ∧ s.fp ≤ 65535) ∧ (0 ≤ s.tp ∧ s.tp ≤ 65535) ∧ (0 ≤ s.win ∧ s.win ≤ 65535) ∧ (s.fl < 0 ∨ 63 < s.fl)) ∨
    ((0 ≤ s.fp ∧ s.fp ≤ 65535) ∧ (0 ≤ s.tp ∧ s.tp ≤ 65535) ∧ (0 ≤ s.win ∧ s.win ≤ 65535) ∧ (0 ≤ s.fl ∧ s.fl ≤ 63) ∧ (s.mss < 0 ∨ 65535 < s.mss)) ∨
    ((0 ≤ s.fp ∧ s.fp ≤ 65535) ∧ (0 ≤ s.tp ∧ s.tp ≤ 65535) ∧ (0 ≤ s.win ∧ s.win ≤ 65535) ∧ (0 ≤ s.fl ∧ s.fl ≤ 63) ∧ (0 ≤ s.mss ∧ s.mss ≤ 65535) ∧ s.sc < -1) ∨
    ((0 ≤ s.fp ∧ s.fp ≤ 65535) ∧ (0 ≤ s.tp ∧ s.tp ≤ 65535) ∧ (0 ≤ s.win ∧ s.win ≤ 65535) ∧ (0 ≤ s.fl ∧ s.fl ≤ 63) ∧ (0 ≤ s.mss ∧ s.mss ≤ 65535) ∧ -1 ≤ s.sc ∧ 14 < s.sc) := by
  unfold Sg.bad at h
  omega

theorem enc_arg1 (s : Sg)  (d : s.fp < 0 ∨ 65535 < s.fp) (A : Option Addr) (n c : Nat) (w : World) :
    Calls Try.prog 11 #[.agg #[.int .u32 s.fr, .int .i64 s.fp, .int .u32 s.to, .int .i64 s.tp, .int .u32 s.seq, .int .u32 s.ack, .int .i64 s.fl, .int .i64 s.win, .int .i64 s.mss, .int .i64 s.sc, .slice A n c]] w fun e w' => e = .returned (.tuple #[.slice none 0 0, .int .i64 1]) ∧ Below w.heap.size w w' := by
  go_enter Try.func11, Try.ntmps11
  go_wp2_with (first
    | (go_at_call 27; (with_reducible refine (within_no s.fp 65535 d _).mono ?_); rintro e w' ⟨rfl, rfl⟩))
  go_ret2
  exact ⟨rfl, (Below.refl _ _).alloc (Nat.le_refl _) _⟩
theorem enc_arg2 (s : Sg) (d1 : 0 ≤ s.fp ∧ s.fp ≤ 65535) (d : s.tp < 0 ∨ 65535 < s.tp) (A : Option Addr) (n c : Nat) (w : World) :
    Calls Try.prog 11 #[.agg #[.int .u32 s.fr, .int .i64 s.fp, .int .u32 s.to, .int .i64 s.tp, .int .u32 s.seq, .int .u32 s.ack, .int .i64 s.fl, .int .i64 s.win, .int .i64 s.mss, .int .i64 s.sc, .slice A n c]] w fun e w' => e = .returned (.tuple #[.slice none 0 0, .int .i64 1]) ∧ Below w.heap.size w w' := by
  go_enter Try.func11, Try.ntmps11
  go_wp2_with (first
    | (go_at_call 27; (with_reducible refine (within_yes s.fp 65535 d1 _).mono ?_); rintro e w' ⟨rfl, rfl⟩)
    | (go_at_call 27; (with_reducible refine (within_no s.tp 65535 d _).mono ?_); rintro e w' ⟨rfl, rfl⟩))
  go_ret2
  exact ⟨rfl, (Below.refl _ _).alloc (Nat.le_refl _) _⟩
theorem enc_arg3 (s : Sg) (d1 : 0 ≤ s.fp ∧ s.fp ≤ 65535) (d2 : 0 ≤ s.tp ∧ s.tp ≤ 65535) (d : s.win < 0 ∨ 65535 < s.win) (A : Option Addr) (n c : Nat) (w : World) :
    Calls Try.prog 11 #[.agg #[.int .u32 s.fr, .int .i64 s.fp, .int .u32 s.to, .int .i64 s.tp, .int .u32 s.seq, .int .u32 s.ack, .int .i64 s.fl, .int .i64 s.win, .int .i64 s.mss, .int .i64 s.sc, .slice A n c]] w fun e w' => e = .returned (.tuple #[.slice none 0 0, .int .i64 1]) ∧ Below w.heap.size w w' := by
  go_enter Try.func11, Try.ntmps11
  go_wp2_with (first
    | (go_at_call 27; (with_reducible refine (within_yes s.fp 65535 d1 _).mono ?_); rintro e w' ⟨rfl, rfl⟩)
    | (go_at_call 27; (with_reducible refine (within_yes s.tp 65535 d2 _).mono ?_); rintro e w' ⟨rfl, rfl⟩)
    | (go_at_call 27; (with_reducible refine (within_no s.win 65535 d _).mono ?_); rintro e w' ⟨rfl, rfl⟩))
  go_ret2
  exact ⟨rfl, (Below.refl _ _).alloc (Nat.le_refl _) _⟩
theorem enc_arg4 (s : Sg) (d1 : 0 ≤ s.fp ∧ s.fp ≤ 65535) (d2 : 0 ≤ s.tp ∧ s.tp ≤ 65535) (d3 : 0 ≤ s.win ∧ s.win ≤ 65535) (d : s.fl < 0 ∨ 63 < s.fl) (A : Option Addr) (n c : Nat) (w : World) :
    Calls Try.prog 11 #[.agg #[.int .u32 s.fr, .int .i64 s.fp, .int .u32 s.to, .int .i64 s.tp, .int .u32 s.seq, .int .u32 s.ack, .int .i64 s.fl, .int .i64 s.win, .int .i64 s.mss, .int .i64 s.sc, .slice A n c]] w fun e w' => e = .returned (.tuple #[.slice none 0 0, .int .i64 1]) ∧ Below w.heap.size w w' := by
  go_enter Try.func11, Try.ntmps11
  go_wp2_with (first
    | (go_at_call 27; (with_reducible refine (within_yes s.fp 65535 d1 _).mono ?_); rintro e w' ⟨rfl, rfl⟩)
    | (go_at_call 27; (with_reducible refine (within_yes s.tp 65535 d2 _).mono ?_); rintro e w' ⟨rfl, rfl⟩)
    | (go_at_call 27; (with_reducible refine (within_yes s.win 65535 d3 _).mono ?_); rintro e w' ⟨rfl, rfl⟩)
    | (go_at_call 27; (with_reducible refine (within_no s.fl 63 d _).mono ?_); rintro e w' ⟨rfl, rfl⟩))
  go_ret2
  exact ⟨rfl, (Below.refl _ _).alloc (Nat.le_refl _) _⟩
theorem enc_arg5 (s : Sg) (d1 : 0 ≤ s.fp ∧ s.fp ≤ 65535) (d2 : 0 ≤ s.tp ∧ s.tp ≤ 65535) (d3 : 0 ≤ s.win ∧ s.win ≤ 65535) (d4 : 0 ≤ s.fl ∧ s.fl ≤ 63) (d : s.mss < 0 ∨ 65535 < s.mss) (A : Option Addr) (n c : Nat) (w : World) :
    Calls Try.prog 11 #[.agg #[.int .u32 s.fr, .int .i64 s.fp, .int .u32 s.to, .int .i64 s.tp, .int .u32 s.seq, .int .u32 s.ack, .int .i64 s.fl, .int .i64 s.win, .int .i64 s.mss, .int .i64 s.sc, .slice A n c]] w fun e w' => e = .returned (.tuple #[.slice none 0 0, .int .i64 1]) ∧ Below w.heap.size w w' := by
  go_enter Try.func11, Try.ntmps11
  go_wp2_with (first
    | (go_at_call 27; (with_reducible refine (within_yes s.fp 65535 d1 _).mono ?_); rintro e w' ⟨rfl, rfl⟩)
    | (go_at_call 27; (with_reducible refine (within_yes s.tp 65535 d2 _).mono ?_); rintro e w' ⟨rfl, rfl⟩)
    | (go_at_call 27; (with_reducible refine (within_yes s.win 65535 d3 _).mono ?_); rintro e w' ⟨rfl, rfl⟩)
    | (go_at_call 27; (with_reducible refine (within_yes s.fl 63 d4 _).mono ?_); rintro e w' ⟨rfl, rfl⟩)
    | (go_at_call 27; (with_reducible refine (within_no s.mss 65535 d _).mono ?_); rintro e w' ⟨rfl, rfl⟩))
  go_ret2
  exact ⟨rfl, (Below.refl _ _).alloc (Nat.le_refl _) _⟩
theorem enc_arg6 (s : Sg) (d1 : 0 ≤ s.fp ∧ s.fp ≤ 65535) (d2 : 0 ≤ s.tp ∧ s.tp ≤ 65535) (d3 : 0 ≤ s.win ∧ s.win ≤ 65535) (d4 : 0 ≤ s.fl ∧ s.fl ≤ 63) (d5 : 0 ≤ s.mss ∧ s.mss ≤ 65535) (d : s.sc < -1) (A : Option Addr) (n c : Nat) (w : World) :
    Calls Try.prog 11 #[.agg #[.int .u32 s.fr, .int .i64 s.fp, .int .u32 s.to, .int .i64 s.tp, .int .u32 s.seq, .int .u32 s.ack, .int .i64 s.fl, .int .i64 s.win, .int .i64 s.mss, .int .i64 s.sc, .slice A n c]] w fun e w' => e = .returned (.tuple #[.slice none 0 0, .int .i64 1]) ∧ Below w.heap.size w w' := by
  go_enter Try.func11, Try.ntmps11
  go_wp2_with (first
    | (go_at_call 27; (with_reducible refine (within_yes s.fp 65535 d1 _).mono ?_); rintro e w' ⟨rfl, rfl⟩)
    | (go_at_call 27; (with_reducible refine (within_yes s.tp 65535 d2 _).mono ?_); rintro e w' ⟨rfl, rfl⟩)
    | (go_at_call 27; (with_reducible refine (within_yes s.win 65535 d3 _).mono ?_); rintro e w' ⟨rfl, rfl⟩)
    | (go_at_call 27; (with_reducible refine (within_yes s.fl 63 d4 _).mono ?_); rintro e w' ⟨rfl, rfl⟩)
    | (go_at_call 27; (with_reducible refine (within_yes s.mss 65535 d5 _).mono ?_); rintro e w' ⟨rfl, rfl⟩))
  go_ret2
  exact ⟨rfl, (Below.refl _ _).alloc (Nat.le_refl _) _⟩
theorem enc_arg7 (s : Sg) (d1 : 0 ≤ s.fp ∧ s.fp ≤ 65535) (d2 : 0 ≤ s.tp ∧ s.tp ≤ 65535) (d3 : 0 ≤ s.win ∧ s.win ≤ 65535) (d4 : 0 ≤ s.fl ∧ s.fl ≤ 63) (d5 : 0 ≤ s.mss ∧ s.mss ≤ 65535) (d6 : -1 ≤ s.sc) (d : 14 < s.sc) (A : Option Addr) (n c : Nat) (w : World) :
    Calls Try.prog 11 #[.agg #[.int .u32 s.fr, .int .i64 s.fp, .int .u32 s.to, .int .i64 s.tp, .int .u32 s.seq, .int .u32 s.ack, .int .i64 s.fl, .int .i64 s.win, .int .i64 s.mss, .int .i64 s.sc, .slice A n c]] w fun e w' => e = .returned (.tuple #[.slice none 0 0, .int .i64 1]) ∧ Below w.heap.size w w' := by
  go_enter Try.func11, Try.ntmps11
  go_wp2_with (first
    | (go_at_call 27; (with_reducible refine (within_yes s.fp 65535 d1 _).mono ?_); rintro e w' ⟨rfl, rfl⟩)
    | (go_at_call 27; (with_reducible refine (within_yes s.tp 65535 d2 _).mono ?_); rintro e w' ⟨rfl, rfl⟩)
    | (go_at_call 27; (with_reducible refine (within_yes s.win 65535 d3 _).mono ?_); rintro e w' ⟨rfl, rfl⟩)
    | (go_at_call 27; (with_reducible refine (within_yes s.fl 63 d4 _).mono ?_); rintro e w' ⟨rfl, rfl⟩)
    | (go_at_call 27; (with_reducible refine (within_yes s.mss 65535 d5 _).mono ?_); rintro e w' ⟨rfl, rfl⟩))
  go_ret2
  exact ⟨rfl, (Below.refl _ _).alloc (Nat.le_refl _) _⟩
theorem encode_arg (s : Sg) (h : s.bad) (A : Option Addr) (n c : Nat) (w : World) :
    Calls Try.prog 11 #[.agg #[.int .u32 s.fr, .int .i64 s.fp, .int .u32 s.to, .int .i64 s.tp, .int .u32 s.seq, .int .u32 s.ack, .int .i64 s.fl, .int .i64 s.win, .int .i64 s.mss, .int .i64 s.sc, .slice A n c]] w fun e w' => e = .returned (.tuple #[.slice none 0 0, .int .i64 1]) ∧ Below w.heap.size w w' := by
  rcases Sg.bad_cases h with d | ⟨d1, d⟩ | ⟨d1, d2, d⟩ | ⟨d1, d2, d3, d⟩ | ⟨d1, d2, d3, d4, d⟩ | ⟨d1, d2, d3, d4, d5, d⟩ | ⟨d1, d2, d3, d4, d5, d6, d⟩
  · exact enc_arg1 s d A n c w
  · exact enc_arg2 s d1 d A n c w
  · exact enc_arg3 s d1 d2 d A n c w
  · exact enc_arg4 s d1 d2 d3 d A n c w
  · exact enc_arg5 s d1 d2 d3 d4 d A n c w
  · exact enc_arg6 s d1 d2 d3 d4 d5 d A n c w
  · exact enc_arg7 s d1 d2 d3 d4 d5 d6 d A n c w

set_option maxHeartbeats 1000000 in
theorem encode_ok (s : Sg) (hwf : s.wf) (hg : s.good) (A : Option Addr) (n cap : Nat) (d : List Int) (hn : d.length = n) (hmax : 20 + (optB s.mss s.sc).length + n ≤ 65515) (hb : Bs d) (w : World) (hd : RB w w.heap.size A d) :
    Calls Try.prog 11 #[.agg #[.int .u32 s.fr, .int .i64 s.fp, .int .u32 s.to, .int .i64 s.tp, .int .u32 s.seq, .int .u32 s.ack, .int .i64 s.fl, .int .i64 s.win, .int .i64 s.mss, .int .i64 s.sc, .slice A n cap]] w fun e w' => ∃ A' n' c', e = .returned (.tuple #[.slice A' n' c', .int .i64 0]) ∧
      OB 5 w' w.heap.size A' n' c' (segB s ((20 + ((optB s.mss s.sc).length : Int)) / 4 * 16) (segSum s.fr s.to (segB s ((20 + ((optB s.mss s.sc).length : Int)) / 4 * 16) 0 (optB s.mss s.sc) d)) (optB s.mss s.sc) d) ∧ Below w.heap.size w w' := by
  have HG := Lib.hid hg
  have HWF := Lib.hid hwf
  obtain ⟨d1, d2, d3, d4, d5, d6, d7⟩ := hg
  have hmi : I64 s.mss := hwf.2.2.2.2.2.2.2.2.1
  have hsi : I64 s.sc := hwf.2.2.2.2.2.2.2.2.2
  have hfr : U32 s.fr := hwf.1
  have hto : U32 s.to := hwf.2.2.1
  have hom := optB_len s.mss s.sc
  have hob := optB_bs s.mss s.sc
  obtain ⟨o, ho⟩ : ∃ o, optB s.mss s.sc = o := ⟨_, rfl⟩
  rw [ho] at hom hob hmax
  have HO := Lib.hid ho
  rw [ho]
  obtain ⟨m, hm⟩ : ∃ m, o.length = m := ⟨_, rfl⟩
  rw [hm] at hom hmax
  rw [hm]
  have HM := Lib.hid hm
  have HN := Lib.hid hn
  obtain ⟨W0, hW0⟩ : ∃ W0, w.alloc (.cells #[.int .u32 s.fr, .int .i64 s.fp, .int .u32 s.to, .int .i64 s.tp, .int .u32 s.seq, .int .u32 s.ack, .int .i64 s.fl, .int .i64 s.win, .int .i64 s.mss, .int .i64 s.sc, .slice A n cap] 26) = W0 := ⟨_, rfl⟩
  have k0 : Bk W0 w.heap.size 26 #[.int .u32 s.fr, .int .i64 s.fp, .int .u32 s.to, .int .i64 s.tp, .int .u32 s.seq, .int .u32 s.ack, .int .i64 s.fl, .int .i64 s.win, .int .i64 s.mss, .int .i64 s.sc, .slice A n cap] := by rw [← hW0]; exact Bk.new w _ _
  have hB0 : Below w.heap.size w W0 := by rw [← hW0]; exact (Below.refl _ _).alloc (Nat.le_refl _) _
  have z0 := k0.lt
  have HW0 := Lib.hid hW0
  have t1 := d1.1; have t2 := d1.2; have t3 := d2.1; have t4 := d2.2; have t5 := d3.1; have t6 := d3.2; have t7 := d4.1; have t8 := d4.2; have t9 := d5.1; have t10 := d5.2
  clear hn hW0 ho hm hwf
  go_enter Try.func11, Try.ntmps11
  go_wp2_with (go_at_call 27; refine (within_yes _ _ (by constructor <;> assumption) _).mono ?_; rintro e w' ⟨rfl, rfl⟩)
  rw [HW0.out]
  refine (options_any s A n cap W0 hmi hsi).mono ?_
  rintro e w1 ⟨Bo, m', co, rfl, hO1, hB1⟩
  rw [HO.out] at hO1
  obtain rfl : m = m' := by rw [← HM.out]; exact hO1.length
  have k1 := k0.below hB1 z0
  have z1 := hB1.size
  obtain ⟨W2, hW2⟩ : ∃ W2, w1.alloc (.cells #[.slice Bo m co] 24) = W2 := ⟨_, rfl⟩
  have k2 : Bk W2 w1.heap.size 24 #[.slice Bo m co] := by rw [← hW2]; exact Bk.new _ _ _
  have hB2 : Below w1.heap.size w1 W2 := by rw [← hW2]; exact (Below.refl _ _).alloc (Nat.le_refl _) _
  have z2 := k2.lt
  have zz2 : W2.heap.size = w1.heap.size + 1 := by rw [← hW2]; simp
  have HW2 := Lib.hid hW2
  obtain ⟨W3, hW3⟩ : ∃ W3, W2.alloc (.cells #[.int .i64 (20 + (m : Int))] 3) = W3 := ⟨_, rfl⟩
  have k3 : Bk W3 W2.heap.size 3 #[.int .i64 (20 + (m : Int))] := by rw [← hW3]; exact Bk.new _ _ _
  have hB3 : Below W2.heap.size W2 W3 := by rw [← hW3]; exact (Below.refl _ _).alloc (Nat.le_refl _) _
  have z3 := k3.lt
  have HW3 := Lib.hid hW3
  clear hW2 hW3
  have c10 := ((k1.alloc (.cells #[.slice Bo m co] 24)).alloc (.cells #[.int .i64 (20 + (m : Int))] 3)).cell 10
  simp only [List.getElem?_toArray, List.getElem?_cons_zero, List.getElem?_cons_succ] at c10
  have g1 := (k1.below hB2 (by omega)).below hB3 (by omega)
  have g2 := k2.below hB3 (by omega)
  have hB03 : Below w.heap.size w W3 := ((hB0.trans (hB1.mono (by omega))).trans (hB2.mono (by omega))).trans (hB3.mono (by omega))
  have hd3 : RB W3 W3.heap.size A d := Rw.more (Rw.below hd hB03) hB03.size
  have ho3 : RB W3 W3.heap.size Bo o := Rw.more (Rw.below hO1.rb (hB2.trans (hB3.mono (by omega)))) (by omega)
  have b0 : W3.cell? ⟨w.heap.size, 0, none⟩ = some (.int .u32 s.fr) := g1.cell 0
  have b2 : W3.cell? ⟨w.heap.size, 2, none⟩ = some (.int .u32 s.to) := g1.cell 2
  have lt0 : w.heap.size < W3.heap.size := by omega
  have HB03 := Lib.hid hB03
  have zz := Lib.hid zz2
  have hsz : (segB s ((20 + (m : Int)) / 4 * 16) 0 o d).length = 20 + m + n := by rw [segB_len, HM.out, HN.out]
  have HSZ := Lib.hid hsz
  clear hB03 zz2 hsz
  go_wp2_with fail
  rw [zz.out.symm, HW2.out, HW3.out]
  go_region_held3 (fun w' => w'.cell? ⟨w.heap.size, 0, none⟩ = some (.int .u32 s.fr) ∧ w'.cell? ⟨w.heap.size, 2, none⟩ = some (.int .u32 s.to))
    (first | (with_reducible exact ⟨by assumption, by assumption⟩) | go_keep)
    (first
      | (go_at_call_of 29 (Value.int .i64 0); refine (encf_any w.heap.size W2.heap.size w1.heap.size s HWF.out 0 A Bo n cap m co d o HN.out (by omega) HM.out hom _ (by exact g1) (by exact k3) (by exact g2) (by exact hd3) (by exact ho3)).mono ?_; rintro e w4 ⟨A4, n4, c4, rfl, hO4, hB4⟩; have hB4 : Below W3.heap.size W3 w4 := (Below.drew (Below.refl _ _)).trans hB4; have b40 := bel_cell hB4 lt0 b0; have b42 := bel_cell hB4 lt0 b2)
      | (go_at_call 35; refine (segsum_any s.fr s.to hfr hto A4 n4 c4 _ _ hO4.length (by have := hO4.length; have := HSZ.out; omega) (segB_bs _ _ _ hob hb) _ (by exact hO4.rb) (Nat.le_refl _)).mono ?_; rintro e w5 ⟨rfl, hB5⟩; have b50 := bel_cell hB5 (Nat.lt_of_lt_of_le lt0 hB4.size) b40; have b52 := bel_cell hB5 (Nat.lt_of_lt_of_le lt0 hB4.size) b42)
      | (go_at_call 29; have hB5' : Below W3.heap.size W3 w5 := hB4.trans (hB5.mono hB4.size); have z5 := hB5'.size; refine (encf_any w.heap.size W2.heap.size w1.heap.size s HWF.out _ A Bo n cap m co d o HN.out (by omega) HM.out hom _ (by exact g1.below hB5' lt0) (by exact k3.below hB5' z3) (by exact g2.below hB5' (Nat.lt_of_lt_of_le z2 (Nat.le_of_lt z3))) (by exact Rw.more (Rw.below hd3 hB5') hB5'.size) (by exact Rw.more (Rw.below ho3 hB5') hB5'.size)).mono ?_; rintro e w6 ⟨A6, n6, c6, rfl, hO6, hB6⟩; have b60 := bel_cell hB6 (Nat.lt_of_lt_of_le lt0 hB5'.size) b50; have b62 := bel_cell hB6 (Nat.lt_of_lt_of_le lt0 hB5'.size) b52))
  have hBw : Below w.heap.size w w6 := (HB03.out.trans (hB5'.mono HB03.out.size)).trans (hB6.mono (by have := HB03.out.size; omega))
  go_wp2
  go_ret2
  refine ⟨A6, n6, c6, rfl, Ow.mono hO6 ?_, hBw⟩
  exact Nat.le_trans HB03.out.size z5
end Go.Proofs.Ytifeomdmbjinoaa
