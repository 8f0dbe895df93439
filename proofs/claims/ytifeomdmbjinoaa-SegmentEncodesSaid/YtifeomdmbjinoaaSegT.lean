/- Proved: what the reference's Encode hands out of a segment that it refuses; and whatever the segment. Conditions: the segment is one that came in. -/
import Derived.Test.YtifeomdmbjinoaaSegS
set_option linter.unusedVariables false
set_option linter.unusedSimpArgs false
namespace Go.Proofs.Ytifeomdmbjinoaa
open Go.RowKit
set_option maxRecDepth 100000 in
theorem rencode_arg0 (s : Sg)  (e : s.fp < 0) (A : Option Addr) (n c : Nat) (w : World) :
    Calls Try.prog 12 #[.agg #[.int .u32 s.fr, .int .i64 s.fp, .int .u32 s.to, .int .i64 s.tp, .int .u32 s.seq, .int .u32 s.ack, .int .i64 s.fl, .int .i64 s.win, .int .i64 s.mss, .int .i64 s.sc, .slice A n c]] w fun e w' => e = .returned (.tuple #[.slice none 0 0, .int .i64 1]) ∧ Below w.heap.size w w' := by
  have t : decide (s.fp < 0) = true := decide_eq_true e
  go_enter Try.func12, Try.ntmps12
  go_wp2
  go_ret2
  exact ⟨rfl, (Below.refl _ _).alloc (Nat.le_refl _) _⟩
set_option maxRecDepth 100000 in
theorem rencode_arg1 (s : Sg) (e0 : 0 ≤ s.fp) (e : 65535 < s.fp) (A : Option Addr) (n c : Nat) (w : World) :
    Calls Try.prog 12 #[.agg #[.int .u32 s.fr, .int .i64 s.fp, .int .u32 s.to, .int .i64 s.tp, .int .u32 s.seq, .int .u32 s.ack, .int .i64 s.fl, .int .i64 s.win, .int .i64 s.mss, .int .i64 s.sc, .slice A n c]] w fun e w' => e = .returned (.tuple #[.slice none 0 0, .int .i64 1]) ∧ Below w.heap.size w w' := by
  have t0 : decide (s.fp < 0) = false := decide_eq_false (by omega)
  have t : decide (65535 < s.fp) = true := decide_eq_true e
  go_enter Try.func12, Try.ntmps12
  go_wp2
  go_ret2
  exact ⟨rfl, (Below.refl _ _).alloc (Nat.le_refl _) _⟩
set_option maxRecDepth 100000 in
theorem rencode_arg2 (s : Sg) (e0 : 0 ≤ s.fp) (e1 : s.fp ≤ 65535) (e : s.tp < 0) (A : Option Addr) (n c : Nat) (w : World) :
    Calls Try.prog 12 #[.agg #[.int .u32 s.fr, .int .i64 s.fp, .int .u32 s.to, .int .i64 s.tp, .int .u32 s.seq, .int .u32 s.ack, .int .i64 s.fl, .int .i64 s.win, .int .i64 s.mss, .int .i64 s.sc, .slice A n c]] w fun e w' => e = .returned (.tuple #[.slice none 0 0, .int .i64 1]) ∧ Below w.heap.size w w' := by
  have t0 : decide (s.fp < 0) = false := decide_eq_false (by omega)
  have t1 : decide (65535 < s.fp) = false := decide_eq_false (by omega)
  have t : decide (s.tp < 0) = true := decide_eq_true e
  go_enter Try.func12, Try.ntmps12
  go_wp2
  go_ret2
  exact ⟨rfl, (Below.refl _ _).alloc (Nat.le_refl _) _⟩
set_option maxRecDepth 100000 in
theorem rencode_arg3 (s : Sg) (e0 : 0 ≤ s.fp) (e1 : s.fp ≤ 65535) (e2 : 0 ≤ s.tp) (e : 65535 < s.tp) (A : Option Addr) (n c : Nat) (w : World) :
    Calls Try.prog 12 #[.agg #[.int .u32 s.fr, .int .i64 s.fp, .int .u32 s.to, .int .i64 s.tp, .int .u32 s.seq, .int .u32 s.ack, .int .i64 s.fl, .int .i64 s.win, .int .i64 s.mss, .int .i64 s.sc, .slice A n c]] w fun e w' => e = .returned (.tuple #[.slice none 0 0, .int .i64 1]) ∧ Below w.heap.size w w' := by
  have t0 : decide (s.fp < 0) = false := decide_eq_false (by omega)
  have t1 : decide (65535 < s.fp) = false := decide_eq_false (by omega)
  have t2 : decide (s.tp < 0) = false := decide_eq_false (by omega)
  have t : decide (65535 < s.tp) = true := decide_eq_true e
  go_enter Try.func12, Try.ntmps12
  go_wp2
  go_ret2
  exact ⟨rfl, (Below.refl _ _).alloc (Nat.le_refl _) _⟩
set_option maxRecDepth 100000 in
theorem rencode_arg4 (s : Sg) (e0 : 0 ≤ s.fp) (e1 : s.fp ≤ 65535) (e2 : 0 ≤ s.tp) (e3 : s.tp ≤ 65535) (e : s.win < 0) (A : Option Addr) (n c : Nat) (w : World) :
    Calls Try.prog 12 #[.agg #[.int .u32 s.fr, .int .i64 s.fp, .int .u32 s.to, .int .i64 s.tp, .int .u32 s.seq, .int .u32 s.ack, .int .i64 s.fl, .int .i64 s.win, .int .i64 s.mss, .int .i64 s.sc, .slice A n c]] w fun e w' => e = .returned (.tuple #[.slice none 0 0, .int .i64 1]) ∧ Below w.heap.size w w' := by
  have t0 : decide (s.fp < 0) = false := decide_eq_false (by omega)
  have t1 : decide (65535 < s.fp) = false := decide_eq_false (by omega)
  have t2 : decide (s.tp < 0) = false := decide_eq_false (by omega)
  have t3 : decide (65535 < s.tp) = false := decide_eq_false (by omega)
  have t : decide (s.win < 0) = true := decide_eq_true e
  go_enter Try.func12, Try.ntmps12
  go_wp2
  go_ret2
  exact ⟨rfl, (Below.refl _ _).alloc (Nat.le_refl _) _⟩
set_option maxRecDepth 100000 in
theorem rencode_arg5 (s : Sg) (e0 : 0 ≤ s.fp) (e1 : s.fp ≤ 65535) (e2 : 0 ≤ s.tp) (e3 : s.tp ≤ 65535) (e4 : 0 ≤ s.win) (e : 65535 < s.win) (A : Option Addr) (n c : Nat) (w : World) :
    Calls Try.prog 12 #[.agg #[.int .u32 s.fr, .int .i64 s.fp, .int .u32 s.to, .int .i64 s.tp, .int .u32 s.seq, .int .u32 s.ack, .int .i64 s.fl, .int .i64 s.win, .int .i64 s.mss, .int .i64 s.sc, .slice A n c]] w fun e w' => e = .returned (.tuple #[.slice none 0 0, .int .i64 1]) ∧ Below w.heap.size w w' := by
  have t0 : decide (s.fp < 0) = false := decide_eq_false (by omega)
  have t1 : decide (65535 < s.fp) = false := decide_eq_false (by omega)
  have t2 : decide (s.tp < 0) = false := decide_eq_false (by omega)
  have t3 : decide (65535 < s.tp) = false := decide_eq_false (by omega)
  have t4 : decide (s.win < 0) = false := decide_eq_false (by omega)
  have t : decide (65535 < s.win) = true := decide_eq_true e
  go_enter Try.func12, Try.ntmps12
  go_wp2
  go_ret2
  exact ⟨rfl, (Below.refl _ _).alloc (Nat.le_refl _) _⟩
set_option maxRecDepth 100000 in
theorem rencode_arg6 (s : Sg) (e0 : 0 ≤ s.fp) (e1 : s.fp ≤ 65535) (e2 : 0 ≤ s.tp) (e3 : s.tp ≤ 65535) (e4 : 0 ≤ s.win) (e5 : s.win ≤ 65535) (e : s.fl < 0) (A : Option Addr) (n c : Nat) (w : World) :
    Calls Try.prog 12 #[.agg #[.int .u32 s.fr, .int .i64 s.fp, .int .u32 s.to, .int .i64 s.tp, .int .u32 s.seq, .int .u32 s.ack, .int .i64 s.fl, .int .i64 s.win, .int .i64 s.mss, .int .i64 s.sc, .slice A n c]] w fun e w' => e = .returned (.tuple #[.slice none 0 0, .int .i64 1]) ∧ Below w.heap.size w w' := by
  have t0 : decide (s.fp < 0) = false := decide_eq_false (by omega)
  have t1 : decide (65535 < s.fp) = false := decide_eq_false (by omega)
  have t2 : decide (s.tp < 0) = false := decide_eq_false (by omega)
  have t3 : decide (65535 < s.tp) = false := decide_eq_false (by omega)
  have t4 : decide (s.win < 0) = false := decide_eq_false (by omega)
  have t5 : decide (65535 < s.win) = false := decide_eq_false (by omega)
  have t : decide (s.fl < 0) = true := decide_eq_true e
  go_enter Try.func12, Try.ntmps12
  go_wp2
  go_ret2
  exact ⟨rfl, (Below.refl _ _).alloc (Nat.le_refl _) _⟩
set_option maxRecDepth 100000 in
theorem rencode_arg7 (s : Sg) (e0 : 0 ≤ s.fp) (e1 : s.fp ≤ 65535) (e2 : 0 ≤ s.tp) (e3 : s.tp ≤ 65535) (e4 : 0 ≤ s.win) (e5 : s.win ≤ 65535) (e6 : 0 ≤ s.fl) (e : 63 < s.fl) (A : Option Addr) (n c : Nat) (w : World) :
    Calls Try.prog 12 #[.agg #[.int .u32 s.fr, .int .i64 s.fp, .int .u32 s.to, .int .i64 s.tp, .int .u32 s.seq, .int .u32 s.ack, .int .i64 s.fl, .int .i64 s.win, .int .i64 s.mss, .int .i64 s.sc, .slice A n c]] w fun e w' => e = .returned (.tuple #[.slice none 0 0, .int .i64 1]) ∧ Below w.heap.size w w' := by
  have t0 : decide (s.fp < 0) = false := decide_eq_false (by omega)
  have t1 : decide (65535 < s.fp) = false := decide_eq_false (by omega)
  have t2 : decide (s.tp < 0) = false := decide_eq_false (by omega)
  have t3 : decide (65535 < s.tp) = false := decide_eq_false (by omega)
  have t4 : decide (s.win < 0) = false := decide_eq_false (by omega)
  have t5 : decide (65535 < s.win) = false := decide_eq_false (by omega)
  have t6 : decide (s.fl < 0) = false := decide_eq_false (by omega)
  have t : decide (63 < s.fl) = true := decide_eq_true e
  go_enter Try.func12, Try.ntmps12
  go_wp2
  go_ret2
  exact ⟨rfl, (Below.refl _ _).alloc (Nat.le_refl _) _⟩
set_option maxRecDepth 100000 in
theorem rencode_arg8 (s : Sg) (e0 : 0 ≤ s.fp) (e1 : s.fp ≤ 65535) (e2 : 0 ≤ s.tp) (e3 : s.tp ≤ 65535) (e4 : 0 ≤ s.win) (e5 : s.win ≤ 65535) (e6 : 0 ≤ s.fl) (e7 : s.fl ≤ 63) (e : s.mss < 0) (A : Option Addr) (n c : Nat) (w : World) :
    Calls Try.prog 12 #[.agg #[.int .u32 s.fr, .int .i64 s.fp, .int .u32 s.to, .int .i64 s.tp, .int .u32 s.seq, .int .u32 s.ack, .int .i64 s.fl, .int .i64 s.win, .int .i64 s.mss, .int .i64 s.sc, .slice A n c]] w fun e w' => e = .returned (.tuple #[.slice none 0 0, .int .i64 1]) ∧ Below w.heap.size w w' := by
  have t0 : decide (s.fp < 0) = false := decide_eq_false (by omega)
  have t1 : decide (65535 < s.fp) = false := decide_eq_false (by omega)
  have t2 : decide (s.tp < 0) = false := decide_eq_false (by omega)
  have t3 : decide (65535 < s.tp) = false := decide_eq_false (by omega)
  have t4 : decide (s.win < 0) = false := decide_eq_false (by omega)
  have t5 : decide (65535 < s.win) = false := decide_eq_false (by omega)
  have t6 : decide (s.fl < 0) = false := decide_eq_false (by omega)
  have t7 : decide (63 < s.fl) = false := decide_eq_false (by omega)
  have t : decide (s.mss < 0) = true := decide_eq_true e
  go_enter Try.func12, Try.ntmps12
  go_wp2
  go_ret2
  exact ⟨rfl, (Below.refl _ _).alloc (Nat.le_refl _) _⟩
set_option maxRecDepth 100000 in
theorem rencode_arg9 (s : Sg) (e0 : 0 ≤ s.fp) (e1 : s.fp ≤ 65535) (e2 : 0 ≤ s.tp) (e3 : s.tp ≤ 65535) (e4 : 0 ≤ s.win) (e5 : s.win ≤ 65535) (e6 : 0 ≤ s.fl) (e7 : s.fl ≤ 63) (e8 : 0 ≤ s.mss) (e : 65535 < s.mss) (A : Option Addr) (n c : Nat) (w : World) :
    Calls Try.prog 12 #[.agg #[.int .u32 s.fr, .int .i64 s.fp, .int .u32 s.to, .int .i64 s.tp, .int .u32 s.seq, .int .u32 s.ack, .int .i64 s.fl, .int .i64 s.win, .int .i64 s.mss, .int .i64 s.sc, .slice A n c]] w fun e w' => e = .returned (.tuple #[.slice none 0 0, .int .i64 1]) ∧ Below w.heap.size w w' := by
  have t0 : decide (s.fp < 0) = false := decide_eq_false (by omega)
  have t1 : decide (65535 < s.fp) = false := decide_eq_false (by omega)
  have t2 : decide (s.tp < 0) = false := decide_eq_false (by omega)
  have t3 : decide (65535 < s.tp) = false := decide_eq_false (by omega)
  have t4 : decide (s.win < 0) = false := decide_eq_false (by omega)
  have t5 : decide (65535 < s.win) = false := decide_eq_false (by omega)
  have t6 : decide (s.fl < 0) = false := decide_eq_false (by omega)
  have t7 : decide (63 < s.fl) = false := decide_eq_false (by omega)
  have t8 : decide (s.mss < 0) = false := decide_eq_false (by omega)
  have t : decide (65535 < s.mss) = true := decide_eq_true e
  go_enter Try.func12, Try.ntmps12
  go_wp2
  go_ret2
  exact ⟨rfl, (Below.refl _ _).alloc (Nat.le_refl _) _⟩
set_option maxRecDepth 100000 in
theorem rencode_arg10 (s : Sg) (e0 : 0 ≤ s.fp) (e1 : s.fp ≤ 65535) (e2 : 0 ≤ s.tp) (e3 : s.tp ≤ 65535) (e4 : 0 ≤ s.win) (e5 : s.win ≤ 65535) (e6 : 0 ≤ s.fl) (e7 : s.fl ≤ 63) (e8 : 0 ≤ s.mss) (e9 : s.mss ≤ 65535) (e : s.sc < -1) (A : Option Addr) (n c : Nat) (w : World) :
    Calls Try.prog 12 #[.agg #[.int .u32 s.fr, .int .i64 s.fp, .int .u32 s.to, .int .i64 s.tp, .int .u32 s.seq, .int .u32 s.ack, .int .i64 s.fl, .int .i64 s.win, .int .i64 s.mss, .int .i64 s.sc, .slice A n c]] w fun e w' => e = .returned (.tuple #[.slice none 0 0, .int .i64 1]) ∧ Below w.heap.size w w' := by
  have t0 : decide (s.fp < 0) = false := decide_eq_false (by omega)
  have t1 : decide (65535 < s.fp) = false := decide_eq_false (by omega)
  have t2 : decide (s.tp < 0) = false := decide_eq_false (by omega)
  have t3 : decide (65535 < s.tp) = false := decide_eq_false (by omega)
  have t4 : decide (s.win < 0) = false := decide_eq_false (by omega)
  have t5 : decide (65535 < s.win) = false := decide_eq_false (by omega)
  have t6 : decide (s.fl < 0) = false := decide_eq_false (by omega)
  have t7 : decide (63 < s.fl) = false := decide_eq_false (by omega)
  have t8 : decide (s.mss < 0) = false := decide_eq_false (by omega)
  have t9 : decide (65535 < s.mss) = false := decide_eq_false (by omega)
  have t : decide (s.sc < -1) = true := decide_eq_true e
  go_enter Try.func12, Try.ntmps12
  go_wp2
  go_ret2
  exact ⟨rfl, (Below.refl _ _).alloc (Nat.le_refl _) _⟩
set_option maxRecDepth 100000 in
theorem rencode_arg11 (s : Sg) (e0 : 0 ≤ s.fp) (e1 : s.fp ≤ 65535) (e2 : 0 ≤ s.tp) (e3 : s.tp ≤ 65535) (e4 : 0 ≤ s.win) (e5 : s.win ≤ 65535) (e6 : 0 ≤ s.fl) (e7 : s.fl ≤ 63) (e8 : 0 ≤ s.mss) (e9 : s.mss ≤ 65535) (e10 : -1 ≤ s.sc) (e : 14 < s.sc) (A : Option Addr) (n c : Nat) (w : World) :
    Calls Try.prog 12 #[.agg #[.int .u32 s.fr, .int .i64 s.fp, .int .u32 s.to, .int .i64 s.tp, .int .u32 s.seq, .int .u32 s.ack, .int .i64 s.fl, .int .i64 s.win, .int .i64 s.mss, .int .i64 s.sc, .slice A n c]] w fun e w' => e = .returned (.tuple #[.slice none 0 0, .int .i64 1]) ∧ Below w.heap.size w w' := by
  have t0 : decide (s.fp < 0) = false := decide_eq_false (by omega)
  have t1 : decide (65535 < s.fp) = false := decide_eq_false (by omega)
  have t2 : decide (s.tp < 0) = false := decide_eq_false (by omega)
  have t3 : decide (65535 < s.tp) = false := decide_eq_false (by omega)
  have t4 : decide (s.win < 0) = false := decide_eq_false (by omega)
  have t5 : decide (65535 < s.win) = false := decide_eq_false (by omega)
  have t6 : decide (s.fl < 0) = false := decide_eq_false (by omega)
  have t7 : decide (63 < s.fl) = false := decide_eq_false (by omega)
  have t8 : decide (s.mss < 0) = false := decide_eq_false (by omega)
  have t9 : decide (65535 < s.mss) = false := decide_eq_false (by omega)
  have t10 : decide (s.sc < -1) = false := decide_eq_false (by omega)
  have t : decide (14 < s.sc) = true := decide_eq_true e
  go_enter Try.func12, Try.ntmps12
  go_wp2
  go_ret2
  exact ⟨rfl, (Below.refl _ _).alloc (Nat.le_refl _) _⟩
theorem rencode_arg (s : Sg) (h : s.bad) (A : Option Addr) (n c : Nat) (w : World) :
    Calls Try.prog 12 #[.agg #[.int .u32 s.fr, .int .i64 s.fp, .int .u32 s.to, .int .i64 s.tp, .int .u32 s.seq, .int .u32 s.ack, .int .i64 s.fl, .int .i64 s.win, .int .i64 s.mss, .int .i64 s.sc, .slice A n c]] w fun e w' => e = .returned (.tuple #[.slice none 0 0, .int .i64 1]) ∧ Below w.heap.size w w' := by
  by_cases e0 : s.fp < 0
  · exact rencode_arg0 s (by omega) A n c w
  by_cases e1 : 65535 < s.fp
  · exact rencode_arg1 s (by omega) (by omega) A n c w
  by_cases e2 : s.tp < 0
  · exact rencode_arg2 s (by omega) (by omega) (by omega) A n c w
  by_cases e3 : 65535 < s.tp
  · exact rencode_arg3 s (by omega) (by omega) (by omega) (by omega) A n c w
  by_cases e4 : s.win < 0
  · exact rencode_arg4 s (by omega) (by omega) (by omega) (by omega) (by omega) A n c w
  by_cases e5 : 65535 < s.win
  · exact rencode_arg5 s (by omega) (by omega) (by omega) (by omega) (by omega) (by omega) A n c w
  by_cases e6 : s.fl < 0
  · exact rencode_arg6 s (by omega) (by omega) (by omega) (by omega) (by omega) (by omega) (by omega) A n c w
  by_cases e7 : 63 < s.fl
  · exact rencode_arg7 s (by omega) (by omega) (by omega) (by omega) (by omega) (by omega) (by omega) (by omega) A n c w
  by_cases e8 : s.mss < 0
  · exact rencode_arg8 s (by omega) (by omega) (by omega) (by omega) (by omega) (by omega) (by omega) (by omega) (by omega) A n c w
  by_cases e9 : 65535 < s.mss
  · exact rencode_arg9 s (by omega) (by omega) (by omega) (by omega) (by omega) (by omega) (by omega) (by omega) (by omega) (by omega) A n c w
  by_cases e10 : s.sc < -1
  · exact rencode_arg10 s (by omega) (by omega) (by omega) (by omega) (by omega) (by omega) (by omega) (by omega) (by omega) (by omega) (by omega) A n c w
  by_cases e11 : 14 < s.sc
  · exact rencode_arg11 s (by omega) (by omega) (by omega) (by omega) (by omega) (by omega) (by omega) (by omega) (by omega) (by omega) (by omega) (by omega) A n c w
  unfold Sg.bad at h
  omega
set_option maxHeartbeats 4000000 in
set_option maxRecDepth 100000 in
theorem rencode_long (s : Sg) (hwf : s.wf) (hg : s.good) (A : Option Addr) (n cap : Nat) (hcap : n ≤ 140737488351232) (hmax : 65515 < 20 + (optB s.mss s.sc).length + n) (w : World) :
    Calls Try.prog 12 #[.agg #[.int .u32 s.fr, .int .i64 s.fp, .int .u32 s.to, .int .i64 s.tp, .int .u32 s.seq, .int .u32 s.ack, .int .i64 s.fl, .int .i64 s.win, .int .i64 s.mss, .int .i64 s.sc, .slice A n cap]] w fun e w' => e = .returned (.tuple #[.slice none 0 0, .int .i64 5]) ∧ Below w.heap.size w w' := by
  obtain ⟨⟨a1, a2⟩, ⟨a3, a4⟩, ⟨a5, a6⟩, ⟨a7, a8⟩, ⟨a9, a10⟩, a11, a12⟩ := hg
  obtain ⟨hfr, -, hto, -, ⟨q0, q1⟩, ⟨k0, k1⟩, -⟩ := hwf
  have hom := optB_len s.mss s.sc
  have hob := optB_bs s.mss s.sc
  have hmb := mssB_len s.mss
  have hsb := scB_len s.sc
  obtain ⟨W0, hW0⟩ : ∃ W0, w.alloc (.cells #[.int .u32 s.fr, .int .i64 s.fp, .int .u32 s.to, .int .i64 s.tp, .int .u32 s.seq, .int .u32 s.ack, .int .i64 s.fl, .int .i64 s.win, .int .i64 s.mss, .int .i64 s.sc, .slice A n cap] 26) = W0 := ⟨_, rfl⟩
  have kb : Bk W0 w.heap.size 26 #[.int .u32 s.fr, .int .i64 s.fp, .int .u32 s.to, .int .i64 s.tp, .int .u32 s.seq, .int .u32 s.ack, .int .i64 s.fl, .int .i64 s.win, .int .i64 s.mss, .int .i64 s.sc, .slice A n cap] := by rw [← hW0]; exact Bk.new w _ _
  have hB0 : Below w.heap.size w W0 := by rw [← hW0]; exact (Below.refl _ _).alloc (Nat.le_refl _) _
  have zW : W0.heap.size = w.heap.size + 1 := by rw [← hW0]; simp
  have HZ := Lib.hid zW
  have HW0 := Lib.hid hW0
  have HB0 := Lib.hid hB0
  have KB := Lib.hid kb
  -- the segment's cells in every later world
  have key : ∀ w', Below W0.heap.size W0 w' → (w'.cell? ⟨w.heap.size, 0, none⟩ = some (.int .u32 s.fr) ∧ w'.cell? ⟨w.heap.size, 1, none⟩ = some (.int .i64 s.fp) ∧ w'.cell? ⟨w.heap.size, 2, none⟩ = some (.int .u32 s.to) ∧ w'.cell? ⟨w.heap.size, 3, none⟩ = some (.int .i64 s.tp) ∧
      w'.cell? ⟨w.heap.size, 4, none⟩ = some (.int .u32 s.seq) ∧ w'.cell? ⟨w.heap.size, 5, none⟩ = some (.int .u32 s.ack) ∧ w'.cell? ⟨w.heap.size, 6, none⟩ = some (.int .i64 s.fl) ∧ w'.cell? ⟨w.heap.size, 7, none⟩ = some (.int .i64 s.win) ∧
      w'.cell? ⟨w.heap.size, 8, none⟩ = some (.int .i64 s.mss) ∧ w'.cell? ⟨w.heap.size, 9, none⟩ = some (.int .i64 s.sc) ∧ w'.cell? ⟨w.heap.size, 10, none⟩ = some (.slice A n cap)) := fun w' hb' => by
    have kb' := kb.below hb' (by omega)
    exact ⟨kb'.cell 0, kb'.cell 1, kb'.cell 2, kb'.cell 3, kb'.cell 4, kb'.cell 5, kb'.cell 6, kb'.cell 7, kb'.cell 8, kb'.cell 9, kb'.cell 10⟩
  have K := Lib.hid key
  clear key hW0 kb hB0 zW
  obtain ⟨c0, c1, c2, c3, c4, c5, c6, c7, c8, c9, c10⟩ := K.out W0 (Below.refl _ _)
  have u0 : decide (s.fp < 0) = false := decide_eq_false (by omega)
  have v0 : decide (65535 < s.fp) = false := decide_eq_false (by omega)
  have u1 : decide (s.tp < 0) = false := decide_eq_false (by omega)
  have v1 : decide (65535 < s.tp) = false := decide_eq_false (by omega)
  have u2 : decide (s.win < 0) = false := decide_eq_false (by omega)
  have v2 : decide (65535 < s.win) = false := decide_eq_false (by omega)
  have u3 : decide (s.fl < 0) = false := decide_eq_false (by omega)
  have v3 : decide (63 < s.fl) = false := decide_eq_false (by omega)
  have u4 : decide (s.mss < 0) = false := decide_eq_false (by omega)
  have v4 : decide (65535 < s.mss) = false := decide_eq_false (by omega)
  have u5 : decide (s.sc < -1) = false := decide_eq_false (by omega)
  have v5 : decide (14 < s.sc) = false := decide_eq_false (by omega)
  go_enter Try.func12, Try.ntmps12
  go_upto_if 64 with (fail)
  rw [HW0.out]
  go_upto_if 67 with (fail)
  clear u0 u1 u2 u3 u4 u5 v0 v1 v2 v3 v4 v5
  go_cut [4] (fun s4 wx => OptAt s4 wx W0 (mssB s.mss))
  case first =>
    by_cases h1 : s.mss = 0
    · have t1 : (s.mss != 0) = false := by simp [h1]
      have HE : Hid (mssB s.mss = []) := Lib.hid (if_pos h1)
      clear h1
      go_wp2_with fail
      go_meet
      rw [HE.out]
      exact ⟨none, 0, 0, rfl, Ow.none_ _ _ _, Below.refl _ _⟩
    · have t1 : (s.mss != 0) = true := by simp [h1]
      have HE : Hid (mssB s.mss = [2, 4] ++ be 2 s.mss) := Lib.hid (if_neg h1)
      clear h1
      obtain ⟨W1, hW1⟩ : ∃ W1, W0.alloc (.cells #[.int .u8 2, .int .u8 4] 5) = W1 := ⟨_, rfl⟩
      have hO1 : OB 5 W1 W0.heap.size (some ⟨W0.heap.size, 0, none⟩) 2 2 [2, 4] := by rw [← hW1]; exact ob_lit W0 W0.heap.size [2, 4] (Nat.le_refl _) (by simp)
      have hB1 : Below W0.heap.size W0 W1 := by rw [← hW1]; exact (Below.refl _ _).alloc (Nat.le_refl _) _
      have c8a := (K.out _ hB1).2.2.2.2.2.2.2.2.1
      have c8b := c8a
      rw [← hW1] at c8b
      have HW1 := Lib.hid hW1
      clear hW1
      go_wp2_with fail
      rw [HW1.out]
      refine (rtwo_own s.mss _).mono ?_
      rintro e w2 ⟨rfl, hO2, hB2⟩
      have hO1' : OB _ _ _ _ _ _ _ := Ow.stays hO1 hB2
      have z1 : W0.heap.size ≤ w2.heap.size := Nat.le_trans hB1.size hB2.size
      clear c8a c8b
      go_wp2_with (first
        | (at_builtin; refine ap8 rfl (.tmp 68) (.tmp 71) rfl W0.heap.size rfl hO1' rfl hO2.rb (be_length 2 _) (by decide) z1 ?_; intro A3 c3' w3 hO3 hB3 hg3 hA3 hz3 hc3))
      go_meet
      rw [HE.out]
      exact ⟨A3, _, c3', rfl, hO3, (hB1.trans (hB2.mono hB1.size)).trans hB3⟩
  case rest =>
    obtain ⟨A4, m4, p4, rfl, hO4, hB4⟩ := hcut
    clear c0 c1 c2 c3 c4 c5 c6 c7 c8 c9 c10
    have l4 := hO4.length
    have hm4 : m4 ≤ 4 := by omega
    clear l4
    have c9 := (K.out _ hB4).2.2.2.2.2.2.2.2.2.1
    have z4 := hB4.size
    go_upto_if 75 with (fail)
    go_cut [4] (fun s4 wx => OptAt s4 wx W0 (optB s.mss s.sc))
    case first =>
      by_cases h1 : s.sc = -1
      · have t1 : (s.sc != -1) = false := by simp [h1]
        have HE : Hid (optB s.mss s.sc = mssB s.mss) := Lib.hid (by unfold optB scB; rw [if_pos h1, List.append_nil])
        clear h1
        go_wp2_with fail
        go_meet
        rw [HE.out]
        exact ⟨_, _, _, rfl, hO4, hB4⟩
      · have t1 : (s.sc != -1) = true := by simp [h1]
        have HE : Hid (optB s.mss s.sc = mssB s.mss ++ [1, 3, 3, s.sc % 256]) := Lib.hid (by unfold optB scB; rw [if_neg h1]; simp [be])
        clear h1
        go_wp2_with (first
          | (at_builtin; refine ap8_lit rfl (.tmp 76) (.tmp 80) rfl W0.heap.size rfl hO4 [1, 3, 3, s.sc % 256] rfl rfl rfl (by omega) (by omega) ?_; intro A3 c3' w3 hO3 hB3 hg3 hA3 hz3 hc3))
        go_meet
        rw [HE.out]
        exact ⟨A3, _, c3', rfl, hO3, hB4.trans hB3⟩
    case rest =>
      obtain ⟨Ao, mo, po, rfl, hOo, hBo⟩ := hcut
      have lo := hOo.length
      have hmo : 65515 < 20 + mo + n := by omega
      have hmo8 : mo ≤ 8 := by omega
      have LO := Lib.hid lo
      have hBw : Below w.heap.size w wc := HB0.out.trans (hBo.mono (by have := HZ.out; omega))
      have HBW := Lib.hid hBw
      have c10 := (K.out _ hBo).2.2.2.2.2.2.2.2.2.2
      clear lo hBw c9 hB4 hO4 hm4 z4 hmax hmb hsb hom
      go_wp2_with fail
      go_ret2
      exact ⟨rfl, HBW.out⟩
theorem rencode_any (s : Sg) (hwf : s.wf) (A : Option Addr) (n cap : Nat) (d : List Int) (hn : d.length = n) (hmax : n ≤ 140737488351232) (hb : Bs d) (w : World) (hd : RB w w.heap.size A d) :
    Calls Try.prog 12 #[.agg #[.int .u32 s.fr, .int .i64 s.fp, .int .u32 s.to, .int .i64 s.tp, .int .u32 s.seq, .int .u32 s.ack, .int .i64 s.fl, .int .i64 s.win, .int .i64 s.mss, .int .i64 s.sc, .slice A n cap]] w fun e w' => ∃ A' n' c', e = .returned (.tuple #[.slice A' n' c', .int .i64 (segErr s n)]) ∧
      OB 5 w' w.heap.size A' n' c' (segOut s d) ∧ Below w.heap.size w w' := by
  unfold segOut
  rw [hn]
  by_cases h : s.bad
  · rw [segErr_arg h, if_neg (by omega)]
    exact (rencode_arg s h A n cap w).mono fun e w' ⟨h1, h2⟩ => ⟨none, 0, 0, h1, Ow.none_ _ _ _, h2⟩
  · by_cases h2 : 65515 < 20 + (optB s.mss s.sc).length + n
    · rw [segErr_long h h2, if_neg (by omega)]
      exact (rencode_long s hwf (Sg.good_of h) A n cap hmax h2 w).mono fun e w' ⟨h1, h2⟩ => ⟨none, 0, 0, h1, Ow.none_ _ _ _, h2⟩
    · rw [segErr_ok h h2, if_pos rfl]
      exact rencode_ok s hwf (Sg.good_of h) A n cap d hn (by omega) hb w hd
end Go.Proofs.Ytifeomdmbjinoaa
