/- Proved: that two segments of the same parts are the same. Conditions: the bytes lie in memory. -/
import Derived.Test.YtifeomdmbjinoaaSegF
import Derived.Deep.QuietTactic
import Derived.BigQuiet
set_option linter.unusedVariables false
namespace Go.Proofs.Ytifeomdmbjinoaa
open Go.RowKit
set_option maxHeartbeats 1000000 in
theorem segments_any (s : Sg) (A A2 : Option Addr) (n n2 c1 c2 B : Nat) (l : List Int) (hn : l.length = n) (hn2 : l.length = n2) (hmax : n ≤ 1000000) (hb : Bs l) (w : World) (hr : RB w B A l) (hr2 : RB w B A2 l) (hB : B ≤ w.heap.size) :
    Calls Try.prog 20 #[.agg #[.int .u32 s.fr, .int .i64 s.fp, .int .u32 s.to, .int .i64 s.tp, .int .u32 s.seq, .int .u32 s.ack, .int .i64 s.fl, .int .i64 s.win, .int .i64 s.mss, .int .i64 s.sc, .slice A n c1], .agg #[.int .u32 s.fr, .int .i64 s.fp, .int .u32 s.to, .int .i64 s.tp, .int .u32 s.seq, .int .u32 s.ack, .int .i64 s.fl, .int .i64 s.win, .int .i64 s.mss, .int .i64 s.sc, .slice A2 n2 c2]] w fun e w' => e = .returned (.bool true) ∧ Below w.heap.size w w' ∧ w.heap.size < w'.heap.size := by
  have HN := Lib.hid hn
  have HN2 := Lib.hid hn2
  obtain ⟨W, hW⟩ : ∃ W, (w.alloc (.cells #[.int .u32 s.fr, .int .i64 s.fp, .int .u32 s.to, .int .i64 s.tp, .int .u32 s.seq, .int .u32 s.ack, .int .i64 s.fl, .int .i64 s.win, .int .i64 s.mss, .int .i64 s.sc, .slice A n c1] 26)).alloc (.cells #[.int .u32 s.fr, .int .i64 s.fp, .int .u32 s.to, .int .i64 s.tp, .int .u32 s.seq, .int .u32 s.ack, .int .i64 s.fl, .int .i64 s.win, .int .i64 s.mss, .int .i64 s.sc, .slice A2 n2 c2] 26) = W := ⟨_, rfl⟩
  have hBW : Below w.heap.size w W := by rw [← hW]; exact ((Below.refl _ _).alloc (Nat.le_refl _) _).alloc (by simp) _
  have hz : w.heap.size < W.heap.size := by rw [← hW]; simp; omega
  have ha : RB W B A l := Rw.below hr (hBW.mono hB)
  have ha2 : RB W B A2 l := Rw.below hr2 (hBW.mono hB)
  have hm2 : n2 ≤ 1000000 := by omega
  have HW := Lib.hid hW
  clear hW hn hn2
  go_enter Try.func20, Try.ntmps20
  go_wp2_with fail
  rw [HW.out]
  refine (same_any A A2 n c1 n2 c2 _ _ l l HN.out HN2.out (by omega) (by omega) hb hb _ ha ha2).mono ?_
  rintro e w' ⟨rfl, k, rfl⟩
  go_wp2
  go_ret
  exact ⟨rfl, bel_drewN hBW k, hz⟩
end Go.Proofs.Ytifeomdmbjinoaa
