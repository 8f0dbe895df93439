/- Proved: what a Sample does to any clock, what the methods of a nil clock do, and the law's own two samples. Conditions: none but the clocks' bounds. -/
import Derived.Test.YtdgacljllbiddaaWait
set_option linter.unusedVariables false
namespace Go.Proofs.Ytdgacljllbiddaa
open Go.RowKit

theorem bel_grown {B g : Nat} {a w w' : World} (h : Below B a w) (hg : w.grownBy w' (some g)) (hB : B ≤ g) (hs : B ≤ w.heap.size) : Below B a w' :=
  ⟨hg.os.trans h.os, hg.tape.trans h.tape, hg.output.trans h.output, Nat.le_trans h.size hg.size, fun i hi => (hg.block i (by omega) (by intro e; cases e; omega)).trans (h.block i hi)⟩

theorem CkOk.sample {s : Bool} {sm vy : Int} (h : CkOk s sm vy) (t : Int) : CkOk true (smF s sm t) (vyF s sm vy t) := by
  cases s
  · simp only [CkOk, smF, vyF, clampR] at h ⊢; omega
  · simp only [CkOk, smF, vyF, clampR] at h ⊢; omega
theorem CkOk.zero : CkOk false 0 0 := ⟨rfl, rfl⟩

theorem sample_any (g : Nat) (s : Bool) (sm vy bk t : Int) (hok : CkOk s sm vy) (w : World) (hb : Ck 25 w g s sm vy bk) :
    Calls Try.prog 8 #[.pointer (some ⟨g, 0, none⟩), .int .i64 t] w fun e w' => e = .returned (.tuple #[]) ∧ Ck 25 w' g true (smF s sm t) (vyF s sm vy t) 0 ∧ w.grownBy w' (some g) := by
  cases s
  case true => exact sample_old g sm vy bk t hok w hb
  case false =>
    obtain ⟨rfl, rfl⟩ := hok
    exact sample_new g bk t w hb
theorem rsample_any (g : Nat) (s : Bool) (sm vy bk t : Int) (hok : CkOk s sm vy) (w : World) (hb : Ck 35 w g s sm vy bk) :
    Calls Try.prog 13 #[.pointer (some ⟨g, 0, none⟩), .int .i64 t] w fun e w' => e = .returned (.tuple #[]) ∧ Ck 35 w' g true (smF s sm t) (vyF s sm vy t) 0 ∧ w.grownBy w' (some g) := by
  cases s
  case true => exact rsample_old g sm vy bk t hok w hb
  case false =>
    obtain ⟨rfl, rfl⟩ := hok
    exact rsample_new g bk t w hb

/-! A NIL CLOCK -/
theorem nsample_any (t : Int) (w : World) :
    Calls Try.prog 8 #[.pointer none, .int .i64 t] w fun e w' => e = .returned (.tuple #[]) ∧ w = w' := by
  go_enter Try.func8, Try.ntmps8
  go_wp2
  refine bodyPost_ret (results_none rfl _ _ _) rfl ?_
  exact ⟨rfl, rfl⟩
theorem nwait_any (w : World) :
    Calls Try.prog 9 #[.pointer none] w fun e w' => e = .returned (.int .i64 30) ∧ w = w' := by
  go_enter Try.func9, Try.ntmps9
  go_wp2
  go_ret
  exact ⟨rfl, rfl⟩
theorem nback_any (w : World) :
    Calls Try.prog 10 #[.pointer none] w fun e w' => e = .returned (.tuple #[]) ∧ w = w' := by
  go_enter Try.func10, Try.ntmps10
  go_wp2
  go_end0
  exact ⟨rfl, rfl⟩
theorem ncalm_any (w : World) :
    Calls Try.prog 11 #[.pointer none] w fun e w' => e = .returned (.tuple #[]) ∧ w = w' := by
  go_enter Try.func11, Try.ntmps11
  go_wp2
  go_end0
  exact ⟨rfl, rfl⟩
theorem nseen_any (w : World) :
    Calls Try.prog 12 #[.pointer none] w fun e w' => e = .returned (.tuple #[.int .i64 0, .int .i64 0]) ∧ w = w' := by
  go_enter Try.func12, Try.ntmps12
  go_wp2
  go_ret2
  exact ⟨rfl, rfl⟩

theorem new_ck (T : TypeId) (w : World) : Ck T (w.alloc (.cells #[.bool false, .int .i64 0, .int .i64 0, .int .i64 0] T)) w.heap.size false 0 0 ((0 : Nat) : Int) := Bk.new w T _

theorem known_any (w : World) :
    Calls Try.prog 7 #[] w fun e w' => e = .returned (.bool true) ∧ Below w.heap.size w w' := by
  go_enter Try.func7, Try.ntmps7
  go_wp2_with fail
  have hb := new_ck 25 w
  have hB := (Below.refl w.heap.size w).alloc (Nat.le_refl _) (.cells #[.bool false, .int .i64 0, .int .i64 0, .int .i64 0] 25)
  have hs := hb.lt
  refine (wait_any _ false 0 0 0 CkOk.zero (by omega) _ hb).mono ?_
  rintro e w' ⟨rfl, k1, rfl⟩
  go_wp2_with fail
  refine (sample_any _ false 0 0 0 20 CkOk.zero _ (hb.drewN k1)).mono ?_
  rintro e w2 ⟨rfl, hb2, hg2⟩
  have hB2 := bel_grown (bel_drewN hB k1) hg2 (Nat.le_refl _) (by have := (hb.drewN k1).lt; omega)
  go_wp2_with fail
  refine (wait_any _ true 160 40 0 (by simp only [CkOk]; omega) (by omega) _ hb2).mono ?_
  rintro e w3 ⟨rfl, k3, rfl⟩
  go_wp2_with fail
  refine (back_any _ true 160 40 0 (by simp only [CkOk]; omega) (by omega) _ (hb2.drewN k3)).mono ?_
  rintro e w4 ⟨rfl, hb4, hg4⟩
  have hB4 := bel_grown (bel_drewN hB2 k3) hg4 (Nat.le_refl _) (by have := (hb2.drewN k3).lt; omega)
  go_wp2_with fail
  refine (wait_any _ true 160 40 1 (by simp only [CkOk]; omega) (by omega) _ hb4).mono ?_
  rintro e w5 ⟨rfl, k5, rfl⟩
  go_wp2
  go_ret
  exact ⟨rfl, bel_drewN hB4 k5⟩

theorem dblN_six' {x : Int} (h : 10 ≤ x ∧ x ≤ 600) {k : Nat} (hk : 6 ≤ k) : dblN k x = 600 := dblN_top' (dblN_six h) hk
theorem backF_dbl {x : Int} (h : 10 ≤ x ∧ x ≤ 600) {bk : Nat} : dblN (backF bk x) x = min 600 (2 * dblN bk x) := by
  have := dblN_bd h bk
  unfold backF
  split
  · rfl
  · omega
theorem backF_le {x : Int} (h : 10 ≤ x ∧ x ≤ 600) {bk : Nat} (hb : bk ≤ 6) : backF bk x ≤ 6 := by
  unfold backF
  split
  · have := dblN_lt h ‹_›; omega
  · exact hb
theorem rback_dbl {x : Int} (h : 10 ≤ x ∧ x ≤ 600) {bk : Nat} : dblN (min (bk + 1) 64) x = min 600 (2 * dblN bk x) := by
  have := dblN_bd h bk
  rcases Nat.lt_or_ge bk 64 with c | c
  · rw [show min (bk + 1) 64 = bk + 1 from by omega]; rfl
  · rw [show min (bk + 1) 64 = 64 from by omega, dblN_six' h (by omega), dblN_six' h (show 6 ≤ bk by omega)]; omega
theorem wait_q (g : Nat) (s : Bool) (sm vy : Int) (bk : Nat) (x q : Int) (hx : Hid (baseF s sm vy = x)) (hq : Hid (dblN bk x = q)) (hok : CkOk s sm vy) (hbk : bk ≤ 6) (w : World) (hb : Ck 25 w g s sm vy bk) :
    Calls Try.prog 9 #[.pointer (some ⟨g, 0, none⟩)] w fun e w' => e = .returned (.int .i64 q) ∧ ∃ k, w' = w.drewN k := by
  have := wait_any g s sm vy bk hok (by omega) w hb
  rwa [hx.out, hq.out] at this
theorem rwait_q (g : Nat) (s : Bool) (sm vy : Int) (bk : Nat) (x q : Int) (hx : Hid (baseF s sm vy = x)) (hq : Hid (dblN bk x = q)) (hok : CkOk s sm vy) (hbk : bk ≤ 64) (w : World) (hb : Ck 35 w g s sm vy bk) :
    Calls Try.prog 16 #[.pointer (some ⟨g, 0, none⟩)] w fun e w' => e = .returned (.int .i64 q) ∧ ∃ k, w' = w.drewN k := by
  have := rwait_any g s sm vy bk hok (by omega) w hb
  rwa [hx.out, hq.out] at this
theorem back_x (g : Nat) (s : Bool) (sm vy : Int) (bk : Nat) (x : Int) (hx : Hid (baseF s sm vy = x)) (hok : CkOk s sm vy) (hbk : bk ≤ 6) (w : World) (hb : Ck 25 w g s sm vy bk) :
    Calls Try.prog 10 #[.pointer (some ⟨g, 0, none⟩)] w fun e w' => e = .returned (.tuple #[]) ∧ Ck 25 w' g s sm vy (backF bk x) ∧ w.grownBy w' (some g) := by
  have := back_any g s sm vy bk hok hbk w hb
  rwa [hx.out] at this

/-- What k samples of one kind leave of the unrest, at most. -/
def unrest : Nat → Int
  | 0 => 2097152
  | k + 1 => unrest k - unrest k / 4
theorem unrest_end : unrest 99 < 4 := of_decide_eq_true (by kernel_rfl)
/-- The clock's numbers ahead of round k of samples that are all r. -/
def Settle (r : Int) (k : Nat) (s : Bool) (sm vy : Int) : Prop :=
  (k = 0 ∧ s = false ∧ sm = 0 ∧ vy = 0) ∨ (∃ j, k = j + 1 ∧ s = true ∧ sm = 8 * r ∧ 0 ≤ vy ∧ vy ≤ unrest j)
theorem Settle.next {r : Int} {k : Nat} {s : Bool} {sm vy : Int} (h : Settle r k s sm vy) (hr : 1 ≤ r) (hr' : r ≤ 1048576) : Settle r (k + 1) true (smF s sm r) (vyF s sm vy r) := by
  rcases h with ⟨rfl, rfl, rfl, rfl⟩ | ⟨j, rfl, rfl, rfl, h0, h1⟩
  · exact .inr ⟨0, rfl, rfl, by simp only [smF, clampR]; omega, by simp only [vyF, clampR]; omega, by simp only [vyF, clampR, unrest]; omega⟩
  · exact .inr ⟨j + 1, rfl, rfl, by simp only [smF, clampR]; omega, by simp only [vyF, clampR]; omega, by simp only [vyF, clampR, unrest]; omega⟩
end Go.Proofs.Ytdgacljllbiddaa
