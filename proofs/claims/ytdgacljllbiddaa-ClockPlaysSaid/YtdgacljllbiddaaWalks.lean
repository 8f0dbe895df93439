/- Proved: what the methods of clock.Clock and of its reference do, each by its walk. Conditions: the clock is a block of the caller's own, its numbers within their bounds. -/
import Derived.Test.YtdgacljllbiddaaRows
import Derived.Test.YtdgacljllbiddaaLib
import Derived.Deep.QuietTactic
import Derived.BigQuiet
import Derived.StillTailTactics
set_option linter.unusedVariables false
namespace Go.Proofs.Ytdgacljllbiddaa
open Go.RowKit

/-- A clock at block g of type T: what it has seen. -/
def Ck (T : TypeId) (w : World) (g : Nat) (s : Bool) (sm vy bk : Int) : Prop := Bk w g T #[.bool s, .int .i64 sm, .int .i64 vy, .int .i64 bk]
theorem Ck.eq {T : TypeId} {w : World} {g : Nat} {s s' : Bool} {a a' b b' c c' : Int} (h : Ck T w g s a b c) (h0 : s = s') (h1 : a = a') (h2 : b = b') (h3 : c = c') : Ck T w g s' a' b' c' := by
  subst h0; subst h1; subst h2; subst h3; exact h
def clampR (t : Int) : Int := max 1 (min 1048576 t)
def smF (s : Bool) (sm t : Int) : Int := match s with | true => sm + (clampR t - sm / 8) | false => 8 * clampR t
def vyF (s : Bool) (sm vy t : Int) : Int := match s with | true => vy + (max (clampR t - sm / 8) (-(clampR t - sm / 8)) - vy / 4) | false => 2 * clampR t
/-- The bounds that every clock keeps. -/
def CkOk (s : Bool) (sm vy : Int) : Prop := match s with | true => 8 ≤ sm ∧ sm ≤ 8388608 ∧ 0 ≤ vy ∧ vy ≤ 4194308 | false => sm = 0 ∧ vy = 0

theorem amount_any (n : Int) (h0 : -9223372036854775807 ≤ n) (h1 : n ≤ 9223372036854775807) (w : World) :
    Calls Try.prog 17 #[.int .i64 n] w fun e w' => e = .returned (.int .i64 (max n (-n))) ∧ w = w' := by
  rcases (by omega : n < 0 ∨ 0 ≤ n) with c | c
  all_goals
    go_enter Try.func17, Try.ntmps17
    go_wp2
    go_ret
    refine ⟨?_, rfl⟩
  · rw [show max n (-n) = -n from by omega]; rfl
  · rw [show max n (-n) = n from by omega]; rfl

theorem sample_new (g : Nat) (bk t : Int) (w : World) (hb : Ck 25 w g false 0 0 bk) :
    Calls Try.prog 8 #[.pointer (some ⟨g, 0, none⟩), .int .i64 t] w fun e w' => e = .returned (.tuple #[]) ∧ Ck 25 w' g true (8 * clampR t) (2 * clampR t) 0 ∧ w.grownBy w' (some g) := by
  have c0 := hb.cell 0
  have c1 := hb.cell 1
  have c2 := hb.cell 2
  have c3 := hb.cell 3
  have f0 := hb.frozen 0
  have f1 := hb.frozen 1
  have f2 := hb.frozen 2
  have f3 := hb.frozen 3
  simp only [List.getElem?_toArray, List.getElem?_cons_zero, List.getElem?_cons_succ] at c0 c1 c2 c3
  rcases (by omega : t ≤ 1 ∨ (1 < t ∧ t < 1048576) ∨ 1048576 ≤ t) with d | ⟨d, d'⟩ | d
  all_goals
    go_enter Try.func8, Try.ntmps8
    go_wp2
    refine bodyPost_ret (results_none rfl _ _ _) rfl ?_
    exact ⟨rfl, Ck.eq ((((hb.set 3 _).set 0 _).set 1 _).set 2 _) rfl (by unfold clampR; omega) (by unfold clampR; omega) rfl,
      grownBy_setCell (grownBy_setCell (grownBy_setCell (grownBy_setCell (World.grownBy.refl w _) (by exact .inl rfl) _) (by exact .inl rfl) _) (by exact .inl rfl) _) (by exact .inl rfl) _⟩

set_option maxHeartbeats 1000000 in
theorem sample_old (g : Nat) (sm vy bk t : Int) (hok : CkOk true sm vy) (w : World) (hb : Ck 25 w g true sm vy bk) :
    Calls Try.prog 8 #[.pointer (some ⟨g, 0, none⟩), .int .i64 t] w fun e w' => e = .returned (.tuple #[]) ∧ Ck 25 w' g true (smF true sm t) (vyF true sm vy t) 0 ∧ w.grownBy w' (some g) := by
  have c0 := hb.cell 0
  have c1 := hb.cell 1
  have c2 := hb.cell 2
  have c3 := hb.cell 3
  have f0 := hb.frozen 0
  have f1 := hb.frozen 1
  have f2 := hb.frozen 2
  have f3 := hb.frozen 3
  simp only [List.getElem?_toArray, List.getElem?_cons_zero, List.getElem?_cons_succ] at c0 c1 c2 c3
  simp only [CkOk] at hok
  obtain ⟨k0, k1, k2, k3⟩ := hok
  rcases (by omega : t ≤ 1 ∨ (1 < t ∧ t < 1048576) ∨ 1048576 ≤ t) with d | ⟨d, d'⟩ | d
  all_goals
    go_enter Try.func8, Try.ntmps8
    go_wp2
    refine wp_region_still_tail 15 (by kernel_rfl) (by kernel_rfl) ?_
    change wpStill _ _ (World.drew _) (fun a' => wpList _ _ _ _ a' (World.drew _)) _ _
    simp only [List.take_succ_cons, List.take_zero, List.drop_succ_cons, List.drop_zero]
    repeat (first | still_step | still_call ((amount_any _ (by omega) (by omega) _).mono (fun e w' h => ⟨h.1, h.2.symm⟩)))
    try refine wpStill_nil ?_
    go_wp2
    go_end0
    refine ⟨rfl, Ck.eq (((hb.set 3 _).set 1 _).drew.set 2 _) rfl ?_ ?_ rfl, ?_⟩
    · simp only [smF, clampR]; omega
    · simp only [vyF, clampR]; omega
    · exact grownBy_setCell (grownBy_drew (grownBy_setCell (grownBy_setCell (World.grownBy.refl w _) (by exact .inl rfl) _) (by exact .inl rfl) _)) (by exact .inl rfl) _
end Go.Proofs.Ytdgacljllbiddaa
