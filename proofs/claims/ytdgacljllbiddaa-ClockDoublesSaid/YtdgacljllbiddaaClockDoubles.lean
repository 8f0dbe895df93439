/- Proved: each Back doubles, up to the most, and Calm takes all of them back. Conditions: none, for every input. -/
import Derived.Test.YtdgacljllbiddaaRows
import Derived.WalkKit
import Derived.ProofKit
import Derived.OpenShut
import Derived.ShutString
import Derived.ChangeOld
import Derived.Below
import Derived.SizedLaws
import Derived.Test.YtdgacljllbiddaaKnown
namespace Go.Proofs.Ytdgacljllbiddaa.clockDoubles
open Go.ChangeShapes Go.WideShapes Go.ChangeAt Go.RowKit
open Go.ChangeMaps (open_string shut_string)
set_option linter.unusedVariables false

theorem own : ownKnob Try.prog.godebug = none := by kernel_rfl
theorem laidOut : laidOutB Try.prog = true := by kernel_rfl

/-! ### the walk -/
theorem walk (a0 : Int) (a1 : Int) (w : World) (w0 : (Lit.int .i64 a0).wf = true) (w1 : (Lit.int .i64 a1).wf = true) :
    Calls Try.prog 3 #[.int .i64 a0, .int .i64 a1] w fun e w' => e = .returned (.bool true) ∧ Below w.heap.size w w' := by
  rcases (by omega : a1 < 0 ∨ 100 < a1 ∨ (0 ≤ a1 ∧ a1 ≤ 100)) with c | c | ⟨c, c'⟩
  · go_enter Try.func3, Try.ntmps3
    go_wp2_with (go_at_call 7; refine (known_any _).mono ?_; rintro e w' ⟨rfl, hB⟩)
    go_ret
    exact ⟨rfl, hB⟩
  · go_enter Try.func3, Try.ntmps3
    go_wp2_with (go_at_call 7; refine (known_any _).mono ?_; rintro e w' ⟨rfl, hB⟩)
    go_ret
    exact ⟨rfl, hB⟩
  obtain ⟨n, rfl⟩ := Int.eq_ofNat_of_zero_le c
  have hn : n ≤ 100 := by omega
  clear c c'
  go_enter Try.func3, Try.ntmps3
  go_wp2_with fail
  have hb := new_ck 25 w
  have hB := (Below.refl w.heap.size w).alloc (Nat.le_refl _) (.cells #[.bool false, .int .i64 0, .int .i64 0, .int .i64 0] 25)
  refine (sample_any _ false 0 0 0 a0 CkOk.zero _ hb).mono ?_
  rintro e w1 ⟨rfl, hb1, hg1⟩
  have hB1 := bel_grown hB hg1 (Nat.le_refl _) (Nat.le_of_lt hb.lt)
  have hok := CkOk.zero.sample a0
  generalize smF false 0 a0 = sm at hb1 hok
  generalize vyF false 0 0 a0 = vy at hb1 hok
  have hx := baseF_bd true sm vy
  obtain ⟨x, ex⟩ : ∃ x, baseF true sm vy = x := ⟨_, rfl⟩
  rw [ex] at hx
  have EX := Lib.hid ex
  clear ex hb hB hg1
  go_wp2_with fail
  refine (wait_q _ true sm vy 0 x x EX (Lib.hid rfl) hok (by omega) _ hb1).mono ?_
  rintro e w2 ⟨rfl, k2, rfl⟩
  go_wp2
  go_loopw [7, 8] (fun v i wr => ∃ (k bk : Nat) (q : Int), k ≤ n ∧ i = .int .i64 k ∧ v = .int .i64 q ∧ Hid (dblN bk x = q) ∧ 10 ≤ q ∧ q ≤ 600 ∧ bk ≤ 6 ∧ Ck 25 wr w.heap.size true sm vy bk ∧ Below w.heap.size w wr) (fun _ i _ => n - (intOf i).toNat)
  case atStart => exact ⟨0, 0, x, by omega, rfl, rfl, Lib.hid rfl, by omega, by omega, by omega, hb1.drewN k2, bel_drewN hB1 k2⟩
  case round =>
    clear hb1 hB1
    obtain ⟨k, bk, q, hk, rfl, rfl, Q, q0, q1, hbk, hb1, hB1⟩ := hrel
    rcases (by omega : k < n ∨ n = k) with d | rfl
    · have Q2 : Hid (dblN (backF bk x) x = min 600 (2 * q)) := Lib.hid (by rw [backF_dbl hx, Q.out])
      have hbk2 : backF bk x ≤ 6 := backF_le hx hbk
      rcases (by omega : 2 * q < 600 ∨ q = 300 ∨ 600 < 2 * q) with e0 | rfl | e0
      · go_wp2_with fail
        refine (back_x _ true sm vy bk x EX hok hbk _ hb1).mono ?_
        rintro e w3 ⟨rfl, hb3, hg3⟩
        have hB3 := bel_grown hB1 hg3 (Nat.le_refl _) (Nat.le_of_lt hb1.lt)
        go_wp2_with fail
        refine (wait_q _ true sm vy _ x (2 * q) EX (Lib.hid (by rw [Q2.out]; omega)) hok hbk2 _ hb3).mono ?_
        rintro e w4 ⟨rfl, k4, rfl⟩
        go_wp2
        go_roundw
        case rel => exact ⟨k + 1, backF bk x, 2 * q, by omega, by go_num, rfl, Lib.hid (by rw [Q2.out]; omega), by omega, by omega, hbk2, hb3.drewN k4, bel_drewN hB3 k4⟩
        case measure => simp [intOf]; omega
      all_goals
        go_wp2_with fail
        refine (back_x _ true sm vy bk x EX hok hbk _ hb1).mono ?_
        rintro e w3 ⟨rfl, hb3, hg3⟩
        have hB3 := bel_grown hB1 hg3 (Nat.le_refl _) (Nat.le_of_lt hb1.lt)
        go_wp2_with fail
        refine (wait_q _ true sm vy _ x 600 EX (Lib.hid (by rw [Q2.out]; omega)) hok hbk2 _ hb3).mono ?_
        rintro e w4 ⟨rfl, k4, rfl⟩
        go_wp2
        go_roundw
        case rel => exact ⟨k + 1, backF bk x, 600, by omega, by go_num, rfl, Lib.hid (by rw [Q2.out]; omega), by omega, by omega, hbk2, hb3.drewN k4, bel_drewN hB3 k4⟩
        case measure => simp [intOf]; omega
    · go_wp2_with fail
      refine (calm_any _ true sm vy _ _ hb1).mono ?_
      rintro e w3 ⟨rfl, hb3, hg3⟩
      have hB3 := bel_grown hB1 hg3 (Nat.le_refl _) (Nat.le_of_lt hb1.lt)
      go_wp2_with fail
      refine (wait_q _ true sm vy 0 x x EX (Lib.hid rfl) hok (by omega) _ hb3).mono ?_
      rintro e w4 ⟨rfl, k4, rfl⟩
      go_wp2_with (go_at_call 7; refine (known_any _).mono ?_; rintro e w' ⟨rfl, hB5⟩)
      go_ret
      exact ⟨rfl, (bel_drewN hB3 k4).trans (hB5.mono (Nat.le_of_lt hb3.lt))⟩

/-! ### the row -/
set_option maxRecDepth 100000 in
theorem lifted (os : Os) (started : os.Started) (H : Type) (enc : TypeId × Value → H) :
    ReturnsInHanded {} Try.checked os 3 .any (Rows.clockDoublesSpec.pre6 enc Try.prog Try.f3 Rows.clockDoublesRow.domain false) (Rows.clockDoublesSpec.post enc Try.prog Try.f3 false true false false) := by
  refine returnsInHanded_of_change_sized (C := Try.checked) own started (by kernel_rfl) Try.func3
    (ChangeSpec.witness6 (enc := enc) (C := Try.checked) false ⟨#[], #[.int .i64 0, .int .i64 0], []⟩ 8 (by kernel_rfl) (by kernel_rfl) (by kernel_rfl) (by kernel_rfl)) ?_
  intro W base args ds gs before hval0 hW hcnd hsz0 _
  have hval : ∀ (j : Nat) t v, Try.f3.params[j]? = some t → args[j]? = some v → Value.okWide Try.prog W .any base t v := hval0
  have hsz : (DataW.weightsEach Try.prog (Try.f3.params.toList ++ Rows.clockDoublesSpec.plain.varTypes Try.prog) (ds ++ gs)).all (· ≤ reachBytes) = true := hsz0
  clear hsz0
  have hW' := hW
  obtain ⟨p, q, hA0, hV, rfl, hfz, hnd⟩ := hW
  have hA : DataW.TrodAll enc Try.prog W 0 (fun _ => true) true Try.f3.params.toList args.toList ds p := hA0
  rw [Try.params3] at hA hval hsz
  obtain ⟨v0, vs0, d0, ds0, p0, q0, hargs, rfl, rfl, h0, r0⟩ := trodAll_cons hA
  obtain ⟨v1, vs1, d1, ds1, p1, q1, rfl, rfl, rfl, h1, r1⟩ := trodAll_cons r0
  obtain ⟨rfl, rfl, rfl⟩ := trodAll_nil r1
  obtain rfl : args = #[v0, v1] := by cases args; simp_all
  obtain ⟨rfl, rfl⟩ := trodVars_none hV
  obtain ⟨a0, rfl, rfl, rfl, w0⟩ := open_int Try.underlying3 (hval 0 3 v0 rfl rfl) h0
  obtain ⟨a1, rfl, rfl, rfl, w1⟩ := open_int Try.underlying3 (hval 1 3 v1 rfl rfl) h1
  clear hA0 hval0
  refine (walk a0 a1 W w0 w1).mono fun e W' ⟨he, bel⟩ => ?_
  subst he
  exact ⟨_, rfl, _, _, _, [], _, [], hW', trodAll_mk1 (shut_bool Try.underlying4 _), (trodAll_cons_mk (shut_int Try.underlying3 w0) (trodAll_cons_mk (shut_int Try.underlying3 w1) trodAll_mk0)), rfl, bel.frame _, fun h => by cases h⟩

theorem over : Rows.clockDoublesRow.holds Try.pinned (OpenSpec.ofChange Rows.clockDoublesSpec) :=
  OpenClaim.holds_of_wide 3 Try.f3 rfl rfl rfl rfl rfl rfl rfl ⟨rfl, rfl, rfl, rfl, rfl⟩ rfl rfl rfl rfl rfl (by kernel_rfl) Try.func3 (by kernel_rfl)
    (of_decide_eq_true (by kernel_rfl)) (by unfold Func.isWrapper; first | (rw [if_pos (by decide +kernel)]; kernel_rfl) | (rw [if_neg (by decide +kernel)]; exact ⟨rfl, rfl⟩))
    (fun os started H enc _ => lifted os started H enc)

theorem proved : Rows.ClockDoublesSaid := over
#print axioms proved
end Go.Proofs.Ytdgacljllbiddaa.clockDoubles
