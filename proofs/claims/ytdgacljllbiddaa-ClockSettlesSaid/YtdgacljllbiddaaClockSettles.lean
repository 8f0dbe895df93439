/- Proved: samples that are all one bring it to that one, and to hardly more. Conditions: none, for every input. -/
import Derived.Test.YtdgacljllbiddaaRows
import Derived.WalkKit
import Derived.ProofKit
import Derived.OpenShut
import Derived.ShutString
import Derived.ChangeOld
import Derived.Below
import Derived.SizedLaws
import Derived.Test.YtdgacljllbiddaaKnown
namespace Go.Proofs.Ytdgacljllbiddaa.clockSettles
open Go.ChangeShapes Go.WideShapes Go.ChangeAt Go.RowKit
open Go.ChangeMaps (open_string shut_string)
set_option linter.unusedVariables false

theorem own : ownKnob Try.prog.godebug = none := by kernel_rfl
theorem laidOut : laidOutB Try.prog = true := by kernel_rfl

/-! ### the walk -/
theorem walk (a0 : Int) (w : World) (w0 : (Lit.int .i64 a0).wf = true) :
    Calls Try.prog 4 #[.int .i64 a0] w fun e w' => e = .returned (.bool true) ∧ Below w.heap.size w w' := by
  rcases (by omega : a0 < 1 ∨ 1048576 < a0 ∨ (1 ≤ a0 ∧ a0 ≤ 1048576)) with c | c | ⟨c, c'⟩
  · go_enter Try.func4, Try.ntmps4
    go_wp2_with (go_at_call 7; refine (known_any _).mono ?_; rintro e w' ⟨rfl, hB⟩)
    go_ret
    exact ⟨rfl, hB⟩
  · go_enter Try.func4, Try.ntmps4
    go_wp2_with (go_at_call 7; refine (known_any _).mono ?_; rintro e w' ⟨rfl, hB⟩)
    go_ret
    exact ⟨rfl, hB⟩
  go_enter Try.func4, Try.ntmps4
  go_wp2
  have hb := new_ck 25 w
  have hB := (Below.refl w.heap.size w).alloc (Nat.le_refl _) (.cells #[.bool false, .int .i64 0, .int .i64 0, .int .i64 0] 25)
  go_loopw [4] (fun i wr => ∃ (k : Nat) (s : Bool) (sm vy : Int), k ≤ 100 ∧ i = .int .i64 k ∧ Hid (Settle a0 k s sm vy) ∧ CkOk s sm vy ∧ Ck 25 wr w.heap.size s sm vy ((0 : Nat) : Int) ∧ Below w.heap.size w wr) (fun i _ => 100 - (intOf i).toNat)
  case atStart => exact ⟨0, false, 0, 0, by omega, rfl, Lib.hid (.inl ⟨rfl, rfl, rfl, rfl⟩), CkOk.zero, hb, hB⟩
  case round =>
    obtain ⟨k, s, sm, vy, hk, rfl, hS, hok, hb1, hB1⟩ := hrel
    rcases (by omega : k < 100 ∨ k = 100) with d | rfl
    · go_wp2_with (go_at_call 8; refine (sample_any _ s sm vy _ a0 hok _ hb1).mono ?_; rintro e w' ⟨rfl, hb2, hg2⟩)
      go_roundw
      case rel => exact ⟨k + 1, _, _, _, by omega, by go_num, Lib.hid (hS.out.next c c'), hok.sample a0, hb2, bel_grown hB1 hg2 (Nat.le_refl _) (Nat.le_of_lt hb1.lt)⟩
      case measure => simp [intOf]; omega
    · obtain ⟨rfl, rfl, h0, h1⟩ : s = true ∧ sm = 8 * a0 ∧ 0 ≤ vy ∧ vy < 4 := by
        rcases hS.out with ⟨h, _⟩ | ⟨j, hj, hs, hm, h0, h1⟩
        · omega
        · have := unrest_end
          rw [show j = 99 from by omega] at h1
          exact ⟨hs, hm, h0, by omega⟩
      go_wp2_with fail
      refine (seen_any _ true _ vy _ _ hb1).mono ?_
      rintro e w' ⟨rfl, k2, rfl⟩
      go_wp2_with fail
      have hwt := wait_any _ true _ vy 0 hok (by omega) _ (hb1.drewN k2)
      have hq0 : dblN 0 (baseF true (8 * a0) vy) = max 10 (min 600 (a0 + max 1 vy)) := by rw [dblN, baseF]; omega
      obtain ⟨q, hq⟩ : ∃ q, dblN 0 (baseF true (8 * a0) vy) = q := ⟨_, rfl⟩
      rw [hq] at hq0 hwt
      have hB2 := bel_drewN hB1 k2
      rcases (by omega : (a0 + 4 ≤ 10 ∧ q ≤ 10) ∨ (10 < a0 + 4 ∧ a0 + 4 < 600 ∧ q ≤ a0 + 4) ∨ (600 < a0 + 4 ∧ q ≤ 600) ∨ (a0 + 4 = 600 ∧ q ≤ 600)) with ⟨e1, e2⟩ | ⟨e1, e3, e2⟩ | ⟨e1, e2⟩ | ⟨e1, e2⟩
      case inr.inr.inr => 
        obtain rfl : a0 = 596 := by omega
        clear hq0 hq
        refine hwt.mono ?_
        rintro e w' ⟨rfl, k3, rfl⟩
        go_wp2_with (go_at_call 7; refine (known_any _).mono ?_; rintro e w' ⟨rfl, hB3⟩)
        go_ret
        exact ⟨rfl, (bel_drewN hB1 (k2 + k3)).trans (hB3.mono (Nat.le_of_lt hb1.lt))⟩
      all_goals
        clear hq0 hq
        refine hwt.mono ?_
        rintro e w' ⟨rfl, k3, rfl⟩
        go_wp2_with (go_at_call 7; refine (known_any _).mono ?_; rintro e w' ⟨rfl, hB3⟩)
        go_ret
        exact ⟨rfl, (bel_drewN hB1 (k2 + k3)).trans (hB3.mono (Nat.le_of_lt hb1.lt))⟩

/-! ### the row -/
set_option maxRecDepth 100000 in
theorem lifted (os : Os) (started : os.Started) (H : Type) (enc : TypeId × Value → H) :
    ReturnsInHanded {} Try.checked os 4 .any (Rows.clockSettlesSpec.pre6 enc Try.prog Try.f4 Rows.clockSettlesRow.domain false) (Rows.clockSettlesSpec.post enc Try.prog Try.f4 false true false false) := by
  refine returnsInHanded_of_change_sized (C := Try.checked) own started (by kernel_rfl) Try.func4
    (ChangeSpec.witness6 (enc := enc) (C := Try.checked) false ⟨#[], #[.int .i64 0], []⟩ 8 (by kernel_rfl) (by kernel_rfl) (by kernel_rfl) (by kernel_rfl)) ?_
  intro W base args ds gs before hval0 hW hcnd hsz0 _
  have hval : ∀ (j : Nat) t v, Try.f4.params[j]? = some t → args[j]? = some v → Value.okWide Try.prog W .any base t v := hval0
  have hsz : (DataW.weightsEach Try.prog (Try.f4.params.toList ++ Rows.clockSettlesSpec.plain.varTypes Try.prog) (ds ++ gs)).all (· ≤ reachBytes) = true := hsz0
  clear hsz0
  have hW' := hW
  obtain ⟨p, q, hA0, hV, rfl, hfz, hnd⟩ := hW
  have hA : DataW.TrodAll enc Try.prog W 0 (fun _ => true) true Try.f4.params.toList args.toList ds p := hA0
  rw [Try.params4] at hA hval hsz
  obtain ⟨v0, vs0, d0, ds0, p0, q0, hargs, rfl, rfl, h0, r0⟩ := trodAll_cons hA
  obtain ⟨rfl, rfl, rfl⟩ := trodAll_nil r0
  obtain rfl : args = #[v0] := by cases args; simp_all
  obtain ⟨rfl, rfl⟩ := trodVars_none hV
  obtain ⟨a0, rfl, rfl, rfl, w0⟩ := open_int Try.underlying3 (hval 0 3 v0 rfl rfl) h0
  clear hA0 hval0
  refine (walk a0 W w0).mono fun e W' ⟨he, bel⟩ => ?_
  subst he
  exact ⟨_, rfl, _, _, _, [], _, [], hW', trodAll_mk1 (shut_bool Try.underlying4 _), (trodAll_cons_mk (shut_int Try.underlying3 w0) trodAll_mk0), rfl, bel.frame _, fun h => by cases h⟩

theorem over : Rows.clockSettlesRow.holds Try.pinned (OpenSpec.ofChange Rows.clockSettlesSpec) :=
  OpenClaim.holds_of_wide 4 Try.f4 rfl rfl rfl rfl rfl rfl rfl ⟨rfl, rfl, rfl, rfl, rfl⟩ rfl rfl rfl rfl rfl (by kernel_rfl) Try.func4 (by kernel_rfl)
    (of_decide_eq_true (by kernel_rfl)) (by unfold Func.isWrapper; first | (rw [if_pos (by decide +kernel)]; kernel_rfl) | (rw [if_neg (by decide +kernel)]; exact ⟨rfl, rfl⟩))
    (fun os started H enc _ => lifted os started H enc)

theorem proved : Rows.ClockSettlesSaid := over
#print axioms proved
end Go.Proofs.Ytdgacljllbiddaa.clockSettles
