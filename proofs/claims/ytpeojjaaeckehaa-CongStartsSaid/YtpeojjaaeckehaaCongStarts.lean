/- Proved: while nothing is lost, each acknowledgement of a segment makes room for one more, up to the bound. Conditions: none, for every input. -/
import Derived.Test.YtpeojjaaeckehaaRows
import Derived.WalkKit
import Derived.ProofKit
import Derived.OpenShut
import Derived.ShutString
import Derived.ChangeOld
import Derived.Below
import Derived.SizedLaws
import Derived.Test.YtpeojjaaeckehaaCongK
namespace Go.Proofs.Ytpeojjaaeckehaa.congStarts
open Go.ChangeShapes Go.WideShapes Go.ChangeAt Go.RowKit
open Go.ChangeMaps (open_string shut_string)
set_option linter.unusedVariables false

theorem own : ownKnob Try.prog.godebug = none := by kernel_rfl
theorem laidOut : laidOutB Try.prog = true := by kernel_rfl

/-! ### the walk -/
set_option maxHeartbeats 1000000 in
theorem walk (a0 : Int) (a1 : Int) (w : World) (w0 : (Lit.int .i64 a0).wf = true) (w1 : (Lit.int .i64 a1).wf = true) :
    Calls Try.prog 3 #[.int .i64 a0, .int .i64 a1] w fun e w' => e = .returned (.bool true) ∧ Below w.heap.size w w' := by
  by_cases hbad : a0 < 1 ∨ 3000 < a0 ∨ a1 < 0 ∨ 2000 < a1
  · rcases (by omega : a0 < 1 ∨ (1 ≤ a0 ∧ 3000 < a0) ∨ (1 ≤ a0 ∧ a0 ≤ 3000 ∧ a1 < 0) ∨ (1 ≤ a0 ∧ a0 ≤ 3000 ∧ 0 ≤ a1 ∧ 2000 < a1)) with c | ⟨c, d⟩ | ⟨c, d, e⟩ | ⟨c, d, e, f⟩
    all_goals
      go_enter Try.func3, Try.ntmps3
      go_wp2_with (go_at_call 7; refine (known_any _).mono ?_; rintro e w' ⟨rfl, hB⟩)
      go_ret
      exact ⟨rfl, hB⟩
  obtain ⟨m0, m1, l0, l1⟩ : 1 ≤ a0 ∧ a0 ≤ 3000 ∧ 0 ≤ a1 ∧ a1 ≤ 2000 := by omega
  clear hbad
  obtain ⟨n, rfl⟩ := Int.eq_ofNat_of_zero_le l0
  go_enter Try.func3, Try.ntmps3
  go_wp2_with fail
  refine (new_ok a0 m0 (by omega) _).mono ?_
  rintro e w1 ⟨rfl, hb1, hB1⟩
  have hz1 := Bk.lt hb1
  go_wp2
  go_loopw [7] (fun i wr => ∃ (k : Nat) (wi sa : Int), k ≤ n ∧ i = .int .i64 k ∧ a0 ≤ wi ∧ wi ≤ 6000 + 3000 * k ∧ 0 ≤ sa ∧ sa ≤ 0 ∧ Co wr w.heap.size a0 ⟨wi, 65535, sa, 0, false⟩ ∧ Below w.heap.size w wr) (fun i _ => n - (intOf i).toNat)
  case atStart => exact ⟨0, 2 * a0, 0, by omega, rfl, by omega, by omega, by omega, by omega, hb1, hB1⟩
  case round =>
    clear hb1 hB1
    obtain ⟨k, wi, sa, hk, rfl, w0, w1', s0, s1, hb, hB⟩ := hrel
    have hz := Bk.lt hb
    rcases (by omega : k < n ∨ n = k) with d | rfl
    · have kk : CsOk a0 ⟨wi, 65535, sa, 0, false⟩ := ⟨m0, by omega, w0, by show wi ≤ 16777216; omega, by show a0 ≤ (65535 : Int); omega, by show (65535 : Int) ≤ 4611686018427387903; omega, s0, by show sa ≤ 1000; omega, by show (0 : Int) ≤ 0; omega, by show (0 : Int) ≤ 4294967295; omega⟩
      have KK := Lib.hid kk
      have hq0 : 0 ≤ a0 * a0 / wi := Int.ediv_nonneg (Int.mul_nonneg (by omega) (by omega)) (by omega)
      have hq1 : a0 * a0 / wi ≤ a0 := by
        have h1 : a0 * a0 ≤ a0 * wi := Int.mul_le_mul_of_nonneg_left w0 (by omega)
        exact Int.ediv_le_of_le_mul (by omega) h1
      have hgw : gw a0 wi 65535 (max 0 a0) = if wi < 65535 then min (wi + min (max 0 a0) a0) 16777216 else min (wi + max 1 (a0 * a0 / wi)) 16777216 := rfl
      obtain ⟨x, hx⟩ : ∃ x, gw a0 wi 65535 (max 0 a0) = x := ⟨_, rfl⟩
      have hx2 : (wi < 65535 ∧ x = wi + a0) ∨ (65535 ≤ wi ∧ wi + 1 ≤ x ∧ x ≤ wi + a0) := by
        rw [← hx, hgw]
        generalize a0 * a0 / wi = q at hq0 hq1
        split <;> omega
      have hS : ∀ una, ackS a0 a0 una ⟨wi, 65535, sa, 0, false⟩ = ⟨x, 65535, 0, 0, false⟩ := fun una => by simp only [ackS]; rw [hx]
      have HS := Lib.hid hS
      have hxb : x ≤ 16777216 ∧ a0 ≤ x := by omega
      clear kk hgw hx hS hq0 hq1
      go_wp2_with fail
      refine (window_any _ a0 _ _ hb).mono ?_
      rintro e w' ⟨rfl, rfl⟩
      go_wp2_with fail
      refine (acked_any _ a0 _ a0 _ (by omega) (by omega) KK.out _ hb).mono ?_
      rintro e w2 ⟨rfl, hb2, hg2⟩
      rw [HS.out] at hb2
      have hr : ∀ i, some w.heap.size = some i → w.heap.size ≤ i := fun i e => by injection e with e; omega
      have hB2 := hB.grown hg2 (by omega) hr
      clear hr
      go_wp2_with fail
      refine (window_any _ a0 _ _ hb2).mono ?_
      rintro e w' ⟨rfl, rfl⟩
      rcases hx2 with ⟨y0, rfl⟩ | ⟨y0, y1, y2⟩
      · have t1 : (wi + a0 - wi == a0) = true := by simp; omega
        have t2 : (wi + a0 - wi != a0) = false := by simp; omega
        have t3 : wi + a0 - wi = a0 := by omega
        go_wp2
        go_roundw
        case rel => exact ⟨k + 1, wi + a0, 0, by omega, by go_num, by omega, by omega, by omega, by omega, hb2, hB2⟩
        case measure => simp [intOf]; omega
      · have t1 : 1 ≤ x - wi := by omega
        have t2 : x - wi ≤ a0 := by omega
        go_wp2
        go_roundw
        case rel => exact ⟨k + 1, x, 0, by omega, by go_num, by omega, by omega, by omega, by omega, hb2, hB2⟩
        case measure => simp [intOf]; omega
    · go_wp2_with (go_at_call 7; refine (known_any _).mono ?_; rintro e w' ⟨rfl, hB5⟩)
      go_ret
      exact ⟨rfl, hB.trans (hB5.mono (by omega))⟩

/-! ### the row -/
set_option maxRecDepth 100000 in
theorem lifted (os : Os) (started : os.Started) (H : Type) (enc : TypeId × Value → H) :
    ReturnsInHanded {} Try.checked os 3 .any (Rows.congStartsSpec.pre6 enc Try.prog Try.f3 Rows.congStartsRow.domain false) (Rows.congStartsSpec.post enc Try.prog Try.f3 false true false false) := by
  refine returnsInHanded_of_change_sized (C := Try.checked) own started (by kernel_rfl) Try.func3
    (ChangeSpec.witness6 (enc := enc) (C := Try.checked) false ⟨#[], #[.int .i64 0, .int .i64 0], []⟩ 8 (by kernel_rfl) (by kernel_rfl) (by kernel_rfl) (by kernel_rfl)) ?_
  intro W base args ds gs before hval0 hW hcnd hsz0 _
  have hval : ∀ (j : Nat) t v, Try.f3.params[j]? = some t → args[j]? = some v → Value.okWide Try.prog W .any base t v := hval0
  have hsz : (DataW.weightsEach Try.prog (Try.f3.params.toList ++ Rows.congStartsSpec.plain.varTypes Try.prog) (ds ++ gs)).all (· ≤ reachBytes) = true := hsz0
  clear hsz0
  have hW' := hW
  obtain ⟨p, q, hA0, hV, rfl, hfz, hnd⟩ := hW
  have hA : DataW.TrodAll enc Try.prog W 0 (fun _ => true) true Try.f3.params.toList args.toList ds p := hA0
  rw [Try.params3] at hA hval hsz
  obtain ⟨v0, vs0, d0, ds0, p0, q0, hargs, rfl, rfl, h0, r0⟩ := trodAll_cons hA
  obtain ⟨v1, vs1, d1, ds1, p1, q1, rfl, rfl, rfl, h1, r1⟩ := trodAll_cons r0
  obtain ⟨rfl, rfl, rfl⟩ := trodAll_nil r1
  obtain rfl : args = #[v0, v1] := by cases args; simp_all
  obtain ⟨rfl, rfl⟩ := trodVars_none hV
  obtain ⟨a0, rfl, rfl, rfl, w0⟩ := open_int Try.underlying3 (hval 0 3 v0 rfl rfl) h0
  obtain ⟨a1, rfl, rfl, rfl, w1⟩ := open_int Try.underlying3 (hval 1 3 v1 rfl rfl) h1
  clear hA0 hval0
  refine (walk a0 a1 W w0 w1).mono fun e W' ⟨he, bel⟩ => ?_
  subst he
  exact ⟨_, rfl, _, _, _, [], _, [], hW', trodAll_mk1 (shut_bool Try.underlying4 _), (trodAll_cons_mk (shut_int Try.underlying3 w0) (trodAll_cons_mk (shut_int Try.underlying3 w1) trodAll_mk0)), rfl, bel.frame _, fun h => by cases h⟩

theorem over : Rows.congStartsRow.holds Try.pinned (OpenSpec.ofChange Rows.congStartsSpec) :=
  OpenClaim.holds_of_wide 3 Try.f3 rfl rfl rfl rfl rfl rfl rfl ⟨rfl, rfl, rfl, rfl, rfl⟩ rfl rfl rfl rfl rfl (by kernel_rfl) Try.func3 (by kernel_rfl)
    (of_decide_eq_true (by kernel_rfl)) (by unfold Func.isWrapper; first | (rw [if_pos (by decide +kernel)]; kernel_rfl) | (rw [if_neg (by decide +kernel)]; exact ⟨rfl, rfl⟩))
    (fun os started H enc _ => lifted os started H enc)

theorem proved : Rows.CongStartsSaid := over
#print axioms proved
end Go.Proofs.Ytpeojjaaeckehaa.congStarts
