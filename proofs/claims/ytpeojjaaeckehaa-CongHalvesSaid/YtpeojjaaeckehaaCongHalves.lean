/- Proved: a third acknowledgement that is the same halves what may be under way, and one loss of time brings it to one segment. Conditions: none, for every input. -/
import Derived.Test.YtpeojjaaeckehaaRows
import Derived.WalkKit
import Derived.ProofKit
import Derived.OpenShut
import Derived.ShutString
import Derived.ChangeOld
import Derived.Below
import Derived.SizedLaws
import Derived.Test.YtpeojjaaeckehaaCongK
namespace Go.Proofs.Ytpeojjaaeckehaa.congHalves
open Go.ChangeShapes Go.WideShapes Go.ChangeAt Go.RowKit
open Go.ChangeMaps (open_string shut_string)
set_option linter.unusedVariables false

theorem own : ownKnob Try.prog.godebug = none := by kernel_rfl
theorem laidOut : laidOutB Try.prog = true := by kernel_rfl

/-! ### the walk -/
set_option maxHeartbeats 1000000 in
theorem walk (a0 : Int) (a1 : Int) (a2 : Int) (w : World) (w0 : (Lit.int .i64 a0).wf = true) (w1 : (Lit.int .i64 a1).wf = true) (w2 : (Lit.int .u32 a2).wf = true) :
    Calls Try.prog 5 #[.int .i64 a0, .int .i64 a1, .int .u32 a2] w fun e w' => e = .returned (.bool true) ∧ Below w.heap.size w w' := by
  have hnx := bounds_u32 w2
  by_cases hbad : a0 < 1 ∨ 65535 < a0 ∨ a1 < 0 ∨ 8388608 < a1
  · rcases (by omega : a0 < 1 ∨ (1 ≤ a0 ∧ 65535 < a0) ∨ (1 ≤ a0 ∧ a0 ≤ 65535 ∧ a1 < 0) ∨ (1 ≤ a0 ∧ a0 ≤ 65535 ∧ 0 ≤ a1 ∧ 8388608 < a1)) with c | ⟨c, d⟩ | ⟨c, d, e⟩ | ⟨c, d, e, f⟩
    all_goals
      go_enter Try.func5, Try.ntmps5
      go_wp2_with (go_at_call 7; refine (known_any _).mono ?_; rintro e w' ⟨rfl, hB⟩)
      go_ret
      exact ⟨rfl, hB⟩
  obtain ⟨m0, m1, l0, l1⟩ : 1 ≤ a0 ∧ a0 ≤ 65535 ∧ 0 ≤ a1 ∧ a1 ≤ 8388608 := by omega
  clear hbad
  obtain ⟨H, hH⟩ : ∃ H, hf a0 a1 = H := ⟨_, rfl⟩
  have hHm : H = max (a1 / 2) (2 * a0) := by rw [← hH]; unfold hf; rw [show max 0 a1 = a1 from by omega]
  have hHb : 2 * a0 ≤ H ∧ H ≤ 4194304 := by omega
  have hsd : sd a2 a2 = 0 := by unfold sd wrap32; omega
  have k0 := CsOk.new a0 m0 m1
  have s1 : sameS a0 a1 a2 (newS a0) = ⟨2 * a0, 65535, 1, 0, false⟩ := rfl
  have s2 : sameS a0 a1 a2 ⟨2 * a0, 65535, 1, 0, false⟩ = ⟨2 * a0, 65535, 2, 0, false⟩ := rfl
  have s3 : sameS a0 a1 a2 ⟨2 * a0, 65535, 2, 0, false⟩ = ⟨min (H + 3 * a0) 16777216, H, 3, a2, true⟩ := by
    simp only [sameS]; rw [if_pos trivial, hH]
  have s4 : ackS a0 0 a2 ⟨min (H + 3 * a0) 16777216, H, 3, a2, true⟩ = ⟨min H 16777216, H, 0, a2, false⟩ := by
    simp only [ackS]; rw [hsd, if_neg (by omega)]
  have s5 : lostS a0 a1 ⟨min H 16777216, H, 0, a2, false⟩ = ⟨a0, H, 0, a2, false⟩ := by simp only [lostS, hH]
  have r3 : sameR ⟨2 * a0, 65535, 2, 0, false⟩ = true := rfl
  have r4 : ackR a2 ⟨min (H + 3 * a0) 16777216, H, 3, a2, true⟩ = false := by simp only [ackR]; rw [hsd]; rfl
  have k1 : CsOk a0 ⟨2 * a0, 65535, 1, 0, false⟩ := by have := (k0.same a1 a2 (by omega) hnx.1 hnx.2 (show (0 : Int) ≤ 900 by omega)).1; rwa [s1] at this
  have k2 : CsOk a0 ⟨2 * a0, 65535, 2, 0, false⟩ := by have := (k1.same a1 a2 (by omega) hnx.1 hnx.2 (show (1 : Int) ≤ 900 by omega)).1; rwa [s2] at this
  have k3 : CsOk a0 ⟨min (H + 3 * a0) 16777216, H, 3, a2, true⟩ := by have := (k2.same a1 a2 (by omega) hnx.1 hnx.2 (show (2 : Int) ≤ 900 by omega)).1; rwa [s3] at this
  have k4 : CsOk a0 ⟨min H 16777216, H, 0, a2, false⟩ := by have := (k3.ack 0 a2).1; rwa [s4] at this
  have S1 := Lib.hid s1
  have S2 := Lib.hid s2
  have S3 := Lib.hid s3
  have S4 := Lib.hid s4
  have S5 := Lib.hid s5
  have R3 := Lib.hid r3
  have R4 := Lib.hid r4
  have HHm := Lib.hid hHm
  have K0 := Lib.hid k0
  have K1 := Lib.hid k1
  have K2 := Lib.hid k2
  have K3 := Lib.hid k3
  have K4 := Lib.hid k4
  have q1 : min (H + 3 * a0) 16777216 = H + 3 * a0 := by omega
  have q2 : min H 16777216 = H := by omega
  have Q1 := Lib.hid q1
  have Q2 := Lib.hid q2
  clear s1 s2 s3 s4 s5 r3 r4 k0 k1 k2 k3 k4 q1 q2 hH hsd hHm
  rcases (by have := HHm.out; omega : (a1 / 2 < 2 * a0 ∧ H = 2 * a0) ∨ (2 * a0 ≤ a1 / 2 ∧ H = a1 / 2)) with ⟨e1, hE⟩ | ⟨e1, hE⟩
  all_goals
    have HE := Lib.hid hE
    clear hE
    go_enter Try.func5, Try.ntmps5
    go_wp2_with fail
    refine (new_ok a0 m0 m1 _).mono ?_
    rintro e w1 ⟨rfl, hb1, hB1⟩
    have hz1 := Bk.lt hb1
    go_wp2_with fail
    refine (same_any _ a0 _ a1 a2 (by omega) (by omega) hnx.1 hnx.2 K0.out _ hb1).mono ?_
    rintro e w2 ⟨he, hb2, hg2⟩
    obtain rfl : e = .returned (.bool false) := he
    rw [S1.out] at hb2
    go_wp2_with fail
    refine (same_any _ a0 _ a1 a2 (by omega) (by omega) hnx.1 hnx.2 K1.out _ hb2).mono ?_
    rintro e w3 ⟨he, hb3, hg3⟩
    obtain rfl : e = .returned (.bool false) := he
    rw [S2.out] at hb3
    go_wp2_with fail
    refine (same_any _ a0 _ a1 a2 (by omega) (by omega) hnx.1 hnx.2 K2.out _ hb3).mono ?_
    rintro e w4 ⟨he, hb4, hg4⟩
    rw [R3.out] at he
    subst he
    rw [S3.out] at hb4
    go_wp2_with fail
    refine (mending_any _ a0 _ _ hb4).mono ?_
    rintro e w' ⟨rfl, rfl⟩
    go_wp2_with fail
    refine (window_any _ a0 _ _ hb4).mono ?_
    rintro e w' ⟨rfl, rfl⟩
    simp only
    rw [Q1.out, HE.out]
    go_wp2_with fail
    refine (acked_any _ a0 _ 0 a2 (by omega) (by omega) K3.out _ hb4).mono ?_
    rintro e w5 ⟨he, hb5, hg5⟩
    rw [R4.out] at he
    subst he
    rw [S4.out] at hb5
    go_wp2_with fail
    refine (mending_any _ a0 _ _ hb5).mono ?_
    rintro e w' ⟨rfl, rfl⟩
    go_wp2_with fail
    refine (window_any _ a0 _ _ hb5).mono ?_
    rintro e w' ⟨rfl, rfl⟩
    simp only
    rw [Q2.out, HE.out]
    go_wp2_with fail
    refine (lost_any _ a0 _ a1 (by omega) (by omega) K4.out _ hb5).mono ?_
    rintro e w6 ⟨rfl, hb6, hg6⟩
    rw [S5.out] at hb6
    go_wp2_with fail
    refine (window_any _ a0 _ _ hb6).mono ?_
    rintro e w' ⟨rfl, rfl⟩
    go_wp2_with fail
    refine (known_any _).mono ?_
    rintro e w7 ⟨rfl, hB7⟩
    go_wp2
    go_ret
    have z2 := hg2.size
    have z3 := hg3.size
    have z4 := hg4.size
    have z5 := hg5.size
    have z6 := hg6.size
    have hr : ∀ i, some w.heap.size = some i → w.heap.size ≤ i := fun i e => by injection e with e; omega
    exact ⟨rfl, (((((hB1.grown hg2 (by omega) hr).grown hg3 (by omega) hr).grown hg4 (by omega) hr).grown hg5 (by omega) hr).grown hg6 (by omega) hr).trans (hB7.mono (by omega))⟩

/-! ### the row -/
set_option maxRecDepth 100000 in
theorem lifted (os : Os) (started : os.Started) (H : Type) (enc : TypeId × Value → H) :
    ReturnsInHanded {} Try.checked os 5 .any (Rows.congHalvesSpec.pre6 enc Try.prog Try.f5 Rows.congHalvesRow.domain false) (Rows.congHalvesSpec.post enc Try.prog Try.f5 false true false false) := by
  refine returnsInHanded_of_change_sized (C := Try.checked) own started (by kernel_rfl) Try.func5
    (ChangeSpec.witness6 (enc := enc) (C := Try.checked) false ⟨#[], #[.int .i64 0, .int .i64 0, .int .u32 0], []⟩ 8 (by kernel_rfl) (by kernel_rfl) (by kernel_rfl) (by kernel_rfl)) ?_
  intro W base args ds gs before hval0 hW hcnd hsz0 _
  have hval : ∀ (j : Nat) t v, Try.f5.params[j]? = some t → args[j]? = some v → Value.okWide Try.prog W .any base t v := hval0
  have hsz : (DataW.weightsEach Try.prog (Try.f5.params.toList ++ Rows.congHalvesSpec.plain.varTypes Try.prog) (ds ++ gs)).all (· ≤ reachBytes) = true := hsz0
  clear hsz0
  have hW' := hW
  obtain ⟨p, q, hA0, hV, rfl, hfz, hnd⟩ := hW
  have hA : DataW.TrodAll enc Try.prog W 0 (fun _ => true) true Try.f5.params.toList args.toList ds p := hA0
  rw [Try.params5] at hA hval hsz
  obtain ⟨v0, vs0, d0, ds0, p0, q0, hargs, rfl, rfl, h0, r0⟩ := trodAll_cons hA
  obtain ⟨v1, vs1, d1, ds1, p1, q1, rfl, rfl, rfl, h1, r1⟩ := trodAll_cons r0
  obtain ⟨v2, vs2, d2, ds2, p2, q2, rfl, rfl, rfl, h2, r2⟩ := trodAll_cons r1
  obtain ⟨rfl, rfl, rfl⟩ := trodAll_nil r2
  obtain rfl : args = #[v0, v1, v2] := by cases args; simp_all
  obtain ⟨rfl, rfl⟩ := trodVars_none hV
  obtain ⟨a0, rfl, rfl, rfl, w0⟩ := open_int Try.underlying3 (hval 0 3 v0 rfl rfl) h0
  obtain ⟨a1, rfl, rfl, rfl, w1⟩ := open_int Try.underlying3 (hval 1 3 v1 rfl rfl) h1
  obtain ⟨a2, rfl, rfl, rfl, w2⟩ := open_int Try.underlying29 (hval 2 29 v2 rfl rfl) h2
  clear hA0 hval0
  refine (walk a0 a1 a2 W w0 w1 w2).mono fun e W' ⟨he, bel⟩ => ?_
  subst he
  exact ⟨_, rfl, _, _, _, [], _, [], hW', trodAll_mk1 (shut_bool Try.underlying4 _), (trodAll_cons_mk (shut_int Try.underlying3 w0) (trodAll_cons_mk (shut_int Try.underlying3 w1) (trodAll_cons_mk (shut_int Try.underlying29 w2) trodAll_mk0))), rfl, bel.frame _, fun h => by cases h⟩

theorem over : Rows.congHalvesRow.holds Try.pinned (OpenSpec.ofChange Rows.congHalvesSpec) :=
  OpenClaim.holds_of_wide 5 Try.f5 rfl rfl rfl rfl rfl rfl rfl ⟨rfl, rfl, rfl, rfl, rfl⟩ rfl rfl rfl rfl rfl (by kernel_rfl) Try.func5 (by kernel_rfl)
    (of_decide_eq_true (by kernel_rfl)) (by unfold Func.isWrapper; first | (rw [if_pos (by decide +kernel)]; kernel_rfl) | (rw [if_neg (by decide +kernel)]; exact ⟨rfl, rfl⟩))
    (fun os started H enc _ => lifted os started H enc)

theorem proved : Rows.CongHalvesSaid := over
#print axioms proved
end Go.Proofs.Ytpeojjaaeckehaa.congHalves
