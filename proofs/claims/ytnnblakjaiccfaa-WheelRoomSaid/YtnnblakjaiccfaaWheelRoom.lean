/- Proved: there are at most MaxTimers, and one that is there may be set anew even then. Conditions: none, for every input. -/
import Derived.Test.YtnnblakjaiccfaaRows
import Derived.WalkKit
import Derived.ProofKit
import Derived.OpenShut
import Derived.ShutString
import Derived.ChangeOld
import Derived.Below
import Derived.SizedLaws
import Derived.Test.YtnnblakjaiccfaaRoomL
namespace Go.Proofs.Ytnnblakjaiccfaa.wheelRoom
open Go.ChangeShapes Go.WideShapes Go.ChangeAt Go.RowKit
open Go.ChangeMaps (open_string shut_string)
set_option linter.unusedVariables false

theorem own : ownKnob Try.prog.godebug = none := by kernel_rfl
theorem laidOut : laidOutB Try.prog = true := by kernel_rfl

/-! ### the walk -/
set_option maxRecDepth 100000 in
set_option maxHeartbeats 4000000 in
theorem walk (a0 : Int) (a1 : Int) (w : World) (w0 : (Lit.int .i64 a0).wf = true) (w1 : (Lit.int .i64 a1).wf = true) :
    Calls Try.prog 3 #[.int .i64 a0, .int .i64 a1] w fun e w' => e = .returned (.bool true) ∧ Below w.heap.size w w' := by
  have hk := bounds_i64 w0
  have ha := bounds_i64 w1
  clear w0 w1
  obtain ⟨p, hp⟩ : ∃ p, w.heap.size = p := ⟨_, rfl⟩
  obtain ⟨W, hW⟩ : ∃ W, w.alloc (.cells whZ 27) = W := ⟨_, rfl⟩
  have h0 : Wh W p p (rm 0) := by rw [← hW, ← hp]; exact Wh.new w
  have hB : Below p w W := by rw [← hW, ← hp]; exact (Below.refl _ _).alloc (Nat.le_refl _) _
  have HS0 : Hid (Wh W p p (rm 0) ∧ Below p w W) := Lib.hid ⟨h0, hB⟩
  have HW := Lib.hid hW
  have HP := Lib.hid hp
  have hzv := zero_wh
  clear hW hp hB h0
  go_enter Try.func3, Try.ntmps3
  go_wp2
  rw [HW.out, HP.out]
  go_loopw [6] (fun v6 wr => ∃ i : Nat, i ≤ 256 ∧ v6 = .int .i64 i ∧ Hid (Wh wr p p (rm i) ∧ Below p w wr)) (fun v6 _ => 256 - (intOf v6).toNat)
  case atStart => exact ⟨0, Nat.zero_le _, rfl, HS0⟩
  case round =>
    obtain ⟨i, hi, rfl, HC⟩ := hrel
    rcases Nat.lt_or_ge i 256 with q | q
    · have HS := Lib.hid (set_wh p p (rm i) i i (by unfold okI; omega) (by unfold okI; omega) wr HC.out.1)
      rw [rm_set i q] at HS
      have q' : (i : Int) < 256 := by omega
      go_wp2_with fail
      refine HS.out.mono ?_
      rintro e W2 ⟨rfl, h2, hB2⟩
      have HN : Hid (Wh W2 p p (rm (i + 1)) ∧ Below p w W2) := Lib.hid ⟨h2, HC.out.2.trans hB2⟩
      clear h2 hB2
      go_wp2
      go_roundw
      case rel => exact ⟨i + 1, by omega, by go_num, HN⟩
      case measure => simp [intOf]; omega
    · obtain rfl : i = 256 := by omega
      have HS := Lib.hid (set_wh p p (rm 256) a0 a1 hk ha wr HC.out.1)
      have q' : ¬ ((256 : Nat) : Int) < 256 := by omega
      rcases (by omega : (a1 < 0 ∨ (0 ≤ a1 ∧ 1099511627776 < a1)) ∨ (0 ≤ a1 ∧ a1 ≤ 1099511627776 ∧ 0 ≤ a0 ∧ a0 < 256) ∨ (0 ≤ a1 ∧ a1 ≤ 1099511627776 ∧ (a0 < 0 ∨ (0 ≤ a0 ∧ 256 ≤ a0)))) with d | ⟨d, d2, d3, d4⟩ | ⟨d, d2, d3⟩
      · rw [show setM (rm 256) a0 a1 = (1, rm 256) by unfold setM; rw [if_pos (by omega)]] at HS
        have hl : ((rm 256).length : Int) = 256 := by rw [rm_len]; rfl
        have HLN := Lib.hid hl
        clear hl
        rcases d with d | ⟨d, d2⟩
        · go_wp2_with fail
          refine HS.out.mono ?_
          rintro e W3 ⟨rfl, h3, hB3⟩
          have HL := Lib.hid (len_wh p p _ W3 h3)
          have HK3 := Lib.hid h3
          have HB3 := Lib.hid (HC.out.2.trans hB3)
          clear h3 hB3
          go_wp2_with fail
          refine HL.out.mono ?_
          rintro e W5 ⟨rfl, rfl⟩
          rw [HLN.out]
          go_wp2_with fail
          refine (known_any _).mono ?_
          rintro e W6 ⟨rfl, hB6⟩
          go_wp2
          go_ret
          exact ⟨rfl, by rw [HP.out]; exact HB3.out.trans (hB6.mono HK3.out.size)⟩
        · have t1 : decide (a1 ≤ 1099511627776) = false := decide_eq_false (by omega)
          go_wp2_with fail
          refine HS.out.mono ?_
          rintro e W3 ⟨rfl, h3, hB3⟩
          have HL := Lib.hid (len_wh p p _ W3 h3)
          have HK3 := Lib.hid h3
          have HB3 := Lib.hid (HC.out.2.trans hB3)
          clear h3 hB3
          go_wp2_with fail
          refine HL.out.mono ?_
          rintro e W5 ⟨rfl, rfl⟩
          rw [HLN.out]
          go_wp2_with fail
          refine (known_any _).mono ?_
          rintro e W6 ⟨rfl, hB6⟩
          go_wp2
          go_ret
          exact ⟨rfl, by rw [HP.out]; exact HB3.out.trans (hB6.mono HK3.out.size)⟩
      · obtain ⟨s1, s2, s3⟩ := set_anew a0 a1 (by omega) ⟨d3, d4⟩
        rw [s1] at HS
        obtain ⟨M2, hM2⟩ : ∃ M2, delM (rm 256) a0 ++ [(a0, a1)] = M2 := ⟨_, rfl⟩
        simp only [hM2] at HS s2 s3
        have HLN : Hid ((M2.length : Int) = 256) := Lib.hid (by rw [s2]; rfl)
        have HG := Lib.hid s3
        clear s1 s2 s3 hM2
        go_wp2_with fail
        refine HS.out.mono ?_
        rintro e W3 ⟨rfl, h3, hB3⟩
        have HL := Lib.hid (len_wh p p _ W3 h3)
        have HK3 := Lib.hid h3
        have HB3 := Lib.hid (HC.out.2.trans hB3)
        clear h3 hB3
        go_wp2_with fail
        have HAT := Lib.hid (at_wh p p _ a0 hk W3 HK3.out)
        rw [HG.out] at HAT
        refine HAT.out.mono ?_
        rintro e W4 ⟨rfl, rfl⟩
        go_wp2_with fail
        refine HL.out.mono ?_
        rintro e W5 ⟨rfl, rfl⟩
        rw [HLN.out]
        go_wp2_with fail
        refine (known_any _).mono ?_
        rintro e W6 ⟨rfl, hB6⟩
        go_wp2
        go_ret
        exact ⟨rfl, by rw [HP.out]; exact HB3.out.trans (hB6.mono HK3.out.size)⟩
      · rw [set_full a0 a1 (by omega) (by omega)] at HS
        have hl : ((rm 256).length : Int) = 256 := by rw [rm_len]; rfl
        have HLN := Lib.hid hl
        clear hl
        rcases d3 with d3 | ⟨d3, d4⟩
        · have t1 : decide (0 ≤ a0) = false := decide_eq_false (by omega)
          go_wp2_with fail
          refine HS.out.mono ?_
          rintro e W3 ⟨rfl, h3, hB3⟩
          have HL := Lib.hid (len_wh p p _ W3 h3)
          have HK3 := Lib.hid h3
          have HB3 := Lib.hid (HC.out.2.trans hB3)
          clear h3 hB3
          go_wp2_with fail
          refine HL.out.mono ?_
          rintro e W5 ⟨rfl, rfl⟩
          rw [HLN.out]
          go_wp2_with fail
          refine (known_any _).mono ?_
          rintro e W6 ⟨rfl, hB6⟩
          go_wp2
          go_ret
          exact ⟨rfl, by rw [HP.out]; exact HB3.out.trans (hB6.mono HK3.out.size)⟩
        · have t1 : decide (a0 < 256) = false := decide_eq_false (by omega)
          go_wp2_with fail
          refine HS.out.mono ?_
          rintro e W3 ⟨rfl, h3, hB3⟩
          have HL := Lib.hid (len_wh p p _ W3 h3)
          have HK3 := Lib.hid h3
          have HB3 := Lib.hid (HC.out.2.trans hB3)
          clear h3 hB3
          go_wp2_with fail
          refine HL.out.mono ?_
          rintro e W5 ⟨rfl, rfl⟩
          rw [HLN.out]
          go_wp2_with fail
          refine (known_any _).mono ?_
          rintro e W6 ⟨rfl, hB6⟩
          go_wp2
          go_ret
          exact ⟨rfl, by rw [HP.out]; exact HB3.out.trans (hB6.mono HK3.out.size)⟩

/-! ### the row -/
set_option maxRecDepth 100000 in
theorem lifted (os : Os) (started : os.Started) (H : Type) (enc : TypeId × Value → H) :
    ReturnsInHanded {} Try.checked os 3 .any (Rows.wheelRoomSpec.pre6 enc Try.prog Try.f3 Rows.wheelRoomRow.domain false) (Rows.wheelRoomSpec.post enc Try.prog Try.f3 false true false false) := by
  refine returnsInHanded_of_change_sized (C := Try.checked) own started (by kernel_rfl) Try.func3
    (ChangeSpec.witness6 (enc := enc) (C := Try.checked) false ⟨#[], #[.int .i64 0, .int .i64 0], []⟩ 8 (by kernel_rfl) (by kernel_rfl) (by kernel_rfl) (by kernel_rfl)) ?_
  intro W base args ds gs before hval0 hW hcnd hsz0 _
  have hval : ∀ (j : Nat) t v, Try.f3.params[j]? = some t → args[j]? = some v → Value.okWide Try.prog W .any base t v := hval0
  have hsz : (DataW.weightsEach Try.prog (Try.f3.params.toList ++ Rows.wheelRoomSpec.plain.varTypes Try.prog) (ds ++ gs)).all (· ≤ reachBytes) = true := hsz0
  clear hsz0
  have hW' := hW
  obtain ⟨p, q, hA0, hV, rfl, hfz, hnd⟩ := hW
  have hA : DataW.TrodAll enc Try.prog W 0 (fun _ => true) true Try.f3.params.toList args.toList ds p := hA0
  rw [Try.params3] at hA hval hsz
  obtain ⟨v0, vs0, d0, ds0, p0, q0, hargs, rfl, rfl, h0, r0⟩ := trodAll_cons hA
  obtain ⟨v1, vs1, d1, ds1, p1, q1, rfl, rfl, rfl, h1, r1⟩ := trodAll_cons r0
  obtain ⟨rfl, rfl, rfl⟩ := trodAll_nil r1
  obtain rfl : args = #[v0, v1] := by cases args; simp_all
  obtain ⟨rfl, rfl⟩ := trodVars_none hV
  obtain ⟨a0, rfl, rfl, rfl, w0⟩ := open_int Try.underlying3 (hval 0 3 v0 rfl rfl) h0
  obtain ⟨a1, rfl, rfl, rfl, w1⟩ := open_int Try.underlying3 (hval 1 3 v1 rfl rfl) h1
  clear hA0 hval0
  refine (walk a0 a1 W w0 w1).mono fun e W' ⟨he, bel⟩ => ?_
  subst he
  exact ⟨_, rfl, _, _, _, [], _, [], hW', trodAll_mk1 (shut_bool Try.underlying4 _), (trodAll_cons_mk (shut_int Try.underlying3 w0) (trodAll_cons_mk (shut_int Try.underlying3 w1) trodAll_mk0)), rfl, bel.frame _, fun h => by cases h⟩

theorem over : Rows.wheelRoomRow.holds Try.pinned (OpenSpec.ofChange Rows.wheelRoomSpec) :=
  OpenClaim.holds_of_wide 3 Try.f3 rfl rfl rfl rfl rfl rfl rfl ⟨rfl, rfl, rfl, rfl, rfl⟩ rfl rfl rfl rfl rfl (by kernel_rfl) Try.func3 (by kernel_rfl)
    (of_decide_eq_true (by kernel_rfl)) (by unfold Func.isWrapper; first | (rw [if_pos (by decide +kernel)]; kernel_rfl) | (rw [if_neg (by decide +kernel)]; exact ⟨rfl, rfl⟩))
    (fun os started H enc _ => lifted os started H enc)

theorem proved : Rows.WheelRoomSaid := over
#print axioms proved
end Go.Proofs.Ytnnblakjaiccfaa.wheelRoom
