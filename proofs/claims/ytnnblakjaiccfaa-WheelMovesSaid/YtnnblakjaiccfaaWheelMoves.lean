/- Proved: a key that is set anew is due at its new tick alone. Conditions: none, for every input. -/
import Derived.Test.YtnnblakjaiccfaaRows
import Derived.WalkKit
import Derived.ProofKit
import Derived.OpenShut
import Derived.ShutString
import Derived.ChangeOld
import Derived.Below
import Derived.SizedLaws
import Derived.Test.YtnnblakjaiccfaaNil
namespace Go.Proofs.Ytnnblakjaiccfaa.wheelMoves
open Go.ChangeShapes Go.WideShapes Go.ChangeAt Go.RowKit
open Go.ChangeMaps (open_string shut_string)
set_option linter.unusedVariables false

theorem own : ownKnob Try.prog.godebug = none := by kernel_rfl
theorem laidOut : laidOutB Try.prog = true := by kernel_rfl

/-! ### the walk -/
set_option maxRecDepth 100000 in
set_option maxHeartbeats 4000000 in
theorem walk (a0 : Int) (a1 : Int) (a2 : Int) (w : World) (w0 : (Lit.int .i64 a0).wf = true) (w1 : (Lit.int .i64 a1).wf = true) (w2 : (Lit.int .i64 a2).wf = true) :
    Calls Try.prog 4 #[.int .i64 a0, .int .i64 a1, .int .i64 a2] w fun e w' => e = .returned (.bool true) ∧ Below w.heap.size w w' := by
  have hk := bounds_i64 w0
  have hf := bounds_i64 w1
  have hs := bounds_i64 w2
  clear w0 w1 w2
  by_cases hbad : a1 < 0 ∨ 1099511627776 < a1 ∨ a2 < 0 ∨ 1099511627776 < a2
  · rcases (by omega : a1 < 0 ∨ (0 ≤ a1 ∧ 1099511627776 < a1) ∨ (0 ≤ a1 ∧ a1 ≤ 1099511627776 ∧ a2 < 0) ∨ (0 ≤ a1 ∧ a1 ≤ 1099511627776 ∧ 0 ≤ a2 ∧ 1099511627776 < a2)) with d | ⟨d, d2⟩ | ⟨d, d2, d3⟩ | ⟨d, d2, d3, d4⟩
    all_goals
      clear hbad
      go_enter Try.func4, Try.ntmps4
      go_wp2_with fail
      refine (known_any _).mono ?_
      rintro e v1 ⟨rfl, hB1⟩
      go_wp2
      go_ret
      exact ⟨rfl, hB1⟩
  have e1 : decide (a1 < 0) = false := decide_eq_false (by omega)
  have e2 : decide (1099511627776 < a1) = false := decide_eq_false (by omega)
  have e3 : decide (a2 < 0) = false := decide_eq_false (by omega)
  have e4 : decide (1099511627776 < a2) = false := decide_eq_false (by omega)
  have hok : okI a0 := hk
  have hs1 : setM [] a0 a1 = (0, [(a0, a1)]) := by
    unfold setM
    rw [if_neg (by omega), if_neg (fun h => by have := h.2; simp at this)]
    simp [delM]
  have hs2 : setM [(a0, a1)] a0 a2 = (0, [(a0, a2)]) := by
    unfold setM
    rw [if_neg (by omega), if_neg (fun h => by have := h.2; simp at this)]
    simp [delM]
  obtain ⟨p, hp⟩ : ∃ p, w.heap.size = p := ⟨_, rfl⟩
  obtain ⟨W, hW⟩ : ∃ W, w.alloc (.cells whZ 27) = W := ⟨_, rfl⟩
  have h0 : Wh W p p [] := by rw [← hW, ← hp]; exact Wh.new w
  have hB : Below p w W := by rw [← hW, ← hp]; exact (Below.refl _ _).alloc (Nat.le_refl _) _
  have HS := Lib.hid (set_wh p p [] a0 a1 hok (by unfold okI; omega) W h0)
  rw [hs1] at HS
  have HS2 := Lib.hid (fun (Y : World) (h : Wh Y p p [(a0, a1)]) => set_wh p p [(a0, a1)] a0 a2 hok (by unfold okI; omega) Y h)
  rw [hs2] at HS2
  have HW := Lib.hid hW
  have HP := Lib.hid hp
  have HB := Lib.hid hB
  have hzv := zero_wh
  have HA := Lib.hid (And.intro hbad hs)
  clear hW hp hB h0 hs1 hs2 hok hbad
  go_enter Try.func4, Try.ntmps4
  go_wp2_with fail
  rw [HW.out, HP.out]
  refine HS.out.mono ?_
  rintro e W1 ⟨rfl, h1, hB1⟩
  have HB1 := Lib.hid hB1
  have HS2' := Lib.hid (HS2.out W1 h1)
  clear h1 hB1
  go_wp2_with fail
  refine HS2'.out.mono ?_
  rintro e W2 ⟨rfl, h2, hB2⟩
  have HB2 := Lib.hid (HB1.out.trans hB2)
  have HL := Lib.hid (len_wh p p _ W2 h2)
  have HH2 := Lib.hid h2
  clear h2 hB2
  go_wp2_with fail
  refine HL.out.mono ?_
  rintro e W3 ⟨rfl, rfl⟩
  rcases (by have := HA.out.1; omega : a2 = 0 ∨ 0 < a2) with z | z
  · subst z
    have HXX := HH2
    have HBXX : Hid (Below p w W2) := Lib.hid (HB.out.trans HB2.out)
    have HDU := Lib.hid (due_wh p p _ 0 W2 HXX.out)
    go_wp2_with fail
    refine HDU.out.mono ?_
    rintro e W5 ⟨D, A, n, c, rfl, hp, hsr, hO, hW5, hB5⟩
    have hd0 : dueS 0 [(a0, 0)] = [(a0, 0)] := by unfold dueS; simp
    rw [hd0] at hp
    have hD := List.perm_singleton.1 hp
    subst hD
    obtain rfl : 1 = n := by have := hO.length; simpa [int64s] using this
    rw [show ([(a0, (0 : Int))].filter fun t => decide (0 < t.2)) = [] by simp] at hW5
    have hz5 := hW5.size
    obtain ⟨W6, hW6⟩ : ∃ W6, W5.alloc (.cells #[.int .i64 a0] 3) = W6 := ⟨_, rfl⟩
    have hB6 : Below W5.heap.size W5 W6 := by rw [← hW6]; exact (Below.refl _ _).alloc (Nat.le_refl _) _
    have HI := Lib.hid (ints_any A (some ⟨W5.heap.size, 0, none⟩) 1 c 1 1 W5.heap.size (W5.heap.size + 1) [a0] [a0] rfl rfl (by omega) (by omega) W6 (by rw [← hW6]; exact Rw.alloc (Ow.rw hO) (Nat.le_refl _) _) (by rw [← hW6]; exact rw_lit W5 3 [.int .i64 a0]))
    have HH6 := Lib.hid (hW5.below hB6)
    have HB6 : Hid (Below p w W6) := Lib.hid ((HBXX.out.trans hB5).trans (hB6.mono hz5))
    have HW6 := Lib.hid hW6
    clear hp hsr hO hW5 hB5 hW6 hB6 hd0
    have hdd : decide ([a0] = [a0]) = true := decide_eq_true rfl
    go_wp2_with fail
    rw [HW6.out]
    refine HI.out.mono ?_
    rintro e W7 ⟨rfl, kk, rfl⟩
    have HL7 := Lib.hid (len_wh p p _ (W6.drewN kk) (HH6.out.drewN kk))
    go_wp2_with fail
    refine HL7.out.mono ?_
    rintro e W8 ⟨rfl, rfl⟩
    go_wp2_with fail
    refine (known_any _).mono ?_
    rintro e W9 ⟨rfl, hB9⟩
    go_wp2
    go_ret
    exact ⟨rfl, by rw [HP.out]; exact (bel_drewN HB6.out kk).trans (hB9.mono HH6.out.size)⟩
  · have e5 : decide (0 < a2) = true := decide_eq_true z
    have hw1 : IntKind.i64.wrap (a2 - 1) = a2 - 1 := IntWalk.i64_in _ (by omega)
    have HD := Lib.hid (due_wh p p _ (a2 - 1) W2 HH2.out)
    go_wp2_with fail
    refine HD.out.mono ?_
    rintro e W4 ⟨D, A, n, c, rfl, hp, hsr, hO, hW4, hB4⟩
    have hd0 : dueS (a2 - 1) [(a0, a2)] = [] := by unfold dueS; simp; omega
    rw [hd0] at hp
    have hD := hp.eq_nil
    subst hD
    obtain rfl : 0 = n := by have := hO.length; simpa [int64s] using this
    rw [show ([(a0, (a2 : Int))].filter fun t => decide (a2 - 1 < t.2)) = [(a0, a2)] by simp; omega] at hW4
    have HXX := Lib.hid hW4
    have HBXX : Hid (Below p w W4) := Lib.hid ((HB.out.trans HB2.out).trans hB4)
    clear hp hsr hO hW4 hB4 hd0
    have HDU := Lib.hid (due_wh p p _ a2 W4 HXX.out)
    go_wp2_with fail
    refine HDU.out.mono ?_
    rintro e W5 ⟨D, A, n, c, rfl, hp, hsr, hO, hW5, hB5⟩
    have hd0 : dueS a2 [(a0, a2)] = [(a0, a2)] := by unfold dueS; simp
    rw [hd0] at hp
    have hD := List.perm_singleton.1 hp
    subst hD
    obtain rfl : 1 = n := by have := hO.length; simpa [int64s] using this
    rw [show ([(a0, (a2 : Int))].filter fun t => decide (a2 < t.2)) = [] by simp] at hW5
    have hz5 := hW5.size
    obtain ⟨W6, hW6⟩ : ∃ W6, W5.alloc (.cells #[.int .i64 a0] 3) = W6 := ⟨_, rfl⟩
    have hB6 : Below W5.heap.size W5 W6 := by rw [← hW6]; exact (Below.refl _ _).alloc (Nat.le_refl _) _
    have HI := Lib.hid (ints_any A (some ⟨W5.heap.size, 0, none⟩) 1 c 1 1 W5.heap.size (W5.heap.size + 1) [a0] [a0] rfl rfl (by omega) (by omega) W6 (by rw [← hW6]; exact Rw.alloc (Ow.rw hO) (Nat.le_refl _) _) (by rw [← hW6]; exact rw_lit W5 3 [.int .i64 a0]))
    have HH6 := Lib.hid (hW5.below hB6)
    have HB6 : Hid (Below p w W6) := Lib.hid ((HBXX.out.trans hB5).trans (hB6.mono hz5))
    have HW6 := Lib.hid hW6
    clear hp hsr hO hW5 hB5 hW6 hB6 hd0
    have hdd : decide ([a0] = [a0]) = true := decide_eq_true rfl
    go_wp2_with fail
    rw [HW6.out]
    refine HI.out.mono ?_
    rintro e W7 ⟨rfl, kk, rfl⟩
    have HL7 := Lib.hid (len_wh p p _ (W6.drewN kk) (HH6.out.drewN kk))
    go_wp2_with fail
    refine HL7.out.mono ?_
    rintro e W8 ⟨rfl, rfl⟩
    go_wp2_with fail
    refine (known_any _).mono ?_
    rintro e W9 ⟨rfl, hB9⟩
    go_wp2
    go_ret
    exact ⟨rfl, by rw [HP.out]; exact (bel_drewN HB6.out kk).trans (hB9.mono HH6.out.size)⟩

/-! ### the row -/
set_option maxRecDepth 100000 in
theorem lifted (os : Os) (started : os.Started) (H : Type) (enc : TypeId × Value → H) :
    ReturnsInHanded {} Try.checked os 4 .any (Rows.wheelMovesSpec.pre6 enc Try.prog Try.f4 Rows.wheelMovesRow.domain false) (Rows.wheelMovesSpec.post enc Try.prog Try.f4 false true false false) := by
  refine returnsInHanded_of_change_sized (C := Try.checked) own started (by kernel_rfl) Try.func4
    (ChangeSpec.witness6 (enc := enc) (C := Try.checked) false ⟨#[], #[.int .i64 0, .int .i64 0, .int .i64 0], []⟩ 8 (by kernel_rfl) (by kernel_rfl) (by kernel_rfl) (by kernel_rfl)) ?_
  intro W base args ds gs before hval0 hW hcnd hsz0 _
  have hval : ∀ (j : Nat) t v, Try.f4.params[j]? = some t → args[j]? = some v → Value.okWide Try.prog W .any base t v := hval0
  have hsz : (DataW.weightsEach Try.prog (Try.f4.params.toList ++ Rows.wheelMovesSpec.plain.varTypes Try.prog) (ds ++ gs)).all (· ≤ reachBytes) = true := hsz0
  clear hsz0
  have hW' := hW
  obtain ⟨p, q, hA0, hV, rfl, hfz, hnd⟩ := hW
  have hA : DataW.TrodAll enc Try.prog W 0 (fun _ => true) true Try.f4.params.toList args.toList ds p := hA0
  rw [Try.params4] at hA hval hsz
  obtain ⟨v0, vs0, d0, ds0, p0, q0, hargs, rfl, rfl, h0, r0⟩ := trodAll_cons hA
  obtain ⟨v1, vs1, d1, ds1, p1, q1, rfl, rfl, rfl, h1, r1⟩ := trodAll_cons r0
  obtain ⟨v2, vs2, d2, ds2, p2, q2, rfl, rfl, rfl, h2, r2⟩ := trodAll_cons r1
  obtain ⟨rfl, rfl, rfl⟩ := trodAll_nil r2
  obtain rfl : args = #[v0, v1, v2] := by cases args; simp_all
  obtain ⟨rfl, rfl⟩ := trodVars_none hV
  obtain ⟨a0, rfl, rfl, rfl, w0⟩ := open_int Try.underlying3 (hval 0 3 v0 rfl rfl) h0
  obtain ⟨a1, rfl, rfl, rfl, w1⟩ := open_int Try.underlying3 (hval 1 3 v1 rfl rfl) h1
  obtain ⟨a2, rfl, rfl, rfl, w2⟩ := open_int Try.underlying3 (hval 2 3 v2 rfl rfl) h2
  clear hA0 hval0
  refine (walk a0 a1 a2 W w0 w1 w2).mono fun e W' ⟨he, bel⟩ => ?_
  subst he
  exact ⟨_, rfl, _, _, _, [], _, [], hW', trodAll_mk1 (shut_bool Try.underlying4 _), (trodAll_cons_mk (shut_int Try.underlying3 w0) (trodAll_cons_mk (shut_int Try.underlying3 w1) (trodAll_cons_mk (shut_int Try.underlying3 w2) trodAll_mk0))), rfl, bel.frame _, fun h => by cases h⟩

theorem over : Rows.wheelMovesRow.holds Try.pinned (OpenSpec.ofChange Rows.wheelMovesSpec) :=
  OpenClaim.holds_of_wide 4 Try.f4 rfl rfl rfl rfl rfl rfl rfl ⟨rfl, rfl, rfl, rfl, rfl⟩ rfl rfl rfl rfl rfl (by kernel_rfl) Try.func4 (by kernel_rfl)
    (of_decide_eq_true (by kernel_rfl)) (by unfold Func.isWrapper; first | (rw [if_pos (by decide +kernel)]; kernel_rfl) | (rw [if_neg (by decide +kernel)]; exact ⟨rfl, rfl⟩))
    (fun os started H enc _ => lifted os started H enc)

theorem proved : Rows.WheelMovesSaid := over
#print axioms proved
end Go.Proofs.Ytnnblakjaiccfaa.wheelMoves
