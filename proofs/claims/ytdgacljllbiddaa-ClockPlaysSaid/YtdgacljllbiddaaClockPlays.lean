/- Proved: of every script how long to wait, and what was seen; never out of its bounds. Conditions: none, for every input. -/
import Derived.Test.YtdgacljllbiddaaRows
import Derived.WalkKit
import Derived.ProofKit
import Derived.OpenShut
import Derived.ShutString
import Derived.ChangeOld
import Derived.Below
import Derived.SizedLaws
import Derived.Test.YtdgacljllbiddaaKnown
import Derived.Test.YtdgacljllbiddaaSteps
namespace Go.Proofs.Ytdgacljllbiddaa.clockPlays
open Go.ChangeShapes Go.WideShapes Go.ChangeAt Go.RowKit
open Go.ChangeMaps (open_string shut_string)
set_option linter.unusedVariables false

theorem own : ownKnob Try.prog.godebug = none := by kernel_rfl
theorem laidOut : laidOutB Try.prog = true := by kernel_rfl

/-! ### the walk -/
set_option maxRecDepth 100000 in
set_option maxHeartbeats 1600000 in
theorem walk (v0 : Value) (w : World) (w0 : ViewSteps w v0) :
    Calls Try.prog 5 #[v0] w fun e w' => e = .returned (.bool true) ∧ Below w.heap.size w w' := by
  obtain ⟨A, len, cap, l, rfl, hlen, hcap, hn, hr, hq⟩ := w0
  have Hn := Lib.hid hn
  have Hq := Lib.hid hq
  clear hn hq
  have hmax : len ≤ 140737488351232 := by omega
  clear hcap
  go_enter Try.func5, Try.ntmps5
  go_wp2
  have hb := (new_ck 25 w).alloc (.cells #[.bool false, .int .i64 0, .int .i64 0, .int .i64 0] 35)
  have hd := new_ck 35 (w.alloc (.cells #[.bool false, .int .i64 0, .int .i64 0, .int .i64 0] 25))
  rw [show (w.alloc (.cells #[.bool false, .int .i64 0, .int .i64 0, .int .i64 0] 25)).heap.size = w.heap.size + 1 from by simp] at hd
  have hB := ((Below.refl w.heap.size w).alloc (Nat.le_refl _) (.cells #[.bool false, .int .i64 0, .int .i64 0, .int .i64 0] 25)).alloc (by simp) (.cells #[.bool false, .int .i64 0, .int .i64 0, .int .i64 0] 35)
  go_loopw [5] (fun i wr => ∃ (k b1 b2 : Nat) (s : Bool) (sm vy x q : Int), k ≤ len ∧ i = .int .i64 k ∧ Hid (baseF s sm vy = x) ∧ Hid (dblN b1 x = q) ∧ Hid (dblN b2 x = q) ∧ 10 ≤ x ∧ x ≤ 600 ∧ b1 ≤ 6 ∧ b2 ≤ 64 ∧ CkOk s sm vy ∧ Ck 25 wr w.heap.size s sm vy b1 ∧ Ck 35 wr (w.heap.size + 1) s sm vy b2 ∧ Below w.heap.size w wr) (fun i _ => len - (intOf i).toNat)
  case atStart => exact ⟨0, 0, 0, false, 0, 0, 30, 30, by omega, rfl, Lib.hid rfl, Lib.hid rfl, Lib.hid rfl, by omega, by omega, by omega, by omega, CkOk.zero, hb, hd, hB⟩
  case round =>
    clear hb hd hB
    obtain ⟨k, b1, b2, s, sm, vy, x, q, hk, rfl, X, Q1, Q2, x0, x1, hb1, hb2, hok, hc, hd, hB⟩ := hrel
    rcases (by omega : len = k ∨ (k < len ∧ 300 ≤ k) ∨ (k < len ∧ k < 300)) with rfl | ⟨d, d'⟩ | ⟨d, d'⟩
    · go_wp2_with (go_at_call 7; refine (known_any _).mono ?_; rintro e w' ⟨rfl, hB5⟩)
      go_ret
      exact ⟨rfl, hB.trans (hB5.mono (Nat.le_of_lt hc.lt))⟩
    · go_wp2_with (go_at_call 7; refine (known_any _).mono ?_; rintro e w' ⟨rfl, hB5⟩)
      go_ret
      exact ⟨rfl, hB.trans (hB5.mono (Nat.le_of_lt hc.lt))⟩
    · obtain ⟨o, ho⟩ : ∃ o, l[k]? = some o := ⟨_, List.getElem?_eq_getElem (by rw [Hn.out]; exact d)⟩
      obtain ⟨b, off, rfl, hbB, hA⟩ := (hr.below hB).at_ ho
      have ok := Hq.out o (List.mem_of_getElem? ho)
      obtain ⟨kd, v⟩ := o
      have h0 := hA 0 _ rfl
      have h1 := hA 1 _ rfl
      simp only [Nat.add_zero, StepOk] at h0 h1 ok
      clear hA ho
      have hs1 := hc.lt
      have hs2 := hd.lt
      rcases (by omega : kd = 1 ∨ kd = 2 ∨ (kd ≠ 1 ∧ kd ≠ 2)) with rfl | rfl | ⟨e1, e2⟩
      case' _ =>
        go_wp2_with fail
        refine (sample_any _ s sm vy _ v hok _ hc).mono ?_
        rintro e w2 ⟨rfl, hc2, hg2⟩
        have hB2 := bel_grown hB hg2 (Nat.le_refl _) (by omega)
        have hd2 := Bk.grown hd hg2 (by simp)
        have h12 := (World.cell?_of_block (a := ⟨b, off + k * 2 + 1, none⟩) (hg2.block b (by omega) (by simp; omega))).trans h1
        have hz2 := hg2.size
        clear hc hd hB hg2
        go_wp2_with fail
        refine (rsample_any _ s sm vy _ v hok _ hd2).mono ?_
        rintro e w3 ⟨rfl, hd3, hg3⟩
        have hB3 := bel_grown hB2 hg3 (by omega) (by omega)
        have hc3 := Bk.grown hc2 hg3 (by simp)
        have hz3 := hg3.size
        clear hc2 hd2 hB2 hg3
        have hok3 := hok.sample v
        generalize smF s sm v = sm3 at hc3 hd3 hok3
        generalize vyF s sm vy v = vy3 at hc3 hd3 hok3
        clear X Q1 Q2 hok
        obtain ⟨x3, X3⟩ : ∃ x3, Hid (baseF true sm3 vy3 = x3) := ⟨_, Lib.hid rfl⟩
        have hx3 : 10 ≤ x3 ∧ x3 ≤ 600 := by have := baseF_bd true sm3 vy3; rwa [X3.out] at this
        obtain ⟨y0, y1⟩ := hx3
        obtain ⟨q3, Q3, Q4, z0, z1⟩ : ∃ q3, Hid (dblN 0 x3 = q3) ∧ Hid (dblN 0 x3 = q3) ∧ 10 ≤ q3 ∧ q3 ≤ 600 := ⟨x3, Lib.hid rfl, Lib.hid rfl, y0, y1⟩
        obtain ⟨s3, es⟩ : ∃ s3, true = s3 := ⟨_, rfl⟩
        rw [es] at hc3 hd3 hok3 X3
        clear es
        rw [show (0 : Int) = ((0 : Nat) : Int) from rfl] at hc3 hd3
        obtain ⟨p3, p4, P3, P4, hc3, hd3, Q3, Q4⟩ : ∃ p3 p4 : Nat, p3 ≤ 6 ∧ p4 ≤ 64 ∧ Ck 25 w3 w.heap.size s3 sm3 vy3 p3 ∧ Ck 35 w3 (w.heap.size + 1) s3 sm3 vy3 p4 ∧ Hid (dblN p3 x3 = q3) ∧ Hid (dblN p4 x3 = q3) := ⟨0, 0, by omega, by omega, hc3, hd3, Q3, Q4⟩
      rotate_left
      case' _ =>
        go_wp2_with fail
        refine (back_x _ s sm vy b1 x X hok hb1 _ hc).mono ?_
        rintro e w2 ⟨rfl, hc2, hg2⟩
        have hB2 := bel_grown hB hg2 (Nat.le_refl _) (by omega)
        have hd2 := Bk.grown hd hg2 (by simp)
        have hz2 := hg2.size
        clear hc hd hB hg2
        go_wp2_with fail
        refine (rback_any _ s sm vy b2 hb2 _ hd2).mono ?_
        rintro e w3 ⟨rfl, hd3, hg3⟩
        have hB3 := bel_grown hB2 hg3 (by omega) (by omega)
        have hc3 := Bk.grown hc2 hg3 (by simp)
        have hz3 := hg3.size
        clear hc2 hd2 hB2 hg3
        have z0 := dblN_bd ⟨x0, x1⟩ b1
        rw [Q1.out] at z0
        obtain ⟨p3, p4, P3, P4, hc3, hd3, Q3, Q4⟩ : ∃ p3 p4 : Nat, p3 ≤ 6 ∧ p4 ≤ 64 ∧ Ck 25 w3 w.heap.size s sm vy p3 ∧ Ck 35 w3 (w.heap.size + 1) s sm vy p4 ∧ Hid (dblN p3 x = min 600 (2 * q)) ∧ Hid (dblN p4 x = min 600 (2 * q)) :=
          ⟨_, _, backF_le ⟨x0, x1⟩ hb1, by omega, hc3, hd3, Lib.hid (by rw [backF_dbl ⟨x0, x1⟩, Q1.out]), Lib.hid (by rw [rback_dbl ⟨x0, x1⟩, Q2.out])⟩
        obtain ⟨q3, eq3⟩ : ∃ q3, min 600 (2 * q) = q3 := ⟨_, rfl⟩
        rw [eq3] at Q3 Q4
        obtain ⟨z0, z1⟩ : 10 ≤ q3 ∧ q3 ≤ 600 := by omega
        clear eq3
        have hok3 := hok
        have X3 := X
        have y0 := x0
        have y1 := x1
        obtain ⟨s3, es⟩ : ∃ s3, s = s3 := ⟨_, rfl⟩
        subst es
      rotate_left
      case' _ =>
        have g1 : (kd == 1) = false := by simpa using e1
        have g2 : (kd == 2) = false := by simpa using e2
        clear e1 e2
        go_wp2_with fail
        refine (calm_any _ s sm vy _ _ hc).mono ?_
        rintro e w2 ⟨rfl, hc2, hg2⟩
        have hB2 := bel_grown hB hg2 (Nat.le_refl _) (by omega)
        have hd2 := Bk.grown hd hg2 (by simp)
        have hz2 := hg2.size
        clear hc hd hB hg2
        go_wp2_with fail
        refine (rcalm_any _ s sm vy _ _ hd2).mono ?_
        rintro e w3 ⟨rfl, hd3, hg3⟩
        have hB3 := bel_grown hB2 hg3 (by omega) (by omega)
        have hc3 := Bk.grown hc2 hg3 (by simp)
        have hz3 := hg3.size
        clear hc2 hd2 hB2 hg3
        obtain ⟨p3, p4, P3, P4, hc3, hd3, Q3, Q4⟩ : ∃ p3 p4 : Nat, p3 ≤ 6 ∧ p4 ≤ 64 ∧ Ck 25 w3 w.heap.size s sm vy p3 ∧ Ck 35 w3 (w.heap.size + 1) s sm vy p4 ∧ Hid (dblN p3 x = x) ∧ Hid (dblN p4 x = x) :=
          ⟨0, 0, by omega, by omega, hc3, hd3, Lib.hid rfl, Lib.hid rfl⟩
        have hok3 := hok
        have X3 := X
        have y0 := x0
        have y1 := x1
        have z0 := x0
        have z1 := x1
      all_goals
        go_wp2_with fail
        refine (seen_any _ _ _ _ _ _ hc3).mono ?_
        rintro e w4 ⟨rfl, k4, rfl⟩
        have c1 := hd3.cell 1
        have c2 := hd3.cell 2
        simp only [List.getElem?_toArray, List.getElem?_cons_zero, List.getElem?_cons_succ] at c1 c2
        go_wp2_with fail
        refine (wait_q _ _ _ _ _ _ _ X3 Q3 hok3 P3 _ (hc3.drewN k4)).mono ?_
        rintro e w5 ⟨rfl, k5, rfl⟩
        go_wp2_with fail
        refine (rwait_q _ _ _ _ _ _ _ X3 Q4 hok3 P4 _ (hd3.drewN _)).mono ?_
        rintro e w6 ⟨rfl, k6, rfl⟩
        go_wp2_with fail
        refine (wait_q _ _ _ _ _ _ _ X3 Q3 hok3 P3 _ (hc3.drewN _)).mono ?_
        rintro e w7 ⟨rfl, k7, rfl⟩
        go_wp2_with fail
        refine (wait_q _ _ _ _ _ _ _ X3 Q3 hok3 P3 _ (hc3.drewN _)).mono ?_
        rintro e w8 ⟨rfl, k8, rfl⟩
        go_wp2
        go_roundw
        case rel => exact ⟨k + 1, _, _, _, _, _, _, _, by omega, by go_num, X3, Q3, Q4, y0, y1, P3, P4, hok3, hc3.drewN _, hd3.drewN _, bel_drewN hB3 _⟩
        case measure => simp [intOf]; omega

/-! ### the row -/
set_option maxRecDepth 100000 in
theorem lifted (os : Os) (started : os.Started) (H : Type) (enc : TypeId × Value → H) :
    ReturnsInHanded {} Try.checked os 5 .any (Rows.clockPlaysSpec.pre6 enc Try.prog Try.f5 Rows.clockPlaysRow.domain false) (Rows.clockPlaysSpec.post enc Try.prog Try.f5 false true false false) := by
  refine returnsInHanded_of_change_sized (C := Try.checked) own started (by kernel_rfl) Try.func5
    (ChangeSpec.witness6 (enc := enc) (C := Try.checked) false ⟨#[], #[.slice none 0 0], []⟩ 8 (by kernel_rfl) (by kernel_rfl) (by kernel_rfl) (by kernel_rfl)) ?_
  intro W base args ds gs before hval0 hW hcnd hsz0 _
  have hval : ∀ (j : Nat) t v, Try.f5.params[j]? = some t → args[j]? = some v → Value.okWide Try.prog W .any base t v := hval0
  have hsz : (DataW.weightsEach Try.prog (Try.f5.params.toList ++ Rows.clockPlaysSpec.plain.varTypes Try.prog) (ds ++ gs)).all (· ≤ reachBytes) = true := hsz0
  clear hsz0
  have hW' := hW
  obtain ⟨p, q, hA0, hV, rfl, hfz, hnd⟩ := hW
  have hA : DataW.TrodAll enc Try.prog W 0 (fun _ => true) true Try.f5.params.toList args.toList ds p := hA0
  rw [Try.params5] at hA hval hsz
  obtain ⟨v0, vs0, d0, ds0, p0, q0, hargs, rfl, rfl, h0, r0⟩ := trodAll_cons hA
  obtain ⟨rfl, rfl, rfl⟩ := trodAll_nil r0
  obtain rfl : args = #[v0] := by cases args; simp_all
  obtain ⟨rfl, rfl⟩ := trodVars_none hV
  have k0 := h0
  have lt0 : ∀ x ∈ p0, x.block < W.heap.size := by obtain ⟨m, hm⟩ := k0; exact DataW.trod_lt m _ _ _ hm
  have w0 : ViewSteps W v0 := open_steps (hval 0 32 v0 rfl rfl) h0 (fun k hk => by have := List.all_eq_true.1 hsz k (DataW.weights_mem_each (j := 0) rfl rfl k hk); simpa using this)
  clear hA0 hval0
  refine (walk v0 W w0).mono fun e W' ⟨he, bel⟩ => ?_
  subst he
  exact ⟨_, rfl, _, _, _, [], _, [], hW', trodAll_mk1 (shut_bool Try.underlying4 _), (trodAll_cons_mk (Below.trod laidOut (by kernel_rfl) (of_decide_eq_true (by kernel_rfl)) k0 bel lt0) trodAll_mk0), rfl, bel.frame _, fun h => by cases h⟩

theorem over : Rows.clockPlaysRow.holds Try.pinned (OpenSpec.ofChange Rows.clockPlaysSpec) :=
  OpenClaim.holds_of_wide 5 Try.f5 rfl rfl rfl rfl rfl rfl rfl ⟨rfl, rfl, rfl, rfl, rfl⟩ rfl rfl rfl rfl rfl (by kernel_rfl) Try.func5 (by kernel_rfl)
    (of_decide_eq_true (by kernel_rfl)) (by unfold Func.isWrapper; first | (rw [if_pos (by decide +kernel)]; kernel_rfl) | (rw [if_neg (by decide +kernel)]; exact ⟨rfl, rfl⟩))
    (fun os started H enc _ => lifted os started H enc)

theorem proved : Rows.ClockPlaysSaid := over
#print axioms proved
end Go.Proofs.Ytdgacljllbiddaa.clockPlays
