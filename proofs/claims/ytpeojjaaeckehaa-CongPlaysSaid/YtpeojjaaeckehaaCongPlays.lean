/- Proved: of every script what is to be sent again, and how much may be under way; never out of its bounds. Conditions: none, for every input. -/
import Derived.Test.YtpeojjaaeckehaaRows
import Derived.WalkKit
import Derived.ProofKit
import Derived.OpenShut
import Derived.ShutString
import Derived.ChangeOld
import Derived.Below
import Derived.SizedLaws
import Derived.Test.YtpeojjaaeckehaaCongK
import Derived.Test.YtpeojjaaeckehaaCSteps
namespace Go.Proofs.Ytpeojjaaeckehaa.congPlays
open Go.ChangeShapes Go.WideShapes Go.ChangeAt Go.RowKit
open Go.ChangeMaps (open_string shut_string)
set_option linter.unusedVariables false

theorem own : ownKnob Try.prog.godebug = none := by kernel_rfl
theorem laidOut : laidOutB Try.prog = true := by kernel_rfl

/-! ### the walk -/
set_option maxRecDepth 100000 in
set_option maxHeartbeats 2000000 in
theorem walk (a0 : Int) (v1 : Value) (w : World) (w0 : (Lit.int .i64 a0).wf = true) (w1 : ViewSteps w v1) :
    Calls Try.prog 4 #[.int .i64 a0, v1] w fun e w' => e = .returned (.bool true) ∧ Below w.heap.size w w' := by
  have kept_cell : ∀ {W W' : World} {g b o : Nat} {u : Value}, W.grownBy W' (some g) → b < W.heap.size → b ≠ g → W.cell? ⟨b, o, none⟩ = some u → W'.cell? ⟨b, o, none⟩ = some u := fun hg hb hne hc => (World.cell?_of_block (hg.block _ hb (by intro e; injection e with e; exact hne e))).trans hc
  obtain ⟨A, len, cap, l, rfl, hlen, hcap, hn, hr, hq⟩ := w1
  have Hn := Lib.hid hn
  have Hq := Lib.hid hq
  clear hn hq
  have hmax : len ≤ 140737488351232 := by omega
  clear hcap
  by_cases hbad : a0 < 1 ∨ 65535 < a0
  · have HBAD := Lib.hid hbad
    clear hbad
    go_enter Try.func4, Try.ntmps4
    go_wp2_with (first
      | (go_at_call 8; refine (new_no _ HBAD.out _).mono ?_; rintro e w' ⟨rfl, rfl⟩)
      | (go_at_call 11; refine (rnew_no _ HBAD.out _).mono ?_; rintro e w' ⟨rfl, rfl⟩)
      | (go_at_call 7; refine (known_any _).mono ?_; rintro e w' ⟨rfl, hB⟩))
    go_ret
    exact ⟨rfl, hB⟩
  obtain ⟨m0, m1⟩ : 1 ≤ a0 ∧ a0 ≤ 65535 := by omega
  clear hbad
  go_enter Try.func4, Try.ntmps4
  go_wp2_with fail
  refine (new_ok a0 m0 m1 _).mono ?_
  rintro e w1 ⟨rfl, hb1, hB1⟩
  have hz1 := Bk.lt hb1
  go_wp2_with fail
  refine (rnew_ok a0 m0 m1 _).mono ?_
  rintro e w2 ⟨rfl, hd2, hB2⟩
  have hz2 := Bk.lt hd2
  have hb2 : Co w2 w.heap.size a0 (newS a0) := Bk.below hb1 hB2 hz1
  have hB : Below w.heap.size w w2 := hB1.trans (hB2.mono (by omega))
  obtain ⟨g2, hg2⟩ : ∃ g2, w1.heap.size = g2 := ⟨_, rfl⟩
  rw [hg2] at hd2 hz1 hz2 ⊢
  have hgg : w.heap.size < g2 := hz1
  clear hg2 hb1 hB1 hB2 hz1
  go_wp2
  go_loopw [9] (fun i wr => ∃ (k : Nat) (s : CS), k ≤ len ∧ k ≤ 300 ∧ i = .int .i64 k ∧ Hid (CsOk a0 s) ∧ s.sa ≤ k ∧ Co wr w.heap.size a0 s ∧ Cr wr g2 a0 s ∧ Below w.heap.size w wr) (fun i _ => len - (intOf i).toNat)
  case atStart => exact ⟨0, newS a0, by omega, by omega, rfl, Lib.hid (CsOk.new a0 m0 m1), by show (0 : Int) ≤ 0; omega, hb2, hd2, hB⟩
  case round =>
    clear hb2 hd2 hB
    obtain ⟨k, s, hk, hk3, rfl, K, hsa, hc, hd, hB⟩ := hrel
    have hz := Bk.lt hc
    have hz2 := Bk.lt hd
    rcases (by omega : len = k ∨ (k < len ∧ 300 ≤ k) ∨ (k < len ∧ k < 300)) with rfl | ⟨d, d'⟩ | ⟨d, d'⟩
    · go_wp2_with (go_at_call 7; refine (known_any _).mono ?_; rintro e w' ⟨rfl, hB5⟩)
      go_ret
      exact ⟨rfl, hB.trans (hB5.mono (by omega))⟩
    · go_wp2_with (go_at_call 7; refine (known_any _).mono ?_; rintro e w' ⟨rfl, hB5⟩)
      go_ret
      exact ⟨rfl, hB.trans (hB5.mono (by omega))⟩
    · obtain ⟨o, ho⟩ : ∃ o, l[k]? = some o := ⟨_, List.getElem?_eq_getElem (by rw [Hn.out]; exact d)⟩
      obtain ⟨b, off, rfl, hbB, hA⟩ := (hr.below hB).at_ ho
      have ok := Hq.out o (List.mem_of_getElem? ho)
      obtain ⟨kd, v, u⟩ := o
      have h0 := hA 0 _ rfl
      have h1 := hA 1 _ rfl
      have h2 := hA 2 _ rfl
      simp only [Nat.add_zero, StepOk] at h0 h1 h2 ok
      clear hA ho
      obtain ⟨wa, hwa⟩ : ∃ wa, wr.alloc (.cells #[.int .i64 kd, .int .i64 v, .int .u32 u] 36) = wa := ⟨_, rfl⟩
      have hBa : Below wr.heap.size wr wa := by rw [← hwa]; exact (Below.refl _ _).alloc (Nat.le_refl _) _
      have hca : Co wa w.heap.size a0 s := Bk.below hc hBa hz
      have hda : Cr wa g2 a0 s := Bk.below hd hBa hz2
      have hxa : Bk wa wr.heap.size 36 #[.int .i64 kd, .int .i64 v, .int .u32 u] := by rw [← hwa]; exact Bk.new wr _ _
      have x1 : wa.cell? ⟨wr.heap.size, 1, none⟩ = some (.int .i64 v) := hxa.cell 1
      have x2 : wa.cell? ⟨wr.heap.size, 2, none⟩ = some (.int .u32 u) := hxa.cell 2
      have hBwa : Below w.heap.size w wa := hB.trans (hBa.mono (by omega))
      have HWA := Lib.hid hwa
      have hza := hBa.size
      have hzx := hxa.lt
      have hcad : Co wa.drew w.heap.size a0 s := hca
      clear hwa hc hd hB hBa
      rcases (by omega : kd = 1 ∨ kd = 2 ∨ (kd ≠ 1 ∧ kd ≠ 2)) with rfl | rfl | ⟨e1, e2⟩
      case' _ =>
        have K4 := K.out.ack v u
        go_wp2
        rw [HWA.out]
        go_region_held3 (fun w' => w'.cell? ⟨wr.heap.size, 1, none⟩ = some (.int .i64 v) ∧ w'.cell? ⟨wr.heap.size, 2, none⟩ = some (.int .u32 u))
          (first | (exact ⟨by with_reducible assumption, by with_reducible assumption⟩) | go_keep)
          (first
            | (go_at_call 10; ((with_reducible refine (acked_any w.heap.size a0 s v u ok.2.1.1 ok.2.1.2 K.out _ hcad).mono ?_); rintro e w3 ⟨rfl, hc3, hg3⟩; have x13 := kept_cell hg3 (by show wr.heap.size < wa.heap.size; omega) (by omega) (show wa.drew.cell? _ = _ from x1); have x23 := kept_cell hg3 (by show wr.heap.size < wa.heap.size; omega) (by omega) (show wa.drew.cell? _ = _ from x2); have hd3 : Cr w3 g2 a0 s := Bk.grown (show Bk wa.drew _ _ _ from hda) hg3 (by intro e; injection e with e; omega); have hB3 := (hBwa.drew).grown hg3 (by show w.heap.size ≤ wa.heap.size; omega) (by intro i e; injection e with e; omega); have hz3 : wa.heap.size ≤ w3.heap.size := hg3.size))
            | (go_at_call 12; ((with_reducible refine (racked_any g2 a0 s v u ok.2.1.1 ok.2.1.2 K.out _ hd3).mono ?_); rintro e w4 ⟨rfl, hd4, hg4⟩; have x14 := kept_cell hg4 (by omega) (by omega) x13; have x24 := kept_cell hg4 (by omega) (by omega) x23; have hc4 : Co w4 w.heap.size a0 _ := Bk.grown hc3 hg4 (by intro e; injection e with e; omega); have hB4 := hB3.grown hg4 (by omega) (by intro i e; injection e with e; omega))))
        generalize ackS a0 v u s = s4 at hc4 hd4 K4
        have hsa4 : s4.sa ≤ (k + 1 : Nat) := by have := K4.2; omega
      rotate_left
      case' _ =>
        have K4 := K.out.same v u ok.2.1.2 ok.2.2.1 ok.2.2.2 (by omega)
        go_wp2
        rw [HWA.out]
        go_region_held3 (fun w' => w'.cell? ⟨wr.heap.size, 1, none⟩ = some (.int .i64 v) ∧ w'.cell? ⟨wr.heap.size, 2, none⟩ = some (.int .u32 u))
          (first | (exact ⟨by with_reducible assumption, by with_reducible assumption⟩) | go_keep)
          (first
            | (go_at_call 13; ((with_reducible refine (same_any w.heap.size a0 s v u ok.2.1.1 ok.2.1.2 ok.2.2.1 ok.2.2.2 K.out _ hcad).mono ?_); rintro e w3 ⟨rfl, hc3, hg3⟩; have x13 := kept_cell hg3 (by show wr.heap.size < wa.heap.size; omega) (by omega) (show wa.drew.cell? _ = _ from x1); have x23 := kept_cell hg3 (by show wr.heap.size < wa.heap.size; omega) (by omega) (show wa.drew.cell? _ = _ from x2); have hd3 : Cr w3 g2 a0 s := Bk.grown (show Bk wa.drew _ _ _ from hda) hg3 (by intro e; injection e with e; omega); have hB3 := (hBwa.drew).grown hg3 (by show w.heap.size ≤ wa.heap.size; omega) (by intro i e; injection e with e; omega); have hz3 : wa.heap.size ≤ w3.heap.size := hg3.size))
            | (go_at_call 14; ((with_reducible refine (rsame_any g2 a0 s v u ok.2.1.1 ok.2.1.2 ok.2.2.1 ok.2.2.2 K.out _ hd3).mono ?_); rintro e w4 ⟨rfl, hd4, hg4⟩; have x14 := kept_cell hg4 (by omega) (by omega) x13; have x24 := kept_cell hg4 (by omega) (by omega) x23; have hc4 : Co w4 w.heap.size a0 _ := Bk.grown hc3 hg4 (by intro e; injection e with e; omega); have hB4 := hB3.grown hg4 (by omega) (by intro i e; injection e with e; omega))))
        generalize sameS a0 v u s = s4 at hc4 hd4 K4
        have hsa4 : s4.sa ≤ (k + 1 : Nat) := by have := K4.2; omega
      rotate_left
      case' _ =>
        have K4 := K.out.lost v ok.2.1.2
        have q1 : (kd == 1) = false := by simpa using e1
        have q2 : (kd == 2) = false := by simpa using e2
        clear e1 e2
        go_wp2_with fail
        rw [HWA.out]
        refine (lost_any w.heap.size a0 s v ok.2.1.1 ok.2.1.2 K.out _ hca).mono ?_
        rintro e w3 ⟨rfl, hc3, hg3⟩
        have x13 := kept_cell hg3 (by omega) (by omega) x1
        have hd3 : Cr w3 g2 a0 s := Bk.grown hda hg3 (by intro e; injection e with e; omega)
        have hB3 := hBwa.grown hg3 (by omega) (by intro i e; injection e with e; omega)
        have hz3 := hg3.size
        go_wp2_with fail
        refine (rlost_any g2 a0 s v ok.2.1.1 ok.2.1.2 K.out _ hd3).mono ?_
        rintro e w4 ⟨rfl, hd4, hg4⟩
        have hc4 : Co w4 w.heap.size a0 _ := Bk.grown hc3 hg4 (by intro e; injection e with e; omega)
        have hB4 := hB3.grown hg4 (by omega) (by intro i e; injection e with e; omega)
        generalize lostS a0 v s = s4 at hc4 hd4 K4
        have hsa4 : s4.sa ≤ (k + 1 : Nat) := by have := K4.2; omega
      rotate_left
      all_goals
        have hw0 := K4.1.w0
        have hw1 := K4.1.w1
        have K5 := Lib.hid K4.1
        have y1 := hd4.cell 1
        have y4 := hd4.cell 4
        simp only [List.getElem?_toArray, List.getElem?_cons_zero, List.getElem?_cons_succ] at y1 y4
        clear K4 hc3 hd3
        have p1 : decide (16777216 < a0) = false := by simp; omega
        have p2 : decide (s4.wi < a0) = false := by simp; omega
        have p3 : decide (16777216 < s4.wi) = false := by simp; omega
        have p4 : ¬ (16777216 < a0) := by omega
        have p5 : ¬ (s4.wi < a0) := by omega
        have p6 : ¬ (16777216 < s4.wi) := by omega
        go_wp2
        go_quiet ((first | (go_at_call 9; exact Calls.quiet_of_same ((window_any _ a0 _ _ (by exact hc4)).mono (fun e w' h => ⟨h.1, h.2.symm⟩))) | (go_at_call 17; exact Calls.quiet_of_same ((mending_any _ a0 _ _ (by exact hc4)).mono (fun e w' h => ⟨h.1, h.2.symm⟩)))))
        go_wp2
        go_roundw
        case rel => exact ⟨k + 1, s4, by omega, by omega, by go_num, K5, hsa4, Bk.drewN hc4 _, Bk.drewN hd4 _, bel_drewN hB4 _⟩
        case measure => simp [intOf]; omega

/-! ### the row -/
set_option maxRecDepth 100000 in
theorem lifted (os : Os) (started : os.Started) (H : Type) (enc : TypeId × Value → H) :
    ReturnsInHanded {} Try.checked os 4 .any (Rows.congPlaysSpec.pre6 enc Try.prog Try.f4 Rows.congPlaysRow.domain false) (Rows.congPlaysSpec.post enc Try.prog Try.f4 false true false false) := by
  refine returnsInHanded_of_change_sized (C := Try.checked) own started (by kernel_rfl) Try.func4
    (ChangeSpec.witness6 (enc := enc) (C := Try.checked) false ⟨#[], #[.int .i64 0, .slice none 0 0], []⟩ 8 (by kernel_rfl) (by kernel_rfl) (by kernel_rfl) (by kernel_rfl)) ?_
  intro W base args ds gs before hval0 hW hcnd hsz0 _
  have hval : ∀ (j : Nat) t v, Try.f4.params[j]? = some t → args[j]? = some v → Value.okWide Try.prog W .any base t v := hval0
  have hsz : (DataW.weightsEach Try.prog (Try.f4.params.toList ++ Rows.congPlaysSpec.plain.varTypes Try.prog) (ds ++ gs)).all (· ≤ reachBytes) = true := hsz0
  clear hsz0
  have hW' := hW
  obtain ⟨p, q, hA0, hV, rfl, hfz, hnd⟩ := hW
  have hA : DataW.TrodAll enc Try.prog W 0 (fun _ => true) true Try.f4.params.toList args.toList ds p := hA0
  rw [Try.params4] at hA hval hsz
  obtain ⟨v0, vs0, d0, ds0, p0, q0, hargs, rfl, rfl, h0, r0⟩ := trodAll_cons hA
  obtain ⟨v1, vs1, d1, ds1, p1, q1, rfl, rfl, rfl, h1, r1⟩ := trodAll_cons r0
  obtain ⟨rfl, rfl, rfl⟩ := trodAll_nil r1
  obtain rfl : args = #[v0, v1] := by cases args; simp_all
  obtain ⟨rfl, rfl⟩ := trodVars_none hV
  obtain ⟨a0, rfl, rfl, rfl, w0⟩ := open_int Try.underlying3 (hval 0 3 v0 rfl rfl) h0
  have k1 := h1
  have lt1 : ∀ x ∈ p1, x.block < W.heap.size := by obtain ⟨m, hm⟩ := k1; exact DataW.trod_lt m _ _ _ hm
  have w1 : ViewSteps W v1 := open_steps (hval 1 31 v1 rfl rfl) h1 (fun k hk => by have := List.all_eq_true.1 hsz k (DataW.weights_mem_each (j := 1) rfl rfl k hk); simpa using this)
  clear hA0 hval0
  refine (walk a0 v1 W w0 w1).mono fun e W' ⟨he, bel⟩ => ?_
  subst he
  exact ⟨_, rfl, _, _, _, [], _, [], hW', trodAll_mk1 (shut_bool Try.underlying4 _), (trodAll_cons_mk (shut_int Try.underlying3 w0) (trodAll_cons_mk (Below.trod laidOut (by kernel_rfl) (of_decide_eq_true (by kernel_rfl)) k1 bel lt1) trodAll_mk0)), rfl, bel.frame _, fun h => by cases h⟩

theorem over : Rows.congPlaysRow.holds Try.pinned (OpenSpec.ofChange Rows.congPlaysSpec) :=
  OpenClaim.holds_of_wide 4 Try.f4 rfl rfl rfl rfl rfl rfl rfl ⟨rfl, rfl, rfl, rfl, rfl⟩ rfl rfl rfl rfl rfl (by kernel_rfl) Try.func4 (by kernel_rfl)
    (of_decide_eq_true (by kernel_rfl)) (by unfold Func.isWrapper; first | (rw [if_pos (by decide +kernel)]; kernel_rfl) | (rw [if_neg (by decide +kernel)]; exact ⟨rfl, rfl⟩))
    (fun os started H enc _ => lifted os started H enc)

theorem proved : Rows.CongPlaysSaid := over
#print axioms proved
end Go.Proofs.Ytpeojjaaeckehaa.congPlays
