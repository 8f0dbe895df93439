/- Proved: what seq.Trim says lies in the window is, number by number, what seq.In says, for a segment near the window. Conditions: none, for every input. -/
import Derived.Test.YtdnkonpmfbpncaaRows
import Derived.WalkKit
import Derived.ProofKit
import Derived.OpenShut
import Derived.Test.YtdnkonpmfbpncaaWalks
namespace Go.Proofs.Ytdnkonpmfbpncaa.seqInside
open Go.ChangeShapes Go.WideShapes Go.ChangeAt Go.RowKit
set_option linter.unusedVariables false      -- a walk need not use every 'w<i>' (that an integer argument fits its kind)

theorem own : ownKnob Try.prog.godebug = none := by kernel_rfl

/-! ### STEP 1: THE WALK: the Go text returns true. 'Grown w w'': the world has at most new blocks (Derived/RowKit3.lean). Part the cases AHEAD of 'go_enter' where a test parts the walk; take each callee by a contract of your own. -/
theorem walk (a0 : Int) (a1 : Int) (a2 : Int) (a3 : Int) (w0 : (Lit.int .u32 a0).wf = true) (w1 : (Lit.int .i64 a1).wf = true) (w2 : (Lit.int .i64 a2).wf = true) (w3 : (Lit.int .i64 a3).wf = true) (w : World) :
    Calls Try.prog 8 #[.int .u32 a0, .int .i64 a1, .int .i64 a2, .int .i64 a3] w fun e w' => e = .returned (.bool true) ∧ Grown w w' := by
  have b0 := bounds_u32 w0
  by_cases hk : a1 < -300 ∨ 300 < a1 ∨ a2 < 1 ∨ 300 < a2 ∨ a3 < 1 ∨ 300 < a3
  · go_enter Try.func8, Try.ntmps8
    go_wp2_with (first | (go_at_call 11; refine (known_any _).mono ?_; rintro e w' ⟨rfl, rfl⟩))
    all_goals (go_ret; exact ⟨rfl, Grown.refl _⟩)
  have e1 : -300 ≤ a1 ∧ a1 ≤ 300 ∧ 1 ≤ a2 ∧ a2 ≤ 300 ∧ 1 ≤ a3 ∧ a3 ≤ 300 := by omega
  clear hk
  obtain ⟨c1, c2, c3, c4, c5, c6⟩ := e1
  obtain ⟨at0, hat⟩ : ∃ x, (a0 + a1 % 4294967296) % 4294967296 = x := ⟨_, rfl⟩
  have hat' : (a0 + a1) % 4294967296 = at0 := by omega
  have hd : sd at0 a0 = a1 := by unfold sd wrap32; omega
  obtain ⟨F, hF⟩ : ∃ x, tf1 a1 a2 a3 = x := ⟨_, rfl⟩
  obtain ⟨G, hG⟩ : ∃ x, tf2 a1 a2 a3 = x := ⟨_, rfl⟩
  have hFG : (F = 0 ∧ G = 0 ∧ min (a2 - max 0 (-a1)) (a3 - a1 - max 0 (-a1)) < 1) ∨ (F = max 0 (-a1) ∧ G = min (a2 - max 0 (-a1)) (a3 - a1 - max 0 (-a1)) ∧ 1 ≤ G) := by
    rw [← hF, ← hG]; unfold tf1 tf2; omega
  have HFG := Lib.hid hFG
  have f1 : 0 ≤ F ∧ F ≤ 300 ∧ 0 ≤ G ∧ G ≤ 300 := by omega
  clear hFG
  have HD := Lib.hid hd
  have HA := Lib.hid hat'
  have HFF := Lib.hid hF
  have HGG := Lib.hid hG
  go_enter Try.func8, Try.ntmps8
  go_wp2_with (first | (go_at_call 20; refine (trim_any _ _ _ _ (by omega) (by omega) _).mono ?_; rintro e w' ⟨rfl, rfl⟩) | (go_at_call 11; refine (known_any _).mono ?_; rintro e w' ⟨rfl, rfl⟩))
  clear hat hat' hd hF hG
  go_loop [12, 13] (fun c i => ∃ (k : Nat) (C : Int), k ≤ a2 ∧ i = .int .i64 k ∧ c = .int .i64 C ∧ Hid (C = min (k : Int) (F + G) - min (k : Int) F)) (fun _ i => a2.toNat - (intOf i).toNat)
  case atStart => exact ⟨0, 0, by omega, rfl, rfl, by show (0:Int) = _; simp; omega⟩
  case round =>
    obtain ⟨k, C, hk, rfl, rfl, HC⟩ := hrel
    have hFG := HFG.out
    have hc := HC.out
    have hb : 0 ≤ C ∧ C ≤ 300 := by omega
    have ha' := HA.out
    obtain ⟨f2, f3, f4, f5⟩ := f1
    rcases (by omega : (k : Int) < a2 ∨ (k : Int) = a2) with c7 | c7
    · rcases (by omega : (F ≤ k ∧ k < F + G ∧ (at0 + (k:Int) - a0) % 4294967296 < a3) ∨ (k < F ∧ a3 ≤ (at0 + (k:Int) - a0) % 4294967296) ∨ (F ≤ k ∧ F + G ≤ k ∧ a3 ≤ (at0 + (k:Int) - a0) % 4294967296)) with ⟨c8, c9, c10⟩ | ⟨c8, c9⟩ | ⟨c8, c9, c10⟩
      · have HC' : Hid (C + 1 = min ((k + 1 : Nat) : Int) (F + G) - min ((k + 1 : Nat) : Int) F) := by show _ = _; omega
        clear hFG hc ha'
        go_wp2_with (first | (go_at_call 9; refine (in_any _ _ _ _).mono ?_; rintro e w' ⟨rfl, rfl⟩))
        go_round
        case rel => exact ⟨k + 1, C + 1, by omega, by go_num, by go_num, HC'⟩
        case measure => simp [intOf]; omega
      · have HC' : Hid (C = min ((k + 1 : Nat) : Int) (F + G) - min ((k + 1 : Nat) : Int) F) := by show _ = _; omega
        clear hFG hc ha'
        go_wp2_with (first | (go_at_call 9; refine (in_any _ _ _ _).mono ?_; rintro e w' ⟨rfl, rfl⟩))
        go_round
        case rel => exact ⟨k + 1, C, by omega, by go_num, by go_num, HC'⟩
        case measure => simp [intOf]; omega
      · have HC' : Hid (C = min ((k + 1 : Nat) : Int) (F + G) - min ((k + 1 : Nat) : Int) F) := by show _ = _; omega
        have d1 : decide ((k : Int) < F + G) = false := by rw [decide_eq_false_iff_not]; omega
        have d2 : decide ((at0 + (k : Int) - a0) % 4294967296 < a3) = false := by rw [decide_eq_false_iff_not]; omega
        clear hFG hc ha'
        go_wp2_with (first | (go_at_call 9; refine (in_any _ _ _ _).mono ?_; rintro e w' ⟨rfl, rfl⟩))
        go_round
        case rel => exact ⟨k + 1, C, by omega, by go_num, by go_num, HC'⟩
        case measure => simp [intOf]; omega
    · have HCG : (C == G) = true := by rw [beq_iff_eq]; omega
      clear hFG hc ha'
      have c7' : a2 ≤ k := by omega
      clear c7
      go_wp2_with (first | (go_at_call 11; refine (known_any _).mono ?_; rintro e w' ⟨rfl, rfl⟩))
      go_ret
      exact ⟨rfl, Grown.refl _⟩

/-! ### THE ROW's STEP: WRITTEN OUT: LEAVE IT -/
set_option maxRecDepth 100000 in
theorem lifted (os : Os) (started : os.Started) (H : Type) (enc : TypeId × Value → H) :
    ReturnsInHanded {} Try.checked os 8 .any (Rows.seqInsideSpec.pre6 enc Try.prog Try.f8 Rows.seqInsideRow.domain false) (Rows.seqInsideSpec.post enc Try.prog Try.f8 false true false false) := by
  refine returnsInHanded_of_change (C := Try.checked) own started (by kernel_rfl) Try.func8
    (ChangeSpec.witness6 (enc := enc) (C := Try.checked) false ⟨#[], #[.int .u32 0, .int .i64 0, .int .i64 0, .int .i64 0], []⟩ 8 (by kernel_rfl) (by kernel_rfl) (by kernel_rfl) (by kernel_rfl)) ?_
  intro W base args ds gs before hval0 hW hcnd _
  have hval : ∀ (j : Nat) t v, Try.f8.params[j]? = some t → args[j]? = some v → Value.okWide Try.prog W .any base t v := hval0
  have hW' := hW
  obtain ⟨p, q, hA0, hV, rfl, hfz, hnd⟩ := hW
  have hA : DataW.TrodAll enc Try.prog W 0 (fun _ => true) true Try.f8.params.toList args.toList ds p := hA0
  rw [Try.params8] at hA hval
  obtain ⟨v0, vs0, d0, ds0, p0, q0, hargs, rfl, rfl, h0, r0⟩ := trodAll_cons hA
  obtain ⟨v1, vs1, d1, ds1, p1, q1, rfl, rfl, rfl, h1, r1⟩ := trodAll_cons r0
  obtain ⟨v2, vs2, d2, ds2, p2, q2, rfl, rfl, rfl, h2, r2⟩ := trodAll_cons r1
  obtain ⟨v3, vs3, d3, ds3, p3, q3, rfl, rfl, rfl, h3, r3⟩ := trodAll_cons r2
  obtain ⟨rfl, rfl, rfl⟩ := trodAll_nil r3
  obtain rfl : args = #[v0, v1, v2, v3] := by cases args; simp_all
  obtain ⟨rfl, rfl⟩ := trodVars_none hV
  obtain ⟨a0, rfl, rfl, rfl, w0⟩ := open_int Try.underlying22 (hval 0 22 v0 rfl rfl) h0
  obtain ⟨a1, rfl, rfl, rfl, w1⟩ := open_int Try.underlying3 (hval 1 3 v1 rfl rfl) h1
  obtain ⟨a2, rfl, rfl, rfl, w2⟩ := open_int Try.underlying3 (hval 2 3 v2 rfl rfl) h2
  obtain ⟨a3, rfl, rfl, rfl, w3⟩ := open_int Try.underlying3 (hval 3 3 v3 rfl rfl) h3
  clear hA0 hval0
  simp only [List.append_nil] at hW'
  refine (walk a0 a1 a2 a3 w0 w1 w2 w3 W).mono fun e W' ⟨he, hg⟩ => ?_
  subst he
  exact ⟨_, rfl, post_of_same (pa := []) (pv := []) hW' (fun _ _ _ => (trodAll_cons_mk (shut_bool Try.underlying4 _) trodAll_mk0)) (fun sp _ => (trodAll_cons_mk (shut_int Try.underlying22 w0) (trodAll_cons_mk (shut_int Try.underlying3 w1) (trodAll_cons_mk (shut_int Try.underlying3 w2) (trodAll_cons_mk (shut_int Try.underlying3 w3) trodAll_mk0))))) (fun _ _ => rfl) rfl
    (hg.frame _) hg.2.1 (ok_one (by kernel_rfl) rfl (okWide_bool_mk Try.underlying4 _))⟩

theorem over : Rows.seqInsideRow.holds Try.pinned (OpenSpec.ofChange Rows.seqInsideSpec) :=
  OpenClaim.holds_of_wide 8 Try.f8 rfl rfl rfl rfl rfl rfl rfl ⟨rfl, rfl, rfl, rfl, rfl⟩ rfl rfl rfl rfl rfl (by kernel_rfl) Try.func8 (by kernel_rfl)
    (of_decide_eq_true (by kernel_rfl)) (by unfold Func.isWrapper; first | (rw [if_pos (by decide +kernel)]; kernel_rfl) | (rw [if_neg (by decide +kernel)]; exact ⟨rfl, rfl⟩))
    (fun os started H enc _ => lifted os started H enc)

/-- ████ THE STATEMENT ████ -/
theorem proved : Rows.SeqInsideSaid :=
  over
#print axioms proved
end Go.Proofs.Ytdnkonpmfbpncaa.seqInside
