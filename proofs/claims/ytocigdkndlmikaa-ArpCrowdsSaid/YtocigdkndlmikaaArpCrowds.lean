/- Proved: of more neighbours than there is room for the one that was learnt first goes; those that are asked for do not. Conditions: none, for every input. -/
import Derived.Test.YtocigdkndlmikaaRows
import Derived.WalkKit
import Derived.ProofKit
import Derived.OpenShut
import Derived.ShutString
import Derived.ChangeOld
import Derived.Below
import Derived.SizedLaws
import Derived.Test.YtocigdkndlmikaaCrowd
import Derived.Test.YtocigdkndlmikaaArpQ
namespace Go.Proofs.Ytocigdkndlmikaa.arpCrowds
open Go.ChangeShapes Go.WideShapes Go.ChangeAt Go.RowKit
open Go.ChangeMaps (open_string shut_string)
set_option linter.unusedVariables false

theorem own : ownKnob Try.prog.godebug = none := by kernel_rfl
theorem laidOut : laidOutB Try.prog = true := by kernel_rfl

/-! ### the walk -/
set_option maxRecDepth 100000 in
set_option maxHeartbeats 4000000 in
theorem walk (a0 : Int) (w : World) (w0 : (Lit.int .i64 a0).wf = true) :
    Calls Try.prog 5 #[.int .i64 a0] w fun e w' => e = .returned (.bool true) ∧ Below w.heap.size w w' := by
  have hb0 := bounds_i64 w0
  by_cases hbad : a0 < 0 ∨ 60 < a0
  · rcases (by omega : a0 < 0 ∨ (0 ≤ a0 ∧ 60 < a0)) with c | ⟨c, d⟩
    all_goals
      clear hbad
      go_enter Try.func5, Try.ntmps5
      go_wp2_with fail
      refine (known_any _).mono ?_
      rintro e w6 ⟨rfl, hB6⟩
      go_wp2
      go_ret
      exact ⟨rfl, hB6⟩
  obtain ⟨n, rfl⟩ : ∃ n : Nat, a0 = n := ⟨a0.toNat, by omega⟩
  have hn : n ≤ 60 := by omega
  have hn' : (n : Int) ≤ 60 := by omega
  clear hbad hb0
  obtain ⟨g, hg⟩ : ∃ g, w.heap.size = g := ⟨_, rfl⟩
  obtain ⟨W, hW⟩ : ∃ W, w.alloc (.cells #[.map none] 32) = W := ⟨_, rfl⟩
  have hk : Bk W g 32 #[.map none] := by rw [← hW, ← hg]; exact Bk.new w _ _
  have hB : Below g w W := by rw [← hW, ← hg]; exact (Below.refl _ _).alloc (Nat.le_refl _) _
  have hc : CacheAt W (fun b => g ≤ b) g [] := CacheAt.new hk (Nat.le_refl _)
  have HW := Lib.hid hW
  have HG := Lib.hid hg
  have HB := Lib.hid hB
  have HC := Lib.hid hc
  have HZ := Lib.hid hk.lt
  clear hW hg hB hc hk
  go_enter Try.func5, Try.ntmps5
  go_wp2
  rw [HW.out, HG.out]
  go_loopw [4] (fun i wr => ∃ (k : Nat) (S : List En), k ≤ n ∧ i = .int .i64 k ∧ Hid (CacheAt wr (fun b => g ≤ b) g S) ∧ Hid (absT S = crowd k) ∧ Hid (Below g w wr) ∧ Hid (g < wr.heap.size)) (fun i _ => n - (intOf i).toNat)
  case atStart => exact ⟨0, [], Nat.zero_le _, rfl, HC, Lib.hid rfl, HB, HZ⟩
  case round =>
    obtain ⟨k, S, hk, rfl, HS, HA, HBB, HZZ⟩ := hrel
    rcases Nat.lt_or_ge k n with c1 | c1
    · have c2 : (k : Int) < n := by omega
      have hu : IntKind.u32.wrap (k : Int) = k := by rw [IntKind.wrap_u32]; omega
      have hu8 : IntKind.u8.wrap (k : Int) = k := by rw [IntKind.wrap_u8]; omega
      go_wp2_with fail
      refine (learn_room (k : Int) ⟨by omega, by omega⟩ k 0 0 0 0 0 k (by omega) true wr (fun b => g ≤ b) g S HS.out (crowd_not HA.out (.inl (Nat.le_refl _))) (crowd_has HA.out) rfl).mono ?_
      rintro e w2' ⟨S2, hR, A2, n2, c2, rfl, _, S3, hc3, hS3, hC3⟩
      have HS3 : Hid (CacheAt w2' (fun b => g ≤ b) g S3) := Lib.hid (hc3.mono (fun b h => by have := HZZ.out; rcases h with h | h; exact h; omega))
      have HA3 : Hid (absT S3 = crowd (k + 1)) := Lib.hid (by rw [hS3]; exact crowd_step (by omega) HA.out hR)
      have HB3 : Hid (Below g w w2') := Lib.hid (HBB.out.trans (hC3.below (fun _ h => h) (by have := HZZ.out; omega)))
      have HZ3 : Hid (g < w2'.heap.size) := Lib.hid (Nat.lt_of_lt_of_le HZZ.out hC3.size)
      clear hR hc3 hS3 hC3
      go_wp2
      go_roundw
      case rel => exact ⟨k + 1, S3, by omega, by go_num, HS3, HA3, HB3, HZ3⟩
      case measure => simp [intOf]; omega
    · obtain rfl : k = n := by omega
      clear c1
      go_wp2
      go_loopw [5] (fun i wr => ∃ (j : Nat) (S' : List En), j ≤ k ∧ i = .int .i64 j ∧ (16 < k → j = 0) ∧ Hid (CacheAt wr (fun b => g ≤ b) g S') ∧ Hid (absT S' = crowd k) ∧ Hid (Below g w wr) ∧ Hid (g < wr.heap.size)) (fun i _ => k - (intOf i).toNat)
      case atStart => exact ⟨0, S, Nat.zero_le _, rfl, fun _ => rfl, HS, HA, HBB, HZZ⟩
      case round =>
        obtain ⟨j, S', hj, rfl, hj0, HS', HA', HB', HZ'⟩ := hrel
        rcases Nat.lt_or_ge j k with d1 | d1
        · have d2 : (j : Int) < k := by omega
          have hu : IntKind.u32.wrap (j : Int) = j := by rw [IntKind.wrap_u32]; omega
          rcases Nat.lt_or_ge 16 k with d3 | d3
          · obtain rfl := hj0 d3
            have hm : IntKind.i64.wrap ((k : Int) - 16) = ((k - 16 : Nat) : Int) := by rw [IntWalk.i64_in _ (by omega)]; omega
            have hm2 : ¬ (((k - 16 : Nat) : Int) ≤ 0) := by omega
            clear hj0
            go_wp2_with fail
            refine (send_room 0 ⟨by omega, by omega⟩ none 0 0 0 [] rfl (by omega) Bs.nil k (by omega) _ (Rw.nil _ _ _) (Nat.zero_le _) _ g S' HS'.out (crowd_not (j := 0) HA'.out (.inr (by omega))) (crowd_has HA'.out)).mono ?_
            rintro e w2' ⟨S2, hR, rfl, S3, hc3, hS3, hC3⟩
            have hl3 : S3.length = 16 := by
              have h1 := congrArg List.length hS3
              rw [absT_len, List.length_append, crowd_room (by omega) HA'.out hR, if_neg (by omega)] at h1
              simp at h1
              omega
            have HS3 : Hid (CacheAt (w2'.alloc (.cells (toldC false noMac true false) 34)) (fun b => g ≤ b) g S3) := Lib.hid ((hc3.mono (G := fun b => g ≤ b) (fun b h => by have := HZ'.out; rcases h with h | h; exact h; omega)).below ((Below.refl _ _).alloc (Nat.le_refl _) _))
            have HB3 : Hid (Below g w (w2'.alloc (.cells (toldC false noMac true false) 34))) := Lib.hid ((HB'.out.trans (hC3.below (fun _ h => h) (by have := HZ'.out; omega))).alloc (by have := HZ'.out; have := hC3.size; omega) _)
            have HZ3 : Hid (g ≤ w2'.heap.size) := Lib.hid (by have := HZ'.out; have := hC3.size; show _ ≤ _; omega)
            have HL3 := Lib.hid hl3
            clear hc3 hS3 hC3 hl3
            unfold toldC noMac at *
            go_wp2_with fail
            refine (len_any _ _ g S3 HS3.out).mono ?_
            rintro e w3' ⟨rfl, rfl⟩
            rw [HL3.out]
            go_wp2_with fail
            refine (known_any _).mono ?_
            rintro e w6 ⟨rfl, hB6⟩
            go_wp2
            go_ret
            exact ⟨rfl, by rw [HG.out]; exact HB3.out.trans (hB6.mono (by simp; have := HZ3.out; omega))⟩
          · have hm : IntKind.i64.wrap ((k : Int) - 16) = (k : Int) - 16 := IntWalk.i64_in _ (by omega)
            have hm2 : (k : Int) - 16 ≤ j := by omega
            obtain ⟨e1, he1, hea, hen⟩ := crowd_in HA'.out d1 (by omega)
            have HEN := Lib.hid hen
            have HEA := Lib.hid hea
            have HE1 := Lib.hid he1
            clear hj0 he1 hea hen
            go_wp2_with fail
            refine (send_known j ⟨by omega, by omega⟩ none 0 0 0 [] rfl (by omega) Bs.nil k (by omega) _ (Rw.nil _ _ _) (Nat.zero_le _) _ g S' HS'.out e1 HE1.out HEA.out (by rw [HEN.out]; rfl) (by rw [HEN.out]; show (k : Int) < laterP j 600; rw [laterP_small (by omega)]; omega)).mono ?_
            rintro e w2' ⟨rfl, S3, hc3, hS3, hC3⟩
            rw [HEN.out]
            have HS3 : Hid (CacheAt (w2'.alloc (.cells (toldC true (macOf (learnt j 0 0 0 0 0 j)) false false) 34)) (fun b => g ≤ b) g S3) := Lib.hid ((hc3.mono (G := fun b => g ≤ b) (fun b h => by have := HZ'.out; rcases h with h | h; exact h; omega)).below ((Below.refl _ _).alloc (Nat.le_refl _) _))
            have HB3 : Hid (Below g w (w2'.alloc (.cells (toldC true (macOf (learnt j 0 0 0 0 0 j)) false false) 34))) := Lib.hid ((HB'.out.trans (hC3.below (fun _ h => h) (by have := HZ'.out; omega))).alloc (by have := HZ'.out; have := hC3.size; omega) _)
            have HZ3 : Hid (g < (w2'.alloc (.cells (toldC true (macOf (learnt j 0 0 0 0 0 j)) false false) 34)).heap.size) := Lib.hid (by have := HZ'.out; have := hC3.size; show _ < _; rw [World.size_alloc]; omega)
            have HA3 : Hid (absT S3 = crowd k) := Lib.hid (hS3.trans HA'.out)
            clear hc3 hS3 hC3
            unfold toldC macOf learnt at *
            go_wp2
            go_roundw
            case rel => exact ⟨j + 1, S3, by omega, by go_num, fun h => by omega, HS3, HA3, HB3, HZ3⟩
            case measure => simp [intOf]; omega
        · have hj' : j = k := by omega
          subst hj'
          have d4 : ¬ 16 < j := fun h => by have := hj0 h; omega
          clear hj0
          obtain ⟨W5, hW5⟩ : ∃ W5, wr.alloc (.cells #[.map none] 32) = W5 := ⟨_, rfl⟩
          obtain ⟨g5, hg5⟩ : ∃ g5, wr.heap.size = g5 := ⟨_, rfl⟩
          have hk5 : Bk W5 g5 32 #[.map none] := by rw [← hW5, ← hg5]; exact Bk.new wr _ _
          have hc5 : CacheAt W5 (fun b => g5 ≤ b) g5 [] := CacheAt.new hk5 (Nat.le_refl _)
          have HB5 : Hid (Below g w W5) := Lib.hid (by rw [← hW5]; exact HB'.out.alloc (by have := HZ'.out; omega) _)
          have HC5 := Lib.hid hc5
          have HZ5 : Hid (g5 < W5.heap.size) := Lib.hid hk5.lt
          have HG5 : Hid (g < g5) := Lib.hid (by rw [← hg5]; exact HZ'.out)
          have HW5 := Lib.hid hW5
          have HGG5 := Lib.hid hg5
          clear hW5 hg5 hk5 hc5
          go_wp2
          rw [HW5.out, HGG5.out]
          go_loopw [8] (fun i wr => ∃ (m : Nat) (S5 : List En), m ≤ j ∧ i = .int .i64 m ∧ Hid (CacheAt wr (fun b => g5 ≤ b) g5 S5) ∧ Hid (absT S5 = asked m) ∧ Hid (Below g w wr) ∧ Hid (g5 < wr.heap.size)) (fun i _ => j - (intOf i).toNat)
          case atStart => exact ⟨0, [], Nat.zero_le _, rfl, HC5, Lib.hid rfl, HB5, HZ5⟩
          case round =>
            obtain ⟨m, S5, hm, rfl, HS5, HA5, HBm, HZm⟩ := hrel
            rcases Nat.lt_or_ge m j with f1 | f1
            · have f2 : (m : Int) < j := by omega
              have f3 : (m : Int) < 16 := by omega
              have hu : IntKind.u32.wrap (m : Int) = m := by rw [IntKind.wrap_u32]; omega
              obtain ⟨w3', hw3⟩ : ∃ w3', wr.alloc (.cells #[.int .u8 1] 5) = w3' := ⟨_, rfl⟩
              have hB3 : Below wr.heap.size wr w3' := by rw [← hw3]; exact (Below.refl _ _).alloc (Nat.le_refl _) _
              have hr3 : RB w3' (wr.heap.size + 1) (some ⟨wr.heap.size, 0, none⟩) [1] := by rw [← hw3]; exact rw_lit wr 5 (by8 [1])
              have hz3 : w3'.heap.size = wr.heap.size + 1 := by rw [← hw3]; simp
              have HW3 := Lib.hid hw3
              have HB3 := Lib.hid hB3
              have HR3 := Lib.hid hr3
              have HZ3 := Lib.hid hz3
              clear hw3 hB3 hr3 hz3
              go_wp2_with fail
              rw [HW3.out]
              refine (send_new m ⟨by omega, by omega⟩ (some ⟨wr.heap.size, 0, none⟩) 1 1 (wr.heap.size + 1) [1] rfl (by omega) (by intro x hx; simp at hx; omega) 0 (by omega) _ HR3.out (by rw [HZ3.out]; exact Nat.le_refl _) _ g5 S5 (HS5.out.below HB3.out) (asked_not HA5.out) (by rw [← absT_len, HA5.out, asked_len]; omega)).mono ?_
              rintro e w2' ⟨rfl, S3, hc3, hS3, hC3⟩
              have hzw : wr.heap.size < w2'.heap.size := by have := hC3.size; have := HZ3.out; omega
              have HS3 : Hid (CacheAt (w2'.alloc (.cells (toldC false noMac true false) 34)) (fun b => g5 ≤ b) g5 S3) := Lib.hid ((hc3.mono (G := fun b => g5 ≤ b) (fun b h => by have := HZm.out; have := HZ3.out; rcases h with h | h; exact h; omega)).below ((Below.refl _ _).alloc (Nat.le_refl _) _))
              have HB4 : Hid (Below g w (w2'.alloc (.cells (toldC false noMac true false) 34))) := Lib.hid (((HBm.out.trans (HB3.out.mono (by have := HZm.out; have := HG5.out; omega))).trans (hC3.below (fun b h => by have := HG5.out; have h' : g5 ≤ b := h; omega) (by have := HZm.out; have := HG5.out; have := HZ3.out; omega))).alloc (by have := HZm.out; have := HG5.out; omega) _)
              have HZ4 : Hid (g5 < (w2'.alloc (.cells (toldC false noMac true false) 34)).heap.size) := Lib.hid (by have := HZm.out; show _ < _; rw [World.size_alloc]; omega)
              have HA3 : Hid (absT S3 = asked (m + 1)) := Lib.hid (by rw [hS3, HA5.out]; exact asked_next m)
              clear hc3 hS3 hC3 hzw
              unfold toldC noMac at *
              go_wp2
              go_roundw
              case rel => exact ⟨m + 1, S3, by omega, by go_num, HS3, HA3, HB4, HZ4⟩
              case measure => simp [intOf]; omega
            · have f2 : ¬ (m : Int) < j := by omega
              go_wp2_with fail
              refine (known_any _).mono ?_
              rintro e w6 ⟨rfl, hB6⟩
              go_wp2
              go_ret
              exact ⟨rfl, by rw [HG.out]; exact HBm.out.trans (hB6.mono (by have := HZm.out; have := HG5.out; omega))⟩

/-! ### the row -/
set_option maxRecDepth 100000 in
theorem lifted (os : Os) (started : os.Started) (H : Type) (enc : TypeId × Value → H) :
    ReturnsInHanded {} Try.checked os 5 .any (Rows.arpCrowdsSpec.pre6 enc Try.prog Try.f5 Rows.arpCrowdsRow.domain false) (Rows.arpCrowdsSpec.post enc Try.prog Try.f5 false true false false) := by
  refine returnsInHanded_of_change_sized (C := Try.checked) own started (by kernel_rfl) Try.func5
    (ChangeSpec.witness6 (enc := enc) (C := Try.checked) false ⟨#[], #[.int .i64 0], []⟩ 8 (by kernel_rfl) (by kernel_rfl) (by kernel_rfl) (by kernel_rfl)) ?_
  intro W base args ds gs before hval0 hW hcnd hsz0 _
  have hval : ∀ (j : Nat) t v, Try.f5.params[j]? = some t → args[j]? = some v → Value.okWide Try.prog W .any base t v := hval0
  have hsz : (DataW.weightsEach Try.prog (Try.f5.params.toList ++ Rows.arpCrowdsSpec.plain.varTypes Try.prog) (ds ++ gs)).all (· ≤ reachBytes) = true := hsz0
  clear hsz0
  have hW' := hW
  obtain ⟨p, q, hA0, hV, rfl, hfz, hnd⟩ := hW
  have hA : DataW.TrodAll enc Try.prog W 0 (fun _ => true) true Try.f5.params.toList args.toList ds p := hA0
  rw [Try.params5] at hA hval hsz
  obtain ⟨v0, vs0, d0, ds0, p0, q0, hargs, rfl, rfl, h0, r0⟩ := trodAll_cons hA
  obtain ⟨rfl, rfl, rfl⟩ := trodAll_nil r0
  obtain rfl : args = #[v0] := by cases args; simp_all
  obtain ⟨rfl, rfl⟩ := trodVars_none hV
  obtain ⟨a0, rfl, rfl, rfl, w0⟩ := open_int Try.underlying3 (hval 0 3 v0 rfl rfl) h0
  clear hA0 hval0
  refine (walk a0 W w0).mono fun e W' ⟨he, bel⟩ => ?_
  subst he
  exact ⟨_, rfl, _, _, _, [], _, [], hW', trodAll_mk1 (shut_bool Try.underlying4 _), (trodAll_cons_mk (shut_int Try.underlying3 w0) trodAll_mk0), rfl, bel.frame _, fun h => by cases h⟩

theorem over : Rows.arpCrowdsRow.holds Try.pinned (OpenSpec.ofChange Rows.arpCrowdsSpec) :=
  OpenClaim.holds_of_wide 5 Try.f5 rfl rfl rfl rfl rfl rfl rfl ⟨rfl, rfl, rfl, rfl, rfl⟩ rfl rfl rfl rfl rfl (by kernel_rfl) Try.func5 (by kernel_rfl)
    (of_decide_eq_true (by kernel_rfl)) (by unfold Func.isWrapper; first | (rw [if_pos (by decide +kernel)]; kernel_rfl) | (rw [if_neg (by decide +kernel)]; exact ⟨rfl, rfl⟩))
    (fun os started H enc _ => lifted os started H enc)

theorem proved : Rows.ArpCrowdsSaid := over
#print axioms proved
end Go.Proofs.Ytocigdkndlmikaa.arpCrowds
