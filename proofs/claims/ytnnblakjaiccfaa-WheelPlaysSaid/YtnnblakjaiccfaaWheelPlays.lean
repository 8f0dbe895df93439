/- Proved: of every script each answer is that of a plain list of timers. Conditions: none, for every input. -/
import Derived.Test.YtnnblakjaiccfaaRows
import Derived.WalkKit
import Derived.ProofKit
import Derived.OpenShut
import Derived.ShutString
import Derived.ChangeOld
import Derived.Below
import Derived.SizedLaws
import Derived.Test.YtnnblakjaiccfaaStp
namespace Go.Proofs.Ytnnblakjaiccfaa.wheelPlays
open Go.ChangeShapes Go.WideShapes Go.ChangeAt Go.RowKit
open Go.ChangeMaps (open_string shut_string)
set_option linter.unusedVariables false

theorem own : ownKnob Try.prog.godebug = none := by kernel_rfl
theorem laidOut : laidOutB Try.prog = true := by kernel_rfl

/-! ### the walk -/
set_option maxRecDepth 100000 in
set_option maxHeartbeats 4000000 in
theorem walk (v0 : Value) (w : World) (w0 : ViewSteps w v0) :
    Calls Try.prog 6 #[v0] w fun e w' => e = .returned (.bool true) ∧ Below w.heap.size w w' := by
  obtain ⟨A, len, cap, l, rfl, hlen, hcap, hn, hr, hq⟩ := w0
  have Hn := Lib.hid hn
  have Hq := Lib.hid hq
  clear hn hq
  have hmax : len ≤ 140737488351232 := by omega
  clear hcap
  obtain ⟨p, hp⟩ : ∃ p, w.heap.size = p := ⟨_, rfl⟩
  obtain ⟨W1, hW1⟩ : ∃ W1, w.alloc (.cells whZ 27) = W1 := ⟨_, rfl⟩
  obtain ⟨q, hqq⟩ : ∃ q, W1.heap.size = q := ⟨_, rfl⟩
  obtain ⟨W2, hW2⟩ : ∃ W2, W1.alloc (.cells #[.slice none 0 0] 43) = W2 := ⟨_, rfl⟩
  have HK0 : Hid (PlK w p q W2) := Lib.hid (by rw [← hp, ← hqq]; exact PlK.start w W1 W2 hW1 hW2)
  have HRW : Hid (∀ X, Below p w X → SL 3 stepC X p A l) := Lib.hid (fun X hX => by rw [← hp] at hX ⊢; exact hr.below hX)
  have HP := Lib.hid hp
  have HW1 := Lib.hid hW1
  have HQP : Hid (p + 1 = q) := Lib.hid (by rw [← hqq, ← hW1, World.size_alloc, hp])
  have HW2 := Lib.hid hW2
  have hzv := zero_wh
  have hzr := zero_rf
  have hzs := zero_stp
  clear hp hW1 hqq hW2 hr
  go_enter Try.func6, Try.ntmps6
  go_wp2
  rw [HW1.out, HP.out, HQP.out, HW2.out]
  go_loopw [5] (fun i wr => ∃ k : Nat, k ≤ len ∧ k ≤ 400 ∧ i = .int .i64 k ∧ Hid (PlK w p q wr)) (fun i _ => len - (intOf i).toNat)
  case atStart => exact ⟨0, by omega, by omega, rfl, HK0⟩
  case round =>
    obtain ⟨k, hk, hk3, rfl, HC⟩ := hrel
    have hBK : Below p w wr := by obtain ⟨_, _, _, _, h3⟩ := HC.out; exact h3
    have hps : p ≤ wr.heap.size := by have := hBK.size; have := HP.out; omega
    rcases (by omega : len = k ∨ (k < len ∧ 400 ≤ k) ∨ (k < len ∧ k < 400)) with rfl | ⟨d, d'⟩ | ⟨d, d'⟩
    · go_wp2_with (go_at_call 11; refine (known_any _).mono ?_; rintro e w' ⟨rfl, hB5⟩)
      go_ret
      exact ⟨rfl, by rw [HP.out]; exact hBK.trans (hB5.mono hps)⟩
    · go_wp2_with (go_at_call 11; refine (known_any _).mono ?_; rintro e w' ⟨rfl, hB5⟩)
      go_ret
      exact ⟨rfl, by rw [HP.out]; exact hBK.trans (hB5.mono hps)⟩
    · obtain ⟨o, ho⟩ : ∃ o, l[k]? = some o := ⟨_, List.getElem?_eq_getElem (by rw [Hn.out]; exact d)⟩
      obtain ⟨b, off, rfl, hbB, hA⟩ := (HRW.out wr hBK).at_ ho
      have ok := Hq.out o (List.mem_of_getElem? ho)
      obtain ⟨kd, v, u⟩ := o
      have h0 := hA 0 _ rfl
      have h1 := hA 1 _ rfl
      have h2 := hA 2 _ rfl
      simp only [Nat.add_zero, StepOk] at h0 h1 h2 ok
      have HH : Hid (∀ X, PlK w p q X → X.cell? ⟨b, off + k * 3, none⟩ = some (.int .i64 kd) ∧ X.cell? ⟨b, off + k * 3 + 1, none⟩ = some (.int .i64 v) ∧ X.cell? ⟨b, off + k * 3 + 2, none⟩ = some (.int .i64 u)) := Lib.hid (fun X hX => by
        have hBX : Below p w X := by obtain ⟨_, _, _, _, h3⟩ := hX; exact h3
        exact ⟨((hBX.cell (p := ⟨b, off + k * 3, none⟩) hbB).trans (hBK.cell (p := ⟨b, off + k * 3, none⟩) hbB).symm).trans h0, ((hBX.cell (p := ⟨b, off + k * 3 + 1, none⟩) hbB).trans (hBK.cell (p := ⟨b, off + k * 3 + 1, none⟩) hbB).symm).trans h1, ((hBX.cell (p := ⟨b, off + k * 3 + 2, none⟩) hbB).trans (hBK.cell (p := ⟨b, off + k * 3 + 2, none⟩) hbB).symm).trans h2⟩)
      have hS1 := HH.out wr.drew HC.out.drew
      have hK1 := HC.out.drew
      have okz : okI 0 := ⟨by omega, by omega⟩
      have okv : okI v := ok.2.1
      have oku : okI u := ok.2.2
      have HOK := Lib.hid (And.intro okv oku)
      have HOZ := Lib.hid okz
      clear hA ho hBK okz okv oku ok
      go_wp2
      obtain ⟨s0, s1, s2⟩ := hS1
      go_region_with (first
          | (go_at_call 15; ((with_reducible refine (does_plk w _ p q kd v u HOK.out.1 HOK.out.2 hK1).mono ?_); rintro e w3 ⟨rfl, hK3⟩; obtain ⟨A3, n3, c3, hcl3, HL3⟩ := hK3.len; obtain ⟨s03, s13, s23⟩ := HH.out w3 hK3))
          | (go_at_call 10; ((with_reducible refine HL3.mono ?_); rintro e w4 ⟨rfl, rfl⟩))
          | (go_at_call 15; ((with_reducible refine (does_plk w _ p q 5 0 0 HOZ.out HOZ.out hK3).mono ?_); rintro e w5 ⟨rfl, hK5⟩; obtain ⟨s05, s15, s25⟩ := HH.out w5 hK5)))
      all_goals
        have HC5 := Lib.hid hK5
        go_wp2
        go_roundw
        case rel => exact ⟨k + 1, by omega, by omega, by go_num, HC5⟩
        case measure => simp [intOf]; omega

/-! ### the row -/
set_option maxRecDepth 100000 in
theorem lifted (os : Os) (started : os.Started) (H : Type) (enc : TypeId × Value → H) :
    ReturnsInHanded {} Try.checked os 6 .any (Rows.wheelPlaysSpec.pre6 enc Try.prog Try.f6 Rows.wheelPlaysRow.domain false) (Rows.wheelPlaysSpec.post enc Try.prog Try.f6 false true false false) := by
  refine returnsInHanded_of_change_sized (C := Try.checked) own started (by kernel_rfl) Try.func6
    (ChangeSpec.witness6 (enc := enc) (C := Try.checked) false ⟨#[], #[.slice none 0 0], []⟩ 8 (by kernel_rfl) (by kernel_rfl) (by kernel_rfl) (by kernel_rfl)) ?_
  intro W base args ds gs before hval0 hW hcnd hsz0 _
  have hval : ∀ (j : Nat) t v, Try.f6.params[j]? = some t → args[j]? = some v → Value.okWide Try.prog W .any base t v := hval0
  have hsz : (DataW.weightsEach Try.prog (Try.f6.params.toList ++ Rows.wheelPlaysSpec.plain.varTypes Try.prog) (ds ++ gs)).all (· ≤ reachBytes) = true := hsz0
  clear hsz0
  have hW' := hW
  obtain ⟨p, q, hA0, hV, rfl, hfz, hnd⟩ := hW
  have hA : DataW.TrodAll enc Try.prog W 0 (fun _ => true) true Try.f6.params.toList args.toList ds p := hA0
  rw [Try.params6] at hA hval hsz
  obtain ⟨v0, vs0, d0, ds0, p0, q0, hargs, rfl, rfl, h0, r0⟩ := trodAll_cons hA
  obtain ⟨rfl, rfl, rfl⟩ := trodAll_nil r0
  obtain rfl : args = #[v0] := by cases args; simp_all
  obtain ⟨rfl, rfl⟩ := trodVars_none hV
  have k0 := h0
  have lt0 : ∀ x ∈ p0, x.block < W.heap.size := by obtain ⟨m, hm⟩ := k0; exact DataW.trod_lt m _ _ _ hm
  have w0 : ViewSteps W v0 := open_steps (hval 0 39 v0 rfl rfl) h0 (fun k hk => by have := List.all_eq_true.1 hsz k (DataW.weights_mem_each (j := 0) rfl rfl k hk); simpa using this)
  clear hA0 hval0
  refine (walk v0 W w0).mono fun e W' ⟨he, bel⟩ => ?_
  subst he
  exact ⟨_, rfl, _, _, _, [], _, [], hW', trodAll_mk1 (shut_bool Try.underlying4 _), (trodAll_cons_mk (Below.trod laidOut (by kernel_rfl) (of_decide_eq_true (by kernel_rfl)) k0 bel lt0) trodAll_mk0), rfl, bel.frame _, fun h => by cases h⟩

theorem over : Rows.wheelPlaysRow.holds Try.pinned (OpenSpec.ofChange Rows.wheelPlaysSpec) :=
  OpenClaim.holds_of_wide 6 Try.f6 rfl rfl rfl rfl rfl rfl rfl ⟨rfl, rfl, rfl, rfl, rfl⟩ rfl rfl rfl rfl rfl (by kernel_rfl) Try.func6 (by kernel_rfl)
    (of_decide_eq_true (by kernel_rfl)) (by unfold Func.isWrapper; first | (rw [if_pos (by decide +kernel)]; kernel_rfl) | (rw [if_neg (by decide +kernel)]; exact ⟨rfl, rfl⟩))
    (fun os started H enc _ => lifted os started H enc)

theorem proved : Rows.WheelPlaysSaid := over
#print axioms proved
end Go.Proofs.Ytnnblakjaiccfaa.wheelPlays
