/- Proved: a neighbour that was learnt is known for NearLife ticks, and asked for behind them. Conditions: none, for every input. -/
import Derived.Test.YtocigdkndlmikaaRows
import Derived.WalkKit
import Derived.ProofKit
import Derived.OpenShut
import Derived.ShutString
import Derived.ChangeOld
import Derived.Below
import Derived.SizedLaws
import Derived.Test.YtocigdkndlmikaaArpQ
import Derived.Test.YtocigdkndlmikaaLearnN
import Derived.Test.YtocigdkndlmikaaSendO
namespace Go.Proofs.Ytocigdkndlmikaa.arpLives
open Go.ChangeShapes Go.WideShapes Go.ChangeAt Go.RowKit
open Go.ChangeMaps (open_string shut_string)
set_option linter.unusedVariables false

theorem own : ownKnob Try.prog.godebug = none := by kernel_rfl
theorem laidOut : laidOutB Try.prog = true := by kernel_rfl

/-! ### the walk -/
set_option maxRecDepth 100000 in
set_option maxHeartbeats 4000000 in
theorem walk (a0 : Int) (v1 : Value) (a2 : Int) (a3 : Int) (w : World) (w0 : (Lit.int .u32 a0).wf = true) (w1 : ViewMAC w v1) (w2 : (Lit.int .i64 a2).wf = true) (w3 : (Lit.int .i64 a3).wf = true) :
    Calls Try.prog 4 #[.int .u32 a0, v1, .int .i64 a2, .int .i64 a3] w fun e w' => e = .returned (.bool true) ∧ Below w.heap.size w w' := by
  obtain ⟨m0, m1, m2, m3, m4, m5, rfl, _⟩ := w1
  have hoa : okA a0 := bounds_u32 w0
  have hb2 := bounds_i64 w2
  have hb3 := bounds_i64 w3
  by_cases hbad : a2 < 0 ∨ 1099511617776 < a2 ∨ a3 < 0 ∨ 5000 < a3
  · rcases (by omega : a2 < 0 ∨ (0 ≤ a2 ∧ 1099511617776 < a2) ∨ (0 ≤ a2 ∧ a2 ≤ 1099511617776 ∧ a3 < 0) ∨ (0 ≤ a2 ∧ a2 ≤ 1099511617776 ∧ 0 ≤ a3 ∧ 5000 < a3)) with c | ⟨c, d⟩ | ⟨c, d, e⟩ | ⟨c, d, e, f⟩
    all_goals
      clear hbad
      go_enter Try.func4, Try.ntmps4
      go_wp2_with fail
      refine (known_any _).mono ?_
      rintro e w6 ⟨rfl, hB6⟩
      go_wp2
      go_ret
      exact ⟨rfl, ((Below.refl _ _).alloc (Nat.le_refl _) _).trans (hB6.mono (by simp))⟩
  obtain ⟨f0, f1, g0, g1⟩ : 0 ≤ a2 ∧ a2 ≤ 1099511617776 ∧ 0 ≤ a3 ∧ a3 ≤ 5000 := by omega
  clear hbad hb2 hb3
  obtain ⟨g, hg⟩ : ∃ g, w.heap.size + 1 = g := ⟨_, rfl⟩
  obtain ⟨W0, hW0⟩ : ∃ W0, w.alloc (.cells #[.int .u8 m0, .int .u8 m1, .int .u8 m2, .int .u8 m3, .int .u8 m4, .int .u8 m5] 26) = W0 := ⟨_, rfl⟩
  obtain ⟨W1, hW1⟩ : ∃ W1, W0.alloc (.cells #[.map none] 32) = W1 := ⟨_, rfl⟩
  have hz0 : W0.heap.size = g := by rw [← hW0, ← hg]; simp
  have hz1 : W1.heap.size = g + 1 := by rw [← hW1, World.size_alloc, hz0]
  have hk1 : Bk W1 g 32 #[.map none] := by rw [← hW1, ← hz0]; exact Bk.new W0 _ _
  have hB0 : Below w.heap.size w W0 := by rw [← hW0]; exact (Below.refl _ _).alloc (Nat.le_refl _) _
  have hB1 : Below W0.heap.size W0 W1 := by rw [← hW1]; exact (Below.refl _ _).alloc (Nat.le_refl _) _
  have ht0 : Bk W0 w.heap.size 26 #[.int .u8 m0, .int .u8 m1, .int .u8 m2, .int .u8 m3, .int .u8 m4, .int .u8 m5] := by rw [← hW0]; exact Bk.new w _ _
  have ht1 := ht0.below hB1 ht0.lt
  have hc1 : CacheAt W1 (fun b => g ≤ b) g [] := CacheAt.new hk1 (Nat.le_refl _)
  have HW1 : Hid ((w.alloc (.cells #[.int .u8 m0, .int .u8 m1, .int .u8 m2, .int .u8 m3, .int .u8 m4, .int .u8 m5] 26)).alloc (.cells #[.map none] 32) = W1) := Lib.hid (by rw [hW0]; exact hW1)
  have HB1 : Hid (Below w.heap.size w W1) := Lib.hid (hB0.trans (hB1.mono hB0.size))
  have HT1 := Lib.hid ht1
  have HG := Lib.hid hg
  have HZ := Lib.hid hz1
  have k0 := ht1.cell 0
  have k1 := ht1.cell 1
  have k2 := ht1.cell 2
  have k3 := ht1.cell 3
  have k4 := ht1.cell 4
  have k5 := ht1.cell 5
  simp only [List.getElem?_toArray, List.getElem?_cons_zero, List.getElem?_cons_succ] at k0 k1 k2 k3 k4 k5
  clear hW0 hW1 hk1 hz0 hB0 hB1 hg hz1 ht0 ht1
  go_enter Try.func4, Try.ntmps4
  go_wp2_with fail
  rw [HW1.out, HG.out]
  refine (learn_new a0 hoa m0 m1 m2 m3 m4 m5 a2 (by omega) true _ _ g [] hc1 (fun _ h => by cases h) (by simp) rfl).mono ?_
  rintro e w2' ⟨A2, n2, c2, rfl, _, S1, hc2, hS1, hC2⟩
  obtain ⟨e1, rfl, he1a, he1n⟩ := absT_one (S := S1) (by rw [hS1]; rfl)
  have hB2 : Below w.heap.size w w2' := HB1.out.trans (hC2.below (fun _ h => by have := HG.out; omega) (by rw [HZ.out]; have := HG.out; omega))
  have ht2 := HT1.out.chg hC2 (fun h => by have := HG.out; omega)
  have HC2 := Lib.hid hc2
  have HB2 := Lib.hid hB2
  have HT2 := Lib.hid ht2
  have HE1 := Lib.hid he1a
  have HN1 := Lib.hid he1n
  have hl1 : laterP a2 600 = a2 + 600 := by unfold laterP; rw [if_neg (by omega)]
  have HL1 := Lib.hid hl1
  clear hc2 hS1 hC2 hB2 ht2 he1a he1n hc1 k0 k1 k2 k3 k4 k5 hl1
  obtain ⟨w3', hw3⟩ : ∃ w3', w2'.alloc (.cells #[.int .u8 1] 5) = w3' := ⟨_, rfl⟩
  have hB3 : Below w2'.heap.size w2' w3' := by rw [← hw3]; exact (Below.refl _ _).alloc (Nat.le_refl _) _
  have hr3 : RB w3' (w2'.heap.size + 1) (some ⟨w2'.heap.size, 0, none⟩) [1] := by rw [← hw3]; exact rw_lit w2' 5 (by8 [1])
  have hz3 : w3'.heap.size = w2'.heap.size + 1 := by rw [← hw3]; simp
  have HZ3 := Lib.hid hz3
  have HC3 := Lib.hid (HC2.out.below hB3)
  have HT3 := Lib.hid (HT2.out.below hB3 HT2.out.lt)
  have HB3 := Lib.hid (HB2.out.trans (hB3.mono HB2.out.size))
  have HW3 := Lib.hid hw3
  have HZ1 := Lib.hid (show w.heap.size < g by have := HG.out; omega)
  clear hw3 hB3 hz3
  have hbb : Bs [1] := by intro x hx; simp at hx; omega
  have hq := eql_told
  rcases (by omega : a3 < 600 ∨ 600 ≤ a3) with c | c
  · skip
    go_wp2_with fail
    rw [HW3.out]
    refine (send_known a0 hoa (some ⟨w2'.heap.size, 0, none⟩) 1 1 (w2'.heap.size + 1) [1] rfl (by omega) hbb (a2 + a3) (by omega) _ hr3 (by rw [HZ3.out]; exact Nat.le_refl _) _ g [e1] HC3.out e1 (by simp) HE1.out (by rw [HN1.out]; rfl) (by rw [HN1.out]; show a2 + a3 < laterP a2 600; rw [HL1.out]; omega)).mono ?_
    rintro e w4 ⟨rfl, S4, hc4, hS4, hC4⟩
    rw [HN1.out]
    unfold toldC macOf learnt
    have ht4 := HT3.out.chg hC4 (fun h => by have := HZ1.out; have := HZ.out; have := HZ3.out; have := HT2.out.lt; rcases h with h | h <;> omega)
    have hB4 : Below w.heap.size w w4 := HB3.out.trans (hC4.below (fun b h => by have := HZ1.out; have := HZ.out; rcases h with h | h <;> omega) HB3.out.size)
    have k0 := (World.cell?_alloc_lt w4 (.cells #[.bool true, .int .u8 m0, .int .u8 m1, .int .u8 m2, .int .u8 m3, .int .u8 m4, .int .u8 m5, .bool false, .bool false] 34) ⟨w.heap.size, 0, none⟩ ht4.lt).trans (ht4.cell 0)
    have k1 := (World.cell?_alloc_lt w4 (.cells #[.bool true, .int .u8 m0, .int .u8 m1, .int .u8 m2, .int .u8 m3, .int .u8 m4, .int .u8 m5, .bool false, .bool false] 34) ⟨w.heap.size, 1, none⟩ ht4.lt).trans (ht4.cell 1)
    have k2 := (World.cell?_alloc_lt w4 (.cells #[.bool true, .int .u8 m0, .int .u8 m1, .int .u8 m2, .int .u8 m3, .int .u8 m4, .int .u8 m5, .bool false, .bool false] 34) ⟨w.heap.size, 2, none⟩ ht4.lt).trans (ht4.cell 2)
    have k3 := (World.cell?_alloc_lt w4 (.cells #[.bool true, .int .u8 m0, .int .u8 m1, .int .u8 m2, .int .u8 m3, .int .u8 m4, .int .u8 m5, .bool false, .bool false] 34) ⟨w.heap.size, 3, none⟩ ht4.lt).trans (ht4.cell 3)
    have k4 := (World.cell?_alloc_lt w4 (.cells #[.bool true, .int .u8 m0, .int .u8 m1, .int .u8 m2, .int .u8 m3, .int .u8 m4, .int .u8 m5, .bool false, .bool false] 34) ⟨w.heap.size, 4, none⟩ ht4.lt).trans (ht4.cell 4)
    have k5 := (World.cell?_alloc_lt w4 (.cells #[.bool true, .int .u8 m0, .int .u8 m1, .int .u8 m2, .int .u8 m3, .int .u8 m4, .int .u8 m5, .bool false, .bool false] 34) ⟨w.heap.size, 5, none⟩ ht4.lt).trans (ht4.cell 5)
    simp only [List.getElem?_toArray, List.getElem?_cons_zero, List.getElem?_cons_succ] at k0 k1 k2 k3 k4 k5
    have HB4 := Lib.hid hB4
    clear hc4 hS4 hC4 ht4 hB4
    go_wp2_with fail
    refine (known_any _).mono ?_
    rintro e w6 ⟨rfl, hB6⟩
    go_wp2
    go_ret
    exact ⟨rfl, (HB4.out.alloc HB4.out.size _).trans (hB6.mono (by simp; have := HB4.out.size; omega))⟩
  · skip
    go_wp2_with fail
    rw [HW3.out]
    refine (send_old a0 hoa (some ⟨w2'.heap.size, 0, none⟩) 1 1 (w2'.heap.size + 1) [1] rfl (by omega) hbb (a2 + a3) (by omega) _ hr3 (by rw [HZ3.out]; exact Nat.le_refl _) _ g [e1] HC3.out e1 (by simp) HE1.out (by rw [HN1.out]; rfl) (by rw [HN1.out]; show laterP a2 600 ≤ a2 + a3; rw [HL1.out]; omega)).mono ?_
    rintro e w4 ⟨rfl, S4, hc4, hS4, hC4⟩
    unfold toldC noMac
    have ht4 := HT3.out.chg hC4 (fun h => by have := HZ1.out; have := HZ.out; have := HZ3.out; have := HT2.out.lt; rcases h with h | h <;> omega)
    have hB4 : Below w.heap.size w w4 := HB3.out.trans (hC4.below (fun b h => by have := HZ1.out; have := HZ.out; rcases h with h | h <;> omega) HB3.out.size)
    have k0 := (World.cell?_alloc_lt w4 (.cells #[.bool false, .int .u8 0, .int .u8 0, .int .u8 0, .int .u8 0, .int .u8 0, .int .u8 0, .bool true, .bool false] 34) ⟨w.heap.size, 0, none⟩ ht4.lt).trans (ht4.cell 0)
    have k1 := (World.cell?_alloc_lt w4 (.cells #[.bool false, .int .u8 0, .int .u8 0, .int .u8 0, .int .u8 0, .int .u8 0, .int .u8 0, .bool true, .bool false] 34) ⟨w.heap.size, 1, none⟩ ht4.lt).trans (ht4.cell 1)
    have k2 := (World.cell?_alloc_lt w4 (.cells #[.bool false, .int .u8 0, .int .u8 0, .int .u8 0, .int .u8 0, .int .u8 0, .int .u8 0, .bool true, .bool false] 34) ⟨w.heap.size, 2, none⟩ ht4.lt).trans (ht4.cell 2)
    have k3 := (World.cell?_alloc_lt w4 (.cells #[.bool false, .int .u8 0, .int .u8 0, .int .u8 0, .int .u8 0, .int .u8 0, .int .u8 0, .bool true, .bool false] 34) ⟨w.heap.size, 3, none⟩ ht4.lt).trans (ht4.cell 3)
    have k4 := (World.cell?_alloc_lt w4 (.cells #[.bool false, .int .u8 0, .int .u8 0, .int .u8 0, .int .u8 0, .int .u8 0, .int .u8 0, .bool true, .bool false] 34) ⟨w.heap.size, 4, none⟩ ht4.lt).trans (ht4.cell 4)
    have k5 := (World.cell?_alloc_lt w4 (.cells #[.bool false, .int .u8 0, .int .u8 0, .int .u8 0, .int .u8 0, .int .u8 0, .int .u8 0, .bool true, .bool false] 34) ⟨w.heap.size, 5, none⟩ ht4.lt).trans (ht4.cell 5)
    simp only [List.getElem?_toArray, List.getElem?_cons_zero, List.getElem?_cons_succ] at k0 k1 k2 k3 k4 k5
    have HB4 := Lib.hid hB4
    clear hc4 hS4 hC4 ht4 hB4
    go_wp2_with fail
    refine (known_any _).mono ?_
    rintro e w6 ⟨rfl, hB6⟩
    go_wp2
    go_ret
    exact ⟨rfl, (HB4.out.alloc HB4.out.size _).trans (hB6.mono (by simp; have := HB4.out.size; omega))⟩

/-! ### the row -/
set_option maxRecDepth 100000 in
theorem lifted (os : Os) (started : os.Started) (H : Type) (enc : TypeId × Value → H) :
    ReturnsInHanded {} Try.checked os 4 .any (Rows.arpLivesSpec.pre6 enc Try.prog Try.f4 Rows.arpLivesRow.domain false) (Rows.arpLivesSpec.post enc Try.prog Try.f4 false true false false) := by
  refine returnsInHanded_of_change_sized (C := Try.checked) own started (by kernel_rfl) Try.func4
    (ChangeSpec.witness6 (enc := enc) (C := Try.checked) false ⟨#[], #[.int .u32 0, .agg #[.int .u8 0, .int .u8 0, .int .u8 0, .int .u8 0, .int .u8 0, .int .u8 0], .int .i64 0, .int .i64 0], []⟩ 8 (by kernel_rfl) (by kernel_rfl) (by kernel_rfl) (by kernel_rfl)) ?_
  intro W base args ds gs before hval0 hW hcnd hsz0 _
  have hval : ∀ (j : Nat) t v, Try.f4.params[j]? = some t → args[j]? = some v → Value.okWide Try.prog W .any base t v := hval0
  have hsz : (DataW.weightsEach Try.prog (Try.f4.params.toList ++ Rows.arpLivesSpec.plain.varTypes Try.prog) (ds ++ gs)).all (· ≤ reachBytes) = true := hsz0
  clear hsz0
  have hW' := hW
  obtain ⟨p, q, hA0, hV, rfl, hfz, hnd⟩ := hW
  have hA : DataW.TrodAll enc Try.prog W 0 (fun _ => true) true Try.f4.params.toList args.toList ds p := hA0
  rw [Try.params4] at hA hval hsz
  obtain ⟨v0, vs0, d0, ds0, p0, q0, hargs, rfl, rfl, h0, r0⟩ := trodAll_cons hA
  obtain ⟨v1, vs1, d1, ds1, p1, q1, rfl, rfl, rfl, h1, r1⟩ := trodAll_cons r0
  obtain ⟨v2, vs2, d2, ds2, p2, q2, rfl, rfl, rfl, h2, r2⟩ := trodAll_cons r1
  obtain ⟨v3, vs3, d3, ds3, p3, q3, rfl, rfl, rfl, h3, r3⟩ := trodAll_cons r2
  obtain ⟨rfl, rfl, rfl⟩ := trodAll_nil r3
  obtain rfl : args = #[v0, v1, v2, v3] := by cases args; simp_all
  obtain ⟨rfl, rfl⟩ := trodVars_none hV
  obtain ⟨a0, rfl, rfl, rfl, w0⟩ := open_int Try.underlying23 (hval 0 23 v0 rfl rfl) h0
  have k1 := h1
  have lt1 : ∀ x ∈ p1, x.block < W.heap.size := by obtain ⟨m, hm⟩ := k1; exact DataW.trod_lt m _ _ _ hm
  have w1 : ViewMAC W v1 := open_mac (hval 1 26 v1 rfl rfl) h1 (fun k hk => by have := List.all_eq_true.1 hsz k (DataW.weights_mem_each (j := 1) rfl rfl k hk); simpa using this)
  obtain ⟨a2, rfl, rfl, rfl, w2⟩ := open_int Try.underlying3 (hval 2 3 v2 rfl rfl) h2
  obtain ⟨a3, rfl, rfl, rfl, w3⟩ := open_int Try.underlying3 (hval 3 3 v3 rfl rfl) h3
  clear hA0 hval0
  refine (walk a0 v1 a2 a3 W w0 w1 w2 w3).mono fun e W' ⟨he, bel⟩ => ?_
  subst he
  exact ⟨_, rfl, _, _, _, [], _, [], hW', trodAll_mk1 (shut_bool Try.underlying4 _), (trodAll_cons_mk (shut_int Try.underlying23 w0) (trodAll_cons_mk (Below.trod laidOut (by kernel_rfl) (of_decide_eq_true (by kernel_rfl)) k1 bel lt1) (trodAll_cons_mk (shut_int Try.underlying3 w2) (trodAll_cons_mk (shut_int Try.underlying3 w3) trodAll_mk0)))), rfl, bel.frame _, fun h => by cases h⟩

theorem over : Rows.arpLivesRow.holds Try.pinned (OpenSpec.ofChange Rows.arpLivesSpec) :=
  OpenClaim.holds_of_wide 4 Try.f4 rfl rfl rfl rfl rfl rfl rfl ⟨rfl, rfl, rfl, rfl, rfl⟩ rfl rfl rfl rfl rfl (by kernel_rfl) Try.func4 (by kernel_rfl)
    (of_decide_eq_true (by kernel_rfl)) (by unfold Func.isWrapper; first | (rw [if_pos (by decide +kernel)]; kernel_rfl) | (rw [if_neg (by decide +kernel)]; exact ⟨rfl, rfl⟩))
    (fun os started H enc _ => lifted os started H enc)

theorem proved : Rows.ArpLivesSaid := over
#print axioms proved
end Go.Proofs.Ytocigdkndlmikaa.arpLives
