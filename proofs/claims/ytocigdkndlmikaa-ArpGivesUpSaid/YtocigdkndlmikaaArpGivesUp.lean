/- Proved: one who does not answer is asked AskTries times, each AskEvery ticks, and then lost. Conditions: none, for every input. -/
import Derived.Test.YtocigdkndlmikaaRows
import Derived.WalkKit
import Derived.ProofKit
import Derived.OpenShut
import Derived.ShutString
import Derived.ChangeOld
import Derived.Below
import Derived.SizedLaws
import Derived.Test.YtocigdkndlmikaaTick1
namespace Go.Proofs.Ytocigdkndlmikaa.arpGivesUp
open Go.ChangeShapes Go.WideShapes Go.ChangeAt Go.RowKit
open Go.ChangeMaps (open_string shut_string)
set_option linter.unusedVariables false

theorem own : ownKnob Try.prog.godebug = none := by kernel_rfl
theorem laidOut : laidOutB Try.prog = true := by kernel_rfl

/-! ### the walk -/
set_option maxRecDepth 100000 in
set_option maxHeartbeats 4000000 in
theorem walk (a0 : Int) (a1 : Int) (w : World) (w0 : (Lit.int .u32 a0).wf = true) (w1 : (Lit.int .i64 a1).wf = true) :
    Calls Try.prog 10 #[.int .u32 a0, .int .i64 a1] w fun e w' => e = .returned (.bool true) ∧ Below w.heap.size w w' := by
  have hoa : okA a0 := bounds_u32 w0
  have hb1 := bounds_i64 w1
  by_cases hbad : a1 < 0 ∨ 1099511626776 < a1
  · rcases (by omega : a1 < 0 ∨ (0 ≤ a1 ∧ 1099511626776 < a1)) with c | ⟨c, d⟩
    all_goals
      clear hbad
      go_enter Try.func10, Try.ntmps10
      go_wp2_with fail
      refine (known_any _).mono ?_
      rintro e w6 ⟨rfl, hB6⟩
      go_wp2
      go_ret
      exact ⟨rfl, hB6⟩
  obtain ⟨f0, f1⟩ : 0 ≤ a1 ∧ a1 ≤ 1099511626776 := by omega
  clear hbad hb1
  obtain ⟨g, hg⟩ : ∃ g, w.heap.size = g := ⟨_, rfl⟩
  obtain ⟨W0, hW0⟩ : ∃ W0, w.alloc (.cells #[.map none] 32) = W0 := ⟨_, rfl⟩
  obtain ⟨W1, hW1⟩ : ∃ W1, W0.alloc (.cells #[.int .u8 1] 5) = W1 := ⟨_, rfl⟩
  have hk0 : Bk W0 g 32 #[.map none] := by rw [← hW0, ← hg]; exact Bk.new w _ _
  have hz0 : W0.heap.size = g + 1 := by rw [← hW0, ← hg]; simp
  have hz1 : W1.heap.size = g + 1 + 1 := by rw [← hW1, World.size_alloc, hz0]
  have hB0 : Below g w W0 := by rw [← hW0, ← hg]; exact (Below.refl _ _).alloc (Nat.le_refl _) _
  have hB1 : Below W0.heap.size W0 W1 := by rw [← hW1]; exact (Below.refl _ _).alloc (Nat.le_refl _) _
  have hc1 : CacheAt W1 (fun b => g ≤ b) g [] := CacheAt.below (CacheAt.new hk0 (Nat.le_refl _)) hB1
  have hr1 : RB W1 (g + 1 + 1) (some ⟨g + 1, 0, none⟩) [1] := by
    have := rw_lit W0 5 (by8 [1])
    rw [hz0] at this
    rw [← hW1]; exact this
  have HW1 : Hid ((w.alloc (.cells #[.map none] 32)).alloc (.cells #[.int .u8 1] 5) = W1) := Lib.hid (by rw [hW0]; exact hW1)
  have HB1 : Hid (Below g w W1) := Lib.hid (hB0.trans (hB1.mono (by omega)))
  have HG := Lib.hid hg
  have HZ := Lib.hid hz1
  clear hW0 hW1 hk0 hz0 hB0 hB1 hg hz1
  have hl1 : laterP a1 10 = a1 + 10 := by unfold laterP; rw [if_neg (by omega)]
  have HL1 := Lib.hid hl1
  clear hl1
  go_enter Try.func10, Try.ntmps10
  go_wp2_with fail
  rw [HW1.out, HG.out]
  refine (send_new a0 hoa (some ⟨g + 1, 0, none⟩) 1 1 (g + 1 + 1) [1] rfl (by omega) (by intro x hx; simp at hx; omega) a1 (by omega) _ hr1 (by rw [HZ.out]; exact Nat.le_refl _) _ g [] hc1 (fun _ h => by cases h) (by simp)).mono ?_
  rintro e w2 ⟨rfl, S1, hc2, hS1, hC2⟩
  obtain ⟨e1, rfl, he1a, he1n⟩ := absT_one (S := S1) (by rw [hS1]; rfl)
  have HB2 : Hid (Below g w w2) := Lib.hid (HB1.out.trans (hC2.below (fun _ h => h) (by rw [HZ.out]; omega)))
  have HC2 : Hid (CacheAt w2 (fun b => g ≤ b) g [e1]) := Lib.hid (hc2.mono fun b hb => by rcases hb with h | h; exact h; have := HZ.out; omega)
  have HZ2 : Hid (g < w2.heap.size) := Lib.hid (by have := hC2.size; have := HZ.out; show _ < _; omega)
  have HE1 := Lib.hid he1a
  have HN1 : Hid (e1.n = waitNb (a1 + 10) 1) := Lib.hid (by rw [he1n]; unfold newNb; rw [HL1.out]; rfl)
  have hf : ∀ w, (Instr.field 34 (.agg #[.bool false, .int .u8 0, .int .u8 0, .int .u8 0, .int .u8 0, .int .u8 0, .int .u8 0, .bool true, .bool false]) 2).run Try.prog w = .ok (.bool true) w := fun w => by kernel_rfl
  clear hS1 hc2 hC2 he1a he1n hc1 hr1
  unfold toldC noMac
  go_wp2
  go_loopw [6, 7, 8, 9] (fun v6 v7 _ _ wr => ∃ (j q : Nat) (e : En), 1 ≤ q ∧ q ≤ 3 ∧ (q = 1 ∨ 10 * (q - 1) < j) ∧ j ≤ 10 * q ∧ v6 = .int .i64 q ∧ v7 = .int .i64 (a1 + j) ∧ Hid (CacheAt wr (fun b => g ≤ b) g [e]) ∧ Hid (e.a = a0) ∧ Hid (e.n = waitNb (a1 + 10 * q) q) ∧ Hid (Below g w wr) ∧ Hid (g < wr.heap.size))
    (fun _ v7 _ _ _ => 31 - ((intOf v7) - a1).toNat)
  case atStart => exact ⟨0, 1, e1, by omega, by omega, .inl rfl, by omega, rfl, by go_num, HC2, HE1, by simpa using HN1, HB2, HZ2⟩
  case round =>
    obtain ⟨j, q, e, hq1, hq3, hqj, hj, rfl, rfl, HC, HE, HN, HB, HZZ⟩ := hrel
    have hj30 : (j : Int) ≤ 30 := by omega
    go_wp2_with fail
    refine (tick_one (a1 + j) (by omega) wr (fun b => g ≤ b) g e HC.out).mono ?_
    rintro e2 w3 ⟨A1, n1, c1, A2, n2, c2, asks, losts, rfl, hoa1, hoa2, hs1, hs2, S', hc3, hS', hC3⟩
    have HB3 : Hid (Below g w w3) := Lib.hid (HB.out.trans (hC3.below (fun _ h => h.1) (by have := HZZ.out; omega)))
    have HZ3 : Hid (g < w3.heap.size) := Lib.hid (Nat.lt_of_lt_of_le HZZ.out hC3.size)
    have HC3 : Hid (CacheAt w3 (fun b => g ≤ b) g S') := Lib.hid (hc3.mono fun b hb => by have := HZZ.out; rcases hb with h | h; exact h.1; omega)
    have htk : e.n.tk = a1 + 10 * q := by rw [HN.out]; rfl
    have htr : e.n.tr = q := by rw [HN.out]; rfl
    have hkn : e.n.kn = false := by rw [HN.out]; rfl
    rcases (by omega : j < 10 * q ∨ (j = 10 * q ∧ q < 3) ∨ (j = 30 ∧ q = 3)) with d | ⟨d, d2⟩ | ⟨d, d2⟩
    · obtain rfl := hs1.none_ (fun h => by have := h.1; omega)
      obtain rfl := hs2.none_ (fun h => by have := h.1; omega)
      obtain rfl : n1 = 0 := by have := hoa1.len; simpa using this.symm
      obtain rfl : n2 = 0 := by have := hoa2.len; simpa using this.symm
      have hS2 : S' = [e] := by
        rw [hS']
        simp only [List.filterMap_cons, List.filterMap_nil, stepE]
        rw [if_pos (by omega)]
      rw [hS2] at HC3
      clear hc3 hS' hS2 hC3 hs1 hs2 hoa1 hoa2 htk htr hkn
      go_wp2
      go_roundw
      case rel => exact ⟨j + 1, q, e, hq1, hq3, by omega, by omega, rfl, by go_num, HC3, HE, HN, HB3, HZ3⟩
      case measure => first | omega | (simp only [intOf]; omega)
    · have hne : ∀ x, IntKind.i64.wrap (a1 + x - a1) = IntKind.i64.wrap x := fun x => by rw [show a1 + x - a1 = x by omega]
      have hm : asks = [a0] := by rw [hs1.one ⟨by omega, hkn, by omega⟩, HE.out]
      subst hm
      obtain rfl := hs2.none_ (fun h => by have := h.2.2; omega)
      obtain rfl : n1 = 1 := by have := hoa1.len; simpa using this.symm
      obtain rfl : n2 = 0 := by have := hoa2.len; simpa using this.symm
      obtain ⟨gb, ob, rfl, _, hcell⟩ := (Ow.rw hoa1).at_ (k := 0) (u := .int .u32 a0) rfl
      rw [Nat.add_zero] at hcell
      have hS2 : S' = [{ e with n := stepN (a1 + j) e.n }] := by
        rw [hS']
        simp only [List.filterMap_cons, List.filterMap_nil, stepE]
        rw [if_neg (by omega), if_neg (by rw [hkn]; simp), if_neg (by omega)]
      have HN3 : Hid (({ e with n := stepN (a1 + j) e.n } : En).n = waitNb (a1 + 10 * ((q + 1 : Nat) : Int)) ((q + 1 : Nat) : Int)) := Lib.hid (by
        show stepN (a1 + j) e.n = _
        unfold stepN
        rw [HN.out]
        unfold waitNb laterP
        rw [if_neg (by omega)]
        simp only [Nb.mk.injEq, true_and, and_true]
        constructor <;> omega)
      have HE3 : Hid (({ e with n := stepN (a1 + j) e.n } : En).a = a0) := HE
      rw [hS2] at HC3
      generalize ({ e with n := stepN (a1 + j) e.n } : En) = e3 at *
      clear hc3 hS' hS2 hC3 hs1 hs2 hoa1 hoa2 htk htr hkn
      rcases (by omega : q = 1 ∨ q = 2) with rfl | rfl
      · obtain rfl : j = 10 := by omega
        have hw : IntKind.i64.wrap (a1 + 10 - a1) = 10 := by rw [show a1 + 10 - a1 = 10 by omega]; decide
        clear hne
        go_wp2
        go_roundw
        case rel => exact ⟨11, 2, e3, by omega, by omega, by omega, by omega, rfl, by go_num, HC3, HE3, HN3, HB3, HZ3⟩
        case measure => first | omega | (simp only [intOf]; omega)
      · obtain rfl : j = 20 := by omega
        have hw : IntKind.i64.wrap (a1 + 20 - a1) = 20 := by rw [show a1 + 20 - a1 = 20 by omega]; decide
        clear hne
        go_wp2
        go_roundw
        case rel => exact ⟨21, 3, e3, by omega, by omega, by omega, by omega, rfl, by go_num, HC3, HE3, HN3, HB3, HZ3⟩
        case measure => first | omega | (simp only [intOf]; omega)
    · subst d2
      subst d
      obtain rfl := hs1.none_ (fun h => by have := h.2.2; omega)
      have hm : losts = [a0] := by rw [hs2.one ⟨by omega, hkn, by omega⟩, HE.out]
      subst hm
      obtain rfl : n1 = 0 := by have := hoa1.len; simpa using this.symm
      obtain rfl : n2 = 1 := by have := hoa2.len; simpa using this.symm
      obtain ⟨gb, ob, rfl, _, hcell⟩ := (Ow.rw hoa2).at_ (k := 0) (u := .int .u32 a0) rfl
      rw [Nat.add_zero] at hcell
      have hS2 : S' = [] := by
        rw [hS']
        simp only [List.filterMap_cons, List.filterMap_nil, stepE]
        rw [if_neg (by omega), if_neg (by rw [hkn]; simp), if_pos (by omega)]
      rw [hS2] at HC3
      clear hc3 hS' hS2 hC3 hs1 hs2 hoa1 hoa2 htk htr hkn
      go_wp2_with fail
      refine (len_any _ _ g [] HC3.out).mono ?_
      rintro e3' w3' ⟨rfl, rfl⟩
      go_wp2_with fail
      refine (known_any _).mono ?_
      rintro e4 w6 ⟨rfl, hB6⟩
      go_wp2
      go_ret
      exact ⟨rfl, by rw [HG.out]; exact HB3.out.trans (hB6.mono (by have := HZ3.out; omega))⟩

/-! ### the row -/
set_option maxRecDepth 100000 in
theorem lifted (os : Os) (started : os.Started) (H : Type) (enc : TypeId × Value → H) :
    ReturnsInHanded {} Try.checked os 10 .any (Rows.arpGivesUpSpec.pre6 enc Try.prog Try.f10 Rows.arpGivesUpRow.domain false) (Rows.arpGivesUpSpec.post enc Try.prog Try.f10 false true false false) := by
  refine returnsInHanded_of_change_sized (C := Try.checked) own started (by kernel_rfl) Try.func10
    (ChangeSpec.witness6 (enc := enc) (C := Try.checked) false ⟨#[], #[.int .u32 0, .int .i64 0], []⟩ 8 (by kernel_rfl) (by kernel_rfl) (by kernel_rfl) (by kernel_rfl)) ?_
  intro W base args ds gs before hval0 hW hcnd hsz0 _
  have hval : ∀ (j : Nat) t v, Try.f10.params[j]? = some t → args[j]? = some v → Value.okWide Try.prog W .any base t v := hval0
  have hsz : (DataW.weightsEach Try.prog (Try.f10.params.toList ++ Rows.arpGivesUpSpec.plain.varTypes Try.prog) (ds ++ gs)).all (· ≤ reachBytes) = true := hsz0
  clear hsz0
  have hW' := hW
  obtain ⟨p, q, hA0, hV, rfl, hfz, hnd⟩ := hW
  have hA : DataW.TrodAll enc Try.prog W 0 (fun _ => true) true Try.f10.params.toList args.toList ds p := hA0
  rw [Try.params10] at hA hval hsz
  obtain ⟨v0, vs0, d0, ds0, p0, q0, hargs, rfl, rfl, h0, r0⟩ := trodAll_cons hA
  obtain ⟨v1, vs1, d1, ds1, p1, q1, rfl, rfl, rfl, h1, r1⟩ := trodAll_cons r0
  obtain ⟨rfl, rfl, rfl⟩ := trodAll_nil r1
  obtain rfl : args = #[v0, v1] := by cases args; simp_all
  obtain ⟨rfl, rfl⟩ := trodVars_none hV
  obtain ⟨a0, rfl, rfl, rfl, w0⟩ := open_int Try.underlying23 (hval 0 23 v0 rfl rfl) h0
  obtain ⟨a1, rfl, rfl, rfl, w1⟩ := open_int Try.underlying3 (hval 1 3 v1 rfl rfl) h1
  clear hA0 hval0
  refine (walk a0 a1 W w0 w1).mono fun e W' ⟨he, bel⟩ => ?_
  subst he
  exact ⟨_, rfl, _, _, _, [], _, [], hW', trodAll_mk1 (shut_bool Try.underlying4 _), (trodAll_cons_mk (shut_int Try.underlying23 w0) (trodAll_cons_mk (shut_int Try.underlying3 w1) trodAll_mk0)), rfl, bel.frame _, fun h => by cases h⟩

theorem over : Rows.arpGivesUpRow.holds Try.pinned (OpenSpec.ofChange Rows.arpGivesUpSpec) :=
  OpenClaim.holds_of_wide 10 Try.f10 rfl rfl rfl rfl rfl rfl rfl ⟨rfl, rfl, rfl, rfl, rfl⟩ rfl rfl rfl rfl rfl (by kernel_rfl) Try.func10 (by kernel_rfl)
    (of_decide_eq_true (by kernel_rfl)) (by unfold Func.isWrapper; first | (rw [if_pos (by decide +kernel)]; kernel_rfl) | (rw [if_neg (by decide +kernel)]; exact ⟨rfl, rfl⟩))
    (fun os started H enc _ => lifted os started H enc)

theorem proved : Rows.ArpGivesUpSaid := over
#print axioms proved
end Go.Proofs.Ytocigdkndlmikaa.arpGivesUp
