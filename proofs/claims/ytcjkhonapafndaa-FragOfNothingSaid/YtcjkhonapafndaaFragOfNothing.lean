/- Proved: a nil Store takes nothing. Conditions: none, for every input. -/
import Derived.Test.YtcjkhonapafndaaRows
import Derived.WalkKit
import Derived.ProofKit
import Derived.OpenShut
import Derived.ShutString
import Derived.ChangeOld
import Derived.Below
import Derived.SizedLaws
import Derived.Test.YtcjkhonapafndaaNon
namespace Go.Proofs.Ytcjkhonapafndaa.fragOfNothing
open Go.ChangeShapes Go.WideShapes Go.ChangeAt Go.RowKit
open Go.ChangeMaps (open_string shut_string)
set_option linter.unusedVariables false

theorem own : ownKnob Try.prog.godebug = none := by kernel_rfl
theorem laidOut : laidOutB Try.prog = true := by kernel_rfl

/-! ### the walk -/
set_option maxRecDepth 100000 in
set_option maxHeartbeats 8000000 in
theorem walk (v0 : Value) (a1 : Int) (w : World) (w0 : ViewPkt w v0) (w1 : (Lit.int .i64 a1).wf = true) :
    Calls Try.prog 10 #[v0, .int .i64 a1] w fun e w' => e = .returned (.bool true) ∧ Below w.heap.size w w' := by
  obtain ⟨p, oA, on, oc, ol, dA, dn, dc, dl, rfl, hp, ho, hd⟩ := w0
  obtain ⟨gp, hgp⟩ : ∃ gp, w.heap.size = gp := ⟨_, rfl⟩
  obtain ⟨W, hW⟩ : ∃ W, w.alloc (.cells (pkC p (.slice oA on oc) (.slice dA dn dc)) 26) = W := ⟨_, rfl⟩
  have hm : Bk W gp 26 (pkC p (.slice oA on oc) (.slice dA dn dc)) := by rw [← hW, ← hgp]; exact Bk.new w _ _
  have hB : Below gp w W := by rw [← hW, ← hgp]; exact (Below.refl _ _).alloc (Nat.le_refl _) _
  have hz : gp < W.heap.size := hm.lt
  have HW : Hid (w.alloc (.cells #[.int .i64 p.svc, .int .i64 p.id, .bool p.whole, .bool p.more, .int .i64 p.off, .int .i64 p.life, .int .i64 p.proto, .int .u32 p.src, .int .u32 p.dst, .slice oA on oc, .slice dA dn dc] 26) = W) := Lib.hid hW
  have HGP := Lib.hid hgp
  have HM := Lib.hid hm
  have HB := Lib.hid hB
  have b0 := hm.cell 0
  have b1 := hm.cell 1
  have b2 := hm.cell 2
  have b3 := hm.cell 3
  have b4 := hm.cell 4
  have b5 := hm.cell 5
  have b6 := hm.cell 6
  have b7 := hm.cell 7
  have b8 := hm.cell 8
  have b9 := hm.cell 9
  have b10 := hm.cell 10
  simp only [pkC, List.getElem?_toArray, List.getElem?_cons_zero, List.getElem?_cons_succ] at b0 b1 b2 b3 b4 b5 b6 b7 b8 b9 b10
  clear hW hgp hm hB ho hd
  have HL := Lib.hid (long_any p oA dA on oc dn dc W)
  unfold pkC at HL
  unfold pkC
  go_enter Try.func10, Try.ntmps10
  go_wp2_with fail
  rw [HW.out, HGP.out]
  refine HL.out.mono ?_
  rintro e1 W1 ⟨rfl, hB1⟩
  have HB1 := Lib.hid hB1
  have hz1 := hB1.size
  have hm1 := HM.out.below hB1 hz
  obtain ⟨q, hq⟩ : ∃ q, (decide (6000 < (dn : Int)) || decide (100 < (on : Int))) = q := ⟨_, rfl⟩
  rw [hq]
  have c0 := hm1.cell 0
  have c1 := hm1.cell 1
  have c2 := hm1.cell 2
  have c3 := hm1.cell 3
  have c4 := hm1.cell 4
  have c5 := hm1.cell 5
  have c6 := hm1.cell 6
  have c7 := hm1.cell 7
  have c8 := hm1.cell 8
  have c9 := hm1.cell 9
  have c10 := hm1.cell 10
  simp only [pkC, List.getElem?_toArray, List.getElem?_cons_zero, List.getElem?_cons_succ] at c0 c1 c2 c3 c4 c5 c6 c7 c8 c9 c10
  clear b0 b1 b2 b3 b4 b5 b6 b7 b8 b9 b10 hB1 hm1 hq
  cases q with
  | true =>
    go_wp2
    go_ret
    exact ⟨rfl, by rw [HGP.out]; exact HB.out.trans (HB1.out.mono (by omega))⟩
  | false =>
    have HADD := Lib.hid (add_nil p oA dA on oc dn dc a1 W1)
    unfold pkC pk0 at HADD
    go_wp2_with fail
    refine HADD.out.mono ?_
    rintro e2 W2 ⟨rfl, hB2⟩
    have hz2 := hB2.size
    have HB2 := Lib.hid hB2
    have HPK := Lib.hid (packets_any pk0 none none none none 0 0 0 0 0 0 [] [] rfl (by omega) Bs.nil rfl (by omega) Bs.nil (W2.alloc (.cells #[.int .i64 0, .int .i64 0, .bool false, .bool false, .int .i64 0, .int .i64 0, .int .i64 0, .int .u32 0, .int .u32 0, .slice none 0 0, .slice none 0 0] 26)) (Rw.nil _ _ _) (Rw.nil _ _ _) (Rw.nil _ _ _) (Rw.nil _ _ _))
    unfold pkC pk0 at HPK
    clear hB2 c0 c1 c2 c3 c4 c5 c6 c7 c8 c9 c10
    go_wp2_with fail
    refine HPK.out.mono ?_
    rintro e3 W3 ⟨rfl, hB3⟩
    have HB3 : Hid (Below gp w W3) := Lib.hid (((HB.out.trans (HB1.out.mono (by omega))).trans (HB2.out.mono (by omega))).trans (((Below.refl _ _).alloc (by omega) _).trans (hB3.mono (by rw [World.size_alloc]; omega))))
    have hz3 := hB3.size
    rw [World.size_alloc] at hz3
    clear hB3
    go_wp2_with fail
    refine (tick_nil a1 _).mono ?_
    rintro e4 W4 ⟨rfl, rfl⟩
    go_wp2_with fail
    refine (len_nil _).mono ?_
    rintro e5 W5 ⟨rfl, rfl⟩
    go_wp2_with fail
    refine (known_any _).mono ?_
    rintro e6 W6 ⟨rfl, hB6⟩
    go_wp2
    go_ret
    exact ⟨rfl, by rw [HGP.out]; exact HB3.out.trans (hB6.mono (by omega))⟩

/-! ### the row -/
set_option maxRecDepth 100000 in
theorem lifted (os : Os) (started : os.Started) (H : Type) (enc : TypeId × Value → H) :
    ReturnsInHanded {} Try.checked os 10 .any (Rows.fragOfNothingSpec.pre6 enc Try.prog Try.f10 Rows.fragOfNothingRow.domain false) (Rows.fragOfNothingSpec.post enc Try.prog Try.f10 false true false false) := by
  refine returnsInHanded_of_change_sized (C := Try.checked) own started (by kernel_rfl) Try.func10
    (ChangeSpec.witness6 (enc := enc) (C := Try.checked) false ⟨#[], #[.agg #[.int .i64 0, .int .i64 0, .bool false, .bool false, .int .i64 0, .int .i64 0, .int .i64 0, .int .u32 0, .int .u32 0, .slice none 0 0, .slice none 0 0], .int .i64 0], []⟩ 8 (by kernel_rfl) (by kernel_rfl) (by kernel_rfl) (by kernel_rfl)) ?_
  intro W base args ds gs before hval0 hW hcnd hsz0 _
  have hval : ∀ (j : Nat) t v, Try.f10.params[j]? = some t → args[j]? = some v → Value.okWide Try.prog W .any base t v := hval0
  have hsz : (DataW.weightsEach Try.prog (Try.f10.params.toList ++ Rows.fragOfNothingSpec.plain.varTypes Try.prog) (ds ++ gs)).all (· ≤ reachBytes) = true := hsz0
  clear hsz0
  have hW' := hW
  obtain ⟨p, q, hA0, hV, rfl, hfz, hnd⟩ := hW
  have hA : DataW.TrodAll enc Try.prog W 0 (fun _ => true) true Try.f10.params.toList args.toList ds p := hA0
  rw [Try.params10] at hA hval hsz
  obtain ⟨v0, vs0, d0, ds0, p0, q0, hargs, rfl, rfl, h0, r0⟩ := trodAll_cons hA
  obtain ⟨v1, vs1, d1, ds1, p1, q1, rfl, rfl, rfl, h1, r1⟩ := trodAll_cons r0
  obtain ⟨rfl, rfl, rfl⟩ := trodAll_nil r1
  obtain rfl : args = #[v0, v1] := by cases args; simp_all
  obtain ⟨rfl, rfl⟩ := trodVars_none hV
  have k0 := h0
  have lt0 : ∀ x ∈ p0, x.block < W.heap.size := by obtain ⟨m, hm⟩ := k0; exact DataW.trod_lt m _ _ _ hm
  have w0 : ViewPkt W v0 := open_pkt (hval 0 26 v0 rfl rfl) h0 (fun k hk => by have := List.all_eq_true.1 hsz k (DataW.weights_mem_each (j := 0) rfl rfl k hk); simpa using this)
  obtain ⟨a1, rfl, rfl, rfl, w1⟩ := open_int Try.underlying3 (hval 1 3 v1 rfl rfl) h1
  clear hA0 hval0
  refine (walk v0 a1 W w0 w1).mono fun e W' ⟨he, bel⟩ => ?_
  subst he
  exact ⟨_, rfl, _, _, _, [], _, [], hW', trodAll_mk1 (shut_bool Try.underlying4 _), (trodAll_cons_mk (Below.trod laidOut (by kernel_rfl) (of_decide_eq_true (by kernel_rfl)) k0 bel lt0) (trodAll_cons_mk (shut_int Try.underlying3 w1) trodAll_mk0)), rfl, bel.frame _, fun h => by cases h⟩

theorem over : Rows.fragOfNothingRow.holds Try.pinned (OpenSpec.ofChange Rows.fragOfNothingSpec) :=
  OpenClaim.holds_of_wide 10 Try.f10 rfl rfl rfl rfl rfl rfl rfl ⟨rfl, rfl, rfl, rfl, rfl⟩ rfl rfl rfl rfl rfl (by kernel_rfl) Try.func10 (by kernel_rfl)
    (of_decide_eq_true (by kernel_rfl)) (by unfold Func.isWrapper; first | (rw [if_pos (by decide +kernel)]; kernel_rfl) | (rw [if_neg (by decide +kernel)]; exact ⟨rfl, rfl⟩))
    (fun os started H enc _ => lifted os started H enc)

theorem proved : Rows.FragOfNothingSaid := over
#print axioms proved
end Go.Proofs.Ytcjkhonapafndaa.fragOfNothing
