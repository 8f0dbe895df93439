/- Proved: any bytes are a flow's, or refused. Conditions: none, for every input. -/
import Derived.Test.YtlnodkfngomlmaaRows
import Derived.WalkKit
import Derived.ProofKit
import Derived.OpenShut
import Derived.ShutString
import Derived.ChangeOld
import Derived.Below
import Derived.SizedLaws
import Derived.Test.YtlnodkfngomlmaaFlowB
import Derived.Test.YtlnodkfngomlmaaFlowU
import Derived.Test.YtlnodkfngomlmaaIn
namespace Go.Proofs.Ytlnodkfngomlmaa.iCMPFlows
open Go.ChangeShapes Go.WideShapes Go.ChangeAt Go.RowKit
open Go.ChangeMaps (open_string shut_string)
set_option linter.unusedVariables false

theorem own : ownKnob Try.prog.godebug = none := by kernel_rfl
theorem laidOut : laidOutB Try.prog = true := by kernel_rfl

/-! ### the walk -/
set_option maxRecDepth 100000 in
set_option maxHeartbeats 1000000 in
theorem walk (a0 : Option Addr) (len0 cap0 : Nat) (z0 : List Int) (w : World) (w0 : IsRow .u8 w a0 len0 cap0 z0 ∧ cap0 ≤ 140737488351232) :
    Calls Try.prog 9 #[.slice a0 len0 cap0] w fun e w' => e = .returned (.bool true) ∧ Below w.heap.size w w' := by
  obtain ⟨hI, hcap⟩ := w0
  obtain ⟨l, hr, hb, hn, hc⟩ := hI.rb
  have HN := Lib.hid hn
  clear hn hI
  rcases (by omega : 4000 < len0 ∨ len0 ≤ 4000) with d0 | d0
  · go_enter Try.func9, Try.ntmps9
    go_wp2_with fail
    go_ret
    exact ⟨rfl, Below.refl _ _⟩
  have hf1 := fun (A : Option Addr) (c B : Nat) (w : World) (hr : RB w B A l) (hB : B ≤ w.heap.size) => flow_any A len0 c B l HN.out (by omega) hb w hr hB
  have hf2 := fun (A : Option Addr) (c B : Nat) (hc : len0 ≤ c) (w : World) (hr : RB w B A l) (hB : B ≤ w.heap.size) => rflow_any A len0 c B l HN.out hc (by omega) hb w hr hB
  unfold FlowRet at hf1 hf2
  obtain ⟨er, p, f, fp, t, tp, hF⟩ : ∃ er p f fp t tp, flowF l = (er, p, f, fp, t, tp) := ⟨_, _, _, _, _, _, rfl⟩
  rw [hF] at hf1 hf2
  simp only [flC] at hf1 hf2
  have F1 := Lib.hid hf1
  have F2 := Lib.hid hf2
  clear hf1 hf2 hF
  go_enter Try.func9, Try.ntmps9
  go_wp2_with fail
  refine (roomy_any a0 len0 cap0 _ l HN.out (by omega) hb _ hr (Nat.le_refl _)).mono ?_
  rintro e w1 ⟨A1, c1, rfl, hO1, hc1, hB1⟩
  have hz1 := hB1.size
  have hr1 : RB w1 w1.heap.size A1 l := by
    have h1 := hO1.takeN (m := len0) (by omega)
    rw [List.take_append_of_le_length (by rw [HN.out]; exact Nat.le_refl _), List.take_of_length_le (by rw [HN.out]; exact Nat.le_refl _)] at h1
    exact h1.rb
  have hq1 : RB w1 w1.heap.size A1 (l ++ [171]) := hO1.rb
  have hp1 : RB w1 w.heap.size a0 l := Rw.below hr hB1
  go_wp2_with fail
  refine (F1.out A1 c1 _ _ hr1 (Nat.le_refl _)).mono ?_
  rintro e w2 ⟨rfl, hB2⟩
  have hz2 := hB2.size
  obtain ⟨w3, hw3⟩ : ∃ w3, w2.alloc (.cells #[.int .i64 p, .int .u32 f, .int .i64 fp, .int .u32 t, .int .i64 tp] 60) = w3 := ⟨_, rfl⟩
  have hm3 : Bk w3 w2.heap.size 60 #[.int .i64 p, .int .u32 f, .int .i64 fp, .int .u32 t, .int .i64 tp] := by rw [← hw3]; exact Bk.new w2 _ _
  have hB3 : Below w2.heap.size w2 w3 := by rw [← hw3]; exact (Below.refl _ _).alloc (Nat.le_refl _) _
  have HW3 := Lib.hid hw3
  have hlt3 := hm3.lt
  clear hw3
  have hp3 : RB w3 w.heap.size a0 l := Rw.below (Rw.below hp1 (hB2.mono hz1)) (hB3.mono (by omega))
  go_wp2_with fail
  rw [HW3.out]
  refine (F2.out a0 cap0 _ hc _ hp3 (by omega)).mono ?_
  rintro e w4 ⟨rfl, hB4⟩
  have hz4 := hB4.size
  have hm4 := hm3.below hB4 hlt3
  have hlt4 : w2.heap.size < w4.heap.size := by omega
  have d1 := (World.cell?_alloc_lt w4 (.cells #[.int .i64 p, .int .u32 f, .int .i64 fp, .int .u32 t, .int .i64 tp] 60) ⟨w2.heap.size, 0, none⟩ hlt4).trans (hm4.cell 0)
  have d2 := (World.cell?_alloc_lt w4 (.cells #[.int .i64 p, .int .u32 f, .int .i64 fp, .int .u32 t, .int .i64 tp] 60) ⟨w2.heap.size, 1, none⟩ hlt4).trans (hm4.cell 1)
  have d3 := (World.cell?_alloc_lt w4 (.cells #[.int .i64 p, .int .u32 f, .int .i64 fp, .int .u32 t, .int .i64 tp] 60) ⟨w2.heap.size, 2, none⟩ hlt4).trans (hm4.cell 2)
  have d4 := (World.cell?_alloc_lt w4 (.cells #[.int .i64 p, .int .u32 f, .int .i64 fp, .int .u32 t, .int .i64 tp] 60) ⟨w2.heap.size, 3, none⟩ hlt4).trans (hm4.cell 3)
  have d5 := (World.cell?_alloc_lt w4 (.cells #[.int .i64 p, .int .u32 f, .int .i64 fp, .int .u32 t, .int .i64 tp] 60) ⟨w2.heap.size, 4, none⟩ hlt4).trans (hm4.cell 4)
  simp only [List.getElem?_toArray, List.getElem?_cons_zero, List.getElem?_cons_succ] at d1 d2 d3 d4 d5
  obtain ⟨w5, hw5⟩ : ∃ w5, w4.alloc (.cells #[.int .i64 p, .int .u32 f, .int .i64 fp, .int .u32 t, .int .i64 tp] 60) = w5 := ⟨_, rfl⟩
  have hB5 : Below w4.heap.size w4 w5 := by rw [← hw5]; exact (Below.refl _ _).alloc (Nat.le_refl _) _
  have HW5 := Lib.hid hw5
  have hz5 := hB5.size
  have hB15 : Below w1.heap.size w1 w5 := ((hB2.trans (hB3.mono hz2)).trans (hB4.mono (by omega))).trans (hB5.mono (by omega))
  have hq5 : RB w5 w1.heap.size A1 (l ++ [171]) := Rw.below hq1 hB15
  have hp5 : RB w5 w.heap.size a0 l := Rw.below hp1 (hB15.mono hz1)
  clear hw5
  go_wp2_with fail
  rw [HW5.out]
  refine (stands_any A1 a0 len0 c1 cap0 _ _ l HN.out (by omega) hc1 hb _ hq5 hp5).mono ?_
  rintro e w' ⟨rfl, k2, rfl⟩
  go_wp2_with fail
  refine (known_any _).mono ?_
  rintro e w8 ⟨rfl, hB8⟩
  go_wp2
  go_ret
  exact ⟨rfl, (hB1.trans ((bel_drewN hB15 k2).mono hz1)).trans (hB8.mono (Nat.le_trans hz1 hB15.size))⟩

/-! ### the row -/
set_option maxRecDepth 100000 in
theorem lifted (os : Os) (started : os.Started) (H : Type) (enc : TypeId × Value → H) :
    ReturnsInHanded {} Try.checked os 9 .any (Rows.iCMPFlowsSpec.pre6 enc Try.prog Try.f9 Rows.iCMPFlowsRow.domain false) (Rows.iCMPFlowsSpec.post enc Try.prog Try.f9 false true false false) := by
  refine returnsInHanded_of_change_sized (C := Try.checked) own started (by kernel_rfl) Try.func9
    (ChangeSpec.witness6 (enc := enc) (C := Try.checked) false ⟨#[], #[.slice none 0 0], []⟩ 8 (by kernel_rfl) (by kernel_rfl) (by kernel_rfl) (by kernel_rfl)) ?_
  intro W base args ds gs before hval0 hW hcnd hsz0 _
  have hval : ∀ (j : Nat) t v, Try.f9.params[j]? = some t → args[j]? = some v → Value.okWide Try.prog W .any base t v := hval0
  have hsz : (DataW.weightsEach Try.prog (Try.f9.params.toList ++ Rows.iCMPFlowsSpec.plain.varTypes Try.prog) (ds ++ gs)).all (· ≤ reachBytes) = true := hsz0
  clear hsz0
  have hW' := hW
  obtain ⟨p, q, hA0, hV, rfl, hfz, hnd⟩ := hW
  have hA : DataW.TrodAll enc Try.prog W 0 (fun _ => true) true Try.f9.params.toList args.toList ds p := hA0
  rw [Try.params9] at hA hval hsz
  obtain ⟨v0, vs0, d0, ds0, p0, q0, hargs, rfl, rfl, h0, r0⟩ := trodAll_cons hA
  obtain ⟨rfl, rfl, rfl⟩ := trodAll_nil r0
  obtain rfl : args = #[v0] := by cases args; simp_all
  obtain ⟨rfl, rfl⟩ := trodVars_none hV
  obtain ⟨a0, len0, cap0, rfl⟩ := okWide_slice Try.underlying23 (hval 0 23 v0 rfl rfl)
  have k0 := h0
  have lt0 : ∀ x ∈ p0, x.block < W.heap.size := by obtain ⟨m, hm⟩ := k0; exact DataW.trod_lt m _ _ _ hm
  obtain ⟨z0, w0⟩ : ∃ zs, IsRow .u8 W a0 len0 cap0 zs ∧ cap0 ≤ 140737488351232 := by
    obtain ⟨fuel, hf⟩ := h0
    rcases open_ints Try.underlying23 Try.underlying5 (by kernel_rfl) hf with ⟨hcs, _⟩ | ⟨x, l, c, zs, hcs, _, hl, hm, hz, hx, hcell, hwz⟩
    · simp [Value.cells] at hcs
      obtain ⟨rfl, rfl, rfl⟩ := hcs
      exact ⟨[], .inl ⟨rfl, rfl, rfl, rfl⟩, by omega⟩
    · simp [Value.cells] at hcs
      obtain ⟨rfl, rfl, rfl⟩ := hcs
      simp only [Prod.mk.injEq] at hx
      obtain ⟨rfl, rfl⟩ := hx
      simp only [if_true] at hz
      have hm2 := sized_slice hsz (j := 0) (t := 23) (e := 5) rfl rfl Try.underlying23
      rw [show Try.prog.bytesOf 5 = 1 from by kernel_rfl] at hm2
      simp only [lits, List.length_map, List.length_take, List.length_drop, reachBytes] at hm2
      exact ⟨zs, .inr ⟨_, rfl, hl, hm, hz, hcell, hwz⟩, by omega⟩
  clear hA0 hval0
  refine (walk a0 len0 cap0 z0 W w0).mono fun e W' ⟨he, bel⟩ => ?_
  subst he
  exact ⟨_, rfl, _, _, _, [], _, [], hW', trodAll_mk1 (shut_bool Try.underlying4 _), (trodAll_cons_mk (Below.trod laidOut (by kernel_rfl) (of_decide_eq_true (by kernel_rfl)) k0 bel lt0) trodAll_mk0), rfl, bel.frame _, fun h => by cases h⟩

theorem over : Rows.iCMPFlowsRow.holds Try.pinned (OpenSpec.ofChange Rows.iCMPFlowsSpec) :=
  OpenClaim.holds_of_wide 9 Try.f9 rfl rfl rfl rfl rfl rfl rfl ⟨rfl, rfl, rfl, rfl, rfl⟩ rfl rfl rfl rfl rfl (by kernel_rfl) Try.func9 (by kernel_rfl)
    (of_decide_eq_true (by kernel_rfl)) (by unfold Func.isWrapper; first | (rw [if_pos (by decide +kernel)]; kernel_rfl) | (rw [if_neg (by decide +kernel)]; exact ⟨rfl, rfl⟩))
    (fun os started H enc _ => lifted os started H enc)

theorem proved : Rows.ICMPFlowsSaid := over
#print axioms proved
end Go.Proofs.Ytlnodkfngomlmaa.iCMPFlows
