/- Proved: an error may be told about a packet by the document's rules; never about an error, a later piece, or one to many. Conditions: none, for every input. -/
import Derived.Test.YtlnodkfngomlmaaRows
import Derived.WalkKit
import Derived.ProofKit
import Derived.OpenShut
import Derived.ShutString
import Derived.ChangeOld
import Derived.Below
import Derived.SizedLaws
import Derived.Test.YtlnodkfngomlmaaMayW
namespace Go.Proofs.Ytlnodkfngomlmaa.iCMPMay
open Go.ChangeShapes Go.WideShapes Go.ChangeAt Go.RowKit
open Go.ChangeMaps (open_string shut_string)
set_option linter.unusedVariables false

theorem own : ownKnob Try.prog.godebug = none := by kernel_rfl
theorem laidOut : laidOutB Try.prog = true := by kernel_rfl

/-! ### the walk -/
set_option maxRecDepth 100000 in
set_option maxHeartbeats 1000000 in
theorem walk (v0 : Value) (w : World) (w0 : ViewPkt w v0) :
    Calls Try.prog 5 #[v0] w fun e w' => e = .returned (.bool true) ∧ Below w.heap.size w w' := by
  obtain ⟨p, oA, on, oc, ol, dA, n, c, l, rfl, hp, ho, hd⟩ := w0
  have hcap := hd.cap
  have hmax := hd.max
  have HN := Lib.hid hd.len
  obtain ⟨svc, id, whole, more, off, life, proto, src, dst⟩ := p
  have ⟨_, _, hof, _, hpr, hs, ht⟩ := hp
  simp only at hof hpr hs ht
  obtain ⟨W, hW⟩ : ∃ W, w.alloc (.cells (pkC ⟨svc, id, whole, more, off, life, proto, src, dst⟩ (.slice oA on oc) (.slice dA n c)) 42) = W := ⟨_, rfl⟩
  have hm : Bk W w.heap.size 42 (pkC ⟨svc, id, whole, more, off, life, proto, src, dst⟩ (.slice oA on oc) (.slice dA n c)) := by rw [← hW]; exact Bk.new w _ _
  have hB : Below w.heap.size w W := by rw [← hW]; exact (Below.refl _ _).alloc (Nat.le_refl _) _
  have hz : w.heap.size < W.heap.size := by rw [← hW]; simp
  have hd0 : RB W W.heap.size dA l := (hd.below hB).rb
  have e1 := may_any ⟨svc, id, whole, more, off, life, proto, src, dst⟩ (.slice oA on oc) dA n c l hp HN.out hcap hmax W hd0
  have HW := Lib.hid hW
  have key : ∀ w', Below W.heap.size W w' → Bk w' w.heap.size 42 (pkC ⟨svc, id, whole, more, off, life, proto, src, dst⟩ (.slice oA on oc) (.slice dA n c)) := fun w' h => hm.below h hz
  have K := Lib.hid key
  have e2 : ∀ w', Below W.heap.size W w' → _ := fun w' h => rmay_any ⟨svc, id, whole, more, off, life, proto, src, dst⟩ (.slice oA on oc) dA n c l hp HN.out hcap hmax w' (Rw.more (Rw.below hd0 h) h.size)
  have E2 := Lib.hid e2
  simp only [pkC] at HW e1 ⊢
  clear hW key e2
  rcases (by omega : 4000 < n ∨ n ≤ 4000) with d0 | d0
  · go_enter Try.func5, Try.ntmps5
    go_wp2_with fail
    go_ret
    exact ⟨rfl, by rw [HW.out]; exact hB⟩
  by_cases h : MayP proto n (l[0]?.getD 0) off dst src
  · have h1 := h.2.1
    have h2 := h.2.2.1
    have h3 : (src == 0) = false := by simpa using h.2.2.2.1
    rw [decide_eq_true h] at e1
    have H := Lib.hid h
    clear h
    go_enter Try.func5, Try.ntmps5
    go_wp2_with fail
    rw [HW.out]
    refine e1.mono ?_
    rintro e w2 ⟨rfl, hB2⟩
    have hm2 := K.out w2 hB2
    have c0 := hm2.cell 0
    have c1 := hm2.cell 1
    have c2 := hm2.cell 2
    have c3 := hm2.cell 3
    have c4 := hm2.cell 4
    have c5 := hm2.cell 5
    have c6 := hm2.cell 6
    have c7 := hm2.cell 7
    have c8 := hm2.cell 8
    have c9 := hm2.cell 9
    have c10 := hm2.cell 10
    simp only [pkC, List.getElem?_toArray, List.getElem?_cons_zero, List.getElem?_cons_succ] at c0 c1 c2 c3 c4 c5 c6 c7 c8 c9 c10
    go_wp2_with fail
    have e2 := E2.out w2 hB2
    rw [decide_eq_true H.out] at e2
    refine e2.mono ?_
    rintro e w3 ⟨rfl, hB3⟩
    go_wp2_with (go_at_call 17; refine (known_any _).mono ?_; rintro e w' ⟨rfl, hB5⟩)
    go_ret
    exact ⟨rfl, ((hB.trans (hB2.mono (Nat.le_of_lt hz))).trans (hB3.mono (Nat.le_trans (Nat.le_of_lt hz) hB2.size))).trans (hB5.mono (Nat.le_trans (Nat.le_trans (Nat.le_of_lt hz) hB2.size) hB3.size))⟩
  · rw [decide_eq_false h] at e1
    have H := Lib.hid h
    clear h
    go_enter Try.func5, Try.ntmps5
    go_wp2_with fail
    rw [HW.out]
    refine e1.mono ?_
    rintro e w2 ⟨rfl, hB2⟩
    have hm2 := K.out w2 hB2
    have c0 := hm2.cell 0
    have c1 := hm2.cell 1
    have c2 := hm2.cell 2
    have c3 := hm2.cell 3
    have c4 := hm2.cell 4
    have c5 := hm2.cell 5
    have c6 := hm2.cell 6
    have c7 := hm2.cell 7
    have c8 := hm2.cell 8
    have c9 := hm2.cell 9
    have c10 := hm2.cell 10
    simp only [pkC, List.getElem?_toArray, List.getElem?_cons_zero, List.getElem?_cons_succ] at c0 c1 c2 c3 c4 c5 c6 c7 c8 c9 c10
    go_wp2_with fail
    have e2 := E2.out w2 hB2
    rw [decide_eq_false H.out] at e2
    refine e2.mono ?_
    rintro e w3 ⟨rfl, hB3⟩
    go_wp2_with (go_at_call 17; refine (known_any _).mono ?_; rintro e w' ⟨rfl, hB5⟩)
    go_ret
    exact ⟨rfl, ((hB.trans (hB2.mono (Nat.le_of_lt hz))).trans (hB3.mono (Nat.le_trans (Nat.le_of_lt hz) hB2.size))).trans (hB5.mono (Nat.le_trans (Nat.le_trans (Nat.le_of_lt hz) hB2.size) hB3.size))⟩

/-! ### the row -/
set_option maxRecDepth 100000 in
theorem lifted (os : Os) (started : os.Started) (H : Type) (enc : TypeId × Value → H) :
    ReturnsInHanded {} Try.checked os 5 .any (Rows.iCMPMaySpec.pre6 enc Try.prog Try.f5 Rows.iCMPMayRow.domain false) (Rows.iCMPMaySpec.post enc Try.prog Try.f5 false true false false) := by
  refine returnsInHanded_of_change_sized (C := Try.checked) own started (by kernel_rfl) Try.func5
    (ChangeSpec.witness6 (enc := enc) (C := Try.checked) false ⟨#[], #[.agg #[.int .i64 0, .int .i64 0, .bool false, .bool false, .int .i64 0, .int .i64 0, .int .i64 0, .int .u32 0, .int .u32 0, .slice none 0 0, .slice none 0 0]], []⟩ 8 (by kernel_rfl) (by kernel_rfl) (by kernel_rfl) (by kernel_rfl)) ?_
  intro W base args ds gs before hval0 hW hcnd hsz0 _
  have hval : ∀ (j : Nat) t v, Try.f5.params[j]? = some t → args[j]? = some v → Value.okWide Try.prog W .any base t v := hval0
  have hsz : (DataW.weightsEach Try.prog (Try.f5.params.toList ++ Rows.iCMPMaySpec.plain.varTypes Try.prog) (ds ++ gs)).all (· ≤ reachBytes) = true := hsz0
  clear hsz0
  have hW' := hW
  obtain ⟨p, q, hA0, hV, rfl, hfz, hnd⟩ := hW
  have hA : DataW.TrodAll enc Try.prog W 0 (fun _ => true) true Try.f5.params.toList args.toList ds p := hA0
  rw [Try.params5] at hA hval hsz
  obtain ⟨v0, vs0, d0, ds0, p0, q0, hargs, rfl, rfl, h0, r0⟩ := trodAll_cons hA
  obtain ⟨rfl, rfl, rfl⟩ := trodAll_nil r0
  obtain rfl : args = #[v0] := by cases args; simp_all
  obtain ⟨rfl, rfl⟩ := trodVars_none hV
  have k0 := h0
  have lt0 : ∀ x ∈ p0, x.block < W.heap.size := by obtain ⟨m, hm⟩ := k0; exact DataW.trod_lt m _ _ _ hm
  have w0 : ViewPkt W v0 := open_pkt (hval 0 42 v0 rfl rfl) h0 (fun k hk => by have := List.all_eq_true.1 hsz k (DataW.weights_mem_each (j := 0) rfl rfl k hk); simpa using this)
  clear hA0 hval0
  refine (walk v0 W w0).mono fun e W' ⟨he, bel⟩ => ?_
  subst he
  exact ⟨_, rfl, _, _, _, [], _, [], hW', trodAll_mk1 (shut_bool Try.underlying4 _), (trodAll_cons_mk (Below.trod laidOut (by kernel_rfl) (of_decide_eq_true (by kernel_rfl)) k0 bel lt0) trodAll_mk0), rfl, bel.frame _, fun h => by cases h⟩

theorem over : Rows.iCMPMayRow.holds Try.pinned (OpenSpec.ofChange Rows.iCMPMaySpec) :=
  OpenClaim.holds_of_wide 5 Try.f5 rfl rfl rfl rfl rfl rfl rfl ⟨rfl, rfl, rfl, rfl, rfl⟩ rfl rfl rfl rfl rfl (by kernel_rfl) Try.func5 (by kernel_rfl)
    (of_decide_eq_true (by kernel_rfl)) (by unfold Func.isWrapper; first | (rw [if_pos (by decide +kernel)]; kernel_rfl) | (rw [if_neg (by decide +kernel)]; exact ⟨rfl, rfl⟩))
    (fun os started H enc _ => lifted os started H enc)

theorem proved : Rows.ICMPMaySaid := over
#print axioms proved
end Go.Proofs.Ytlnodkfngomlmaa.iCMPMay
