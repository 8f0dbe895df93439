/- Proved: a segment that is nobody's is answered so that its sender ends, and a Rst is never answered. Conditions: none, for every input. -/
import Derived.Test.YtifeomdmbjinoaaRows
import Derived.WalkKit
import Derived.ProofKit
import Derived.OpenShut
import Derived.ShutString
import Derived.ChangeOld
import Derived.Below
import Derived.SizedLaws
import Derived.Test.YtifeomdmbjinoaaSegY
import Derived.Test.YtifeomdmbjinoaaSegV
namespace Go.Proofs.Ytifeomdmbjinoaa.segmentResets
open Go.ChangeShapes Go.WideShapes Go.ChangeAt Go.RowKit
open Go.ChangeMaps (open_string shut_string)
set_option linter.unusedVariables false

theorem own : ownKnob Try.prog.godebug = none := by kernel_rfl
theorem laidOut : laidOutB Try.prog = true := by kernel_rfl

/-! ### the walk -/
set_option maxRecDepth 100000 in
set_option maxHeartbeats 8000000 in
theorem walk (v0 : Value) (w : World) (w0 : ViewSeg w v0) :
    Calls Try.prog 5 #[v0] w fun e w' => e = .returned (.bool true) ∧ Below w.heap.size w w' := by
  obtain ⟨s, A, n, cap, l, rfl, hwf, hd, hb, hn, hcap, hmax⟩ := w0
  have HWF := Lib.hid hwf
  clear hn hwf hd hb
  obtain ⟨W, hW⟩ : ∃ W, w.alloc (.cells #[.int .u32 s.fr, .int .i64 s.fp, .int .u32 s.to, .int .i64 s.tp, .int .u32 s.seq, .int .u32 s.ack, .int .i64 s.fl, .int .i64 s.win, .int .i64 s.mss, .int .i64 s.sc, .slice A n cap] 26) = W := ⟨_, rfl⟩
  have hm : Bk W w.heap.size 26 #[.int .u32 s.fr, .int .i64 s.fp, .int .u32 s.to, .int .i64 s.tp, .int .u32 s.seq, .int .u32 s.ack, .int .i64 s.fl, .int .i64 s.win, .int .i64 s.mss, .int .i64 s.sc, .slice A n cap] := by rw [← hW]; exact Bk.new w _ _
  have hB : Below w.heap.size w W := by rw [← hW]; exact (Below.refl _ _).alloc (Nat.le_refl _) _
  have zS := hm.lt
  have HW := Lib.hid hW
  have HM := Lib.hid hm
  have HB := Lib.hid hB
  have c10 : W.cell? ⟨w.heap.size, 10, none⟩ = some (.slice A n cap) := hm.cell 10
  clear hW hm hB
  rcases (by omega : 70000 < n ∨ n ≤ 70000) with d0 | d0
  · go_enter Try.func5, Try.ntmps5
    go_wp2_with fail
    go_ret
    exact ⟨rfl, (Below.refl _ _).alloc (Nat.le_refl _) _⟩
  clear c10
  have key : Hid (∀ w', Below W.heap.size W w' → (w'.cell? ⟨w.heap.size, 0, none⟩ = some (.int .u32 s.fr) ∧ w'.cell? ⟨w.heap.size, 1, none⟩ = some (.int .i64 s.fp) ∧ w'.cell? ⟨w.heap.size, 2, none⟩ = some (.int .u32 s.to) ∧ w'.cell? ⟨w.heap.size, 3, none⟩ = some (.int .i64 s.tp) ∧ w'.cell? ⟨w.heap.size, 4, none⟩ = some (.int .u32 s.seq) ∧ w'.cell? ⟨w.heap.size, 5, none⟩ = some (.int .u32 s.ack) ∧ w'.cell? ⟨w.heap.size, 6, none⟩ = some (.int .i64 s.fl) ∧ w'.cell? ⟨w.heap.size, 7, none⟩ = some (.int .i64 s.win) ∧ w'.cell? ⟨w.heap.size, 8, none⟩ = some (.int .i64 s.mss) ∧ w'.cell? ⟨w.heap.size, 9, none⟩ = some (.int .i64 s.sc) ∧ w'.cell? ⟨w.heap.size, 10, none⟩ = some (.slice A n cap))) := Lib.hid fun w' h => by
    have q := HM.out.below h zS
    exact ⟨q.cell 0, q.cell 1, q.cell 2, q.cell 3, q.cell 4, q.cell 5, q.cell 6, q.cell 7, q.cell 8, q.cell 9, q.cell 10⟩
  cases h4 : (bits .and .i64 s.fl 4 != 0)
  · cases h16 : (bits .and .i64 s.fl 16 != 0)
    · exact resets_syn s HWF.out A n cap d0 w W HW.out HM.out HB.out key.out h4 h16
    · exact resets_ack s HWF.out A n cap d0 w W HW.out HM.out HB.out key.out h4 h16
  · exact resets_rst s HWF.out A n cap d0 w W HW.out HM.out HB.out key.out h4

/-! ### the row -/
set_option maxRecDepth 100000 in
theorem lifted (os : Os) (started : os.Started) (H : Type) (enc : TypeId × Value → H) :
    ReturnsInHanded {} Try.checked os 5 .any (Rows.segmentResetsSpec.pre6 enc Try.prog Try.f5 Rows.segmentResetsRow.domain false) (Rows.segmentResetsSpec.post enc Try.prog Try.f5 false true false false) := by
  refine returnsInHanded_of_change_sized (C := Try.checked) own started (by kernel_rfl) Try.func5
    (ChangeSpec.witness6 (enc := enc) (C := Try.checked) false ⟨#[], #[.agg #[.int .u32 0, .int .i64 0, .int .u32 0, .int .i64 0, .int .u32 0, .int .u32 0, .int .i64 0, .int .i64 0, .int .i64 0, .int .i64 0, .slice none 0 0]], []⟩ 8 (by kernel_rfl) (by kernel_rfl) (by kernel_rfl) (by kernel_rfl)) ?_
  intro W base args ds gs before hval0 hW hcnd hsz0 _
  have hval : ∀ (j : Nat) t v, Try.f5.params[j]? = some t → args[j]? = some v → Value.okWide Try.prog W .any base t v := hval0
  have hsz : (DataW.weightsEach Try.prog (Try.f5.params.toList ++ Rows.segmentResetsSpec.plain.varTypes Try.prog) (ds ++ gs)).all (· ≤ reachBytes) = true := hsz0
  clear hsz0
  have hW' := hW
  obtain ⟨p, q, hA0, hV, rfl, hfz, hnd⟩ := hW
  have hA : DataW.TrodAll enc Try.prog W 0 (fun _ => true) true Try.f5.params.toList args.toList ds p := hA0
  rw [Try.params5] at hA hval hsz
  obtain ⟨v0, vs0, d0, ds0, p0, q0, hargs, rfl, rfl, h0, r0⟩ := trodAll_cons hA
  obtain ⟨rfl, rfl, rfl⟩ := trodAll_nil r0
  obtain rfl : args = #[v0] := by cases args; simp_all
  obtain ⟨rfl, rfl⟩ := trodVars_none hV
  have k0 := h0
  have lt0 : ∀ x ∈ p0, x.block < W.heap.size := by obtain ⟨m, hm⟩ := k0; exact DataW.trod_lt m _ _ _ hm
  have w0 : ViewSeg W v0 := open_seg (hval 0 26 v0 rfl rfl) h0 (fun k hk => by have := List.all_eq_true.1 hsz k (DataW.weights_mem_each (j := 0) rfl rfl k hk); simpa using this)
  clear hA0 hval0
  refine (walk v0 W w0).mono fun e W' ⟨he, bel⟩ => ?_
  subst he
  exact ⟨_, rfl, _, _, _, [], _, [], hW', trodAll_mk1 (shut_bool Try.underlying4 _), (trodAll_cons_mk (Below.trod laidOut (by kernel_rfl) (of_decide_eq_true (by kernel_rfl)) k0 bel lt0) trodAll_mk0), rfl, bel.frame _, fun h => by cases h⟩

theorem over : Rows.segmentResetsRow.holds Try.pinned (OpenSpec.ofChange Rows.segmentResetsSpec) :=
  OpenClaim.holds_of_wide 5 Try.f5 rfl rfl rfl rfl rfl rfl rfl ⟨rfl, rfl, rfl, rfl, rfl⟩ rfl rfl rfl rfl rfl (by kernel_rfl) Try.func5 (by kernel_rfl)
    (of_decide_eq_true (by kernel_rfl)) (by unfold Func.isWrapper; first | (rw [if_pos (by decide +kernel)]; kernel_rfl) | (rw [if_neg (by decide +kernel)]; exact ⟨rfl, rfl⟩))
    (fun os started H enc _ => lifted os started H enc)

theorem proved : Rows.SegmentResetsSaid := over
#print axioms proved
end Go.Proofs.Ytifeomdmbjinoaa.segmentResets
