/- Proved: what is written by an octet.Writer stands there, number by number, and is handed out anew each time. Conditions: none, for every input. -/
import Derived.Test.YtnjleligdeobeaaRows
import Derived.WalkKit
import Derived.ProofKit
import Derived.OpenShut
import Derived.ShutString
import Derived.ChangeOld
import Derived.Below
import Derived.SizedLaws
import Derived.Test.YtnjleligdeobeaaScript
namespace Go.Proofs.Ytnjleligdeobeaa.octetWrites
open Go.ChangeShapes Go.WideShapes Go.ChangeAt Go.RowKit
open Go.ChangeMaps (open_string shut_string)
set_option linter.unusedVariables false

theorem own : ownKnob Try.prog.godebug = none := by kernel_rfl
theorem laidOut : laidOutB Try.prog = true := by kernel_rfl

/-! ### the walk -/
theorem walk (a0 : Option Addr) (len0 cap0 : Nat) (l0 : List OpV) (w : World) (w0 : l0.length = len0 ∧ len0 ≤ cap0 ∧ cap0 * 40 ≤ 140737488351232 ∧ Ops w w.heap.size a0 l0) :
    Calls Try.prog 8 #[.slice a0 len0 cap0] w fun e w' => e = .returned (.bool true) ∧ Below w.heap.size w w' := by
  obtain ⟨hn, hc, hm, hr⟩ := w0
  have Hn := Lib.hid hn
  clear hn
  rcases (by omega : 4000 < htot l0 ∨ htot l0 ≤ 4000) with d0 | d0
  · have HD : decide (4000 < htot l0) = true := decide_eq_true d0
    clear d0
    go_enter Try.func8, Try.ntmps8
    go_wp2_with (go_at_call 21; refine (heavy_any _ _ _ _ l0 Hn.out hc hm _ hr).mono ?_; rintro e w' ⟨rfl, rfl⟩)
    go_ret
    exact ⟨rfl, Below.refl _ _⟩
  have HB : Hid (Bs (encs l0)) := by
    refine encs_bs l0 fun o ho => ?_
    obtain ⟨i, hi, hio⟩ := List.getElem_of_mem ho
    obtain ⟨b, off, _, _, h1⟩ := hr (by omega)
    exact (h1 i o (by rw [List.getElem?_eq_getElem hi, hio])).bs
  have HD : decide (4000 < htot l0) = false := decide_eq_false (by omega)
  have HT := Lib.hid d0
  clear d0
  go_enter Try.func8, Try.ntmps8
  go_wp2_with (go_at_call 21; refine (heavy_any _ _ _ _ l0 Hn.out hc hm _ hr).mono ?_; rintro e w' ⟨rfl, rfl⟩)
  go_loopw [4, 5] (fun i _r wr => ∃ k : Nat, k ≤ len0 ∧ i = .int .i64 k ∧ WrAt wr w.heap.size w.heap.size (encs (l0.take k)) ∧ Below w.heap.size w wr ∧ w.heap.size < wr.heap.size) (fun i _ _ => len0 - (intOf i).toNat)
  case atStart => exact ⟨0, Nat.zero_le _, rfl, wr_new w, (Below.refl _ _).alloc (Nat.le_refl _) _, by simp⟩
  case round =>
    obtain ⟨k, hk, rfl, hW, hB, hz⟩ := hrel
    have hL : Hid ((encs (l0.take k)).length ≤ 4000) := by
      show _ ≤ _
      have h1 := encs_length (l0.take k)
      have h2 := htot_take_le l0 k
      have := HT.out
      omega
    rcases Nat.lt_or_ge k len0 with d1 | d1
    · obtain ⟨o, ho⟩ : ∃ o, l0[k]? = some o := ⟨_, List.getElem?_eq_getElem (by rw [Hn.out]; exact d1)⟩
      obtain ⟨b, off, rfl, hb, hA⟩ := (hr.below hB) (by rw [Hn.out]; omega)
      have hA := hA k o ho
      have HE : Hid (encs (l0.take (k + 1)) = encs (l0.take k) ++ encOp o) := by
        show _ = _
        rw [take_snoc_some l0 k o ho, encs_append]; simp [encs]
      have HL : Hid (((encs (l0.take (k + 1))).length : Int) ≤ 4000) := by
        show _ ≤ _
        have h1 := encs_length (l0.take (k + 1))
        have h2 := htot_take_le l0 (k + 1)
        have := HT.out
        omega
      have h0 := hA.kind
      have h1 := hA.num
      have ok1 := hA.ok1
      unfold i64ok at ok1
      obtain ⟨A2, n2, c2, h2, hr2, hn2, hc2, hc3⟩ := hA.raw
      clear ho hA
      obtain ⟨kd, v, raw⟩ := o
      simp only at h0 h1 h2 hr2 hn2 ok1
      rcases (by omega : kd = 1 ∨ kd = 2 ∨ kd = 4 ∨ (kd ≠ 1 ∧ kd ≠ 2 ∧ kd ≠ 4)) with rfl | rfl | rfl | ⟨e1, e2, e3⟩
      · have HEO : Hid (encOp (1, v, raw) = be 1 v) := by show _ = _; simp [encOp]
        clear hn2
        go_wp2_with (first
          | (go_at_call 22; refine (byte_any v w.heap.size w.heap.size _ (by have := hL.out; omega) _ hW (by omega)).mono ?_; rintro e w9 ⟨rfl, hW9, hK9⟩; have hz9 := hK9.size))
        go_roundw
        case rel => exact ⟨k + 1, by omega, by go_num, by rw [HE.out, HEO.out]; exact hW9, hB.trans (hK9.below (by omega) hW.wf), by have := hK9.size; omega⟩
        case measure => simp [intOf]; omega
      · have HEO : Hid (encOp (2, v, raw) = be 2 v) := by show _ = _; simp [encOp]
        clear hn2
        go_wp2_with (first
          | (go_at_call 23; refine (two_any v w.heap.size w.heap.size _ (by have := hL.out; omega) _ hW (by omega)).mono ?_; rintro e w9 ⟨rfl, hW9, hK9⟩; have hz9 := hK9.size))
        go_roundw
        case rel => exact ⟨k + 1, by omega, by go_num, by rw [HE.out, HEO.out]; exact hW9, hB.trans (hK9.below (by omega) hW.wf), by have := hK9.size; omega⟩
        case measure => simp [intOf]; omega
      · have HEO : Hid (encOp (4, v, raw) = be 4 (v % 4294967296)) := by show _ = _; simp [encOp]
        clear hn2
        have f0 : 0 ≤ v % 4294967296 := by omega
        have f1 : v % 4294967296 ≤ 4294967295 := by omega
        go_wp2_with (first
          | (go_at_call 24; refine (four_any (v % 4294967296) f0 f1 w.heap.size w.heap.size _ (by have := hL.out; omega) _ hW (by omega)).mono ?_; rintro e w9 ⟨rfl, hW9, hK9⟩; have hz9 := hK9.size))
        go_roundw
        case rel => exact ⟨k + 1, by omega, by go_num, by rw [HE.out, HEO.out]; exact hW9, hB.trans (hK9.below (by omega) hW.wf), by have := hK9.size; omega⟩
        case measure => simp [intOf]; omega
      · have HEO : Hid (encOp (kd, v, raw) = raw) := by
          show _ = _
          simp [encOp, e1, e2, e3]
        have g1 : (kd == 1) = false := by simpa using e1
        have g2 : (kd == 2) = false := by simpa using e2
        have g3 : (kd == 4) = false := by simpa using e3
        have HN2 := Lib.hid hn2
        have hn4 : n2 ≤ 4000 := by
          have := HL.out
          rw [HE.out, HEO.out, List.length_append, hn2] at this
          omega
        have h2' : (wr.alloc (.cells #[] 5)).cell? ⟨b, off + k * 3 + 2, none⟩ = some (.slice A2 n2 c2) := (World.cell?_alloc_lt wr _ _ (by show b < wr.heap.size; omega)).trans h2
        clear hn2 e1 e2 e3
        go_wp2_with (first
          | (at_builtin; refine ap8_new rfl (.tmp 23) (.tmp 28) rfl rfl rfl hr2 hB.size HN2.out (by omega) ?_; intro A5 c5 w5 hO5 hB5 hz5 hc5))
        have hW5 := hW.below hB5
        have hz5' : w.heap.size ≤ w5.heap.size := by omega
        refine (raw_any _ _ _ _ raw HN2.out (by omega) w.heap.size w.heap.size _ (by have := hL.out; omega) _ hO5.rb hW5 hz5').mono ?_
        rintro e w6 ⟨rfl, hW6, hK6⟩
        have hz6 := hK6.size
        have hO6 : OB 5 w6 wr.heap.size A5 n2 c5 raw := hK6.ow hO5 fun i hi hf => by
          have h1 := (Ow.lt hO5 i hi).1
          have h2 := hW.wf_below hB5 hf
          omega
        go_wp2_with fail
        refine (spoil_any _ _ _ _ raw hn4 _ hO6 (by omega)).mono ?_
        rintro e w7 ⟨rfl, hg7⟩
        have hW7 := hW6.grown hg7 fun i hi hf => by
          have h1 := Ow.lt hO5 i hi
          have h2 := hW.wf_below hB5 (hK6.foot i h1.2 hf)
          omega
        have hB7 : Below w.heap.size w w7 := ((hB.trans (hB5.mono hB.size)).trans (hK6.below hz5' hW5.wf)).grown hg7 (by omega) fun i hi => by
          have h1 := Ow.lt hO5 i hi
          omega
        have hz7 := hg7.size
        go_wp2
        go_roundw
        case rel => exact ⟨k + 1, by omega, by go_num, by rw [HE.out, HEO.out]; exact hW7, hB7, by omega⟩
        case measure => simp [intOf]; omega
    · have HK : Hid (l0.take k = l0) := by show _ = _; exact List.take_of_length_le (by rw [Hn.out]; omega)
      rw [HK.out] at hW hL
      go_wp2_with (first
        | (go_at_call 27; refine (wrote_any _ _ _ _ l0 Hn.out hc hm HT.out _ (hr.below hB) (by omega)).mono ?_; rintro e w4 ⟨A4, n4, c4, rfl, hO4, hB4⟩)
        | (go_at_call 28; refine (bytes_any _ _ _ (by have := hL.out; omega) _ (hW.below hB4)).mono ?_; rintro e w5 ⟨A5, n5, c5, rfl, hO5, hB5⟩))
      have hW5 := (hW.below hB4).below hB5
      have hO45 := Ow.stays hO4 hB5
      have hbs : Bs (encs l0) := HB.out
      have hz4 := hB4.size
      have hz5 := hB5.size
      have hlen := hL.out
      have l4 := hO4.length
      have l5 := hO5.length
      have n4b : n4 ≤ 4000 := by omega
      have n5b : n5 ≤ 4000 := by omega
      have L4 := Lib.hid l4
      have L5 := Lib.hid l5
      clear l4 l5
      refine (same_any _ _ _ _ _ _ _ _ (encs l0) (encs l0) L5.out L4.out (by omega) (by omega) hbs hbs _ hO5.rb (Ow.rw hO45)).mono ?_
      rintro e w' ⟨rfl, q, rfl⟩
      go_wp2_with fail
      refine (spoil_any _ _ _ _ (encs l0) n5b _ (Ow.drewN hO5 q) (by exact hz5)).mono ?_
      rintro e w6 ⟨rfl, hg6⟩
      have hW6 : WrAt w6 w.heap.size w.heap.size (encs l0) := (hW5.drewN q).grown hg6 fun i hi hf => by
        have h1 := (Ow.lt hO5 i hi).1
        have h2 : i < w4.heap.size := (hW.below hB4).wf_below hB5 hf
        omega
      have hO6 : OB 5 w6 wr.heap.size A4 n4 c4 (encs l0) := Ow.kept (Ow.drewN hO45 q) hg6 (by
        rcases hA : blk A4 with _ | i
        · exact .inl rfl
        · refine .inr fun e => ?_
          have h1 := (Ow.lt hO5 i e.symm).1
          have h2 := (Ow.lt hO4 i hA).2
          omega)
      have hB6 : Below w.heap.size w w6 := (bel_drewN ((hB.trans (hB4.mono hB.size)).trans (hB5.mono (by omega))) q).grown hg6 (by show w.heap.size ≤ w5.heap.size; omega) fun i hi => by
        have h1 := (Ow.lt hO5 i hi).1
        omega
      go_wp2_with (first
        | (go_at_call 28; refine (bytes_any _ _ _ (by omega) _ hW6).mono ?_; rintro e w7 ⟨A7, n7, c7, rfl, hO7, hB7⟩))
      have l7 := hO7.length
      have n7b : n7 ≤ 4000 := by omega
      have L7 := Lib.hid l7
      clear l7
      refine (same_any _ _ _ _ _ _ _ _ (encs l0) (encs l0) L7.out L4.out (by omega) (by omega) hbs hbs _ hO7.rb (Ow.rw (Ow.stays hO6 hB7))).mono ?_
      rintro e w' ⟨rfl, q2, rfl⟩
      go_wp2_with (first
        | (go_at_call 18; refine (known_any _).mono ?_; rintro e w8 ⟨rfl, hB8⟩))
      go_ret
      have hB67 := hB6.trans (hB7.mono hB6.size)
      exact ⟨rfl, (bel_drewN hB67 q2).trans (hB8.mono hB67.size)⟩

/-! ### the row -/
set_option maxRecDepth 100000 in
theorem lifted (os : Os) (started : os.Started) (H : Type) (enc : TypeId × Value → H) :
    ReturnsInHanded {} Try.checked os 8 .any (Rows.octetWritesSpec.pre6 enc Try.prog Try.f8 Rows.octetWritesRow.domain false) (Rows.octetWritesSpec.post enc Try.prog Try.f8 false true false false) := by
  refine returnsInHanded_of_change_sized (C := Try.checked) own started (by kernel_rfl) Try.func8
    (ChangeSpec.witness6 (enc := enc) (C := Try.checked) false ⟨#[], #[.slice none 0 0], []⟩ 8 (by kernel_rfl) (by kernel_rfl) (by kernel_rfl) (by kernel_rfl)) ?_
  intro W base args ds gs before hval0 hW hcnd hsz0 _
  have hval : ∀ (j : Nat) t v, Try.f8.params[j]? = some t → args[j]? = some v → Value.okWide Try.prog W .any base t v := hval0
  have hsz : (DataW.weightsEach Try.prog (Try.f8.params.toList ++ Rows.octetWritesSpec.plain.varTypes Try.prog) (ds ++ gs)).all (· ≤ reachBytes) = true := hsz0
  clear hsz0
  have hW' := hW
  obtain ⟨p, q, hA0, hV, rfl, hfz, hnd⟩ := hW
  have hA : DataW.TrodAll enc Try.prog W 0 (fun _ => true) true Try.f8.params.toList args.toList ds p := hA0
  rw [Try.params8] at hA hval hsz
  obtain ⟨v0, vs0, d0, ds0, p0, q0, hargs, rfl, rfl, h0, r0⟩ := trodAll_cons hA
  obtain ⟨rfl, rfl, rfl⟩ := trodAll_nil r0
  obtain rfl : args = #[v0] := by cases args; simp_all
  obtain ⟨rfl, rfl⟩ := trodVars_none hV
  obtain ⟨a0, len0, cap0, rfl⟩ := okWide_slice Try.underlying32 (hval 0 32 v0 rfl rfl)
  have k0 := h0
  have lt0 : ∀ x ∈ p0, x.block < W.heap.size := by obtain ⟨m, hm⟩ := k0; exact DataW.trod_lt m _ _ _ hm
  obtain ⟨l0, w0⟩ : ∃ l0 : List OpV, l0.length = len0 ∧ len0 ≤ cap0 ∧ cap0 * 40 ≤ 140737488351232 ∧ Ops W W.heap.size a0 l0 := by
    obtain ⟨fuel, hf⟩ := h0
    exact open_ops (by simpa [Value.cells] using hf) (fun k hk => by have := List.all_eq_true.1 hsz k (DataW.weights_mem_each (j := 0) rfl rfl k hk); simpa using this)
  clear hA0 hval0
  refine (walk a0 len0 cap0 l0 W w0).mono fun e W' ⟨he, bel⟩ => ?_
  subst he
  exact ⟨_, rfl, _, _, _, [], _, [], hW', trodAll_mk1 (shut_bool Try.underlying4 _), (trodAll_cons_mk (Below.trod laidOut (by kernel_rfl) (of_decide_eq_true (by kernel_rfl)) k0 bel lt0) trodAll_mk0), rfl, bel.frame _, fun h => by cases h⟩

theorem over : Rows.octetWritesRow.holds Try.pinned (OpenSpec.ofChange Rows.octetWritesSpec) :=
  OpenClaim.holds_of_wide 8 Try.f8 rfl rfl rfl rfl rfl rfl rfl ⟨rfl, rfl, rfl, rfl, rfl⟩ rfl rfl rfl rfl rfl (by kernel_rfl) Try.func8 (by kernel_rfl)
    (of_decide_eq_true (by kernel_rfl)) (by unfold Func.isWrapper; first | (rw [if_pos (by decide +kernel)]; kernel_rfl) | (rw [if_neg (by decide +kernel)]; exact ⟨rfl, rfl⟩))
    (fun os started H enc _ => lifted os started H enc)

theorem proved : Rows.OctetWritesSaid := over
#print axioms proved
end Go.Proofs.Ytnjleligdeobeaa.octetWrites
