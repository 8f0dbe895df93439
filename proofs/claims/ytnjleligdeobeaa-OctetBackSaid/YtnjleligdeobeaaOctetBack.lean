/- Proved: what was written by an octet.Writer is read again by an octet.Reader, in the same order. Conditions: none, for every input. -/
import Derived.Test.YtnjleligdeobeaaRows
import Derived.WalkKit
import Derived.ProofKit
import Derived.OpenShut
import Derived.ShutString
import Derived.ChangeOld
import Derived.Below
import Derived.SizedLaws
import Derived.Test.YtnjleligdeobeaaReadBack
namespace Go.Proofs.Ytnjleligdeobeaa.octetBack
open Go.ChangeShapes Go.WideShapes Go.ChangeAt Go.RowKit
open Go.ChangeMaps (open_string shut_string)
set_option linter.unusedVariables false

theorem own : ownKnob Try.prog.godebug = none := by kernel_rfl
theorem laidOut : laidOutB Try.prog = true := by kernel_rfl

/-! ### the walk -/
set_option maxHeartbeats 2000000 in
theorem walk (a0 : Option Addr) (len0 cap0 : Nat) (l0 : List OpV) (w : World) (w0 : l0.length = len0 ∧ len0 ≤ cap0 ∧ cap0 * 40 ≤ 140737488351232 ∧ Ops w w.heap.size a0 l0) :
    Calls Try.prog 11 #[.slice a0 len0 cap0] w fun e w' => e = .returned (.bool true) ∧ Below w.heap.size w w' := by
  obtain ⟨hn, hc, hm, hr⟩ := w0
  have Hn := Lib.hid hn
  rcases (by omega : 4000 < htot l0 ∨ htot l0 ≤ 4000) with d0 | d0
  · have HD : decide (4000 < htot l0) = true := decide_eq_true d0
    clear d0 hn
    go_enter Try.func11, Try.ntmps11
    go_wp2_with (go_at_call 21; refine (heavy_any _ _ _ _ l0 Hn.out hc hm _ hr).mono ?_; rintro e w' ⟨rfl, rfl⟩)
    go_ret
    exact ⟨rfl, Below.refl _ _⟩
  have HB : Hid (∀ o ∈ l0, Bs o.2.2) := by
    show ∀ o ∈ l0, _
    intro o ho
    obtain ⟨i, hi, hio⟩ := List.getElem_of_mem ho
    obtain ⟨b, off, _, _, h1⟩ := hr (by omega)
    exact (h1 i o (by rw [List.getElem?_eq_getElem hi, hio])).bs
  have HD : decide (4000 < htot l0) = false := decide_eq_false (by omega)
  have HT := Lib.hid d0
  clear d0 hn
  go_enter Try.func11, Try.ntmps11
  go_wp2_with (go_at_call 21; refine (heavy_any _ _ _ _ l0 Hn.out hc hm _ hr).mono ?_; rintro e w' ⟨rfl, rfl⟩)
  go_loopw [4] (fun i wr => ∃ k : Nat, k ≤ len0 ∧ i = .int .i64 k ∧ WrAt wr w.heap.size w.heap.size (encs2 (l0.take k)) ∧ Below w.heap.size w wr ∧ w.heap.size < wr.heap.size) (fun i _ => len0 - (intOf i).toNat)
  case atStart => exact ⟨0, Nat.zero_le _, rfl, wr_new w, (Below.refl _ _).alloc (Nat.le_refl _) _, by simp⟩
  case round =>
    obtain ⟨k, hk, rfl, hW, hB, hz⟩ := hrel
    have hL : Hid ((encs2 (l0.take k)).length ≤ 8000) := by
      show _ ≤ _
      have h1 := encs2_length (l0.take k)
      have h2 := htot_take_le l0 k
      have := HT.out
      omega
    rcases Nat.lt_or_ge k len0 with d1 | d1
    · obtain ⟨o, ho⟩ : ∃ o, l0[k]? = some o := ⟨_, List.getElem?_eq_getElem (by rw [Hn.out]; exact d1)⟩
      obtain ⟨b, off, rfl, hb, hA⟩ := (hr.below hB) (by rw [Hn.out]; omega)
      have hA := hA k o ho
      have HE : Hid (encs2 (l0.take (k + 1)) = encs2 (l0.take k) ++ enc2 o) := by
        show _ = _
        rw [take_snoc_some l0 k o ho, encs2_append]; simp [encs2]
      have HL : Hid (((encs2 (l0.take (k + 1))).length : Int) ≤ 8000) := by
        show _ ≤ _
        have h1 := encs2_length (l0.take (k + 1))
        have h2 := htot_take_le l0 (k + 1)
        have := HT.out
        omega
      have h1 := hA.num
      have ok1 := hA.ok1
      unfold i64ok at ok1
      obtain ⟨A2, n2, c2, h2, hr2, hn2, hc2, hc3⟩ := hA.raw
      have hA0 := hA
      clear ho hA
      obtain ⟨kd, v, raw⟩ := o
      simp only at h1 h2 hr2 hn2 ok1
      have HN2 := Lib.hid hn2
      have hn4 : n2 ≤ 8000 := by
        have := HL.out
        rw [HE.out] at this
        simp only [enc2, List.length_append, be_length, hn2] at this
        omega
      clear hn2
      have f0 : 0 ≤ v % 4294967296 := by omega
      have f1 : v % 4294967296 ≤ 4294967295 := by omega
      have hltb : b < wr.heap.size := by omega
      go_wp2_with fail
      refine (two_any v w.heap.size w.heap.size _ (by have := hL.out; omega) _ hW (by omega)).mono ?_
      rintro e w1 ⟨rfl, hW1, hK1⟩
      have hB1 := hK1.below (B := w.heap.size) (by omega) hW.wf
      have hz1 := hK1.size
      have h2' := (hB1.cell (p := ⟨b, off + k * 3 + 2, none⟩) hb).trans h2
      have h1' := (hB1.cell (p := ⟨b, off + k * 3 + 1, none⟩) hb).trans h1
      go_wp2_with fail
      refine (raw_any _ _ _ _ raw HN2.out (by omega) w.heap.size w.heap.size _ (by rw [List.length_append, be_length]; have := hL.out; omega) _ (Rw.below hr2 hB1) hW1 (by omega)).mono ?_
      rintro e w2 ⟨rfl, hW2, hK2⟩
      have hB2 := hK2.below (B := w.heap.size) (by omega) hW1.wf
      have hz2 := hK2.size
      have h1'' := (hB2.cell (p := ⟨b, off + k * 3 + 1, none⟩) hb).trans h1'
      go_wp2_with fail
      refine (four_any (v % 4294967296) f0 f1 w.heap.size w.heap.size _ (by rw [List.length_append, List.length_append, be_length, HN2.out]; have := hL.out; omega) _ hW2 (by omega)).mono ?_
      rintro e w3 ⟨rfl, hW3, hK3⟩
      have hz3 := hK3.size
      have hB3 := hK3.below (B := w.heap.size) (by omega) hW2.wf
      go_wp2
      go_roundw
      case rel => exact ⟨k + 1, by omega, by go_num, by rw [HE.out]; simpa [enc2, List.append_assoc] using hW3, ((hB.trans hB1).trans hB2).trans hB3, by omega⟩
      case measure => simp [intOf]; omega
    · have HK : Hid (l0.take k = l0) := by show _ = _; exact List.take_of_length_le (by rw [Hn.out]; omega)
      rw [HK.out] at hW hL
      have hbs := encs2_bs l0 HB.out
      go_wp2_with fail
      refine (bytes_any _ _ _ (by have := hL.out; omega) _ hW).mono ?_
      rintro e w4 ⟨A4, n4, c4, rfl, hO4, hB4⟩
      have l4 := hO4.length
      have hlen := hL.out
      have n4b : n4 ≤ 8000 := by omega
      clear l4
      go_wp2_with fail
      refine (newreader_any A4 n4 c4 _ (encs2 l0) hO4.length (by omega) hbs _ hO4.rb (Nat.le_refl _)).mono ?_
      rintro e w5 ⟨g, rfl, hR5, hB5⟩
      have hz4 := hB4.size
      have hz5 := hB5.size
      have hBB : Below w.heap.size w w5 := (hB.trans (hB4.mono hB.size)).trans (hB5.mono (by omega))
      go_wp2_with fail
      go_loopw [6] (fun i wq => ∃ j : Nat, j ≤ len0 ∧ i = .int .i64 j ∧ Rd wq w4.heap.size g (encs2 (l0.drop j)) 0 ∧ Below w.heap.size w wq ∧ w4.heap.size ≤ wq.heap.size) (fun i _ => len0 - (intOf i).toNat)
      case atStart => exact ⟨0, Nat.zero_le _, rfl, by simpa using hR5, hBB, hz5⟩
      case round =>
        obtain ⟨j, hj, rfl, hR, hBq, hzq⟩ := hrel
        rcases Nat.lt_or_ge j len0 with d2 | d2
        · obtain ⟨o, ho⟩ : ∃ o, l0[j]? = some o := ⟨_, List.getElem?_eq_getElem (by rw [Hn.out]; exact d2)⟩
          obtain ⟨b, off, rfl, hb, hA⟩ := (hr.below hBq) (by rw [Hn.out]; omega)
          have hA := hA j o ho
          have HE : Hid (encs2 (l0.drop j) = enc2 o ++ encs2 (l0.drop (j + 1))) := by
            show _ = _
            rw [drop_cons_some l0 j o ho]; rfl
          have HLr : Hid ((o.2.2.length : Int) ≤ 4000) := by
            show _ ≤ _
            have h3 := htot_get l0 j o ho
            have := HT.out
            omega
          have HLx : Hid ((enc2 o ++ encs2 (l0.drop (j + 1))).length ≤ 8000) := by
            show _ ≤ _
            rw [← HE.out]
            have h3 := encs2_length (l0.drop j)
            have h4 := htot_drop_le l0 j
            have := HT.out
            omega
          have h1 := hA.num
          have ok1 := hA.ok1
          have hbr := hA.bs
          unfold i64ok at ok1
          obtain ⟨A2, n2, c2, h2, hr2, hn2, hc2, hc3⟩ := hA.raw
          clear ho hA
          obtain ⟨kd, v, raw⟩ := o
          simp only at h1 h2 hr2 hn2 ok1 hbr
          rw [HE.out] at hR
          simp only [enc2, List.append_assoc] at hR
          have HN2 := Lib.hid hn2
          have e1 : numBE (rdOut (be 2 v ++ (raw ++ (be 4 (v % 4294967296) ++ encs2 (l0.drop (j + 1))))) 0 2) = v % 65536 := by rw [rdOut_app _ _ _ (by rw [be_length]; rfl), numBE_be2]
          have e2 : rdRest (be 2 v ++ (raw ++ (be 4 (v % 4294967296) ++ encs2 (l0.drop (j + 1))))) 0 2 = raw ++ (be 4 (v % 4294967296) ++ encs2 (l0.drop (j + 1))) := rdRest_app _ _ _ (by rw [be_length]; rfl)
          have e3 : rdErr (be 2 v ++ (raw ++ (be 4 (v % 4294967296) ++ encs2 (l0.drop (j + 1))))) 0 2 = 0 := rdErr_app _ _ _ (by rw [be_length]; rfl)
          have e4 : rdOut (raw ++ (be 4 (v % 4294967296) ++ encs2 (l0.drop (j + 1)))) 0 n2 = raw := rdOut_app _ _ _ (by rw [hn2])
          have e5 : rdRest (raw ++ (be 4 (v % 4294967296) ++ encs2 (l0.drop (j + 1)))) 0 n2 = be 4 (v % 4294967296) ++ encs2 (l0.drop (j + 1)) := rdRest_app _ _ _ (by rw [hn2])
          have e6 : rdErr (raw ++ (be 4 (v % 4294967296) ++ encs2 (l0.drop (j + 1)))) 0 n2 = 0 := rdErr_app _ _ _ (by rw [hn2])
          have e7 : numBE (rdOut (be 4 (v % 4294967296) ++ encs2 (l0.drop (j + 1))) 0 4) = v % 4294967296 := by rw [rdOut_app _ _ _ (by rw [be_length]; rfl), numBE_be4]; omega
          have e8 : rdRest (be 4 (v % 4294967296) ++ encs2 (l0.drop (j + 1))) 0 4 = encs2 (l0.drop (j + 1)) := rdRest_app _ _ _ (by rw [be_length]; rfl)
          have e9 : rdErr (be 4 (v % 4294967296) ++ encs2 (l0.drop (j + 1))) 0 4 = 0 := rdErr_app _ _ _ (by rw [be_length]; rfl)
          generalize hrest : encs2 (l0.drop (j + 1)) = rest at *
          have HRst := Lib.hid hrest
          clear hrest
          have E1 := Lib.hid e1
          have E2 := Lib.hid e2
          have E3 := Lib.hid e3
          have E4 := Lib.hid e4
          have E5 := Lib.hid e5
          have E6 := Lib.hid e6
          have E7 := Lib.hid e7
          have E8 := Lib.hid e8
          have E9 := Lib.hid e9
          have hlr : raw.length ≤ 1000000 := by have := HLr.out; simp only at this; omega
          have hn5 : n2 ≤ 1000000 := by omega
          have hge := hR.ge
          have hbg : some b ≠ some g := by intro e; injection e with e; omega
          have hlen2 : (raw ++ (be 4 (v % 4294967296) ++ rest)).length ≤ 1000000 := by
            have := HLx.out
            simp only [enc2, List.append_assoc] at this
            rw [List.length_append] at this
            omega
          have hand := and_i64_65535 v
          have hwv : IntKind.u32.wrap v = v % 4294967296 := IntKind.wrap_u32 v
          have hrow : ∀ g', some g = some g' → w.heap.size ≤ g' := fun g' e => by injection e with e; omega
          have q1 : (j : Int) < len0 := by omega
          clear e1 e2 e3 e4 e5 e6 e7 e8 e9 hn2
          go_wp2
          go_region_held3 (fun w' => w'.cell? ⟨b, off + j * 3 + 1, none⟩ = some (.int .i64 v) ∧ w'.cell? ⟨b, off + j * 3 + 2, none⟩ = some (.slice A2 n2 c2))
            (first | (exact ⟨by assumption, by assumption⟩) | go_keep)
            (first
              | (go_at_call 35; refine (rtwo16_any w4.heap.size g _ 0 _ (by exact hR) (by exact hzq)).mono ?_; rintro e w6 ⟨rfl, hR6, hg6⟩; rw [E1.out]; rw [E2.out, E3.out] at hR6; have k61 := hg6.cell h1 hbg; have k62 := hg6.cell h2 hbg; have z6 : wr.heap.size ≤ w6.heap.size := hg6.size)
              | (go_at_call 32; refine (rraw_any w4.heap.size g _ hlen2 0 n2 _ (by exact hR6) (by omega)).mono ?_; rintro e w7 ⟨A7, n7, c7, rfl, hO7, hR7, hg7⟩; rw [E4.out] at hO7; rw [E5.out, E6.out] at hR7; have k71 := hg7.cell k61 hbg; have k72 := hg7.cell k62 hbg; have z7 : w6.heap.size ≤ w7.heap.size := hg7.size; have n7b : n7 ≤ 1000000 := by (rw [← hO7.length]; exact hlr))
              | (go_at_call 29; refine (same_any _ _ _ _ _ _ _ _ raw raw hO7.length HN2.out (by omega) (by omega) hbr hbr _ hO7.rb (by exact Rw.grown (Rw.grown (Rw.drew hr2) hg6 (by exact hBq.size) hrow) hg7 (by exact Nat.le_trans hBq.size z6) hrow)).mono ?_; rintro e w' ⟨rfl, q8, rfl⟩)
              | (go_at_call 36; refine (rfour32_any w4.heap.size g _ 0 _ (by exact hR7.drewN q8) (by exact Nat.le_trans hzq (Nat.le_trans z6 z7))).mono ?_; rintro e w9 ⟨rfl, hR9, hg9⟩; rw [E7.out]; rw [E8.out, E9.out] at hR9; have k91 := hg9.cell k71 hbg; have k92 := hg9.cell k72 hbg))
          go_wp2
          go_roundw
          case rel =>
            have b6 : Below w.heap.size wr w6 := (Below.drew (Below.refl _ _)).grown hg6 hBq.size hrow
            have b7 : Below w.heap.size w6 w7 := (Below.refl _ _).grown hg7 (Nat.le_trans hBq.size z6) hrow
            have b9 : Below w.heap.size w7 w9 := (bel_drewN (Below.refl _ _) q8).grown hg9 (Nat.le_trans hBq.size (Nat.le_trans z6 z7)) hrow
            have z9 : w7.heap.size ≤ w9.heap.size := hg9.size
            exact ⟨j + 1, by omega, by go_num, by rw [HRst.out]; exact hR9, ((hBq.trans b6).trans b7).trans b9, by omega⟩
          case measure => simp [intOf]; omega
        · have HQ : Hid (l0.drop j = []) := by show _ = _; exact List.drop_of_length_le (by rw [Hn.out]; omega)
          rw [HQ.out] at hR
          go_wp2_with (first
            | (go_at_call 30; refine (rleft_any _ _ _ _ _ hR).mono ?_; rintro e w' ⟨rfl, rfl⟩)
            | (go_at_call 31; refine (rerr_any _ _ _ _ _ hR).mono ?_; rintro e w' ⟨rfl, rfl⟩)
            | (go_at_call 18; refine (known_any _).mono ?_; rintro e w6 ⟨rfl, hB6⟩))
          go_ret
          exact ⟨rfl, hBq.trans (hB6.mono hBq.size)⟩

/-! ### the row -/
set_option maxRecDepth 100000 in
theorem lifted (os : Os) (started : os.Started) (H : Type) (enc : TypeId × Value → H) :
    ReturnsInHanded {} Try.checked os 11 .any (Rows.octetBackSpec.pre6 enc Try.prog Try.f11 Rows.octetBackRow.domain false) (Rows.octetBackSpec.post enc Try.prog Try.f11 false true false false) := by
  refine returnsInHanded_of_change_sized (C := Try.checked) own started (by kernel_rfl) Try.func11
    (ChangeSpec.witness6 (enc := enc) (C := Try.checked) false ⟨#[], #[.slice none 0 0], []⟩ 8 (by kernel_rfl) (by kernel_rfl) (by kernel_rfl) (by kernel_rfl)) ?_
  intro W base args ds gs before hval0 hW hcnd hsz0 _
  have hval : ∀ (j : Nat) t v, Try.f11.params[j]? = some t → args[j]? = some v → Value.okWide Try.prog W .any base t v := hval0
  have hsz : (DataW.weightsEach Try.prog (Try.f11.params.toList ++ Rows.octetBackSpec.plain.varTypes Try.prog) (ds ++ gs)).all (· ≤ reachBytes) = true := hsz0
  clear hsz0
  have hW' := hW
  obtain ⟨p, q, hA0, hV, rfl, hfz, hnd⟩ := hW
  have hA : DataW.TrodAll enc Try.prog W 0 (fun _ => true) true Try.f11.params.toList args.toList ds p := hA0
  rw [Try.params11] at hA hval hsz
  obtain ⟨v0, vs0, d0, ds0, p0, q0, hargs, rfl, rfl, h0, r0⟩ := trodAll_cons hA
  obtain ⟨rfl, rfl, rfl⟩ := trodAll_nil r0
  obtain rfl : args = #[v0] := by cases args; simp_all
  obtain ⟨rfl, rfl⟩ := trodVars_none hV
  obtain ⟨a0, len0, cap0, rfl⟩ := okWide_slice Try.underlying32 (hval 0 32 v0 rfl rfl)
  have k0 := h0
  have lt0 : ∀ x ∈ p0, x.block < W.heap.size := by obtain ⟨m, hm⟩ := k0; exact DataW.trod_lt m _ _ _ hm
  obtain ⟨l0, w0⟩ : ∃ l0 : List OpV, l0.length = len0 ∧ len0 ≤ cap0 ∧ cap0 * 40 ≤ 140737488351232 ∧ Ops W W.heap.size a0 l0 := by
    obtain ⟨fuel, hf⟩ := h0
    exact open_ops (by simpa [Value.cells] using hf) (fun k hk => by have := List.all_eq_true.1 hsz k (DataW.weights_mem_each (j := 0) rfl rfl k hk); simpa using this)
  clear hA0 hval0
  refine (walk a0 len0 cap0 l0 W w0).mono fun e W' ⟨he, bel⟩ => ?_
  subst he
  exact ⟨_, rfl, _, _, _, [], _, [], hW', trodAll_mk1 (shut_bool Try.underlying4 _), (trodAll_cons_mk (Below.trod laidOut (by kernel_rfl) (of_decide_eq_true (by kernel_rfl)) k0 bel lt0) trodAll_mk0), rfl, bel.frame _, fun h => by cases h⟩

theorem over : Rows.octetBackRow.holds Try.pinned (OpenSpec.ofChange Rows.octetBackSpec) :=
  OpenClaim.holds_of_wide 11 Try.f11 rfl rfl rfl rfl rfl rfl rfl ⟨rfl, rfl, rfl, rfl, rfl⟩ rfl rfl rfl rfl rfl (by kernel_rfl) Try.func11 (by kernel_rfl)
    (of_decide_eq_true (by kernel_rfl)) (by unfold Func.isWrapper; first | (rw [if_pos (by decide +kernel)]; kernel_rfl) | (rw [if_neg (by decide +kernel)]; exact ⟨rfl, rfl⟩))
    (fun os started H enc _ => lifted os started H enc)

theorem proved : Rows.OctetBackSaid := over
#print axioms proved
end Go.Proofs.Ytnjleligdeobeaa.octetBack
