/- Proved: a packet is twenty-eight bytes. Conditions: none, for every input. -/
import Derived.Test.YtocigdkndlmikaaRows
import Derived.WalkKit
import Derived.ProofKit
import Derived.OpenShut
import Derived.ShutString
import Derived.ChangeOld
import Derived.Below
import Derived.SizedLaws
import Derived.Test.YtocigdkndlmikaaArpE
namespace Go.Proofs.Ytocigdkndlmikaa.arpEncodes
open Go.ChangeShapes Go.WideShapes Go.ChangeAt Go.RowKit
open Go.ChangeMaps (open_string shut_string)
set_option linter.unusedVariables false

theorem own : ownKnob Try.prog.godebug = none := by kernel_rfl
theorem laidOut : laidOutB Try.prog = true := by kernel_rfl

/-! ### the walk -/
set_option maxRecDepth 100000 in
set_option maxHeartbeats 4000000 in
theorem walk (v0 : Value) (w : World) (w0 : ViewARP w v0) :
    Calls Try.prog 6 #[v0] w fun e w' => e = .returned (.bool true) ∧ Below w.heap.size w w' := by
  obtain ⟨op, m0, m1, m2, m3, m4, m5, fr, t0, t1, t2, t3, t4, t5, to_, rfl, hop, hm, hf, ht, hto⟩ := w0
  have HM := Lib.hid hm
  have HT := Lib.hid ht
  clear hm ht
  obtain ⟨W, hW⟩ : ∃ W, w.alloc (.cells #[.int .i64 op, .int .u8 m0, .int .u8 m1, .int .u8 m2, .int .u8 m3, .int .u8 m4, .int .u8 m5, .int .u32 fr, .int .u8 t0, .int .u8 t1, .int .u8 t2, .int .u8 t3, .int .u8 t4, .int .u8 t5, .int .u32 to_] 43) = W := ⟨_, rfl⟩
  have hk : Bk W w.heap.size 43 #[.int .i64 op, .int .u8 m0, .int .u8 m1, .int .u8 m2, .int .u8 m3, .int .u8 m4, .int .u8 m5, .int .u32 fr, .int .u8 t0, .int .u8 t1, .int .u8 t2, .int .u8 t3, .int .u8 t4, .int .u8 t5, .int .u32 to_] := by rw [← hW]; exact Bk.new w _ _
  have hBW : Below w.heap.size w W := by rw [← hW]; exact (Below.refl _ _).alloc (Nat.le_refl _) _
  have HW := Lib.hid hW
  have HBW := Lib.hid hBW
  have hlt := hk.lt
  clear hW hBW
  by_cases hbad : op ≠ 1 ∧ op ≠ 2
  · have HE := fun w => encode_arg op m0 m1 m2 m3 m4 m5 fr t0 t1 t2 t3 t4 t5 to_ hbad.1 hbad.2 w
    have HR := fun w => rencode_arg op m0 m1 m2 m3 m4 m5 fr t0 t1 t2 t3 t4 t5 to_ hbad.1 hbad.2 w
    have HE' := Lib.hid HE
    have HR' := Lib.hid HR
    clear HE HR hbad hop
    go_enter Try.func6, Try.ntmps6
    go_wp2_with fail
    rw [HW.out]
    refine (HE'.out _).mono ?_
    rintro e w1 ⟨rfl, hB1⟩
    have hk1 := hk.below hB1 hlt
    have c0 := hk1.cell 0
    have c1 := hk1.cell 1
    have c2 := hk1.cell 2
    have c3 := hk1.cell 3
    have c4 := hk1.cell 4
    have c5 := hk1.cell 5
    have c6 := hk1.cell 6
    have c7 := hk1.cell 7
    have c8 := hk1.cell 8
    have c9 := hk1.cell 9
    have c10 := hk1.cell 10
    have c11 := hk1.cell 11
    have c12 := hk1.cell 12
    have c13 := hk1.cell 13
    have c14 := hk1.cell 14
    simp only [List.getElem?_toArray, List.getElem?_cons_zero, List.getElem?_cons_succ] at c0 c1 c2 c3 c4 c5 c6 c7 c8 c9 c10 c11 c12 c13 c14
    go_wp2_with fail
    refine (HR'.out _).mono ?_
    rintro e w2 ⟨rfl, hB2⟩
    clear c0 c1 c2 c3 c4 c5 c6 c7 c8 c9 c10 c11 c12 c13 c14 hk1
    go_wp2_with fail
    refine (same_any none none 0 0 0 0 0 0 [] [] rfl rfl (by omega) (by omega) Bs.nil Bs.nil _ (Rw.nil _ _ _) (Rw.nil _ _ _)).mono ?_
    rintro e w3 ⟨rfl, k3, rfl⟩
    have hb : Below w.heap.size w (w2.drewN k3) := bel_drewN ((HBW.out.trans (hB1.mono HBW.out.size)).trans (hB2.mono (Nat.le_trans HBW.out.size hB1.size))) k3
    have HB := Lib.hid hb
    clear hb hB1 hB2
    go_wp2_with fail
    refine (known_any _).mono ?_
    rintro e w4 ⟨rfl, hB4⟩
    go_wp2
    go_ret
    exact ⟨rfl, HB.out.trans (hB4.mono HB.out.size)⟩
  · have hok : op = 1 ∨ op = 2 := by omega
    have HE' := Lib.hid (fun w => encode_ok op m0 m1 m2 m3 m4 m5 fr t0 t1 t2 t3 t4 t5 to_ hok hf hto w)
    have HR' := Lib.hid (fun w => rencode_ok op m0 m1 m2 m3 m4 m5 fr t0 t1 t2 t3 t4 t5 to_ hok hf hto w)
    have hbs : Bs (arpB op [m0, m1, m2, m3, m4, m5] fr [t0, t1, t2, t3, t4, t5] to_) := by
      obtain ⟨⟨q0, q0'⟩, ⟨q1, q1'⟩, ⟨q2, q2'⟩, ⟨q3, q3'⟩, ⟨q4, q4'⟩, ⟨q5, q5'⟩⟩ := HM.out
      obtain ⟨⟨s0, s0'⟩, ⟨s1, s1'⟩, ⟨s2, s2'⟩, ⟨s3, s3'⟩, ⟨s4, s4'⟩, ⟨s5, s5'⟩⟩ := HT.out
      unfold arpB
      refine Bs.append (Bs.append (Bs.append (Bs.append (Bs.append ?_ (be_bs _ _)) ?_) (be_bs _ _)) ?_) (be_bs _ _)
      · intro x hx; simp only [List.mem_cons, List.not_mem_nil, or_false] at hx; omega
      · intro x hx; simp only [List.mem_cons, List.not_mem_nil, or_false] at hx; omega
      · intro x hx; simp only [List.mem_cons, List.not_mem_nil, or_false] at hx; omega
    obtain ⟨L, hL⟩ : ∃ L, arpB op [m0, m1, m2, m3, m4, m5] fr [t0, t1, t2, t3, t4, t5] to_ = L := ⟨_, rfl⟩
    have hl28 : L.length = 28 := by rw [← hL]; rfl
    rw [hL] at hbs
    have HL := Lib.hid hL
    have HL28 := Lib.hid hl28
    clear hbad hop hok hL hl28
    go_enter Try.func6, Try.ntmps6
    go_wp2_with fail
    rw [HW.out]
    refine (HE'.out _).mono ?_
    rintro e w1 ⟨A1, n1, cc1, rfl, hO1, hB1⟩
    rw [HL.out] at hO1
    have hk1 := hk.below hB1 hlt
    have c0 := hk1.cell 0
    have c1 := hk1.cell 1
    have c2 := hk1.cell 2
    have c3 := hk1.cell 3
    have c4 := hk1.cell 4
    have c5 := hk1.cell 5
    have c6 := hk1.cell 6
    have c7 := hk1.cell 7
    have c8 := hk1.cell 8
    have c9 := hk1.cell 9
    have c10 := hk1.cell 10
    have c11 := hk1.cell 11
    have c12 := hk1.cell 12
    have c13 := hk1.cell 13
    have c14 := hk1.cell 14
    simp only [List.getElem?_toArray, List.getElem?_cons_zero, List.getElem?_cons_succ] at c0 c1 c2 c3 c4 c5 c6 c7 c8 c9 c10 c11 c12 c13 c14
    go_wp2_with fail
    refine (HR'.out _).mono ?_
    rintro e w2 ⟨A2, n2, cc2, rfl, hO2, hB2⟩
    rw [HL.out] at hO2
    clear c0 c1 c2 c3 c4 c5 c6 c7 c8 c9 c10 c11 c12 c13 c14 hk1
    have hO1' := Ow.stays hO1 hB2
    have hn1 : n1 = 28 := by rw [← OB.length hO1, HL28.out]
    have hn2 : n2 = 28 := by rw [← OB.length hO2, HL28.out]
    subst hn1
    subst hn2
    go_wp2_with fail
    refine (same_any A1 A2 28 cc1 28 cc2 _ _ L L HL28.out HL28.out (by omega) (by omega) hbs hbs _ (OB.rb hO1') (OB.rb hO2)).mono ?_
    rintro e w3 ⟨rfl, k3, rfl⟩
    have hb : Below w.heap.size w (w2.drewN k3) := bel_drewN ((HBW.out.trans (hB1.mono HBW.out.size)).trans (hB2.mono (Nat.le_trans HBW.out.size hB1.size))) k3
    have HB := Lib.hid hb
    clear hb hB1 hB2 hO1 hO2 hO1'
    go_wp2_with fail
    refine (known_any _).mono ?_
    rintro e w4 ⟨rfl, hB4⟩
    go_wp2
    go_ret
    exact ⟨rfl, HB.out.trans (hB4.mono HB.out.size)⟩

/-! ### the row -/
set_option maxRecDepth 100000 in
theorem lifted (os : Os) (started : os.Started) (H : Type) (enc : TypeId × Value → H) :
    ReturnsInHanded {} Try.checked os 6 .any (Rows.arpEncodesSpec.pre6 enc Try.prog Try.f6 Rows.arpEncodesRow.domain false) (Rows.arpEncodesSpec.post enc Try.prog Try.f6 false true false false) := by
  refine returnsInHanded_of_change_sized (C := Try.checked) own started (by kernel_rfl) Try.func6
    (ChangeSpec.witness6 (enc := enc) (C := Try.checked) false ⟨#[], #[.agg #[.int .i64 0, .int .u8 0, .int .u8 0, .int .u8 0, .int .u8 0, .int .u8 0, .int .u8 0, .int .u32 0, .int .u8 0, .int .u8 0, .int .u8 0, .int .u8 0, .int .u8 0, .int .u8 0, .int .u32 0]], []⟩ 8 (by kernel_rfl) (by kernel_rfl) (by kernel_rfl) (by kernel_rfl)) ?_
  intro W base args ds gs before hval0 hW hcnd hsz0 _
  have hval : ∀ (j : Nat) t v, Try.f6.params[j]? = some t → args[j]? = some v → Value.okWide Try.prog W .any base t v := hval0
  have hsz : (DataW.weightsEach Try.prog (Try.f6.params.toList ++ Rows.arpEncodesSpec.plain.varTypes Try.prog) (ds ++ gs)).all (· ≤ reachBytes) = true := hsz0
  clear hsz0
  have hW' := hW
  obtain ⟨p, q, hA0, hV, rfl, hfz, hnd⟩ := hW
  have hA : DataW.TrodAll enc Try.prog W 0 (fun _ => true) true Try.f6.params.toList args.toList ds p := hA0
  rw [Try.params6] at hA hval hsz
  obtain ⟨v0, vs0, d0, ds0, p0, q0, hargs, rfl, rfl, h0, r0⟩ := trodAll_cons hA
  obtain ⟨rfl, rfl, rfl⟩ := trodAll_nil r0
  obtain rfl : args = #[v0] := by cases args; simp_all
  obtain ⟨rfl, rfl⟩ := trodVars_none hV
  have k0 := h0
  have lt0 : ∀ x ∈ p0, x.block < W.heap.size := by obtain ⟨m, hm⟩ := k0; exact DataW.trod_lt m _ _ _ hm
  have w0 : ViewARP W v0 := open_arp (hval 0 43 v0 rfl rfl) h0 (fun k hk => by have := List.all_eq_true.1 hsz k (DataW.weights_mem_each (j := 0) rfl rfl k hk); simpa using this)
  clear hA0 hval0
  refine (walk v0 W w0).mono fun e W' ⟨he, bel⟩ => ?_
  subst he
  exact ⟨_, rfl, _, _, _, [], _, [], hW', trodAll_mk1 (shut_bool Try.underlying4 _), (trodAll_cons_mk (Below.trod laidOut (by kernel_rfl) (of_decide_eq_true (by kernel_rfl)) k0 bel lt0) trodAll_mk0), rfl, bel.frame _, fun h => by cases h⟩

theorem over : Rows.arpEncodesRow.holds Try.pinned (OpenSpec.ofChange Rows.arpEncodesSpec) :=
  OpenClaim.holds_of_wide 6 Try.f6 rfl rfl rfl rfl rfl rfl rfl ⟨rfl, rfl, rfl, rfl, rfl⟩ rfl rfl rfl rfl rfl (by kernel_rfl) Try.func6 (by kernel_rfl)
    (of_decide_eq_true (by kernel_rfl)) (by unfold Func.isWrapper; first | (rw [if_pos (by decide +kernel)]; kernel_rfl) | (rw [if_neg (by decide +kernel)]; exact ⟨rfl, rfl⟩))
    (fun os started H enc _ => lifted os started H enc)

theorem proved : Rows.ArpEncodesSaid := over
#print axioms proved
end Go.Proofs.Ytocigdkndlmikaa.arpEncodes
