/- Proved: a packet that is too long is cut into pieces that fit, or refused. Conditions: none, for every input. -/
import Derived.Test.YtcjkhonapafndaaRows
import Derived.WalkKit
import Derived.ProofKit
import Derived.OpenShut
import Derived.ShutString
import Derived.ChangeOld
import Derived.Below
import Derived.SizedLaws
import Derived.Test.YtcjkhonapafndaaPcm
namespace Go.Proofs.Ytcjkhonapafndaa.fragSplits
open Go.ChangeShapes Go.WideShapes Go.ChangeAt Go.RowKit
open Go.ChangeMaps (open_string shut_string)
set_option linter.unusedVariables false

theorem own : ownKnob Try.prog.godebug = none := by kernel_rfl
theorem laidOut : laidOutB Try.prog = true := by kernel_rfl

/-! ### the walk -/
set_option maxRecDepth 100000 in
set_option maxHeartbeats 8000000 in
theorem walk (v0 : Value) (a1 : Int) (w : World) (w0 : ViewPkt w v0) (w1 : (Lit.int .i64 a1).wf = true) :
    Calls Try.prog 3 #[v0, .int .i64 a1] w fun e w' => e = .returned (.bool true) ∧ Below w.heap.size w w' := by
  obtain ⟨p, oA, on, oc, ol, dA, dn, dc, dl, rfl, hp, ho, hd⟩ := w0
  have hmt := bounds_i64 w1
  clear w1
  have hoc := ho.cap
  have hdc := hd.cap
  have hom := ho.max
  have hdm := hd.max
  obtain ⟨gp, hgp⟩ : ∃ gp, w.heap.size = gp := ⟨_, rfl⟩
  obtain ⟨W, hW⟩ : ∃ W, w.alloc (.cells (pkC p (.slice oA on oc) (.slice dA dn dc)) 26) = W := ⟨_, rfl⟩
  have hm : Bk W gp 26 (pkC p (.slice oA on oc) (.slice dA dn dc)) := by rw [← hW, ← hgp]; exact Bk.new w _ _
  have hB : Below gp w W := by rw [← hW, ← hgp]; exact (Below.refl _ _).alloc (Nat.le_refl _) _
  have hz : gp < W.heap.size := hm.lt
  have hr1 : RB W gp oA ol := Rw.below (hgp ▸ ho.rb) hB
  have hr2 : RB W gp dA dl := Rw.below (hgp ▸ hd.rb) hB
  have HW : Hid (w.alloc (.cells #[.int .i64 p.svc, .int .i64 p.id, .bool p.whole, .bool p.more, .int .i64 p.off, .int .i64 p.life, .int .i64 p.proto, .int .u32 p.src, .int .u32 p.dst, .slice oA on oc, .slice dA dn dc] 26) = W) := Lib.hid hW
  have HGP := Lib.hid hgp
  have HM := Lib.hid hm
  have HB := Lib.hid hB
  have HR1 := Lib.hid hr1
  have HR2 := Lib.hid hr2
  have HN := Lib.hid ho.len
  have HDN := Lib.hid hd.len
  have HOB := Lib.hid ho.bs
  have HDB := Lib.hid hd.bs
  have b0 := (hm).cell 0
  have b1 := (hm).cell 1
  have b2 := (hm).cell 2
  have b3 := (hm).cell 3
  have b4 := (hm).cell 4
  have b5 := (hm).cell 5
  have b6 := (hm).cell 6
  have b7 := (hm).cell 7
  have b8 := (hm).cell 8
  have b9 := (hm).cell 9
  have b10 := (hm).cell 10
  simp only [pkC, List.getElem?_toArray, List.getElem?_cons_zero, List.getElem?_cons_succ] at b0 b1 b2 b3 b4 b5 b6 b7 b8 b9 b10
  clear hW hgp hm hB hr1 hr2 ho hd
  have HL := Lib.hid (long_any p oA dA on oc dn dc W)
  unfold pkC at HL
  unfold pkC
  go_enter Try.func3, Try.ntmps3
  go_wp2_with fail
  rw [HW.out, HGP.out]
  refine HL.out.mono ?_
  rintro e1 W1 ⟨rfl, hB1⟩
  have HB1 := Lib.hid hB1
  have hz1 := hB1.size
  have hm1 := HM.out.below hB1 hz
  have HM1 := Lib.hid hm1
  have c0 := (hm1).cell 0
  have c1 := (hm1).cell 1
  have c2 := (hm1).cell 2
  have c3 := (hm1).cell 3
  have c4 := (hm1).cell 4
  have c5 := (hm1).cell 5
  have c6 := (hm1).cell 6
  have c7 := (hm1).cell 7
  have c8 := (hm1).cell 8
  have c9 := (hm1).cell 9
  have c10 := (hm1).cell 10
  simp only [pkC, List.getElem?_toArray, List.getElem?_cons_zero, List.getElem?_cons_succ] at c0 c1 c2 c3 c4 c5 c6 c7 c8 c9 c10
  clear b0 b1 b2 b3 b4 b5 b6 b7 b8 b9 b10 hB1 hm1
  rcases (by omega : (6000 < dn ∨ 100 < on) ∨ (dn ≤ 6000 ∧ on ≤ 100)) with hl | ⟨hl1, hl2⟩
  · have hq : (decide (6000 < (dn : Int)) || decide (100 < (on : Int))) = true := by simp; omega
    rw [hq]
    go_wp2
    go_ret
    exact ⟨rfl, by rw [HGP.out]; exact HB.out.trans (HB1.out.mono (by omega))⟩
  have hq : (decide (6000 < (dn : Int)) || decide (100 < (on : Int))) = false := by simp; omega
  rw [hq]
  clear hq
  go_wp2_with fail
  refine (roomy_any dA dn dc gp dl HDN.out (by omega) HDB.out W1 (Rw.below HR2.out (HB1.out.mono (by omega))) (by omega)).mono ?_
  rintro e2 W2 ⟨A2, cd, rfl, hO2, hcd, hB2⟩
  have hz2 := hB2.size
  have HB2 := Lib.hid hB2
  have HO2 := Lib.hid hO2
  have hm2 := HM1.out.below hB2 (by omega)
  have HM2 := Lib.hid hm2
  clear c0 c1 c2 c3 c4 c5 c6 c7 c8 c9 c10 hB2 hO2
  have c0 := (hm2).cell 0
  have c1 := (hm2).cell 1
  have c2 := (hm2).cell 2
  have c3 := (hm2).cell 3
  have c4 := (hm2).cell 4
  have c5 := (hm2).cell 5
  have c6 := (hm2).cell 6
  have c7 := (hm2).cell 7
  have c8 := (hm2).cell 8
  have c9 := (hm2).cell 9
  have c10 := (hm2).cell 10
  simp only [pkC, List.getElem?_toArray, List.getElem?_cons_zero, List.getElem?_cons_succ] at c0 c1 c2 c3 c4 c5 c6 c7 c8 c9 c10
  obtain ⟨g2, hg2⟩ : ∃ g2, W2.heap.size = g2 := ⟨_, rfl⟩
  obtain ⟨X3, hX3⟩ : ∃ X3, W2.alloc (.cells (pkC p (.slice oA on oc) (.slice A2 dn cd)) 26) = X3 := ⟨_, rfl⟩
  have hx3 : Bk X3 g2 26 (pkC p (.slice oA on oc) (.slice A2 dn cd)) := by rw [← hX3, ← hg2]; exact Bk.new W2 _ _
  have hB3 : Below g2 W2 X3 := by rw [← hX3, ← hg2]; exact (Below.refl _ _).alloc (Nat.le_refl _) _
  have HX3 : Hid (W2.alloc (.cells #[.int .i64 p.svc, .int .i64 p.id, .bool p.whole, .bool p.more, .int .i64 p.off, .int .i64 p.life, .int .i64 p.proto, .int .u32 p.src, .int .u32 p.dst, .slice oA on oc, .slice A2 dn cd] 26) = X3) := Lib.hid hX3
  have v10 : (W2.alloc (.cells #[.int .i64 p.svc, .int .i64 p.id, .bool p.whole, .bool p.more, .int .i64 p.off, .int .i64 p.life, .int .i64 p.proto, .int .u32 p.src, .int .u32 p.dst, .slice oA on oc, .slice dA dn dc] 26)).cell? ⟨gp, 10, none⟩ = some (.slice dA dn dc) := (World.cell?_alloc_lt W2 _ _ (show gp < W2.heap.size by omega)).trans c10
  have hgp2 : gp < g2 := by omega
  have HG2 := Lib.hid hg2
  have HXM3 := Lib.hid hx3
  have HB3 := Lib.hid hB3
  have hz3 : g2 < X3.heap.size := hx3.lt
  have hm3 : Bk X3 gp 26 (pkC p (.slice oA on oc) (.slice dA dn dc)) := hm2.below (hg2 ▸ hB3) (by omega)
  have HM3 := Lib.hid hm3
  have hrO3 : RB X3 X3.heap.size oA ol := Rw.more (Rw.below (Rw.below (Rw.below HR1.out (HB1.out.mono (by omega))) (HB2.out.mono (by omega))) (hB3.mono (by omega))) (by omega)
  have hO3 : OB 5 X3 W1.heap.size A2 (dn + 1) cd (dl ++ [171]) := Ow.stays HO2.out (hg2 ▸ hB3)
  have hrD3 : RB X3 X3.heap.size A2 dl := by
    have h := (OB.rb hO3).take dn
    rwa [List.take_append_of_le_length (by rw [HDN.out]; exact Nat.le_refl _), List.take_of_length_le (by rw [HDN.out]; exact Nat.le_refl _)] at h
  have HO3 := Lib.hid hO3
  have HSP := Lib.hid (split_any p hp oA A2 on oc dn cd X3.heap.size ol dl a1 hmt HN.out hoc (by omega) HOB.out HDN.out (by omega) (by omega) HDB.out X3 hrO3 hrD3 (Nat.le_refl _))
  unfold pkC at HSP
  have hsl : ((dn : Int)).toNat = dn := by omega
  clear hX3 hx3 hB3 hg2 hm2 hm3 hrO3 hO3 hrD3
  go_wp2_with fail
  rw [HG2.out, HX3.out]
  refine HSP.out.mono ?_
  rintro e4 W4 ⟨k, A, n, c, L, rfl, hsp, hP, hPm, hB4⟩
  have hz4 := hB4.size
  have hm4 := HM3.out.below hB4 (by omega)
  have HB4 := Lib.hid hB4
  have HM4 := Lib.hid hm4
  have HSQ := Lib.hid hsp
  have HP4 := Lib.hid hP
  have HPM4 := Lib.hid hPm
  have d0 := (hm4).cell 0
  have d1 := (hm4).cell 1
  have d2 := (hm4).cell 2
  have d3 := (hm4).cell 3
  have d4 := (hm4).cell 4
  have d5 := (hm4).cell 5
  have d6 := (hm4).cell 6
  have d7 := (hm4).cell 7
  have d8 := (hm4).cell 8
  have d9 := (hm4).cell 9
  have d10 := (hm4).cell 10
  simp only [pkC, List.getElem?_toArray, List.getElem?_cons_zero, List.getElem?_cons_succ] at d0 d1 d2 d3 d4 d5 d6 d7 d8 d9 d10
  have hrO4 : RB W4 X3.heap.size oA ol := Rw.below (Rw.more (Rw.below (Rw.below (Rw.below HR1.out (HB1.out.mono (by omega))) (HB2.out.mono (by omega))) (HB3.out.mono (by omega))) (by omega)) hB4
  have hrD4 : RB W4 X3.heap.size dA dl := Rw.below (Rw.more (Rw.below (Rw.below (Rw.below HR2.out (HB1.out.mono (by omega))) (HB2.out.mono (by omega))) (HB3.out.mono (by omega))) (by omega)) hB4
  have HRD4 := Lib.hid hrD4
  have HRS := Lib.hid (rsplit_any p hp oA dA on oc dn dc X3.heap.size ol dl a1 hmt HN.out hoc (by omega) HOB.out HDN.out hdc (by omega) W4 hrO4 hrD4 (by omega))
  unfold pkC at HRS
  clear hB4 hm4 hsp hP hPm hrO4 hrD4 c0 c1 c2 c3 c4 c5 c6 c7 c8 c9 c10 v10
  go_wp2_with fail
  refine HRS.out.mono ?_
  rintro e5 W5 ⟨k', A', n', c', L', rfl, hsp', hP', hPm', hB5⟩
  obtain ⟨rfl, hLL⟩ := splIs_one HSQ.out hsp'
  have hz5 := hB5.size
  have hm5 := HM4.out.below hB5 (by omega)
  have hpms := splIs_pms HSQ.out HOB.out HDB.out (by rw [HN.out]; omega) (by rw [HDN.out]; omega) (fun x hx => ⟨OB.length (HPM4.out.1 x hx).1, OB.length (HPM4.out.1 x hx).2.1⟩)
  have hln := HP4.out.len
  have hn6 : n ≤ 6001 := by omega
  have HPMS := Lib.hid hpms.2
  have hP5 := World.ownsRow_below HP4.out hB5
  have hPM5 := HPM4.out.below hB5
  have HLS := Lib.hid (lists_any A A' n n' c c' _ _ L L' hLL W5 hP5 hP' (fun x hx => (hPM5.1 x hx).rd (Nat.le_refl _)) (fun x hx => (hPm' x hx).top hz5) (fun x hx => by have := hpms.2 x hx; exact ⟨by omega, by omega, this.2.2.1, this.2.2.2⟩) (by omega))
  have HP5 := Lib.hid hP5
  have HPM5 := Lib.hid hPM5
  have HB5 := Lib.hid hB5
  have HM5 := Lib.hid hm5
  have f10 := hm5.cell 10
  simp only [pkC, List.getElem?_toArray, List.getElem?_cons_zero, List.getElem?_cons_succ] at f10
  clear hsp' hP' hPm' hB5 hm5 hpms hP5 hPM5 hLL hln d0 d1 d2 d3 d4 d5 d6 d7 d8 d9 d10
  have hkk : (k != k) = false := by simp
  go_wp2_with fail
  refine HLS.out.mono ?_
  rintro e6 W6 ⟨rfl, hB6⟩
  have hz6 := hB6.size
  have hm6 := HM5.out.below hB6 (by omega)
  have HB6 := Lib.hid hB6
  have h10 := hm6.cell 10
  simp only [pkC, List.getElem?_toArray, List.getElem?_cons_zero, List.getElem?_cons_succ] at h10
  have hB36 : Below X3.heap.size X3 W6 := (HB4.out.trans (HB5.out.mono hz4)).trans (hB6.mono (by omega))
  have HB36 := Lib.hid hB36
  have HRA3 : Hid (RB X3 X3.heap.size A2 (dl ++ [171])) := Lib.hid (OB.rb HO3.out)
  have HRD3 : Hid (RB X3 X3.heap.size dA dl) := Lib.hid (Rw.more (Rw.below (Rw.below (Rw.below HR2.out (HB1.out.mono (by omega))) (HB2.out.mono (by omega))) (HB3.out.mono (by omega))) (by omega))
  have HST := Lib.hid (stands_any A2 dA dn cd dc X3.heap.size X3.heap.size dl HDN.out (by omega) (by omega) HDB.out W6 (Rw.below HRA3.out hB36) (Rw.below HRD3.out hB36))
  clear hB6 hm6 hB36 f10
  go_wp2_with fail
  refine HST.out.mono ?_
  rintro e7 W7 ⟨rfl, k7, rfl⟩
  have hB67 : Below W4.heap.size W4 (W6.drewN k7) := bel_drewN (HB5.out.trans (HB6.out.mono (by omega))) k7
  have HSR : Hid (SpRel X3 X3.heap.size A n c L 0 (W6.drewN k7)) := Lib.hid ⟨World.ownsRow_below HP4.out hB67, fun x hx => (HPM4.out.below hB67).1 x hx, bel_drewN HB36.out k7, by show X3.heap.size ≤ W6.heap.size; omega⟩
  have HPW := Lib.hid HPM4.out.2
  clear hB67 h10
  go_wp2
  go_loopw [11] (fun i wr => ∃ j : Nat, j ≤ n ∧ i = .int .i64 j ∧ Hid (SpRel X3 X3.heap.size A n c L j wr)) (fun i _ => n - (intOf i).toNat)
  case atStart => exact ⟨0, Nat.zero_le _, rfl, HSR⟩
  case round =>
    obtain ⟨j, hj, rfl, HC⟩ := hrel
    rcases Nat.lt_or_ge j n with q1 | q1
    · obtain ⟨x, hx⟩ : ∃ x, L[j]? = some x := ⟨_, List.getElem?_eq_getElem (by rw [HP4.out.len]; exact q1)⟩
      obtain ⟨g, hA, hg, hgl, hc⟩ := HC.out.1.cell hx
      subst hA
      have z10 := hc 10 _ rfl
      have HX := Lib.hid hx
      have hok : PmOk wr X3.heap.size x := HC.out.2.1 x (by rw [drop_at hx]; simp)
      obtain ⟨s1, s2, _, _⟩ := HPMS.out x (List.mem_of_getElem? hx)
      have HSP1 := Lib.hid (spoil_any x.dA x.dn x.dc X3.heap.size x.dl (by omega) wr hok.2.1 HC.out.2.2.2)
      have q1' : (j : Int) < n := by omega
      clear hx hc hok hgl hg
      go_wp2_with fail
      refine HSP1.out.mono ?_
      rintro e8 Y ⟨rfl, hg8⟩
      have hmid := HC.out.mid HX.out HPW.out hg8
      obtain ⟨g', hA, _, _, hc'⟩ := hmid.1.cell HX.out
      injection hA with hA
      injection hA with hA
      subst hA
      have z9 := hc' 9 _ rfl
      have HMID := Lib.hid hmid
      have HSP2 := Lib.hid (spoil_any x.oA x.on x.oc X3.heap.size x.ol (by omega) Y hmid.2.1 hmid.2.2.2.2)
      clear hc' hmid hg8 z10
      go_wp2_with fail
      refine HSP2.out.mono ?_
      rintro e9 Z ⟨rfl, hg9⟩
      have HFIN := Lib.hid (HMID.out.fin HX.out HPW.out hg9)
      clear hg9 z9
      go_wp2
      go_roundw
      case rel => exact ⟨j + 1, by omega, by go_num, HFIN⟩
      case measure => simp [intOf]; omega
    · have q1' : ¬ (j : Int) < n := by omega
      have hB3w := HC.out.2.2.1
      have hm9 := HM3.out.below hB3w (by omega)
      have y10 := hm9.cell 10
      simp only [pkC, List.getElem?_toArray, List.getElem?_cons_zero, List.getElem?_cons_succ] at y10
      have HST2 := Lib.hid (stands_any A2 dA dn cd dc X3.heap.size X3.heap.size dl HDN.out (by omega) (by omega) HDB.out wr (Rw.below HRA3.out hB3w) (Rw.below HRD3.out hB3w))
      have HBF : Hid (Below gp w wr) := Lib.hid ((((HB.out.trans (HB1.out.mono (by omega))).trans (HB2.out.mono (by omega))).trans (HB3.out.mono (by omega))).trans (hB3w.mono (by omega)))
      have hsw : gp ≤ wr.heap.size := by have := hB3w.size; omega
      clear hB3w hm9
      go_wp2_with fail
      refine HST2.out.mono ?_
      rintro e8 W8 ⟨rfl, k8, rfl⟩
      go_wp2_with fail
      refine (known_any _).mono ?_
      rintro e9 W9 ⟨rfl, hB9⟩
      go_wp2
      go_ret
      exact ⟨rfl, by rw [HGP.out]; exact (bel_drewN HBF.out k8).trans (hB9.mono hsw)⟩

/-! ### the row -/
set_option maxRecDepth 100000 in
theorem lifted (os : Os) (started : os.Started) (H : Type) (enc : TypeId × Value → H) :
    ReturnsInHanded {} Try.checked os 3 .any (Rows.fragSplitsSpec.pre6 enc Try.prog Try.f3 Rows.fragSplitsRow.domain false) (Rows.fragSplitsSpec.post enc Try.prog Try.f3 false true false false) := by
  refine returnsInHanded_of_change_sized (C := Try.checked) own started (by kernel_rfl) Try.func3
    (ChangeSpec.witness6 (enc := enc) (C := Try.checked) false ⟨#[], #[.agg #[.int .i64 0, .int .i64 0, .bool false, .bool false, .int .i64 0, .int .i64 0, .int .i64 0, .int .u32 0, .int .u32 0, .slice none 0 0, .slice none 0 0], .int .i64 0], []⟩ 8 (by kernel_rfl) (by kernel_rfl) (by kernel_rfl) (by kernel_rfl)) ?_
  intro W base args ds gs before hval0 hW hcnd hsz0 _
  have hval : ∀ (j : Nat) t v, Try.f3.params[j]? = some t → args[j]? = some v → Value.okWide Try.prog W .any base t v := hval0
  have hsz : (DataW.weightsEach Try.prog (Try.f3.params.toList ++ Rows.fragSplitsSpec.plain.varTypes Try.prog) (ds ++ gs)).all (· ≤ reachBytes) = true := hsz0
  clear hsz0
  have hW' := hW
  obtain ⟨p, q, hA0, hV, rfl, hfz, hnd⟩ := hW
  have hA : DataW.TrodAll enc Try.prog W 0 (fun _ => true) true Try.f3.params.toList args.toList ds p := hA0
  rw [Try.params3] at hA hval hsz
  obtain ⟨v0, vs0, d0, ds0, p0, q0, hargs, rfl, rfl, h0, r0⟩ := trodAll_cons hA
  obtain ⟨v1, vs1, d1, ds1, p1, q1, rfl, rfl, rfl, h1, r1⟩ := trodAll_cons r0
  obtain ⟨rfl, rfl, rfl⟩ := trodAll_nil r1
  obtain rfl : args = #[v0, v1] := by cases args; simp_all
  obtain ⟨rfl, rfl⟩ := trodVars_none hV
  have k0 := h0
  have lt0 : ∀ x ∈ p0, x.block < W.heap.size := by obtain ⟨m, hm⟩ := k0; exact DataW.trod_lt m _ _ _ hm
  have w0 : ViewPkt W v0 := open_pkt (hval 0 26 v0 rfl rfl) h0 (fun k hk => by have := List.all_eq_true.1 hsz k (DataW.weights_mem_each (j := 0) rfl rfl k hk); simpa using this)
  obtain ⟨a1, rfl, rfl, rfl, w1⟩ := open_int Try.underlying3 (hval 1 3 v1 rfl rfl) h1
  clear hA0 hval0
  refine (walk v0 a1 W w0 w1).mono fun e W' ⟨he, bel⟩ => ?_
  subst he
  exact ⟨_, rfl, _, _, _, [], _, [], hW', trodAll_mk1 (shut_bool Try.underlying4 _), (trodAll_cons_mk (Below.trod laidOut (by kernel_rfl) (of_decide_eq_true (by kernel_rfl)) k0 bel lt0) (trodAll_cons_mk (shut_int Try.underlying3 w1) trodAll_mk0)), rfl, bel.frame _, fun h => by cases h⟩

theorem over : Rows.fragSplitsRow.holds Try.pinned (OpenSpec.ofChange Rows.fragSplitsSpec) :=
  OpenClaim.holds_of_wide 3 Try.f3 rfl rfl rfl rfl rfl rfl rfl ⟨rfl, rfl, rfl, rfl, rfl⟩ rfl rfl rfl rfl rfl (by kernel_rfl) Try.func3 (by kernel_rfl)
    (of_decide_eq_true (by kernel_rfl)) (by unfold Func.isWrapper; first | (rw [if_pos (by decide +kernel)]; kernel_rfl) | (rw [if_neg (by decide +kernel)]; exact ⟨rfl, rfl⟩))
    (fun os started H enc _ => lifted os started H enc)

theorem proved : Rows.FragSplitsSaid := over
#print axioms proved
end Go.Proofs.Ytcjkhonapafndaa.fragSplits
