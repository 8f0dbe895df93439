/- Proved: each piece fits, all but the last are of eights, and their data is the packet's, piece by piece. Conditions: none, for every input. -/
import Derived.Test.YtcjkhonapafndaaRows
import Derived.WalkKit
import Derived.ProofKit
import Derived.OpenShut
import Derived.ShutString
import Derived.ChangeOld
import Derived.Below
import Derived.SizedLaws
import Derived.Test.YtcjkhonapafndaaFit
namespace Go.Proofs.Ytcjkhonapafndaa.fragFits
open Go.ChangeShapes Go.WideShapes Go.ChangeAt Go.RowKit
open Go.ChangeMaps (open_string shut_string)
set_option linter.unusedVariables false

theorem own : ownKnob Try.prog.godebug = none := by kernel_rfl
theorem laidOut : laidOutB Try.prog = true := by kernel_rfl

/-! ### the walk -/
set_option maxRecDepth 100000 in
set_option maxHeartbeats 8000000 in
theorem walk (v0 : Value) (a1 : Int) (w : World) (w0 : ViewPkt w v0) (w1 : (Lit.int .i64 a1).wf = true) :
    Calls Try.prog 4 #[v0, .int .i64 a1] w fun e w' => e = .returned (.bool true) ∧ Below w.heap.size w w' := by
  obtain ⟨p, oA, on, oc, ol, dA, dn, dc, dl, rfl, hp, ho, hd⟩ := w0
  have hmt := bounds_i64 w1
  clear w1
  have hoc := ho.cap
  have hdc := hd.cap
  have hom := ho.max
  have hdm := hd.max
  obtain ⟨gp, hgp⟩ : ∃ gp, w.heap.size = gp := ⟨_, rfl⟩
  obtain ⟨W, hW⟩ : ∃ W, w.alloc (.cells (pkC p (.slice oA on oc) (.slice dA dn dc)) 26) = W := ⟨_, rfl⟩
  have hm : Bk W gp 26 (pkC p (.slice oA on oc) (.slice dA dn dc)) := by rw [← hW, ← hgp]; exact Bk.new w _ _
  have hB : Below gp w W := by rw [← hW, ← hgp]; exact (Below.refl _ _).alloc (Nat.le_refl _) _
  have hz : gp < W.heap.size := hm.lt
  have hr1 : RB W gp oA ol := Rw.below (hgp ▸ ho.rb) hB
  have hr2 : RB W gp dA dl := Rw.below (hgp ▸ hd.rb) hB
  have HW : Hid (w.alloc (.cells #[.int .i64 p.svc, .int .i64 p.id, .bool p.whole, .bool p.more, .int .i64 p.off, .int .i64 p.life, .int .i64 p.proto, .int .u32 p.src, .int .u32 p.dst, .slice oA on oc, .slice dA dn dc] 26) = W) := Lib.hid hW
  have HGP := Lib.hid hgp
  have HM := Lib.hid hm
  have HB := Lib.hid hB
  have HR1 := Lib.hid hr1
  have HR2 := Lib.hid hr2
  have HN := Lib.hid ho.len
  have HDN := Lib.hid hd.len
  have HOB := Lib.hid ho.bs
  have HDB := Lib.hid hd.bs
  have b0 := (hm).cell 0
  have b1 := (hm).cell 1
  have b2 := (hm).cell 2
  have b3 := (hm).cell 3
  have b4 := (hm).cell 4
  have b5 := (hm).cell 5
  have b6 := (hm).cell 6
  have b7 := (hm).cell 7
  have b8 := (hm).cell 8
  have b9 := (hm).cell 9
  have b10 := (hm).cell 10
  simp only [pkC, List.getElem?_toArray, List.getElem?_cons_zero, List.getElem?_cons_succ] at b0 b1 b2 b3 b4 b5 b6 b7 b8 b9 b10
  clear hW hgp hm hB hr1 hr2 ho hd
  have HL := Lib.hid (long_any p oA dA on oc dn dc W)
  unfold pkC at HL
  unfold pkC
  go_enter Try.func4, Try.ntmps4
  go_wp2_with fail
  rw [HW.out, HGP.out]
  refine HL.out.mono ?_
  rintro e1 W1 ⟨rfl, hB1⟩
  have HB1 := Lib.hid hB1
  have hz1 := hB1.size
  have hm1 := HM.out.below hB1 hz
  have HM1 := Lib.hid hm1
  have c0 := (hm1).cell 0
  have c1 := (hm1).cell 1
  have c2 := (hm1).cell 2
  have c3 := (hm1).cell 3
  have c4 := (hm1).cell 4
  have c5 := (hm1).cell 5
  have c6 := (hm1).cell 6
  have c7 := (hm1).cell 7
  have c8 := (hm1).cell 8
  have c9 := (hm1).cell 9
  have c10 := (hm1).cell 10
  simp only [pkC, List.getElem?_toArray, List.getElem?_cons_zero, List.getElem?_cons_succ] at c0 c1 c2 c3 c4 c5 c6 c7 c8 c9 c10
  clear b0 b1 b2 b3 b4 b5 b6 b7 b8 b9 b10 hB1 hm1
  rcases (by omega : (6000 < dn ∨ 100 < on) ∨ (dn ≤ 6000 ∧ on ≤ 100)) with hl | ⟨hl1, hl2⟩
  · have hq : (decide (6000 < (dn : Int)) || decide (100 < (on : Int))) = true := by simp; omega
    rw [hq]
    go_wp2
    go_ret
    exact ⟨rfl, by rw [HGP.out]; exact HB.out.trans (HB1.out.mono (by omega))⟩
  have hq : (decide (6000 < (dn : Int)) || decide (100 < (on : Int))) = false := by simp; omega
  rw [hq]
  clear hq
  have hrO1 : RB W1 W1.heap.size oA ol := Rw.more (Rw.below HR1.out (HB1.out.mono (by omega))) (by omega)
  have hrD1 : RB W1 W1.heap.size dA dl := Rw.more (Rw.below HR2.out (HB1.out.mono (by omega))) (by omega)
  have HSP := Lib.hid (split_any p hp oA dA on oc dn dc W1.heap.size ol dl a1 hmt HN.out hoc (by omega) HOB.out HDN.out (by omega) (by omega) HDB.out W1 hrO1 hrD1 (Nat.le_refl _))
  unfold pkC at HSP
  clear hrO1 hrD1
  go_wp2_with fail
  refine HSP.out.mono ?_
  rintro e4 W4 ⟨k, A, n, c, L, rfl, hsp, hP, hPm, hB4⟩
  have hz4 := hB4.size
  have hm4 := HM1.out.below hB4 (by omega)
  have hm4b : Hid (Below gp W1 W4) := Lib.hid (hB4.mono (by omega))
  have HB4 : Hid (Below gp w W4) := Lib.hid ((HB.out.trans (HB1.out.mono (by omega))).trans (hB4.mono (by omega)))
  have HM4 := Lib.hid hm4
  have HSQ := Lib.hid hsp
  have HP4 := Lib.hid hP
  have HPM4 := Lib.hid hPm
  clear hB4 hm4 hsp hP hPm c0 c1 c2 c3 c4 c5 c6 c7 c8 c9 c10
  rcases Decidable.em (k = 0) with rfl | hk
  · obtain ⟨hpc, hne, hm68, hm65⟩ := splIs_ok hp HSQ.out
    obtain ⟨m, rfl⟩ : ∃ m : Nat, a1 = m := ⟨a1.toNat, by omega⟩
    have hpms := splIs_pms HSQ.out HOB.out HDB.out (by rw [HN.out]; omega) (by rw [HDN.out]; omega) (fun x hx => ⟨OB.length (HPM4.out.1 x hx).1, OB.length (HPM4.out.1 x hx).2.1⟩)
    have hln := HP4.out.len
    have hn6 : n ≤ 6001 := by omega
    have HPMS := Lib.hid hpms.2
    have hoff : 0 ≤ p.off ∧ p.off ≤ 65528 := by
      rcases HSQ.out with ⟨_, h, _⟩ | ⟨a, b, ⟨_, c, _⟩ | ⟨_, _, _, c, _⟩ | ⟨c, d, _, _⟩⟩
      · cases h
      · exact absurd rfl c
      · cases c
      · rcases c with ⟨_, h⟩ | ⟨_, _, h⟩ | ⟨_, _, _, _, h⟩ | ⟨h, _⟩
        · cases h
        · cases h
        · cases h
        · exact h.2.2.2.2.1
    obtain ⟨lx, hlx, hlm⟩ := pcs_last _ p _ _ _ hpc hne
    obtain ⟨n1, hn1⟩ : ∃ n1, n1 + 1 = n := by
      refine ⟨n - 1, ?_⟩
      have : 0 < n := by
        rw [← hln]
        rcases L with _ | ⟨x, r⟩
        · exact absurd rfl hne
        · simp
      omega
    obtain ⟨xl, hxl, hxm⟩ : ∃ x, L[n1]? = some x ∧ x.p.more = p.more := by
      rw [List.length_map, hln, List.getElem?_map, show n - 1 = n1 by omega] at hlx
      cases hx : L[n1]? with
      | none => rw [hx] at hlx; cases hlx
      | some x =>
        rw [hx] at hlx
        injection hlx with hlx
        subst hlx
        exact ⟨x, rfl, hlm⟩
    obtain ⟨g, hA, hg, hgl, hcl⟩ := HP4.out.cell hxl
    subst hA
    have hl3 := hcl 3 _ rfl
    rw [show xl.p.more = p.more from hxm] at hl3
    have HL3 := Lib.hid hl3
    have HLN := Lib.hid hln
    have HSR : Hid (FtRel W4 p m dl L dn (.slice none 0 0) 0 W4) := Lib.hid ⟨none, 0, 0, rfl, Ow.none_ _ _ _, Nat.zero_le _, by simpa using hpc, Below.refl _ _⟩
    clear hpc hne hpms hln hlx hlm hxl hxm hcl hl3
    go_wp2
    go_loopw [7, 8] (fun v7 v8 wr => ∃ j : Nat, j ≤ n ∧ v8 = .int .i64 j ∧ Hid (FtRel W4 p m dl L dn v7 j wr)) (fun _ v8 _ => n - (intOf v8).toNat)
    case atStart => exact ⟨0, Nat.zero_le _, rfl, HSR⟩
    case round =>
      obtain ⟨j, hj, rfl, HC⟩ := hrel
      obtain ⟨A7, n7, c7, rfl, hO7, hn7, hpc, hB7⟩ := HC.out
      have HO7 := Lib.hid hO7
      have HB7 := Lib.hid hB7
      have hz7 := hB7.size
      rcases Nat.lt_or_ge j n with q1 | q1
      · obtain ⟨x, hx⟩ : ∃ x, L[j]? = some x := ⟨_, List.getElem?_eq_getElem (by rw [HLN.out]; exact q1)⟩
        obtain ⟨g', hA, _, _, hc⟩ := HP4.out.cell hx
        injection hA with hA
        injection hA with hA
        subst hA
        rw [drop_at hx, List.map_cons] at hpc
        obtain ⟨p1, p2, p3, p4, p5, p6, p7, p8, p9⟩ := hpc
        obtain ⟨s1, s2, s3, s4⟩ := HPMS.out x (List.mem_of_getElem? hx)
        have hok := HPM4.out.1 x (List.mem_of_getElem? hx)
        have hdln : x.dl.length = x.dn := OB.length hok.2.1
        have holn : x.ol.length = x.on := OB.length hok.1
        have hlast : j + 1 = n → (L.drop (j + 1)).map Pm.plain = [] := fun h => by rw [List.drop_eq_nil_of_le (by rw [HLN.out]; omega)]; rfl
        have hnl : j + 1 < n → (L.drop (j + 1)).map Pm.plain ≠ [] := fun h e => by
          have := congrArg List.length e
          rw [List.length_map, List.length_drop, HLN.out] at this
          simp at this; omega
        have hro : RB wr wr.heap.size x.oA x.ol := Rw.more (Rw.below (OB.rb hok.1) hB7) hz7
        have hrd : RB wr wr.heap.size x.dA x.dl := Rw.more (Rw.below (OB.rb hok.2.1) hB7) hz7
        have HENC := Lib.hid (enc_any x.p p2 x.oA x.dA x.on x.oc x.dn x.dc wr.heap.size x.ol x.dl holn (Ow.cap hok.1) (by omega) s3 hdln (by omega) wr hro hrd (Nat.le_refl _))
        have hcc : ∀ i u, (pmC x)[i]? = some u → wr.cell? ⟨g, j * 11 + i, none⟩ = some u := fun i u hu => (HB7.out.cell (p := ⟨g, j * 11 + i, none⟩) hgl).trans (hc i u hu)
        have hgw : g < wr.heap.size := Nat.lt_of_lt_of_le hgl hz7
        obtain ⟨⟨svc, id, whole, more, off, life, proto, src, dst⟩, xoA, xon, xoc, xol, xdA, xdn, xdc, xdl⟩ := x
        simp only [Pm.plain] at p1 p2 p3 p4 p5 p6 p7 p8 p9 s1 s2 s3 s4 hdln holn hro hrd hok
        subst p4
        have h0 : wr.cell? ⟨g, j * 11, none⟩ = some (.int .i64 svc) := hcc 0 _ rfl
        have h1 := hcc 1 _ rfl
        have h2 := hcc 2 _ rfl
        have h3 := hcc 3 _ rfl
        have h4 := hcc 4 _ rfl
        have h5 := hcc 5 _ rfl
        have h6 := hcc 6 _ rfl
        have h7 := hcc 7 _ rfl
        have h8 := hcc 8 _ rfl
        have h9 := hcc 9 _ rfl
        have h10 := hcc 10 _ rfl
        have HQ := Lib.hid (And.intro p1 (And.intro p3 (And.intro p5 (And.intro p6 (And.intro p7 (And.intro p8 p9))))))
        have HH := Lib.hid (And.intro hlast hnl)
        have HDLN := Lib.hid hdln
        have HOLN := Lib.hid holn
        have HX := Lib.hid hx
        have HRD := Lib.hid hrd
        unfold pkC at HENC
        simp only at HENC
        clear hO7 hB7 HC p1 p3 p5 p6 p7 p8 p9 hlast hnl hdln holn hx hro hrd hcc hc hok
        have q1' : (j : Int) < n := by omega
        go_wp2_with fail
        refine HENC.out.mono ?_
        rintro e8 W8 ⟨k8, A8, n8, c8, rfl, he8, hk8, hO8, hB8⟩
        obtain rfl := errIs_one he8 HQ.out.1
        have hO8' := hO8 rfl
        have hn8 : n8 = hdN xon + xdn := by
          have := OB.length hO8'
          unfold ipB at this
          rw [List.length_append, hdrB_len, HOLN.out, HDLN.out] at this
          exact this.symm
        have hq2 := HQ.out.2.1
        rw [HOLN.out, HDLN.out] at hq2
        have hn8m : n8 ≤ m := by rw [hn8]; omega
        have hmn1 : decide ((m : Int) < (n8 : Int)) = false := decide_eq_false (by omega)
        have hmn2 : decide (m < n8) = false := decide_eq_false (by omega)
        have hB48 : Below W4.heap.size W4 W8 := HB7.out.trans (hB8.mono hz7)
        have k3 := bcell hB8 hgw h3
        have k4 := bcell hB8 hgw h4
        have k10 := bcell hB8 hgw h10
        have m4 := (HM4.out.below hB48 (by omega)).cell 4
        simp only [pkC, List.getElem?_toArray, List.getElem?_cons_zero, List.getElem?_cons_succ] at m4
        have hwo : IntKind.i64.wrap (p.off + (n7 : Int)) = p.off + (n7 : Int) := IntWalk.i64_in _ (by omega)
        have HB8 := Lib.hid hB8
        have HB48 := Lib.hid hB48
        have hz8 := hB8.size
        clear he8 hk8 hO8 hO8' hn8 hq2 hB8 hB48 h0 h1 h2 h3 h4 h5 h6 h7 h8 h9 h10
        rcases Nat.lt_or_ge (j + 1) n with hjn | hjn
        · obtain ⟨r1, r2⟩ := HQ.out.2.2.2.2.1 (HH.out.2 hjn)
          rw [HDLN.out] at r1
          subst r2
          have hrem : ((xdn : Int)).tmod 8 = 0 := by rw [Int.tmod_eq_emod_of_nonneg (by omega)]; omega
          have hjn2 : (j : Int) + 1 < n := by omega
          have hjn3 : decide ((j : Int) + 1 < (n : Int)) = true := decide_eq_true hjn2
          have hwj : IntKind.i64.wrap ((j : Int) + 1) = (j : Int) + 1 := IntWalk.i64_in _ (by omega)
          go_wp2
          go_quiet (fail)
          go_wp2_with (at_builtin; refine ap8 rfl (.tmp 87) (.tmp 92) rfl W4.heap.size rfl (Ow.drewN (Ow.stays HO7.out HB8.out) nq) rfl (Rw.drewN (Rw.below HRD.out HB8.out) nq) HDLN.out (by omega) (by show W4.heap.size ≤ W8.heap.size; omega) ?_; intro A3 c3 w3 hO3 hB3 hg3 hA3 hz3 hc3)
          have HNX : Hid (FtRel W4 p m dl L dn (.slice A3 (n7 + xdn) c3) (j + 1) w3) := Lib.hid (FtRel.next HDN.out hO3 hn7 HDLN.out HQ.out.2.2.1 HQ.out.2.2.2.1 HQ.out.2.2.2.2.2.2 ((bel_drewN HB48.out nq).trans hB3))
          clear hO3 hB3 hg3 hA3 hz3 hc3 k3 k4 k10 m4
          go_roundw
          case rel => exact ⟨j + 1, by omega, by go_num, HNX⟩
          case measure => simp [intOf]; omega
        · have hjn2 : ¬ (j : Int) + 1 < n := by omega
          have hjn3 : decide ((j : Int) + 1 < (n : Int)) = false := decide_eq_false hjn2
          have hjn4 : decide (j + 1 < n) = false := decide_eq_false (by omega)
          have hwj : IntKind.i64.wrap ((j : Int) + 1) = (j : Int) + 1 := IntWalk.i64_in _ (by omega)
          go_wp2
          go_quiet (fail)
          go_wp2_with (at_builtin; refine ap8 rfl (.tmp 87) (.tmp 92) rfl W4.heap.size rfl (Ow.drewN (Ow.stays HO7.out HB8.out) nq) rfl (Rw.drewN (Rw.below HRD.out HB8.out) nq) HDLN.out (by omega) (by show W4.heap.size ≤ W8.heap.size; omega) ?_; intro A3 c3 w3 hO3 hB3 hg3 hA3 hz3 hc3)
          have HNX : Hid (FtRel W4 p m dl L dn (.slice A3 (n7 + xdn) c3) (j + 1) w3) := Lib.hid (FtRel.next HDN.out hO3 hn7 HDLN.out HQ.out.2.2.1 HQ.out.2.2.2.1 HQ.out.2.2.2.2.2.2 ((bel_drewN HB48.out nq).trans hB3))
          clear hO3 hB3 hg3 hA3 hz3 hc3 k3 k4 k10 m4
          go_roundw
          case rel => exact ⟨j + 1, by omega, by go_num, HNX⟩
          case measure => simp [intOf]; omega
      · obtain rfl : j = n := by omega
        rw [List.drop_eq_nil_of_le (by rw [HLN.out]; exact Nat.le_refl _), List.map_nil] at hpc
        have hdr : dl.drop n7 = [] := hpc
        obtain rfl : n7 = dn := by
          have := congrArg List.length hdr
          rw [List.length_drop, HDN.out] at this
          simp at this; omega
        have hO7' : OB 5 wr W4.heap.size A7 n7 c7 dl := by
          have := HO7.out
          rwa [List.take_of_length_le (by rw [HDN.out]; exact Nat.le_refl _)] at this
        have HR7 : Hid (RB wr wr.heap.size A7 dl) := Lib.hid (OB.rb hO7')
        have HR8 : Hid (RB wr gp dA dl) := Lib.hid (Rw.below (Rw.below HR2.out (HB1.out.mono (by omega))) ((hm4b.out.trans (HB7.out.mono (by omega)))))
        have hm7 := HM4.out.below HB7.out (by omega)
        have z3 : wr.drew.cell? ⟨gp, 3, none⟩ = some (.bool p.more) := hm7.cell 3
        have z10 : wr.drew.cell? ⟨gp, 10, none⟩ = some (.slice dA n7 dc) := hm7.cell 10
        have y3 : wr.drew.cell? ⟨g, n1 * 11 + 3, none⟩ = some (.bool p.more) := (HB7.out.cell (p := ⟨g, n1 * 11 + 3, none⟩) hgl).trans HL3.out
        have hw1 : IntKind.i64.wrap ((j : Int) - 1) = (n1 : Int) := by rw [IntWalk.i64_in _ (by omega)]; omega
        have hn1j : (n1 : Int) < j := by omega
        have hj0 : (0 : Int) < j := by omega
        have hj1 : decide ((0 : Int) < (j : Int)) = true := decide_eq_true hj0
        have hj2 : decide (0 < j) = true := decide_eq_true (by omega)
        have hj3 : 0 < j := by omega
        have hgw : g < wr.drew.heap.size := Nat.lt_of_lt_of_le hgl hz7
        have hgpw : gp < wr.drew.heap.size := by show gp < wr.heap.size; omega
        have HSM := Lib.hid (fun (Y : World) (q1 : RB Y wr.heap.size A7 dl) (q2 : RB Y gp dA dl) => (same_any A7 dA n7 c7 n7 dc wr.heap.size gp dl dl HDN.out HDN.out (by omega) (by omega) HDB.out HDB.out Y q1 q2).mono (fun e w' ⟨h1, h2⟩ => (⟨by rw [h1]; simp, h2⟩ : e = Ending.returned (.bool true) ∧ ∃ k, w' = Y.drewN k)))
        have HBW : Hid (Below gp w wr) := Lib.hid (HB4.out.trans (HB7.out.mono (by omega)))
        clear hpc hdr hO7' hm7 HC hO7 hB7
        have hnq : ¬ (j : Int) < j := by omega
        go_wp2_with fail
        go_region_held3 (fun w' => w'.cell? ⟨g, n1 * 11 + 3, none⟩ = some (.bool p.more) ∧ w'.cell? ⟨gp, 3, none⟩ = some (.bool p.more) ∧ w'.cell? ⟨gp, 10, none⟩ = some (.slice dA n7 dc))
          (first | (with_reducible exact ⟨by assumption, by assumption, by assumption⟩) | go_keep)
          (first
            | (go_at_call 20; refine (HSM.out wr.drew HR7.out HR8.out).mono ?_; rintro e w' ⟨rfl, k9, hk9⟩; have x1 : w'.cell? ⟨g, n1 * 11 + 3, none⟩ = some (.bool p.more) := by rw [hk9]; exact y3
               have x2 : w'.cell? ⟨gp, 3, none⟩ = some (.bool p.more) := by rw [hk9]; exact z3
               have x3 : w'.cell? ⟨gp, 10, none⟩ = some (.slice dA n7 dc) := by rw [hk9]; exact z10
               have xg : g < w'.heap.size := by rw [hk9]; exact hgw
               have xp : gp < w'.heap.size := by rw [hk9]; exact hgpw
               have xb : Below gp w w' := by rw [hk9]; exact bel_drewN HBW.out.drew k9
               clear hk9)
            | (go_at_call 18; refine (known_any _).mono ?_; rintro e w'' ⟨rfl, hB9⟩; have r1 := bcell hB9 xg x1; have r2 := bcell hB9 xp x2; have r3 := bcell hB9 xp x3; have r4 := xb.trans (hB9.mono (Nat.le_of_lt xp))))
        have HF := Lib.hid r4
        clear r1 r2 r3 r4 x1 x2 x3 xb
        go_wp2
        go_ret
        exact ⟨rfl, by rw [HGP.out]; exact HF.out⟩
  · have hL0 : L = [] := by
      rcases HSQ.out with ⟨_, _, h⟩ | ⟨_, _, ⟨_, _, h⟩ | ⟨_, _, _, _, h⟩ | ⟨_, _, h, _⟩⟩
      · simpa using h
      · simpa using h
      · simpa using h
      · exact absurd h hk
    subst hL0
    obtain rfl : 0 = n := HP4.out.len
    have hk2 : (k != 0) = true := by simpa using hk
    go_wp2_with fail
    refine (known_any _).mono ?_
    rintro e9 W9 ⟨rfl, hB9⟩
    go_wp2
    go_ret
    exact ⟨rfl, by rw [HGP.out]; exact HB4.out.trans (hB9.mono (by omega))⟩

/-! ### the row -/
set_option maxRecDepth 100000 in
theorem lifted (os : Os) (started : os.Started) (H : Type) (enc : TypeId × Value → H) :
    ReturnsInHanded {} Try.checked os 4 .any (Rows.fragFitsSpec.pre6 enc Try.prog Try.f4 Rows.fragFitsRow.domain false) (Rows.fragFitsSpec.post enc Try.prog Try.f4 false true false false) := by
  refine returnsInHanded_of_change_sized (C := Try.checked) own started (by kernel_rfl) Try.func4
    (ChangeSpec.witness6 (enc := enc) (C := Try.checked) false ⟨#[], #[.agg #[.int .i64 0, .int .i64 0, .bool false, .bool false, .int .i64 0, .int .i64 0, .int .i64 0, .int .u32 0, .int .u32 0, .slice none 0 0, .slice none 0 0], .int .i64 0], []⟩ 8 (by kernel_rfl) (by kernel_rfl) (by kernel_rfl) (by kernel_rfl)) ?_
  intro W base args ds gs before hval0 hW hcnd hsz0 _
  have hval : ∀ (j : Nat) t v, Try.f4.params[j]? = some t → args[j]? = some v → Value.okWide Try.prog W .any base t v := hval0
  have hsz : (DataW.weightsEach Try.prog (Try.f4.params.toList ++ Rows.fragFitsSpec.plain.varTypes Try.prog) (ds ++ gs)).all (· ≤ reachBytes) = true := hsz0
  clear hsz0
  have hW' := hW
  obtain ⟨p, q, hA0, hV, rfl, hfz, hnd⟩ := hW
  have hA : DataW.TrodAll enc Try.prog W 0 (fun _ => true) true Try.f4.params.toList args.toList ds p := hA0
  rw [Try.params4] at hA hval hsz
  obtain ⟨v0, vs0, d0, ds0, p0, q0, hargs, rfl, rfl, h0, r0⟩ := trodAll_cons hA
  obtain ⟨v1, vs1, d1, ds1, p1, q1, rfl, rfl, rfl, h1, r1⟩ := trodAll_cons r0
  obtain ⟨rfl, rfl, rfl⟩ := trodAll_nil r1
  obtain rfl : args = #[v0, v1] := by cases args; simp_all
  obtain ⟨rfl, rfl⟩ := trodVars_none hV
  have k0 := h0
  have lt0 : ∀ x ∈ p0, x.block < W.heap.size := by obtain ⟨m, hm⟩ := k0; exact DataW.trod_lt m _ _ _ hm
  have w0 : ViewPkt W v0 := open_pkt (hval 0 26 v0 rfl rfl) h0 (fun k hk => by have := List.all_eq_true.1 hsz k (DataW.weights_mem_each (j := 0) rfl rfl k hk); simpa using this)
  obtain ⟨a1, rfl, rfl, rfl, w1⟩ := open_int Try.underlying3 (hval 1 3 v1 rfl rfl) h1
  clear hA0 hval0
  refine (walk v0 a1 W w0 w1).mono fun e W' ⟨he, bel⟩ => ?_
  subst he
  exact ⟨_, rfl, _, _, _, [], _, [], hW', trodAll_mk1 (shut_bool Try.underlying4 _), (trodAll_cons_mk (Below.trod laidOut (by kernel_rfl) (of_decide_eq_true (by kernel_rfl)) k0 bel lt0) (trodAll_cons_mk (shut_int Try.underlying3 w1) trodAll_mk0)), rfl, bel.frame _, fun h => by cases h⟩

theorem over : Rows.fragFitsRow.holds Try.pinned (OpenSpec.ofChange Rows.fragFitsSpec) :=
  OpenClaim.holds_of_wide 4 Try.f4 rfl rfl rfl rfl rfl rfl rfl ⟨rfl, rfl, rfl, rfl, rfl⟩ rfl rfl rfl rfl rfl (by kernel_rfl) Try.func4 (by kernel_rfl)
    (of_decide_eq_true (by kernel_rfl)) (by unfold Func.isWrapper; first | (rw [if_pos (by decide +kernel)]; kernel_rfl) | (rw [if_neg (by decide +kernel)]; exact ⟨rfl, rfl⟩))
    (fun os started H enc _ => lifted os started H enc)

theorem proved : Rows.FragFitsSaid := over
#print axioms proved
end Go.Proofs.Ytcjkhonapafndaa.fragFits
