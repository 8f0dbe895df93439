/- Proved: a packet's pieces, put into a Store in any order and some of them twice, bring it out whole, once all are there, and not ahead. Conditions: none, for every input. -/
import Derived.Test.YtcjkhonapafndaaRows
import Derived.WalkKit
import Derived.ProofKit
import Derived.OpenShut
import Derived.ShutString
import Derived.ChangeOld
import Derived.Below
import Derived.SizedLaws
import Derived.Test.YtcjkhonapafndaaBck
import Derived.Test.YtcjkhonapafndaaPcm
import Derived.Test.YtcjkhonapafndaaKnw
import Derived.Test.YtcjkhonapafndaaIn
import Derived.Test.YtcjkhonapafndaaFst
namespace Go.Proofs.Ytcjkhonapafndaa.fragBack
open Go.ChangeShapes Go.WideShapes Go.ChangeAt Go.RowKit
open Go.ChangeMaps (open_string shut_string)
set_option linter.unusedVariables false

theorem own : ownKnob Try.prog.godebug = none := by kernel_rfl
theorem laidOut : laidOutB Try.prog = true := by kernel_rfl

/-! ### the walk -/
set_option maxRecDepth 100000 in
set_option maxHeartbeats 8000000 in
theorem walk (v0 : Value) (a1 : Int) (a2 : Option Addr) (len2 cap2 : Nat) (z2 : List Int) (w : World) (w0 : ViewPkt w v0) (w1 : (Lit.int .i64 a1).wf = true) (w2 : IsRow .i64 w a2 len2 cap2 z2 ∧ cap2 * 8 ≤ 140737488351232) :
    Calls Try.prog 6 #[v0, .int .i64 a1, .slice a2 len2 cap2] w fun e w' => e = .returned (.bool true) ∧ Below w.heap.size w w' := by
  obtain ⟨p, oA, on, oc, ol, dA, dn, dc, dl, rfl, hp, ho, hd⟩ := w0
  have hmt := bounds_i64 w1
  clear w1
  obtain ⟨ods, hod⟩ := IsRow.ri w2.1
  have hmx2 := w2.2
  have hom := ho.max
  have hoc := ho.cap
  have hdm := hd.max
  have hdc := hd.cap
  have hc2 : len2 ≤ cap2 := hod.2.2.1
  obtain ⟨gp, hgp⟩ : ∃ gp, w.heap.size = gp := ⟨_, rfl⟩
  obtain ⟨W, hW⟩ : ∃ W, w.alloc (.cells (pkC p (.slice oA on oc) (.slice dA dn dc)) 26) = W := ⟨_, rfl⟩
  have hm : Bk W gp 26 (pkC p (.slice oA on oc) (.slice dA dn dc)) := by rw [← hW, ← hgp]; exact Bk.new w _ _
  have hB : Below gp w W := by rw [← hW, ← hgp]; exact (Below.refl _ _).alloc (Nat.le_refl _) _
  have hz : gp < W.heap.size := hm.lt
  have hr1 : RB W gp oA ol := Rw.below (hgp ▸ ho.rb) hB
  have hr2 : RB W gp dA dl := Rw.below (hgp ▸ hd.rb) hB
  have HW : Hid (w.alloc (.cells #[.int .i64 p.svc, .int .i64 p.id, .bool p.whole, .bool p.more, .int .i64 p.off, .int .i64 p.life, .int .i64 p.proto, .int .u32 p.src, .int .u32 p.dst, .slice oA on oc, .slice dA dn dc] 26) = W) := Lib.hid hW
  have HGP := Lib.hid hgp
  have HM := Lib.hid hm
  have HB := Lib.hid hB
  have HR1 := Lib.hid hr1
  have HR2 := Lib.hid hr2
  have HN := Lib.hid ho.len
  have HDN := Lib.hid hd.len
  have HOB := Lib.hid ho.bs
  have HDB := Lib.hid hd.bs
  have HP := Lib.hid hp
  have HOD := Lib.hid hod
  have b0 := (hm).cell 0
  have b1 := (hm).cell 1
  have b2 := (hm).cell 2
  have b3 := (hm).cell 3
  have b4 := (hm).cell 4
  have b5 := (hm).cell 5
  have b6 := (hm).cell 6
  have b7 := (hm).cell 7
  have b8 := (hm).cell 8
  have b9 := (hm).cell 9
  have b10 := (hm).cell 10
  simp only [pkC, List.getElem?_toArray, List.getElem?_cons_zero, List.getElem?_cons_succ] at b0 b1 b2 b3 b4 b5 b6 b7 b8 b9 b10
  clear hW hgp hm hB hr1 hr2 ho hd hp w2 hod
  have HL := Lib.hid (long_any p oA dA on oc dn dc W)
  unfold pkC at HL
  unfold pkC
  go_enter Try.func6, Try.ntmps6
  go_wp2_with fail
  rw [HW.out, HGP.out]
  refine HL.out.mono ?_
  rintro e1 W1 ⟨rfl, hB1⟩
  have HB1 := Lib.hid hB1
  have hz1 := hB1.size
  have hm1 := HM.out.below hB1 hz
  have HM1 := Lib.hid hm1
  have c0 := (hm1).cell 0
  have c1 := (hm1).cell 1
  have c2 := (hm1).cell 2
  have c3 := (hm1).cell 3
  have c4 := (hm1).cell 4
  have c5 := (hm1).cell 5
  have c6 := (hm1).cell 6
  have c7 := (hm1).cell 7
  have c8 := (hm1).cell 8
  have c9 := (hm1).cell 9
  have c10 := (hm1).cell 10
  simp only [pkC, List.getElem?_toArray, List.getElem?_cons_zero, List.getElem?_cons_succ] at c0 c1 c2 c3 c4 c5 c6 c7 c8 c9 c10
  clear b0 b1 b2 b3 b4 b5 b6 b7 b8 b9 b10 hB1 hm1
  obtain ⟨poff, hpo⟩ : ∃ x, p.off = x := ⟨_, rfl⟩
  obtain ⟨pmo, hpm⟩ : ∃ x, p.more = x := ⟨_, rfl⟩
  rw [hpo] at c4
  rw [hpm] at c3
  have HPO := Lib.hid hpo
  have HPM := Lib.hid hpm
  clear hpo hpm
  have hways : ((6000 < dn ∨ 100 < on)) ∨ (¬ (6000 < dn ∨ 100 < on) ∧ (200 < len2)) ∨ (¬ (6000 < dn ∨ 100 < on) ∧ ¬ (200 < len2) ∧ (pmo = true)) ∨ (¬ (6000 < dn ∨ 100 < on) ∧ ¬ (200 < len2) ∧ ¬ (pmo = true) ∧ (poff ≠ 0)) ∨ (¬ (6000 < dn ∨ 100 < on) ∧ ¬ (200 < len2) ∧ ¬ (pmo = true) ∧ ¬ (poff ≠ 0)) := by
    cases pmo <;> simp <;> omega
  rcases hways with hw | hw | hw | hw | hw
  · have hq : (decide (6000 < (dn : Int)) || decide (100 < (on : Int))) = true := by simp; omega
    rw [hq]
    clear hq
    clear hw
    go_wp2_with fail
    refine (known_any _).mono ?_
    rintro e2 W2 ⟨rfl, hB2⟩
    go_wp2
    go_ret
    exact ⟨rfl, by rw [HGP.out]; exact (HB.out.trans (HB1.out.mono (by omega))).trans (hB2.mono (by omega))⟩
  · have hq : (decide (6000 < (dn : Int)) || decide (100 < (on : Int))) = false := by simp; omega
    rw [hq]
    clear hq
    have t1 : decide ((200 : Int) < (len2 : Int)) = true := decide_eq_true (by omega)
    clear hw
    go_wp2_with fail
    refine (known_any _).mono ?_
    rintro e2 W2 ⟨rfl, hB2⟩
    go_wp2
    go_ret
    exact ⟨rfl, by rw [HGP.out]; exact (HB.out.trans (HB1.out.mono (by omega))).trans (hB2.mono (by omega))⟩
  · have hq : (decide (6000 < (dn : Int)) || decide (100 < (on : Int))) = false := by simp; omega
    rw [hq]
    clear hq
    have t1 : decide ((200 : Int) < (len2 : Int)) = false := decide_eq_false (by omega)
    have t2 : pmo = true := by cases pmo <;> simp_all
    subst t2
    clear hw
    go_wp2_with fail
    refine (known_any _).mono ?_
    rintro e2 W2 ⟨rfl, hB2⟩
    go_wp2
    go_ret
    exact ⟨rfl, by rw [HGP.out]; exact (HB.out.trans (HB1.out.mono (by omega))).trans (hB2.mono (by omega))⟩
  · have hq : (decide (6000 < (dn : Int)) || decide (100 < (on : Int))) = false := by simp; omega
    rw [hq]
    clear hq
    have t1 : decide ((200 : Int) < (len2 : Int)) = false := decide_eq_false (by omega)
    have t2 : pmo = false := by cases pmo <;> simp_all
    subst t2
    have t3 : (poff != 0) = true := bne_iff_ne.2 (by omega)
    clear hw
    go_wp2_with fail
    refine (known_any _).mono ?_
    rintro e2 W2 ⟨rfl, hB2⟩
    go_wp2
    go_ret
    exact ⟨rfl, by rw [HGP.out]; exact (HB.out.trans (HB1.out.mono (by omega))).trans (hB2.mono (by omega))⟩
  · have hq : (decide (6000 < (dn : Int)) || decide (100 < (on : Int))) = false := by simp; omega
    rw [hq]
    clear hq
    have t1 : decide ((200 : Int) < (len2 : Int)) = false := decide_eq_false (by omega)
    have t2 : pmo = false := by cases pmo <;> simp_all
    subst t2
    have t3 : (poff != 0) = false := bne_eq_false_iff_eq.2 (by omega)
    have hsz : dn ≤ 6000 ∧ on ≤ 100 ∧ len2 ≤ 200 := by omega
    have hp0 : poff = 0 := by omega
    subst hp0
    have hrO1 : RB W1 W1.heap.size oA ol := Rw.more (Rw.below HR1.out (HB1.out.mono (by omega))) (by omega)
    have hrD1 : RB W1 W1.heap.size dA dl := Rw.more (Rw.below HR2.out (HB1.out.mono (by omega))) (by omega)
    have HSP := Lib.hid (split_any p HP.out oA dA on oc dn dc W1.heap.size ol dl a1 hmt HN.out hoc (by omega) HOB.out HDN.out hdc (by omega) HDB.out W1 hrO1 hrD1 (Nat.le_refl _))
    unfold pkC at HSP
    clear hw hrO1 hrD1
    rw [HPO.out, HPM.out] at HSP
    go_wp2_with fail
    refine HSP.out.mono ?_
    rintro e2 W2 ⟨k, lA, n, lc, Lp, rfl, hsp, hps, hpms, hB2⟩
    have hlen := hps.len
    rcases Int.decEq k 0 with hk | hk
    · have hk2 : (k != 0) = true := by simpa using hk
      clear hsp hps hpms
      have HB2 := Lib.hid hB2
      have hz2 := hB2.size
      clear hB2
      go_wp2_with fail
      refine (known_any _).mono ?_
      rintro e3 W3 ⟨rfl, hB3⟩
      go_wp2
      go_ret
      exact ⟨rfl, by rw [HGP.out]; exact ((HB.out.trans (HB1.out.mono (by omega))).trans (HB2.out.mono (by omega))).trans (hB3.mono (by omega))⟩
    subst hk
    rcases Nat.lt_or_ge n 2 with q | q
    · have t9 : decide ((n : Int) < 2) = true := decide_eq_true (by omega)
      clear hsp hps hpms
      have HB2 := Lib.hid hB2
      have hz2 := hB2.size
      clear hB2
      go_wp2_with fail
      refine (known_any _).mono ?_
      rintro e3 W3 ⟨rfl, hB3⟩
      go_wp2
      go_ret
      exact ⟨rfl, by rw [HGP.out]; exact ((HB.out.trans (HB1.out.mono (by omega))).trans (HB2.out.mono (by omega))).trans (hB3.mono (by omega))⟩
    have t9 : decide ((n : Int) < 2) = false := decide_eq_false (by omega)
    have hmem := splIs_mem hsp HOB.out HDB.out
    have hn6 : n ≤ 6001 := by
      have h1 := hmem.1
      rw [List.length_map, hlen, HDN.out] at h1
      omega
    have HALL := Lib.hid (splIs_all HP.out hsp (by rw [List.length_map]; omega) HPO.out HPM.out)
    have HMEM : Hid (∀ x ∈ Lp, x.ol.length ≤ 1000000 ∧ x.dl.length ≤ 1000000) := Lib.hid (fun x hx => by
      have h1 := hmem.2 x.plain (List.mem_map_of_mem hx)
      have h2 : x.dl.length ≤ dl.length := h1.2.2.1
      have h3 : x.ol.length ≤ ol.length := h1.2.2.2
      have h4 := HDN.out
      have h5 := HN.out
      omega)
    have HPS := Lib.hid hps
    have HPMS := Lib.hid hpms
    have HLEN := Lib.hid hlen
    have HBW : Hid (Below gp w W2) := Lib.hid ((HB.out.trans (HB1.out.mono (by omega))).trans (hB2.mono (by omega)))
    have HWB : Hid (Below gp W W2) := Lib.hid ((HB1.out.mono (by omega)).trans (hB2.mono (by omega)))
    have hz2 := hB2.size
    have hgp2 := HM1.out.below hB2 HM1.out.lt
    have HGB := Lib.hid hgp2
    clear hsp hps hpms hB2 hmem hlen hgp2 c0 c1 c2 c3 c4 c5 c6 c7 c8 c9 c10
    go_wp2_with fail
    go_loopw [10, 11] (fun v10 v11 wr => ∃ (j : Nat) (A : Option Addr) (c : Nat), j ≤ n ∧ v10 = .slice A j c ∧ v11 = .int .i64 j ∧ Hid (Ow 4 wr (W2.heap.size + 1) A j c (bls (List.replicate j false)) ∧ Below (W2.heap.size + 1) (W2.alloc (.cells #[.map none, .slice none 0 0] 46)) wr)) (fun _ v11 _ => n - (intOf v11).toNat)
    case atStart => exact ⟨0, none, 0, Nat.zero_le _, rfl, rfl, Lib.hid ⟨Ow.none_ _ _ _, Below.refl _ _⟩⟩
    case round =>
      obtain ⟨j, A, c, hj, rfl, rfl, HO⟩ := hrel
      rcases Nat.lt_or_ge j n with r | r
      · have t3 : decide ((j : Int) < (n : Int)) = true := decide_eq_true (by omega)
        have hszr : W2.heap.size + 1 ≤ wr.heap.size := by have := HO.out.2.size; rw [World.size_alloc] at this; exact this
        go_wp2_with (at_builtin; refine ap_bool rfl (.tmp 57) (.tmp 58) rfl (W2.heap.size + 1) rfl HO.out.1 rfl (by omega) hszr ?_; intro A3 k3 w3 hO3 hB3)
        have HO3 : Hid (Ow 4 w3 (W2.heap.size + 1) A3 (j + 1) k3 (bls (List.replicate (j + 1) false)) ∧ Below (W2.heap.size + 1) (W2.alloc (.cells #[.map none, .slice none 0 0] 46)) w3) := Lib.hid ⟨by rw [List.replicate_succ']; exact hO3, HO.out.2.trans hB3⟩
        clear hO3 hB3
        go_roundw
        case rel => exact ⟨j + 1, A3, k3, by omega, rfl, by go_num, HO3⟩
        case measure => simp [intOf]; omega
      · obtain rfl : j = n := by omega
        have t3 : decide ((j : Int) < (j : Int)) = false := decide_eq_false (by omega)
        have HT := Lib.hid (BkT.start (p := p) (T := dl) (Lp := Lp) (m := len2) HO.out.1 HO.out.2 HLEN.out.symm (by omega))
        clear r hj HO
        go_wp2_with fail
        go_loopw [12, 13] (fun v12 v13 wr => ∃ (i : Nat) (B : List Bool), i ≤ len2 + j ∧ v12 = .int .i64 (mis B) ∧ v13 = .int .i64 i ∧ Hid (BkT W2 p dl Lp len2 A j c i B wr)) (fun _ v13 _ => len2 + j - (intOf v13).toNat)
        case atStart => exact ⟨0, List.replicate j false, by omega, by rw [mis_rep], rfl, HT⟩
        case round =>
          obtain ⟨i, B, hi, rfl, rfl, HR⟩ := hrel
          rcases Nat.lt_or_ge i (len2 + j) with r2 | r2
          · have t5 : decide ((i : Int) < (len2 : Int) + (j : Int)) = true := decide_eq_true (by omega)
            have hmis : mis B ≤ j := HR.out.mle
            go_upto_if 78 with (fail)
            go_cut [14] (fun s14 wx => ∃ k : Nat, k < j ∧ s14 = .int .i64 k ∧ wx = wr ∧ Hid (len2 ≤ i → k = i - len2))
            case first =>
              rcases Nat.lt_or_ge i len2 with r3 | r3
              · obtain ⟨b2, o2, rfl, hb2, hcl, hok⟩ := HOD.out.at_ r3
                have t6 : decide ((i : Int) < (len2 : Int)) = true := decide_eq_true (by omega)
                obtain ⟨z, hz0⟩ : ∃ z, ods[i]?.getD 0 = z := ⟨_, rfl⟩
                rw [hz0] at hcl hok
                unfold okI at hok
                have hci : wr.cell? ⟨b2, o2 + i, none⟩ = some (.int .i64 z) := ((HBW.out.trans (HR.out.below.mono (by omega))).cell (p := ⟨b2, o2 + i, none⟩) (by rw [← HGP.out]; exact hb2)).trans hcl
                have hj0 : ¬ (j : Int) = 0 := by omega
                have hq1 := Int.tmod_lt_of_pos z (show (0 : Int) < j by omega)
                have hq2 : -(j : Int) < z.tmod j := by
                  have h1 := Int.tmod_lt_of_pos (-z) (show (0 : Int) < j by omega)
                  rw [Int.neg_tmod] at h1
                  omega
                obtain ⟨y, hy⟩ : ∃ y, z.tmod (j : Int) = y := ⟨_, rfl⟩
                have hyw : wrap64 y = y := IntWalk.wrap64_in _ (by rw [← hy]; omega)
                rw [hy] at hq1 hq2
                clear hcl hz0
                rcases (by omega : y < 0 ∨ ¬ y < 0) with d | d
                · have t7 : decide (y < 0) = true := decide_eq_true d
                  go_wp2_with fail
                  go_meet
                  exact ⟨(y + j).toNat, by omega, by go_num, rfl, Lib.hid (fun h => by omega)⟩
                · have t7 : decide (y < 0) = false := decide_eq_false d
                  go_wp2_with fail
                  go_meet
                  exact ⟨y.toNat, by omega, by go_num, rfl, Lib.hid (fun h => by omega)⟩
              · have t6 : decide ((i : Int) < (len2 : Int)) = false := decide_eq_false (by omega)
                go_wp2_with fail
                go_meet
                exact ⟨i - len2, by omega, by go_num, rfl, Lib.hid (fun _ => rfl)⟩
            case rest =>
              obtain ⟨k, hk, rfl, rfl, HK⟩ := hcut
              obtain ⟨gA, b, rfl, hBk, cB, fB⟩ := HR.out.at_ hk
              have HBK := Lib.hid hBk
              clear hBk
              go_upto_if 96 with (fail)
              go_cut [12] (fun s12 wx => s12 = .int .i64 (mis (B.set k true)) ∧ Hid (BkM W2 p dl Lp len2 (some ⟨gA, 0, none⟩) j c i k B wx))
              case first =>
                cases b with
                | true =>
                  go_wp2_with fail
                  go_meet
                  exact ⟨by rw [set_same HBK.out], Lib.hid (HR.out.keep hk HBK.out HK.out)⟩
                | false =>
                  have hms := mis_set HBK.out
                  go_wp2_with fail
                  go_meet
                  exact ⟨by go_num, Lib.hid (HR.out.mark hk HK.out rfl)⟩
              case rest =>
                obtain ⟨rfl, HM⟩ := hcut
                obtain ⟨x, hx⟩ : ∃ x, Lp[k]? = some x := ⟨_, List.getElem?_eq_getElem (by have := HLEN.out; omega)⟩
                obtain ⟨gl, rfl, hgl1, hgl2, hcl⟩ := HPS.out.cell hx
                have hcc : ∀ t u, (pmC x)[t]? = some u → wc.cell? ⟨gl, k * 11 + t, none⟩ = some u := fun t u hu => (HM.out.below.cell (p := ⟨gl, k * 11 + t, none⟩) hgl2).trans (hcl t u hu)
                have hxm := HMEM.out x (List.mem_of_getElem? hx)
                have HAD := Lib.hid (bk_add HM.out HALL.out (by have := HLEN.out; omega) hx hxm.1 hxm.2 HPMS.out)
                unfold pkC at HAD
                have h0 : wc.cell? ⟨gl, k * 11, none⟩ = some (.int .i64 x.p.svc) := hcc 0 _ rfl
                have h1 := hcc 1 _ rfl
                have h2 := hcc 2 _ rfl
                have h3 := hcc 3 _ rfl
                have h4 := hcc 4 _ rfl
                have h5 := hcc 5 _ rfl
                have h6 := hcc 6 _ rfl
                have h7 := hcc 7 _ rfl
                have h8 := hcc 8 _ rfl
                have h9 := hcc 9 _ rfl
                have h10 := hcc 10 _ rfl
                have hgs : gp < W2.heap.size := by omega
                clear hx hcl hcc hxm
                go_wp2_with fail
                refine HAD.out.mono ?_
                rintro e3 w3 ⟨⟨qsvc, qid, qwhole, qmore, qoff, qlife, qproto, qsrc, qdst⟩, is, A1, A2, n1, k1, n2, k2, rfl, hB3, hcase⟩
                clear h0 h1 h2 h3 h4 h5 h6 h7 h8 h9 h10
                unfold pkC
                simp only
                rcases hcase with ⟨hz0, rfl, hq, hrb, hl2, hk2, F, hF⟩ | ⟨hz0, rfl, hT2⟩
                · simp only at hq
                  obtain ⟨rfl, rfl, rfl, rfl, rfl, rfl⟩ := hq
                  obtain rfl : dn = n2 := by rw [← hl2]; exact HDN.out.symm
                  have t10 : (((mis (B.set k true) : Nat) : Int) == 0) = true := by rw [hz0]; rfl
                  obtain ⟨W5, hW5⟩ : ∃ W5, w3.alloc (.cells #[.int .i64 qsvc, .int .i64 p.id, .bool qwhole, .bool false, .int .i64 0, .int .i64 qlife, .int .i64 p.proto, .int .u32 p.src, .int .u32 p.dst, .slice A1 n1 k1, .slice A2 dn k2] 26) = W5 := ⟨_, rfl⟩
                  have hb5 := Bk.new w3 26 #[.int .i64 qsvc, .int .i64 p.id, .bool qwhole, .bool false, .int .i64 0, .int .i64 qlife, .int .i64 p.proto, .int .u32 p.src, .int .u32 p.dst, .slice A1 n1 k1, .slice A2 dn k2]
                  have hg5 := (HGB.out.below hB3 hgs).alloc (.cells #[.int .i64 qsvc, .int .i64 p.id, .bool qwhole, .bool false, .int .i64 0, .int .i64 qlife, .int .i64 p.proto, .int .u32 p.src, .int .u32 p.dst, .slice A1 n1 k1, .slice A2 dn k2] 26)
                  have m1 := hb5.cell 1
                  have m3 := hb5.cell 3
                  have m4 := hb5.cell 4
                  have m6 := hb5.cell 6
                  have m7 := hb5.cell 7
                  have m8 := hb5.cell 8
                  have m10 := hb5.cell 10
                  have y1 := hg5.cell 1
                  have y6 := hg5.cell 6
                  have y7 := hg5.cell 7
                  have y8 := hg5.cell 8
                  have y10 := hg5.cell 10
                  have HW5 := Lib.hid hW5
                  simp only [pkC, List.getElem?_toArray, List.getElem?_cons_zero, List.getElem?_cons_succ] at m1 m3 m4 m6 m7 m8 m10 y1 y6 y7 y8 y10
                  have HSM := Lib.hid (same_at W5 A2 dA dn k2 dc W5.heap.size gp dl HDN.out (by omega) HDB.out (by rw [← hW5]; exact Rw.more (Rw.alloc hrb (Nat.le_refl _) _) (by rw [World.size_alloc]; omega)) (by rw [← hW5]; exact Rw.below HR2.out ((HWB.out.trans (hB3.mono (by omega))).alloc (by have := hB3.size; omega) _)) W5 ⟨0, rfl⟩)
                  have HST := Lib.hid (hF.alloc (.cells #[.int .i64 qsvc, .int .i64 p.id, .bool qwhole, .bool false, .int .i64 0, .int .i64 qlife, .int .i64 p.proto, .int .u32 p.src, .int .u32 p.dst, .slice A1 n1 k1, .slice A2 dn k2] 26))
                  rw [hW5] at HST
                  have HBF : Hid (Below gp w W5) := Lib.hid (by rw [← hW5]; exact (HBW.out.trans (hB3.mono (by omega))).alloc (by have := hB3.size; omega) _)
                  have hz5 : gp ≤ W5.heap.size := by rw [← hW5, World.size_alloc]; have := hB3.size; omega
                  clear hW5 hb5 hg5 hrb hl2 hF
                  go_wp2_with fail
                  rw [HW5.out]
                  refine HSM.out.mono ?_
                  rintro e5 w5 ⟨rfl, kk, rfl⟩
                  go_wp2_with fail
                  refine (sto_len W2.heap.size F [] (W5.drewN kk) (HST.out.drewN kk)).mono ?_
                  rintro e6 w6 ⟨rfl, rfl⟩
                  go_wp2_with fail
                  refine (known_any _).mono ?_
                  rintro e7 w7 ⟨rfl, hB7⟩
                  go_wp2
                  go_ret
                  exact ⟨rfl, by rw [HGP.out]; exact (bel_drewN HBF.out kk).trans (hB7.mono hz5)⟩
                · have t10 : (((mis (B.set k true) : Nat) : Int) == 0) = false := by simpa using hz0
                  have HT3 := Lib.hid (hT2.alloc (.cells #[.int .i64 qsvc, .int .i64 qid, .bool qwhole, .bool qmore, .int .i64 qoff, .int .i64 qlife, .int .i64 qproto, .int .u32 qsrc, .int .u32 qdst, .slice A1 n1 k1, .slice A2 n2 k2] 26))
                  clear hT2 hz0
                  go_wp2_with fail
                  go_roundw
                  case rel => exact ⟨i + 1, B.set k true, by omega, rfl, by go_num, HT3⟩
                  case measure => simp [intOf]; omega
          · exact (HR.out.stop (by omega)).elim

/-! ### the row -/
set_option maxRecDepth 100000 in
theorem lifted (os : Os) (started : os.Started) (H : Type) (enc : TypeId × Value → H) :
    ReturnsInHanded {} Try.checked os 6 .any (Rows.fragBackSpec.pre6 enc Try.prog Try.f6 Rows.fragBackRow.domain false) (Rows.fragBackSpec.post enc Try.prog Try.f6 false true false false) := by
  refine returnsInHanded_of_change_sized (C := Try.checked) own started (by kernel_rfl) Try.func6
    (ChangeSpec.witness6 (enc := enc) (C := Try.checked) false ⟨#[], #[.agg #[.int .i64 0, .int .i64 0, .bool false, .bool false, .int .i64 0, .int .i64 0, .int .i64 0, .int .u32 0, .int .u32 0, .slice none 0 0, .slice none 0 0], .int .i64 0, .slice none 0 0], []⟩ 8 (by kernel_rfl) (by kernel_rfl) (by kernel_rfl) (by kernel_rfl)) ?_
  intro W base args ds gs before hval0 hW hcnd hsz0 _
  have hval : ∀ (j : Nat) t v, Try.f6.params[j]? = some t → args[j]? = some v → Value.okWide Try.prog W .any base t v := hval0
  have hsz : (DataW.weightsEach Try.prog (Try.f6.params.toList ++ Rows.fragBackSpec.plain.varTypes Try.prog) (ds ++ gs)).all (· ≤ reachBytes) = true := hsz0
  clear hsz0
  have hW' := hW
  obtain ⟨p, q, hA0, hV, rfl, hfz, hnd⟩ := hW
  have hA : DataW.TrodAll enc Try.prog W 0 (fun _ => true) true Try.f6.params.toList args.toList ds p := hA0
  rw [Try.params6] at hA hval hsz
  obtain ⟨v0, vs0, d0, ds0, p0, q0, hargs, rfl, rfl, h0, r0⟩ := trodAll_cons hA
  obtain ⟨v1, vs1, d1, ds1, p1, q1, rfl, rfl, rfl, h1, r1⟩ := trodAll_cons r0
  obtain ⟨v2, vs2, d2, ds2, p2, q2, rfl, rfl, rfl, h2, r2⟩ := trodAll_cons r1
  obtain ⟨rfl, rfl, rfl⟩ := trodAll_nil r2
  obtain rfl : args = #[v0, v1, v2] := by cases args; simp_all
  obtain ⟨rfl, rfl⟩ := trodVars_none hV
  have k0 := h0
  have lt0 : ∀ x ∈ p0, x.block < W.heap.size := by obtain ⟨m, hm⟩ := k0; exact DataW.trod_lt m _ _ _ hm
  have w0 : ViewPkt W v0 := open_pkt (hval 0 26 v0 rfl rfl) h0 (fun k hk => by have := List.all_eq_true.1 hsz k (DataW.weights_mem_each (j := 0) rfl rfl k hk); simpa using this)
  obtain ⟨a1, rfl, rfl, rfl, w1⟩ := open_int Try.underlying3 (hval 1 3 v1 rfl rfl) h1
  obtain ⟨a2, len2, cap2, rfl⟩ := okWide_slice Try.underlying50 (hval 2 50 v2 rfl rfl)
  have k2 := h2
  have lt2 : ∀ x ∈ p2, x.block < W.heap.size := by obtain ⟨m, hm⟩ := k2; exact DataW.trod_lt m _ _ _ hm
  obtain ⟨z2, w2⟩ : ∃ zs, IsRow .i64 W a2 len2 cap2 zs ∧ cap2 * 8 ≤ 140737488351232 := by
    obtain ⟨fuel, hf⟩ := h2
    rcases open_ints Try.underlying50 Try.underlying3 (by kernel_rfl) hf with ⟨hcs, _⟩ | ⟨x, l, c, zs, hcs, _, hl, hm, hz, hx, hcell, hwz⟩
    · simp [Value.cells] at hcs
      obtain ⟨rfl, rfl, rfl⟩ := hcs
      exact ⟨[], .inl ⟨rfl, rfl, rfl, rfl⟩, by omega⟩
    · simp [Value.cells] at hcs
      obtain ⟨rfl, rfl, rfl⟩ := hcs
      simp only [Prod.mk.injEq] at hx
      obtain ⟨rfl, rfl⟩ := hx
      simp only [if_true] at hz
      have hm2 := sized_slice hsz (j := 2) (t := 50) (e := 3) rfl rfl Try.underlying50
      rw [show Try.prog.bytesOf 3 = 8 from by kernel_rfl] at hm2
      simp only [lits, List.length_map, List.length_take, List.length_drop, reachBytes] at hm2
      exact ⟨zs, .inr ⟨_, rfl, hl, hm, hz, hcell, hwz⟩, by omega⟩
  clear hA0 hval0
  refine (walk v0 a1 a2 len2 cap2 z2 W w0 w1 w2).mono fun e W' ⟨he, bel⟩ => ?_
  subst he
  exact ⟨_, rfl, _, _, _, [], _, [], hW', trodAll_mk1 (shut_bool Try.underlying4 _), (trodAll_cons_mk (Below.trod laidOut (by kernel_rfl) (of_decide_eq_true (by kernel_rfl)) k0 bel lt0) (trodAll_cons_mk (shut_int Try.underlying3 w1) (trodAll_cons_mk (Below.trod laidOut (by kernel_rfl) (of_decide_eq_true (by kernel_rfl)) k2 bel lt2) trodAll_mk0))), rfl, bel.frame _, fun h => by cases h⟩

theorem over : Rows.fragBackRow.holds Try.pinned (OpenSpec.ofChange Rows.fragBackSpec) :=
  OpenClaim.holds_of_wide 6 Try.f6 rfl rfl rfl rfl rfl rfl rfl ⟨rfl, rfl, rfl, rfl, rfl⟩ rfl rfl rfl rfl rfl (by kernel_rfl) Try.func6 (by kernel_rfl)
    (of_decide_eq_true (by kernel_rfl)) (by unfold Func.isWrapper; first | (rw [if_pos (by decide +kernel)]; kernel_rfl) | (rw [if_neg (by decide +kernel)]; exact ⟨rfl, rfl⟩))
    (fun os started H enc _ => lifted os started H enc)

theorem proved : Rows.FragBackSaid := over
#print axioms proved
end Go.Proofs.Ytcjkhonapafndaa.fragBack
