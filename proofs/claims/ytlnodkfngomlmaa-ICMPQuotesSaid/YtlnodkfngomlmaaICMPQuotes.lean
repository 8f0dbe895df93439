/- Proved: what is told of a packet is its header and its first eight bytes; its flow is read from that. Conditions: none, for every input. -/
import Derived.Test.YtlnodkfngomlmaaRows
import Derived.WalkKit
import Derived.ProofKit
import Derived.OpenShut
import Derived.ShutString
import Derived.ChangeOld
import Derived.Below
import Derived.SizedLaws
import Derived.Test.YtlnodkfngomlmaaQuo
import Derived.Test.YtlnodkfngomlmaaFlowB
namespace Go.Proofs.Ytlnodkfngomlmaa.iCMPQuotes
open Go.ChangeShapes Go.WideShapes Go.ChangeAt Go.RowKit
open Go.ChangeMaps (open_string shut_string)
set_option linter.unusedVariables false

theorem own : ownKnob Try.prog.godebug = none := by kernel_rfl
theorem laidOut : laidOutB Try.prog = true := by kernel_rfl

/-! ### the walk -/
set_option maxRecDepth 100000 in
set_option maxHeartbeats 4000000 in
theorem walk (v0 : Value) (w : World) (w0 : ViewPkt w v0) :
    Calls Try.prog 10 #[v0] w fun e w' => e = .returned (.bool true) ∧ Below w.heap.size w w' := by
  obtain ⟨p, oA, on, oc, ol, dA, dn, dc, dl, rfl, hp, ho, hd⟩ := w0
  obtain ⟨W, hW⟩ : ∃ W, w.alloc (.cells (pkC p (.slice oA on oc) (.slice dA dn dc)) 42) = W := ⟨_, rfl⟩
  obtain ⟨gx, hgx⟩ : ∃ gx, w.heap.size = gx := ⟨_, rfl⟩
  have hm : Bk W gx 42 (pkC p (.slice oA on oc) (.slice dA dn dc)) := by rw [← hW, ← hgx]; exact Bk.new w _ _
  have hBW : Below gx w W := by rw [← hW, ← hgx]; exact (Below.refl _ _).alloc (Nat.le_refl _) _
  have hz := hm.lt
  have hmd : dn ≤ 140737488355328 := Nat.le_trans hd.cap (by have := hd.max; omega)
  have hmo : on ≤ 140737488355328 := Nat.le_trans ho.cap (by have := ho.max; omega)
  have HN := Lib.hid ho.len
  have HDN := Lib.hid hd.len
  have HBO := Lib.hid ho.bs
  have HBD := Lib.hid hd.bs
  have HRO : Hid (∀ X, Below W.heap.size W X → RB X gx oA ol) := Lib.hid (fun X hX => Rw.below (by rw [← hgx]; exact Rw.below ho.rb (by rw [hgx]; exact hBW)) (hX.mono (by omega)))
  have HRD : Hid (∀ X, Below W.heap.size W X → RB X gx dA dl) := Lib.hid (fun X hX => Rw.below (by rw [← hgx]; exact Rw.below hd.rb (by rw [hgx]; exact hBW)) (hX.mono (by omega)))
  have HCO := Lib.hid ho.cap
  have HCD := Lib.hid hd.cap
  have hgl : ∀ X, Below W.heap.size W X → gx ≤ X.heap.size := fun X hX => Nat.le_trans (Nat.le_of_lt hz) hX.size
  have HQ1 := Lib.hid (fun X (hX : Below W.heap.size W X) => quote_any p hp oA dA on oc dn dc gx ol dl HN.out HCO.out (by omega) HBO.out HDN.out (by omega) X (HRO.out X hX) (HRD.out X hX) (hgl X hX))
  have HQ2 := Lib.hid (fun X (hX : Below W.heap.size W X) => rquote_any p hp oA dA on oc dn dc gx ol dl HN.out HCO.out (by omega) HBO.out HDN.out HCD.out (by omega) X (HRO.out X hX) (HRD.out X hX) (hgl X hX))
  have HP := Lib.hid hp
  have HM : Hid (∀ X, Below W.heap.size W X → Bk X gx 42 (pkC p (.slice oA on oc) (.slice dA dn dc))) := Lib.hid (fun X hX => hm.below hX hz)
  have HBW := Lib.hid hBW
  have HW := Lib.hid hW
  have HGX := Lib.hid hgx
  have HGL := Lib.hid hgl
  have k9 : W.cell? ⟨gx, 9, none⟩ = some (.slice oA on oc) := hm.cell 9
  have k10 : W.cell? ⟨gx, 10, none⟩ = some (.slice dA dn dc) := hm.cell 10
  have HQL := Lib.hid (qtB_len p ol dl)
  have HQB : Hid (Bs (qtB p ol dl)) := Lib.hid ((hdrB_bs p ol dl.length _ ho.bs).append (hd.bs.take 8))
  unfold pkC at HW HQ1 HQ2 HM ⊢
  clear hp ho hd hW hgx hm hBW hgl
  rcases (by omega : 4000 < dn ∨ (dn ≤ 4000 ∧ 100 < on) ∨ (dn ≤ 4000 ∧ on ≤ 100)) with d | ⟨d, d2⟩ | ⟨d, d2⟩
  · have e1 : decide ((4000 : Int) < (dn : Int)) = true := decide_eq_true (by omega)
    go_enter Try.func10, Try.ntmps10
    go_wp2_with fail
    go_ret
    exact ⟨rfl, by rw [HW.out, HGX.out]; exact HBW.out⟩
  · have e1 : decide ((4000 : Int) < (dn : Int)) = false := decide_eq_false (by omega)
    have e2 : decide ((100 : Int) < (on : Int)) = true := decide_eq_true (by omega)
    go_enter Try.func10, Try.ntmps10
    go_wp2_with fail
    go_ret
    exact ⟨rfl, by rw [HW.out, HGX.out]; exact HBW.out⟩
  have e1 : decide ((4000 : Int) < (dn : Int)) = false := decide_eq_false (by omega)
  have e2 : decide ((100 : Int) < (on : Int)) = false := decide_eq_false (by omega)
  go_enter Try.func10, Try.ntmps10
  go_wp2_with fail
  rw [HW.out, HGX.out]
  refine (HQ1.out W (Below.refl _ _)).mono ?_
  rintro e w2 ⟨k, A, n, c, rfl, hk, hno, hyes, hB2⟩
  have C2 := hB2
  have HK := Lib.hid hk
  have hm2 := HM.out w2 C2
  have j0 : w2.cell? ⟨gx, 0, none⟩ = some (.int .i64 p.svc) := hm2.cell 0
  have j1 : w2.cell? ⟨gx, 1, none⟩ = some (.int .i64 p.id) := hm2.cell 1
  have j2 : w2.cell? ⟨gx, 2, none⟩ = some (.bool p.whole) := hm2.cell 2
  have j3 : w2.cell? ⟨gx, 3, none⟩ = some (.bool p.more) := hm2.cell 3
  have j4 : w2.cell? ⟨gx, 4, none⟩ = some (.int .i64 p.off) := hm2.cell 4
  have j5 : w2.cell? ⟨gx, 5, none⟩ = some (.int .i64 p.life) := hm2.cell 5
  have j6 : w2.cell? ⟨gx, 6, none⟩ = some (.int .i64 p.proto) := hm2.cell 6
  have j7 : w2.cell? ⟨gx, 7, none⟩ = some (.int .u32 p.src) := hm2.cell 7
  have j8 : w2.cell? ⟨gx, 8, none⟩ = some (.int .u32 p.dst) := hm2.cell 8
  have j9 : w2.cell? ⟨gx, 9, none⟩ = some (.slice oA on oc) := hm2.cell 9
  have j10 : w2.cell? ⟨gx, 10, none⟩ = some (.slice dA dn dc) := hm2.cell 10
  go_wp2_with fail
  refine (HQ2.out w2 C2).mono ?_
  rintro e w3 ⟨k', A', n', c', rfl, hk', hno', hyes', hB3⟩
  have hkk := errIs_one hk' hk
  subst hkk
  have C3 : Below W.heap.size W w3 := C2.trans (hB3.mono C2.size)
  clear hm2 hk hk'
  rcases Classical.em (k' = 0) with hk0 | hk0
  rotate_left
  · obtain ⟨rfl, rfl, rfl⟩ := hno hk0
    obtain ⟨rfl, rfl, rfl⟩ := hno' hk0
    clear hno hyes hno' hyes'
    have HSA := Lib.hid (same_any none none 0 0 0 0 0 0 [] [] rfl rfl (by omega) (by omega) Bs.nil Bs.nil w3 (fun h => absurd h (by simp [by8])) (fun h => absurd h (by simp [by8])))
    go_wp2_with fail
    refine HSA.out.mono ?_
    rintro e w4 ⟨rfl, m, rfl⟩
    go_wp2_with (go_at_call 17; refine (known_any _).mono ?_; rintro e w5 ⟨rfl, hB5⟩)
    go_ret
    exact ⟨rfl, by rw [HGX.out]; exact (HBW.out.trans (C3.mono (by omega))).trans ((show Below w3.heap.size w3 w5 from ⟨hB5.os, hB5.tape, hB5.output, hB5.size, hB5.block⟩).mono (HGL.out w3 C3))⟩
  subst hk0
  have hO1 := hyes rfl
  have hO2 := hyes' rfl
  have hnq : n = (qtB p ol dl).length := hO1.length.symm
  have hnq' : n' = n := hO2.length.symm.trans hnq.symm
  subst hnq'
  have hnum : numsP p ∧ ol.length ≤ 40 := by
    rcases HK.out with ⟨_, h⟩ | ⟨_, _, h⟩ | ⟨_, _, _, _, h⟩ | ⟨h0, h1, _, _, _⟩
    · cases h
    · cases h
    · cases h
    · exact ⟨h0, h1⟩
  have hbd := hdN_bd hnum.2
  have hn20 : 20 ≤ n' := by rw [hnq, HQL.out]; omega
  have hn100 : n' ≤ 100 := by rw [hnq, HQL.out]; omega
  have hr1 : RB w3 w2.heap.size A (qtB p ol dl) := Rw.below hO1.rb hB3
  have HSA := same_any A A' n' c n' c' w2.heap.size w3.heap.size _ _ hnq.symm hnq.symm (by omega) (by omega) HQB.out HQB.out w3 hr1 hO2.rb
  rw [decide_eq_true rfl] at HSA
  have HSM := Lib.hid HSA
  have hfl := quo_flow p hnum.1 HP.out.src HP.out.dst ol dl (sumOf (hdrB p ol dl.length 0)) hnum.2
  have hFL : flowF (qtB p ol dl) = _ := hfl
  have hz3 : w2.heap.size ≤ w3.heap.size := hB3.size
  have HFW := Lib.hid (fun m => flow_any A n' c w2.heap.size (qtB p ol dl) hnq.symm (by omega) HQB.out (w3.drewN m) hr1 hz3)
  unfold FlowRet flC at HFW
  have n0 : ((n' : Int) == 0) = false := beq_eq_false_iff_ne.2 (by omega)
  have n0' : (n' == 0) = false := beq_eq_false_iff_ne.2 (by omega)
  have HNQ := Lib.hid hnq
  have HNUM := Lib.hid hnum
  have hpb : 0 ≤ p.proto ∧ p.proto ≤ 255 := hnum.1.2.2.1
  clear hno hyes hno' hyes' hO1 hO2 hr1 HSA hfl hnq hnum hbd
  have hway : (p.off ≠ 0) ∨ (p.off = 0 ∧ dn < 4) ∨ (p.off = 0 ∧ 4 ≤ dn ∧ p.proto ≠ 6 ∧ p.proto ≠ 17) ∨ (p.off = 0 ∧ 4 ≤ dn ∧ p.proto = 6) ∨ (p.off = 0 ∧ 4 ≤ dn ∧ p.proto = 17) := by omega
  have hcond : ((p.proto = 6 ∨ p.proto = 17) ∧ p.off = 0 ∧ 4 ≤ dl.length) ↔ ((p.off = 0 ∧ 4 ≤ dn ∧ p.proto = 6) ∨ (p.off = 0 ∧ 4 ≤ dn ∧ p.proto = 17)) := by rw [HDN.out]; omega
  rcases hway with v | ⟨v, v2⟩ | ⟨v, v2, v3, v4⟩ | ⟨v, v2, v3⟩ | ⟨v, v2, v3⟩
  · have f1 : (p.off == 0) = false := beq_eq_false_iff_ne.2 v
    have hc0 : ¬ ((p.proto = 6 ∨ p.proto = 17) ∧ p.off = 0 ∧ 4 ≤ dl.length) := by rw [hcond]; omega
    rw [if_neg hc0] at hFL
    rw [hFL] at HFW
    clear hFL hc0 hcond
    clear hmd hmo
    try (have HV := Lib.hid v; clear v)
    try (have HV3 := Lib.hid v3; clear v3)
    go_wp2_with fail
    refine HSM.out.mono ?_
    rintro e w4 ⟨rfl, m, rfl⟩
    go_wp2_with fail
    refine (HFW.out m).mono ?_
    rintro e w5 ⟨rfl, hB5⟩
    have C5 : Below W.heap.size W w5 := C3.trans ((show Below w3.heap.size w3 w5 from ⟨hB5.os, hB5.tape, hB5.output, hB5.size, hB5.block⟩).mono C3.size)
    have hm6 : Bk (w5.alloc (.cells #[.int .i64 p.proto, .int .u32 p.src, .int .i64 0, .int .u32 p.dst, .int .i64 0] 60)) w5.heap.size 60 #[.int .i64 p.proto, .int .u32 p.src, .int .i64 0, .int .u32 p.dst, .int .i64 0] := Bk.new w5 _ _
    have C6 : Below W.heap.size W (w5.alloc (.cells #[.int .i64 p.proto, .int .u32 p.src, .int .i64 0, .int .u32 p.dst, .int .i64 0] 60)) := C5.alloc C5.size _
    have f60 : (w5.alloc (.cells #[.int .i64 p.proto, .int .u32 p.src, .int .i64 0, .int .u32 p.dst, .int .i64 0] 60)).cell? ⟨w5.heap.size, 0, none⟩ = some (.int .i64 p.proto) := hm6.cell 0
    have f61 : (w5.alloc (.cells #[.int .i64 p.proto, .int .u32 p.src, .int .i64 0, .int .u32 p.dst, .int .i64 0] 60)).cell? ⟨w5.heap.size, 1, none⟩ = some (.int .u32 p.src) := hm6.cell 1
    have f62 : (w5.alloc (.cells #[.int .i64 p.proto, .int .u32 p.src, .int .i64 0, .int .u32 p.dst, .int .i64 0] 60)).cell? ⟨w5.heap.size, 2, none⟩ = some (.int .i64 0) := hm6.cell 2
    have f63 : (w5.alloc (.cells #[.int .i64 p.proto, .int .u32 p.src, .int .i64 0, .int .u32 p.dst, .int .i64 0] 60)).cell? ⟨w5.heap.size, 3, none⟩ = some (.int .u32 p.dst) := hm6.cell 3
    have f64 : (w5.alloc (.cells #[.int .i64 p.proto, .int .u32 p.src, .int .i64 0, .int .u32 p.dst, .int .i64 0] 60)).cell? ⟨w5.heap.size, 4, none⟩ = some (.int .i64 0) := hm6.cell 4
    have hmx := HM.out (w5.alloc (.cells #[.int .i64 p.proto, .int .u32 p.src, .int .i64 0, .int .u32 p.dst, .int .i64 0] 60)) C6
    have i4 : (w5.alloc (.cells #[.int .i64 p.proto, .int .u32 p.src, .int .i64 0, .int .u32 p.dst, .int .i64 0] 60)).cell? ⟨gx, 4, none⟩ = some (.int .i64 p.off) := hmx.cell 4
    have i6 : (w5.alloc (.cells #[.int .i64 p.proto, .int .u32 p.src, .int .i64 0, .int .u32 p.dst, .int .i64 0] 60)).cell? ⟨gx, 6, none⟩ = some (.int .i64 p.proto) := hmx.cell 6
    have i7 : (w5.alloc (.cells #[.int .i64 p.proto, .int .u32 p.src, .int .i64 0, .int .u32 p.dst, .int .i64 0] 60)).cell? ⟨gx, 7, none⟩ = some (.int .u32 p.src) := hmx.cell 7
    have i8 : (w5.alloc (.cells #[.int .i64 p.proto, .int .u32 p.src, .int .i64 0, .int .u32 p.dst, .int .i64 0] 60)).cell? ⟨gx, 8, none⟩ = some (.int .u32 p.dst) := hmx.cell 8
    have i10 : (w5.alloc (.cells #[.int .i64 p.proto, .int .u32 p.src, .int .i64 0, .int .u32 p.dst, .int .i64 0] 60)).cell? ⟨gx, 10, none⟩ = some (.slice dA dn dc) := hmx.cell 10
    clear hmx hm6
    go_wp2_with (go_at_call 17; refine (known_any _).mono ?_; rintro e w7 ⟨rfl, hB7⟩)
    go_ret
    exact ⟨rfl, by rw [HGX.out]; exact (HBW.out.trans (C6.mono (Nat.le_of_lt hz))).trans (hB7.mono (HGL.out _ C6))⟩
  · have f1 : (p.off == 0) = true := beq_iff_eq.2 v
    have f2 : decide ((4 : Int) ≤ (dn : Int)) = false := decide_eq_false (by omega)
    have hc0 : ¬ ((p.proto = 6 ∨ p.proto = 17) ∧ p.off = 0 ∧ 4 ≤ dl.length) := by rw [hcond]; omega
    rw [if_neg hc0] at hFL
    rw [hFL] at HFW
    clear hFL hc0 hcond
    clear hmd hmo
    try (have HV := Lib.hid v; clear v)
    try (have HV3 := Lib.hid v3; clear v3)
    go_wp2_with fail
    refine HSM.out.mono ?_
    rintro e w4 ⟨rfl, m, rfl⟩
    go_wp2_with fail
    refine (HFW.out m).mono ?_
    rintro e w5 ⟨rfl, hB5⟩
    have C5 : Below W.heap.size W w5 := C3.trans ((show Below w3.heap.size w3 w5 from ⟨hB5.os, hB5.tape, hB5.output, hB5.size, hB5.block⟩).mono C3.size)
    have hm6 : Bk (w5.alloc (.cells #[.int .i64 p.proto, .int .u32 p.src, .int .i64 0, .int .u32 p.dst, .int .i64 0] 60)) w5.heap.size 60 #[.int .i64 p.proto, .int .u32 p.src, .int .i64 0, .int .u32 p.dst, .int .i64 0] := Bk.new w5 _ _
    have C6 : Below W.heap.size W (w5.alloc (.cells #[.int .i64 p.proto, .int .u32 p.src, .int .i64 0, .int .u32 p.dst, .int .i64 0] 60)) := C5.alloc C5.size _
    have f60 : (w5.alloc (.cells #[.int .i64 p.proto, .int .u32 p.src, .int .i64 0, .int .u32 p.dst, .int .i64 0] 60)).cell? ⟨w5.heap.size, 0, none⟩ = some (.int .i64 p.proto) := hm6.cell 0
    have f61 : (w5.alloc (.cells #[.int .i64 p.proto, .int .u32 p.src, .int .i64 0, .int .u32 p.dst, .int .i64 0] 60)).cell? ⟨w5.heap.size, 1, none⟩ = some (.int .u32 p.src) := hm6.cell 1
    have f62 : (w5.alloc (.cells #[.int .i64 p.proto, .int .u32 p.src, .int .i64 0, .int .u32 p.dst, .int .i64 0] 60)).cell? ⟨w5.heap.size, 2, none⟩ = some (.int .i64 0) := hm6.cell 2
    have f63 : (w5.alloc (.cells #[.int .i64 p.proto, .int .u32 p.src, .int .i64 0, .int .u32 p.dst, .int .i64 0] 60)).cell? ⟨w5.heap.size, 3, none⟩ = some (.int .u32 p.dst) := hm6.cell 3
    have f64 : (w5.alloc (.cells #[.int .i64 p.proto, .int .u32 p.src, .int .i64 0, .int .u32 p.dst, .int .i64 0] 60)).cell? ⟨w5.heap.size, 4, none⟩ = some (.int .i64 0) := hm6.cell 4
    have hmx := HM.out (w5.alloc (.cells #[.int .i64 p.proto, .int .u32 p.src, .int .i64 0, .int .u32 p.dst, .int .i64 0] 60)) C6
    have i4 : (w5.alloc (.cells #[.int .i64 p.proto, .int .u32 p.src, .int .i64 0, .int .u32 p.dst, .int .i64 0] 60)).cell? ⟨gx, 4, none⟩ = some (.int .i64 p.off) := hmx.cell 4
    have i6 : (w5.alloc (.cells #[.int .i64 p.proto, .int .u32 p.src, .int .i64 0, .int .u32 p.dst, .int .i64 0] 60)).cell? ⟨gx, 6, none⟩ = some (.int .i64 p.proto) := hmx.cell 6
    have i7 : (w5.alloc (.cells #[.int .i64 p.proto, .int .u32 p.src, .int .i64 0, .int .u32 p.dst, .int .i64 0] 60)).cell? ⟨gx, 7, none⟩ = some (.int .u32 p.src) := hmx.cell 7
    have i8 : (w5.alloc (.cells #[.int .i64 p.proto, .int .u32 p.src, .int .i64 0, .int .u32 p.dst, .int .i64 0] 60)).cell? ⟨gx, 8, none⟩ = some (.int .u32 p.dst) := hmx.cell 8
    have i10 : (w5.alloc (.cells #[.int .i64 p.proto, .int .u32 p.src, .int .i64 0, .int .u32 p.dst, .int .i64 0] 60)).cell? ⟨gx, 10, none⟩ = some (.slice dA dn dc) := hmx.cell 10
    clear hmx hm6
    go_wp2_with (go_at_call 17; refine (known_any _).mono ?_; rintro e w7 ⟨rfl, hB7⟩)
    go_ret
    exact ⟨rfl, by rw [HGX.out]; exact (HBW.out.trans (C6.mono (Nat.le_of_lt hz))).trans (hB7.mono (HGL.out _ C6))⟩
  · have f1 : (p.off == 0) = true := beq_iff_eq.2 v
    have f2 : decide ((4 : Int) ≤ (dn : Int)) = true := decide_eq_true (by omega)
    have f3 : (p.proto == 6) = false := beq_eq_false_iff_ne.2 v3
    have f4 : (p.proto == 17) = false := beq_eq_false_iff_ne.2 v4
    have hc0 : ¬ ((p.proto = 6 ∨ p.proto = 17) ∧ p.off = 0 ∧ 4 ≤ dl.length) := by rw [hcond]; omega
    rw [if_neg hc0] at hFL
    rw [hFL] at HFW
    clear hFL hc0 hcond
    clear hmd hmo
    try (have HV := Lib.hid v; clear v)
    try (have HV3 := Lib.hid v3; clear v3)
    go_wp2_with fail
    refine HSM.out.mono ?_
    rintro e w4 ⟨rfl, m, rfl⟩
    go_wp2_with fail
    refine (HFW.out m).mono ?_
    rintro e w5 ⟨rfl, hB5⟩
    have C5 : Below W.heap.size W w5 := C3.trans ((show Below w3.heap.size w3 w5 from ⟨hB5.os, hB5.tape, hB5.output, hB5.size, hB5.block⟩).mono C3.size)
    have hm6 : Bk (w5.alloc (.cells #[.int .i64 p.proto, .int .u32 p.src, .int .i64 0, .int .u32 p.dst, .int .i64 0] 60)) w5.heap.size 60 #[.int .i64 p.proto, .int .u32 p.src, .int .i64 0, .int .u32 p.dst, .int .i64 0] := Bk.new w5 _ _
    have C6 : Below W.heap.size W (w5.alloc (.cells #[.int .i64 p.proto, .int .u32 p.src, .int .i64 0, .int .u32 p.dst, .int .i64 0] 60)) := C5.alloc C5.size _
    have f60 : (w5.alloc (.cells #[.int .i64 p.proto, .int .u32 p.src, .int .i64 0, .int .u32 p.dst, .int .i64 0] 60)).cell? ⟨w5.heap.size, 0, none⟩ = some (.int .i64 p.proto) := hm6.cell 0
    have f61 : (w5.alloc (.cells #[.int .i64 p.proto, .int .u32 p.src, .int .i64 0, .int .u32 p.dst, .int .i64 0] 60)).cell? ⟨w5.heap.size, 1, none⟩ = some (.int .u32 p.src) := hm6.cell 1
    have f62 : (w5.alloc (.cells #[.int .i64 p.proto, .int .u32 p.src, .int .i64 0, .int .u32 p.dst, .int .i64 0] 60)).cell? ⟨w5.heap.size, 2, none⟩ = some (.int .i64 0) := hm6.cell 2
    have f63 : (w5.alloc (.cells #[.int .i64 p.proto, .int .u32 p.src, .int .i64 0, .int .u32 p.dst, .int .i64 0] 60)).cell? ⟨w5.heap.size, 3, none⟩ = some (.int .u32 p.dst) := hm6.cell 3
    have f64 : (w5.alloc (.cells #[.int .i64 p.proto, .int .u32 p.src, .int .i64 0, .int .u32 p.dst, .int .i64 0] 60)).cell? ⟨w5.heap.size, 4, none⟩ = some (.int .i64 0) := hm6.cell 4
    have hmx := HM.out (w5.alloc (.cells #[.int .i64 p.proto, .int .u32 p.src, .int .i64 0, .int .u32 p.dst, .int .i64 0] 60)) C6
    have i4 : (w5.alloc (.cells #[.int .i64 p.proto, .int .u32 p.src, .int .i64 0, .int .u32 p.dst, .int .i64 0] 60)).cell? ⟨gx, 4, none⟩ = some (.int .i64 p.off) := hmx.cell 4
    have i6 : (w5.alloc (.cells #[.int .i64 p.proto, .int .u32 p.src, .int .i64 0, .int .u32 p.dst, .int .i64 0] 60)).cell? ⟨gx, 6, none⟩ = some (.int .i64 p.proto) := hmx.cell 6
    have i7 : (w5.alloc (.cells #[.int .i64 p.proto, .int .u32 p.src, .int .i64 0, .int .u32 p.dst, .int .i64 0] 60)).cell? ⟨gx, 7, none⟩ = some (.int .u32 p.src) := hmx.cell 7
    have i8 : (w5.alloc (.cells #[.int .i64 p.proto, .int .u32 p.src, .int .i64 0, .int .u32 p.dst, .int .i64 0] 60)).cell? ⟨gx, 8, none⟩ = some (.int .u32 p.dst) := hmx.cell 8
    have i10 : (w5.alloc (.cells #[.int .i64 p.proto, .int .u32 p.src, .int .i64 0, .int .u32 p.dst, .int .i64 0] 60)).cell? ⟨gx, 10, none⟩ = some (.slice dA dn dc) := hmx.cell 10
    clear hmx hm6
    go_wp2_with (go_at_call 17; refine (known_any _).mono ?_; rintro e w7 ⟨rfl, hB7⟩)
    go_ret
    exact ⟨rfl, by rw [HGX.out]; exact (HBW.out.trans (C6.mono (Nat.le_of_lt hz))).trans (hB7.mono (HGL.out _ C6))⟩
  · have f1 : (p.off == 0) = true := beq_iff_eq.2 v
    have f2 : decide ((4 : Int) ≤ (dn : Int)) = true := decide_eq_true (by omega)
    have f3 : (p.proto == 6) = true := beq_iff_eq.2 v3
    have hc0 : ((p.proto = 6 ∨ p.proto = 17) ∧ p.off = 0 ∧ 4 ≤ dl.length) := by rw [hcond]; omega
    rw [if_pos hc0] at hFL
    rw [hFL] at HFW
    clear hFL hc0 hcond
    obtain ⟨b, off, rfl, hbB, q0⟩ := (HRD.out w3 C3).at_ (k := 0) (by rw [HDN.out]; omega)
    obtain ⟨t0, ht0⟩ : ∃ t, at8 dl 0 = t := ⟨_, rfl⟩
    obtain ⟨t1, ht1⟩ : ∃ t, at8 dl 1 = t := ⟨_, rfl⟩
    obtain ⟨t2, ht2⟩ : ∃ t, at8 dl 2 = t := ⟨_, rfl⟩
    obtain ⟨t3, ht3⟩ : ∃ t, at8 dl 3 = t := ⟨_, rfl⟩
    rw [ht0, ht1, ht2, ht3] at HFW
    have HCE : Hid (∀ X, Below W.heap.size W X → X.cell? ⟨b, off, none⟩ = some (.int .u8 t0) ∧ X.cell? ⟨b, off + 1, none⟩ = some (.int .u8 t1) ∧ X.cell? ⟨b, off + 2, none⟩ = some (.int .u8 t2) ∧ X.cell? ⟨b, off + 3, none⟩ = some (.int .u8 t3)) := Lib.hid (fun X hX => by
      have get : ∀ i, i < 4 → X.cell? ⟨b, off + i, none⟩ = some (.int .u8 (at8 dl i)) := fun i hi => by
        obtain ⟨b', off', e', _, q'⟩ := (HRD.out X hX).at_ (k := i) (by rw [HDN.out]; omega)
        injection e' with e'
        injection e' with e1 e2
        subst e1; subst e2
        exact q'
      exact ⟨ht0 ▸ get 0 (by omega), ht1 ▸ get 1 (by omega), ht2 ▸ get 2 (by omega), ht3 ▸ get 3 (by omega)⟩)
    have bt0 := at8_bd HBD.out 0
    have bt1 := at8_bd HBD.out 1
    have bt2 := at8_bd HBD.out 2
    have bt3 := at8_bd HBD.out 3
    rw [ht0] at bt0
    rw [ht1] at bt1
    rw [ht2] at bt2
    rw [ht3] at bt3
    have wt0 : IntKind.i64.wrap t0 = t0 := IntWalk.i64_in _ (by omega)
    have wt1 : IntKind.i64.wrap t1 = t1 := IntWalk.i64_in _ (by omega)
    have wt2 : IntKind.i64.wrap t2 = t2 := IntWalk.i64_in _ (by omega)
    have wt3 : IntKind.i64.wrap t3 = t3 := IntWalk.i64_in _ (by omega)
    have wr1 : IntKind.i64.wrap (t0 * 256) = t0 * 256 := IntWalk.i64_in _ (by omega)
    have wr2 : IntKind.i64.wrap (t0 * 256 + t1) = t0 * 256 + t1 := IntWalk.i64_in _ (by omega)
    have wr3 : IntKind.i64.wrap (t2 * 256) = t2 * 256 := IntWalk.i64_in _ (by omega)
    have wr4 : IntKind.i64.wrap (t2 * 256 + t3) = t2 * 256 + t3 := IntWalk.i64_in _ (by omega)
    clear q0 ht0 ht1 ht2 ht3
    clear hmd hmo
    try (have HV := Lib.hid v; clear v)
    try (have HV3 := Lib.hid v3; clear v3)
    go_wp2_with fail
    refine HSM.out.mono ?_
    rintro e w4 ⟨rfl, m, rfl⟩
    go_wp2_with fail
    refine (HFW.out m).mono ?_
    rintro e w5 ⟨rfl, hB5⟩
    have C5 : Below W.heap.size W w5 := C3.trans ((show Below w3.heap.size w3 w5 from ⟨hB5.os, hB5.tape, hB5.output, hB5.size, hB5.block⟩).mono C3.size)
    have hm6 : Bk (w5.alloc (.cells #[.int .i64 p.proto, .int .u32 p.src, .int .i64 (t0 * 256 + t1), .int .u32 p.dst, .int .i64 (t2 * 256 + t3)] 60)) w5.heap.size 60 #[.int .i64 p.proto, .int .u32 p.src, .int .i64 (t0 * 256 + t1), .int .u32 p.dst, .int .i64 (t2 * 256 + t3)] := Bk.new w5 _ _
    have C6 : Below W.heap.size W (w5.alloc (.cells #[.int .i64 p.proto, .int .u32 p.src, .int .i64 (t0 * 256 + t1), .int .u32 p.dst, .int .i64 (t2 * 256 + t3)] 60)) := C5.alloc C5.size _
    have f60 : (w5.alloc (.cells #[.int .i64 p.proto, .int .u32 p.src, .int .i64 (t0 * 256 + t1), .int .u32 p.dst, .int .i64 (t2 * 256 + t3)] 60)).cell? ⟨w5.heap.size, 0, none⟩ = some (.int .i64 p.proto) := hm6.cell 0
    have f61 : (w5.alloc (.cells #[.int .i64 p.proto, .int .u32 p.src, .int .i64 (t0 * 256 + t1), .int .u32 p.dst, .int .i64 (t2 * 256 + t3)] 60)).cell? ⟨w5.heap.size, 1, none⟩ = some (.int .u32 p.src) := hm6.cell 1
    have f62 : (w5.alloc (.cells #[.int .i64 p.proto, .int .u32 p.src, .int .i64 (t0 * 256 + t1), .int .u32 p.dst, .int .i64 (t2 * 256 + t3)] 60)).cell? ⟨w5.heap.size, 2, none⟩ = some (.int .i64 (t0 * 256 + t1)) := hm6.cell 2
    have f63 : (w5.alloc (.cells #[.int .i64 p.proto, .int .u32 p.src, .int .i64 (t0 * 256 + t1), .int .u32 p.dst, .int .i64 (t2 * 256 + t3)] 60)).cell? ⟨w5.heap.size, 3, none⟩ = some (.int .u32 p.dst) := hm6.cell 3
    have f64 : (w5.alloc (.cells #[.int .i64 p.proto, .int .u32 p.src, .int .i64 (t0 * 256 + t1), .int .u32 p.dst, .int .i64 (t2 * 256 + t3)] 60)).cell? ⟨w5.heap.size, 4, none⟩ = some (.int .i64 (t2 * 256 + t3)) := hm6.cell 4
    have hmx := HM.out (w5.alloc (.cells #[.int .i64 p.proto, .int .u32 p.src, .int .i64 (t0 * 256 + t1), .int .u32 p.dst, .int .i64 (t2 * 256 + t3)] 60)) C6
    have i4 : (w5.alloc (.cells #[.int .i64 p.proto, .int .u32 p.src, .int .i64 (t0 * 256 + t1), .int .u32 p.dst, .int .i64 (t2 * 256 + t3)] 60)).cell? ⟨gx, 4, none⟩ = some (.int .i64 p.off) := hmx.cell 4
    have i6 : (w5.alloc (.cells #[.int .i64 p.proto, .int .u32 p.src, .int .i64 (t0 * 256 + t1), .int .u32 p.dst, .int .i64 (t2 * 256 + t3)] 60)).cell? ⟨gx, 6, none⟩ = some (.int .i64 p.proto) := hmx.cell 6
    have i7 : (w5.alloc (.cells #[.int .i64 p.proto, .int .u32 p.src, .int .i64 (t0 * 256 + t1), .int .u32 p.dst, .int .i64 (t2 * 256 + t3)] 60)).cell? ⟨gx, 7, none⟩ = some (.int .u32 p.src) := hmx.cell 7
    have i8 : (w5.alloc (.cells #[.int .i64 p.proto, .int .u32 p.src, .int .i64 (t0 * 256 + t1), .int .u32 p.dst, .int .i64 (t2 * 256 + t3)] 60)).cell? ⟨gx, 8, none⟩ = some (.int .u32 p.dst) := hmx.cell 8
    have i10 : (w5.alloc (.cells #[.int .i64 p.proto, .int .u32 p.src, .int .i64 (t0 * 256 + t1), .int .u32 p.dst, .int .i64 (t2 * 256 + t3)] 60)).cell? ⟨gx, 10, none⟩ = some (.slice (some ⟨b, off, none⟩) dn dc) := hmx.cell 10
    clear hmx hm6
    obtain ⟨g0, g1, g2, g3⟩ := HCE.out _ C6
    have m1' : 0 < dn := by omega
    have m2' : 1 < dn := by omega
    have m3' : 2 < dn := by omega
    have m4' : 3 < dn := by omega
    have d1 : (0 : Int) < dn := by omega
    have d2' : (1 : Int) < dn := by omega
    have d3 : (2 : Int) < dn := by omega
    have d4 : (3 : Int) < dn := by omega
    have HV2 := Lib.hid v2
    clear v2
    have l5 : w5.heap.size < (w5.alloc (.cells #[.int .i64 p.proto, .int .u32 p.src, .int .i64 (t0 * 256 + t1), .int .u32 p.dst, .int .i64 (t2 * 256 + t3)] 60)).heap.size := by rw [World.size_alloc]; exact Nat.lt_succ_self _
    have lx : gx < (w5.alloc (.cells #[.int .i64 p.proto, .int .u32 p.src, .int .i64 (t0 * 256 + t1), .int .u32 p.dst, .int .i64 (t2 * 256 + t3)] 60)).heap.size := Nat.lt_of_lt_of_le hz C6.size
    have lb : b < (w5.alloc (.cells #[.int .i64 p.proto, .int .u32 p.src, .int .i64 (t0 * 256 + t1), .int .u32 p.dst, .int .i64 (t2 * 256 + t3)] 60)).heap.size := by omega
    go_wp2
    go_region_held3 (fun w' => w'.cell? ⟨w5.heap.size, 2, none⟩ = some (.int .i64 (t0 * 256 + t1)) ∧ w'.cell? ⟨w5.heap.size, 4, none⟩ = some (.int .i64 (t2 * 256 + t3)) ∧ w'.cell? ⟨gx, 10, none⟩ = some (.slice (some ⟨b, off, none⟩) dn dc) ∧ w'.cell? ⟨b, off, none⟩ = some (.int .u8 t0) ∧ w'.cell? ⟨b, off + 1, none⟩ = some (.int .u8 t1) ∧ w'.cell? ⟨b, off + 2, none⟩ = some (.int .u8 t2) ∧ w'.cell? ⟨b, off + 3, none⟩ = some (.int .u8 t3))
      (first | (with_reducible exact ⟨by assumption, by assumption, by assumption, by assumption, by assumption, by assumption, by assumption⟩) | go_keep)
      (first
        | (go_at_call 17; refine (known_any _).mono ?_; rintro e w7 ⟨rfl, hB7⟩; have hf62 := bcell hB7 l5 f62; have hf64 := bcell hB7 l5 f64; have hi10 := bcell hB7 lx i10; have hg0 := bcell hB7 lb g0; have hg1 := bcell hB7 lb g1; have hg2 := bcell hB7 lb g2; have hg3 := bcell hB7 lb g3))
    all_goals
      go_wp2
      go_ret
      exact ⟨rfl, by rw [HGX.out]; exact (HBW.out.trans (C6.mono (Nat.le_of_lt hz))).trans ((show Below (w5.alloc (.cells #[.int .i64 p.proto, .int .u32 p.src, .int .i64 (t0 * 256 + t1), .int .u32 p.dst, .int .i64 (t2 * 256 + t3)] 60)).heap.size (w5.alloc (.cells #[.int .i64 p.proto, .int .u32 p.src, .int .i64 (t0 * 256 + t1), .int .u32 p.dst, .int .i64 (t2 * 256 + t3)] 60)) w7 from ⟨hB7.os, hB7.tape, hB7.output, hB7.size, hB7.block⟩).mono (HGL.out _ C6))⟩
  · have f1 : (p.off == 0) = true := beq_iff_eq.2 v
    have f2 : decide ((4 : Int) ≤ (dn : Int)) = true := decide_eq_true (by omega)
    have f3 : (p.proto == 6) = false := beq_eq_false_iff_ne.2 (by omega)
    have f4 : (p.proto == 17) = true := beq_iff_eq.2 v3
    have hc0 : ((p.proto = 6 ∨ p.proto = 17) ∧ p.off = 0 ∧ 4 ≤ dl.length) := by rw [hcond]; omega
    rw [if_pos hc0] at hFL
    rw [hFL] at HFW
    clear hFL hc0 hcond
    obtain ⟨b, off, rfl, hbB, q0⟩ := (HRD.out w3 C3).at_ (k := 0) (by rw [HDN.out]; omega)
    obtain ⟨t0, ht0⟩ : ∃ t, at8 dl 0 = t := ⟨_, rfl⟩
    obtain ⟨t1, ht1⟩ : ∃ t, at8 dl 1 = t := ⟨_, rfl⟩
    obtain ⟨t2, ht2⟩ : ∃ t, at8 dl 2 = t := ⟨_, rfl⟩
    obtain ⟨t3, ht3⟩ : ∃ t, at8 dl 3 = t := ⟨_, rfl⟩
    rw [ht0, ht1, ht2, ht3] at HFW
    have HCE : Hid (∀ X, Below W.heap.size W X → X.cell? ⟨b, off, none⟩ = some (.int .u8 t0) ∧ X.cell? ⟨b, off + 1, none⟩ = some (.int .u8 t1) ∧ X.cell? ⟨b, off + 2, none⟩ = some (.int .u8 t2) ∧ X.cell? ⟨b, off + 3, none⟩ = some (.int .u8 t3)) := Lib.hid (fun X hX => by
      have get : ∀ i, i < 4 → X.cell? ⟨b, off + i, none⟩ = some (.int .u8 (at8 dl i)) := fun i hi => by
        obtain ⟨b', off', e', _, q'⟩ := (HRD.out X hX).at_ (k := i) (by rw [HDN.out]; omega)
        injection e' with e'
        injection e' with e1 e2
        subst e1; subst e2
        exact q'
      exact ⟨ht0 ▸ get 0 (by omega), ht1 ▸ get 1 (by omega), ht2 ▸ get 2 (by omega), ht3 ▸ get 3 (by omega)⟩)
    have bt0 := at8_bd HBD.out 0
    have bt1 := at8_bd HBD.out 1
    have bt2 := at8_bd HBD.out 2
    have bt3 := at8_bd HBD.out 3
    rw [ht0] at bt0
    rw [ht1] at bt1
    rw [ht2] at bt2
    rw [ht3] at bt3
    have wt0 : IntKind.i64.wrap t0 = t0 := IntWalk.i64_in _ (by omega)
    have wt1 : IntKind.i64.wrap t1 = t1 := IntWalk.i64_in _ (by omega)
    have wt2 : IntKind.i64.wrap t2 = t2 := IntWalk.i64_in _ (by omega)
    have wt3 : IntKind.i64.wrap t3 = t3 := IntWalk.i64_in _ (by omega)
    have wr1 : IntKind.i64.wrap (t0 * 256) = t0 * 256 := IntWalk.i64_in _ (by omega)
    have wr2 : IntKind.i64.wrap (t0 * 256 + t1) = t0 * 256 + t1 := IntWalk.i64_in _ (by omega)
    have wr3 : IntKind.i64.wrap (t2 * 256) = t2 * 256 := IntWalk.i64_in _ (by omega)
    have wr4 : IntKind.i64.wrap (t2 * 256 + t3) = t2 * 256 + t3 := IntWalk.i64_in _ (by omega)
    clear q0 ht0 ht1 ht2 ht3
    clear hmd hmo
    try (have HV := Lib.hid v; clear v)
    try (have HV3 := Lib.hid v3; clear v3)
    go_wp2_with fail
    refine HSM.out.mono ?_
    rintro e w4 ⟨rfl, m, rfl⟩
    go_wp2_with fail
    refine (HFW.out m).mono ?_
    rintro e w5 ⟨rfl, hB5⟩
    have C5 : Below W.heap.size W w5 := C3.trans ((show Below w3.heap.size w3 w5 from ⟨hB5.os, hB5.tape, hB5.output, hB5.size, hB5.block⟩).mono C3.size)
    have hm6 : Bk (w5.alloc (.cells #[.int .i64 p.proto, .int .u32 p.src, .int .i64 (t0 * 256 + t1), .int .u32 p.dst, .int .i64 (t2 * 256 + t3)] 60)) w5.heap.size 60 #[.int .i64 p.proto, .int .u32 p.src, .int .i64 (t0 * 256 + t1), .int .u32 p.dst, .int .i64 (t2 * 256 + t3)] := Bk.new w5 _ _
    have C6 : Below W.heap.size W (w5.alloc (.cells #[.int .i64 p.proto, .int .u32 p.src, .int .i64 (t0 * 256 + t1), .int .u32 p.dst, .int .i64 (t2 * 256 + t3)] 60)) := C5.alloc C5.size _
    have f60 : (w5.alloc (.cells #[.int .i64 p.proto, .int .u32 p.src, .int .i64 (t0 * 256 + t1), .int .u32 p.dst, .int .i64 (t2 * 256 + t3)] 60)).cell? ⟨w5.heap.size, 0, none⟩ = some (.int .i64 p.proto) := hm6.cell 0
    have f61 : (w5.alloc (.cells #[.int .i64 p.proto, .int .u32 p.src, .int .i64 (t0 * 256 + t1), .int .u32 p.dst, .int .i64 (t2 * 256 + t3)] 60)).cell? ⟨w5.heap.size, 1, none⟩ = some (.int .u32 p.src) := hm6.cell 1
    have f62 : (w5.alloc (.cells #[.int .i64 p.proto, .int .u32 p.src, .int .i64 (t0 * 256 + t1), .int .u32 p.dst, .int .i64 (t2 * 256 + t3)] 60)).cell? ⟨w5.heap.size, 2, none⟩ = some (.int .i64 (t0 * 256 + t1)) := hm6.cell 2
    have f63 : (w5.alloc (.cells #[.int .i64 p.proto, .int .u32 p.src, .int .i64 (t0 * 256 + t1), .int .u32 p.dst, .int .i64 (t2 * 256 + t3)] 60)).cell? ⟨w5.heap.size, 3, none⟩ = some (.int .u32 p.dst) := hm6.cell 3
    have f64 : (w5.alloc (.cells #[.int .i64 p.proto, .int .u32 p.src, .int .i64 (t0 * 256 + t1), .int .u32 p.dst, .int .i64 (t2 * 256 + t3)] 60)).cell? ⟨w5.heap.size, 4, none⟩ = some (.int .i64 (t2 * 256 + t3)) := hm6.cell 4
    have hmx := HM.out (w5.alloc (.cells #[.int .i64 p.proto, .int .u32 p.src, .int .i64 (t0 * 256 + t1), .int .u32 p.dst, .int .i64 (t2 * 256 + t3)] 60)) C6
    have i4 : (w5.alloc (.cells #[.int .i64 p.proto, .int .u32 p.src, .int .i64 (t0 * 256 + t1), .int .u32 p.dst, .int .i64 (t2 * 256 + t3)] 60)).cell? ⟨gx, 4, none⟩ = some (.int .i64 p.off) := hmx.cell 4
    have i6 : (w5.alloc (.cells #[.int .i64 p.proto, .int .u32 p.src, .int .i64 (t0 * 256 + t1), .int .u32 p.dst, .int .i64 (t2 * 256 + t3)] 60)).cell? ⟨gx, 6, none⟩ = some (.int .i64 p.proto) := hmx.cell 6
    have i7 : (w5.alloc (.cells #[.int .i64 p.proto, .int .u32 p.src, .int .i64 (t0 * 256 + t1), .int .u32 p.dst, .int .i64 (t2 * 256 + t3)] 60)).cell? ⟨gx, 7, none⟩ = some (.int .u32 p.src) := hmx.cell 7
    have i8 : (w5.alloc (.cells #[.int .i64 p.proto, .int .u32 p.src, .int .i64 (t0 * 256 + t1), .int .u32 p.dst, .int .i64 (t2 * 256 + t3)] 60)).cell? ⟨gx, 8, none⟩ = some (.int .u32 p.dst) := hmx.cell 8
    have i10 : (w5.alloc (.cells #[.int .i64 p.proto, .int .u32 p.src, .int .i64 (t0 * 256 + t1), .int .u32 p.dst, .int .i64 (t2 * 256 + t3)] 60)).cell? ⟨gx, 10, none⟩ = some (.slice (some ⟨b, off, none⟩) dn dc) := hmx.cell 10
    clear hmx hm6
    obtain ⟨g0, g1, g2, g3⟩ := HCE.out _ C6
    have m1' : 0 < dn := by omega
    have m2' : 1 < dn := by omega
    have m3' : 2 < dn := by omega
    have m4' : 3 < dn := by omega
    have d1 : (0 : Int) < dn := by omega
    have d2' : (1 : Int) < dn := by omega
    have d3 : (2 : Int) < dn := by omega
    have d4 : (3 : Int) < dn := by omega
    have HV2 := Lib.hid v2
    clear v2
    have l5 : w5.heap.size < (w5.alloc (.cells #[.int .i64 p.proto, .int .u32 p.src, .int .i64 (t0 * 256 + t1), .int .u32 p.dst, .int .i64 (t2 * 256 + t3)] 60)).heap.size := by rw [World.size_alloc]; exact Nat.lt_succ_self _
    have lx : gx < (w5.alloc (.cells #[.int .i64 p.proto, .int .u32 p.src, .int .i64 (t0 * 256 + t1), .int .u32 p.dst, .int .i64 (t2 * 256 + t3)] 60)).heap.size := Nat.lt_of_lt_of_le hz C6.size
    have lb : b < (w5.alloc (.cells #[.int .i64 p.proto, .int .u32 p.src, .int .i64 (t0 * 256 + t1), .int .u32 p.dst, .int .i64 (t2 * 256 + t3)] 60)).heap.size := by omega
    go_wp2
    go_region_held3 (fun w' => w'.cell? ⟨w5.heap.size, 2, none⟩ = some (.int .i64 (t0 * 256 + t1)) ∧ w'.cell? ⟨w5.heap.size, 4, none⟩ = some (.int .i64 (t2 * 256 + t3)) ∧ w'.cell? ⟨gx, 10, none⟩ = some (.slice (some ⟨b, off, none⟩) dn dc) ∧ w'.cell? ⟨b, off, none⟩ = some (.int .u8 t0) ∧ w'.cell? ⟨b, off + 1, none⟩ = some (.int .u8 t1) ∧ w'.cell? ⟨b, off + 2, none⟩ = some (.int .u8 t2) ∧ w'.cell? ⟨b, off + 3, none⟩ = some (.int .u8 t3))
      (first | (with_reducible exact ⟨by assumption, by assumption, by assumption, by assumption, by assumption, by assumption, by assumption⟩) | go_keep)
      (first
        | (go_at_call 17; refine (known_any _).mono ?_; rintro e w7 ⟨rfl, hB7⟩; have hf62 := bcell hB7 l5 f62; have hf64 := bcell hB7 l5 f64; have hi10 := bcell hB7 lx i10; have hg0 := bcell hB7 lb g0; have hg1 := bcell hB7 lb g1; have hg2 := bcell hB7 lb g2; have hg3 := bcell hB7 lb g3))
    all_goals
      go_wp2
      go_ret
      exact ⟨rfl, by rw [HGX.out]; exact (HBW.out.trans (C6.mono (Nat.le_of_lt hz))).trans ((show Below (w5.alloc (.cells #[.int .i64 p.proto, .int .u32 p.src, .int .i64 (t0 * 256 + t1), .int .u32 p.dst, .int .i64 (t2 * 256 + t3)] 60)).heap.size (w5.alloc (.cells #[.int .i64 p.proto, .int .u32 p.src, .int .i64 (t0 * 256 + t1), .int .u32 p.dst, .int .i64 (t2 * 256 + t3)] 60)) w7 from ⟨hB7.os, hB7.tape, hB7.output, hB7.size, hB7.block⟩).mono (HGL.out _ C6))⟩

/-! ### the row -/
set_option maxRecDepth 100000 in
theorem lifted (os : Os) (started : os.Started) (H : Type) (enc : TypeId × Value → H) :
    ReturnsInHanded {} Try.checked os 10 .any (Rows.iCMPQuotesSpec.pre6 enc Try.prog Try.f10 Rows.iCMPQuotesRow.domain false) (Rows.iCMPQuotesSpec.post enc Try.prog Try.f10 false true false false) := by
  refine returnsInHanded_of_change_sized (C := Try.checked) own started (by kernel_rfl) Try.func10
    (ChangeSpec.witness6 (enc := enc) (C := Try.checked) false ⟨#[], #[.agg #[.int .i64 0, .int .i64 0, .bool false, .bool false, .int .i64 0, .int .i64 0, .int .i64 0, .int .u32 0, .int .u32 0, .slice none 0 0, .slice none 0 0]], []⟩ 8 (by kernel_rfl) (by kernel_rfl) (by kernel_rfl) (by kernel_rfl)) ?_
  intro W base args ds gs before hval0 hW hcnd hsz0 _
  have hval : ∀ (j : Nat) t v, Try.f10.params[j]? = some t → args[j]? = some v → Value.okWide Try.prog W .any base t v := hval0
  have hsz : (DataW.weightsEach Try.prog (Try.f10.params.toList ++ Rows.iCMPQuotesSpec.plain.varTypes Try.prog) (ds ++ gs)).all (· ≤ reachBytes) = true := hsz0
  clear hsz0
  have hW' := hW
  obtain ⟨p, q, hA0, hV, rfl, hfz, hnd⟩ := hW
  have hA : DataW.TrodAll enc Try.prog W 0 (fun _ => true) true Try.f10.params.toList args.toList ds p := hA0
  rw [Try.params10] at hA hval hsz
  obtain ⟨v0, vs0, d0, ds0, p0, q0, hargs, rfl, rfl, h0, r0⟩ := trodAll_cons hA
  obtain ⟨rfl, rfl, rfl⟩ := trodAll_nil r0
  obtain rfl : args = #[v0] := by cases args; simp_all
  obtain ⟨rfl, rfl⟩ := trodVars_none hV
  have k0 := h0
  have lt0 : ∀ x ∈ p0, x.block < W.heap.size := by obtain ⟨m, hm⟩ := k0; exact DataW.trod_lt m _ _ _ hm
  have w0 : ViewPkt W v0 := open_pkt (hval 0 42 v0 rfl rfl) h0 (fun k hk => by have := List.all_eq_true.1 hsz k (DataW.weights_mem_each (j := 0) rfl rfl k hk); simpa using this)
  clear hA0 hval0
  refine (walk v0 W w0).mono fun e W' ⟨he, bel⟩ => ?_
  subst he
  exact ⟨_, rfl, _, _, _, [], _, [], hW', trodAll_mk1 (shut_bool Try.underlying4 _), (trodAll_cons_mk (Below.trod laidOut (by kernel_rfl) (of_decide_eq_true (by kernel_rfl)) k0 bel lt0) trodAll_mk0), rfl, bel.frame _, fun h => by cases h⟩

theorem over : Rows.iCMPQuotesRow.holds Try.pinned (OpenSpec.ofChange Rows.iCMPQuotesSpec) :=
  OpenClaim.holds_of_wide 10 Try.f10 rfl rfl rfl rfl rfl rfl rfl ⟨rfl, rfl, rfl, rfl, rfl⟩ rfl rfl rfl rfl rfl (by kernel_rfl) Try.func10 (by kernel_rfl)
    (of_decide_eq_true (by kernel_rfl)) (by unfold Func.isWrapper; first | (rw [if_pos (by decide +kernel)]; kernel_rfl) | (rw [if_neg (by decide +kernel)]; exact ⟨rfl, rfl⟩))
    (fun os started H enc _ => lifted os started H enc)

theorem proved : Rows.ICMPQuotesSaid := over
#print axioms proved
end Go.Proofs.Ytlnodkfngomlmaa.iCMPQuotes
