/- Proved: what is read by an octet.Reader is what stands there, and behind the end nothing is read any more, and it says so. Conditions: none, for every input. -/
import Derived.Test.YtnjleligdeobeaaRows
import Derived.WalkKit
import Derived.ProofKit
import Derived.OpenShut
import Derived.ShutString
import Derived.ChangeOld
import Derived.Below
import Derived.SizedLaws
import Derived.Test.YtnjleligdeobeaaIn
import Derived.Test.YtnjleligdeobeaaReadBack
namespace Go.Proofs.Ytnjleligdeobeaa.octetReads
open Go.ChangeShapes Go.WideShapes Go.ChangeAt Go.RowKit
open Go.ChangeMaps (open_string shut_string)
set_option linter.unusedVariables false

theorem own : ownKnob Try.prog.godebug = none := by kernel_rfl
theorem laidOut : laidOutB Try.prog = true := by kernel_rfl

/-! ### the walk -/
set_option maxHeartbeats 20000000 in
set_option maxRecDepth 100000 in
theorem walk (a0 : Option Addr) (len0 cap0 : Nat) (z0 : List Int) (a1 : Option Addr) (len1 cap1 : Nat) (l1 : List OpV) (w : World) (w0 : IsRow .u8 w a0 len0 cap0 z0 ∧ cap0 ≤ 140737488351232) (w1 : l1.length = len1 ∧ len1 ≤ cap1 ∧ cap1 * 40 ≤ 140737488351232 ∧ Ops w w.heap.size a1 l1) :
    Calls Try.prog 10 #[.slice a0 len0 cap0, .slice a1 len1 cap1] w fun e w' => e = .returned (.bool true) ∧ Below w.heap.size w w' := by
  obtain ⟨lp, hrp, hbp, hnp, hcp⟩ := w0.1.rb
  have mp := w0.2
  obtain ⟨hn, hc, hm, hr⟩ := w1
  have Hp := Lib.hid hnp
  have Hn := Lib.hid hn
  clear w0 hnp
  rcases (by omega : 4000 < len0 ∨ len0 ≤ 4000) with c0 | c0
  · clear hn
    go_enter Try.func10, Try.ntmps10
    go_wp2
    go_ret
    exact ⟨rfl, Below.refl _ _⟩
  rcases (by omega : 4000 < htot l1 ∨ htot l1 ≤ 4000) with d0 | d0
  · have HD : decide (4000 < htot l1) = true := decide_eq_true d0
    clear d0 hn
    go_enter Try.func10, Try.ntmps10
    go_wp2_with (go_at_call 21; refine (heavy_any _ _ _ _ l1 Hn.out hc hm _ hr).mono ?_; rintro e w' ⟨rfl, rfl⟩)
    go_ret
    exact ⟨rfl, Below.refl _ _⟩
  have HD : decide (4000 < htot l1) = false := decide_eq_false (by omega)
  clear d0 hn
  go_enter Try.func10, Try.ntmps10
  go_wp2_with (first
    | (go_at_call 21; refine (heavy_any _ _ _ _ l1 Hn.out hc hm _ hr).mono ?_; rintro e w' ⟨rfl, rfl⟩)
    | (go_at_call 34; refine (newreader_any _ _ _ _ lp Hp.out (by omega) hbp _ hrp (Nat.le_refl _)).mono ?_; rintro e w1 ⟨g, rfl, hR1, hB1⟩))
  go_loopw [6, 7, 8] (fun s d i wr => ∃ (k q : Nat) (dd : Bool), k ≤ len1 ∧ q ≤ len0 ∧ i = .int .i64 k ∧ s = .int .i64 q ∧ d = .bool dd ∧ RdSt wr w.heap.size g lp q dd ∧ Below w.heap.size w wr) (fun _ _ i _ => len1 - (intOf i).toNat)
  case atStart => exact ⟨0, 0, false, Nat.zero_le _, Nat.zero_le _, rfl, rfl, rfl, by unfold RdSt; simpa using hR1, hB1⟩
  case round =>
    obtain ⟨k, q, dd, hk, hq, rfl, rfl, rfl, hS, hB⟩ := hrel
    rcases Nat.lt_or_ge k len1 with d1 | d1
    · obtain ⟨o, ho⟩ : ∃ o, l1[k]? = some o := ⟨_, List.getElem?_eq_getElem (by rw [Hn.out]; exact d1)⟩
      obtain ⟨b, off, rfl, hb, hA⟩ := (hr.below hB) (by rw [Hn.out]; omega)
      have hA := hA k o ho
      have h0 := hA.kind
      have h1 := hA.num
      have ok1 := hA.ok1
      unfold i64ok at ok1
      clear ho hA
      obtain ⟨kd, v, raw⟩ := o
      simp only at h0 h1 ok1
      have hz := hB.size
      have hrp2 := Rw.below hrp hB
      rcases (by omega : kd = 1 ∨ kd = 2 ∨ kd = 4 ∨ (kd ≠ 1 ∧ kd ≠ 2 ∧ kd ≠ 4)) with rfl | rfl | rfl | ⟨e1, e2, e3⟩
      · cases dd
        · rcases (by omega : (len0 : Int) - q < 1 ∨ 1 ≤ (len0 : Int) - q) with d2 | d2
          · have hR : Rd wr w.heap.size g (lp.drop q) 0 := hS
            have hLl : ((lp.drop q) : List Int).length ≤ 1000000 := by rw [List.length_drop, Hp.out]; omega
            have F1 : Hid (numBE (rdOut (lp.drop q) 0 1) = 0) := by show numBE (rdOut (lp.drop q) 0 1) = _; unfold rdOut; rw [if_neg (by rintro ⟨h1, h2, h3⟩; rw [List.length_drop, Hp.out] at h3; omega)]; rfl
            have F2 : Hid (rdRest (lp.drop q) 0 1 = []) := by show _ = _; unfold rdRest; rw [if_neg (by rintro ⟨h1, h2, h3⟩; rw [List.length_drop, Hp.out] at h3; omega)]
            have F3 : Hid (rdErr (lp.drop q) 0 1 = 2) := by show _ = _; unfold rdErr; rw [if_neg (by rintro ⟨h1, h2, h3⟩; rw [List.length_drop, Hp.out] at h3; omega)]
            have hge := hR.ge
            have hrow : ∀ g', some g = some g' → w.heap.size ≤ g' := fun g' e => by injection e with e; omega
            clear hS
            go_wp2_with (first
              | (go_at_call 33; refine (rbyte_any w.heap.size g _ _ _ hR hz).mono ?_; rintro e w5 ⟨rfl, hR5, hg5⟩; rw [F1.out]; rw [F2.out, F3.out] at hR5)
              | (go_at_call 30; refine (rleft_any _ _ _ _ _ hR5).mono ?_; rintro e w6 ⟨rfl, rfl⟩)
              | (go_at_call 31; refine (rerr_any _ _ _ _ _ hR5).mono ?_; rintro e w6 ⟨rfl, rfl⟩))
            go_roundw
            case rel => exact ⟨k + 1, q, true, by omega, hq, by go_num, rfl, rfl, hR5, hB.grown hg5 hz hrow⟩
            case measure => simp [intOf]; omega
          · have hR : Rd wr w.heap.size g (lp.drop q) 0 := hS
            have hLl : ((lp.drop q) : List Int).length ≤ 1000000 := by rw [List.length_drop, Hp.out]; omega
            have hq2 : q + 1 ≤ len0 := by omega
            have hcnd : (0 : Int) = 0 ∧ (0 : Int) ≤ 1 ∧ 1 ≤ ((lp.drop q).length : Int) := ⟨rfl, by omega, by rw [List.length_drop, Hp.out]; omega⟩
            have F1 : Hid (rdOut (lp.drop q) 0 1 = (lp.drop q).take 1) := by show _ = _; unfold rdOut; rw [if_pos hcnd]; rfl
            have F2 : Hid (rdRest (lp.drop q) 0 1 = lp.drop (q + 1)) := by show _ = _; unfold rdRest; rw [if_pos hcnd, List.drop_drop]; first | rfl | (congr 1; omega)
            have F3 : Hid (rdErr (lp.drop q) 0 1 = 0) := by show _ = _; unfold rdErr; rw [if_pos hcnd]
            have hge := hR.ge
            have hrow : ∀ g', some g = some g' → w.heap.size ≤ g' := fun g' e => by injection e with e; omega
            have F4 : Hid (((lp.drop (q + 1)).length : Int) = (len0 : Int) - ((q : Int) + 1)) := by show _ = _; rw [List.length_drop, Hp.out]; omega
            have hcut0 := RB.cut hrp2 cap0 q (by rw [Hp.out]; exact hcp)
            have hbq := hbp.drop q
            have hLq : (lp.drop q).length = len0 - q := by rw [List.length_drop, Hp.out]
            have hge := hR.ge
            have hrow : ∀ g', some g = some g' → w.heap.size ≤ g' := fun g' e => by injection e with e; omega
            clear hS hcnd
            generalize lp.drop q = lq at *
            have HLq := Lib.hid hLq
            clear hLq
            have hcut := hcut0
            rw [if_neg (by omega)] at hcut
            clear hcut0
            go_wp2
            generalize Option.map (fun x => Addr.add x q) a0 = AQ at *
            go_loop [10, 12] (fun want kk => ∃ j : Nat, Hid (j ≤ 1 ∧ j ≤ 4) ∧ kk = .int .i64 j ∧ want = .int .u32 (numBE (lq.take j))) (fun _ kk => 1 - (intOf kk).toNat)
            case atStart => exact ⟨0, ⟨Nat.zero_le _, by omega⟩, rfl, rfl⟩
            case round =>
              obtain ⟨j, HJ, rfl, rfl⟩ := hrel
              have hj := HJ.out.1
              have hj4 := HJ.out.2
              rcases (by omega : (j < 1 ∧ j < 4) ∨ (j = 1 ∨ (j = 4 ∧ 4 < 1))) with ⟨d6, d7⟩ | d6
              · obtain ⟨bq, oq, rfl, _, hcq⟩ := hcut.at_ (k := j) (by rw [HLq.out]; omega)
                have hbx := hbq.at_ j
                have hv := numBE_bd3 (lq.take j) (hbq.take j) (by rw [List.length_take]; omega)
                have HS2 : Hid (numBE (lq.take (j + 1)) = numBE (lq.take j) * 256 + lq[j]?.getD 0) := by show _ = _; rw [take_succ_getD lq j (by rw [HLq.out]; omega), numBE_snoc]
                have hor := or_u32_8 (numBE (lq.take j)) (lq[j]?.getD 0) hv.1 hv.2 hbx.1 hbx.2
                go_wp2
                go_round
                case rel => exact ⟨j + 1, ⟨by omega, by omega⟩, by go_num, by rw [HS2.out]⟩
                case measure => simp [intOf]; omega
              · obtain rfl : j = 1 := by omega
                clear d6 hj hj4
                have hbd := numBE_bd3 (lq.take 1) (hbq.take 1) (by rw [List.length_take]; omega)
                go_wp2_with (first
                  | (go_at_call 33; refine (rbyte_any w.heap.size g _ _ _ hR hz).mono ?_; rintro e w5 ⟨rfl, hR5, hg5⟩; rw [F1.out]; rw [F2.out, F3.out] at hR5)
                  | (go_at_call 30; refine (rleft_any _ _ _ _ _ hR5).mono ?_; rintro e w6 ⟨rfl, rfl⟩; rw [F4.out])
                  | (go_at_call 31; refine (rerr_any _ _ _ _ _ hR5).mono ?_; rintro e w6 ⟨rfl, rfl⟩))
                go_roundw
                case rel => exact ⟨k + 1, q + 1, false, by omega, by omega, by go_num, by go_num, rfl, hR5, hB.grown hg5 hz hrow⟩
                case measure => simp [intOf]; omega
        · rcases (by omega : (len0 : Int) - q < 1 ∨ 1 ≤ (len0 : Int) - q) with d2 | d2
          · have hR : Rd wr w.heap.size g [] 2 := hS
            have hLl : ([] : List Int).length ≤ 1000000 := by simp
            have F1 : Hid (numBE (rdOut [] 2 1) = 0) := by show numBE (rdOut [] 2 1) = _; unfold rdOut; rw [if_neg (by rintro ⟨h1, h2, h3⟩; omega)]; rfl
            have F2 : Hid (rdRest [] 2 1 = []) := by show _ = _; unfold rdRest; rw [if_neg (by rintro ⟨h1, h2, h3⟩; omega)]
            have F3 : Hid (rdErr [] 2 1 = 2) := by show _ = _; unfold rdErr; rw [if_neg (by rintro ⟨h1, h2, h3⟩; omega)]
            have hge := hR.ge
            have hrow : ∀ g', some g = some g' → w.heap.size ≤ g' := fun g' e => by injection e with e; omega
            clear hS
            go_wp2_with (first
              | (go_at_call 33; refine (rbyte_any w.heap.size g _ _ _ hR hz).mono ?_; rintro e w5 ⟨rfl, hR5, hg5⟩; rw [F1.out]; rw [F2.out, F3.out] at hR5)
              | (go_at_call 30; refine (rleft_any _ _ _ _ _ hR5).mono ?_; rintro e w6 ⟨rfl, rfl⟩)
              | (go_at_call 31; refine (rerr_any _ _ _ _ _ hR5).mono ?_; rintro e w6 ⟨rfl, rfl⟩))
            go_roundw
            case rel => exact ⟨k + 1, q, true, by omega, hq, by go_num, rfl, rfl, hR5, hB.grown hg5 hz hrow⟩
            case measure => simp [intOf]; omega
          · have hR : Rd wr w.heap.size g [] 2 := hS
            have hLl : ([] : List Int).length ≤ 1000000 := by simp
            have F1 : Hid (numBE (rdOut [] 2 1) = 0) := by show numBE (rdOut [] 2 1) = _; unfold rdOut; rw [if_neg (by rintro ⟨h1, h2, h3⟩; omega)]; rfl
            have F2 : Hid (rdRest [] 2 1 = []) := by show _ = _; unfold rdRest; rw [if_neg (by rintro ⟨h1, h2, h3⟩; omega)]
            have F3 : Hid (rdErr [] 2 1 = 2) := by show _ = _; unfold rdErr; rw [if_neg (by rintro ⟨h1, h2, h3⟩; omega)]
            have hge := hR.ge
            have hrow : ∀ g', some g = some g' → w.heap.size ≤ g' := fun g' e => by injection e with e; omega
            clear hS
            go_wp2_with (first
              | (go_at_call 33; refine (rbyte_any w.heap.size g _ _ _ hR hz).mono ?_; rintro e w5 ⟨rfl, hR5, hg5⟩; rw [F1.out]; rw [F2.out, F3.out] at hR5)
              | (go_at_call 30; refine (rleft_any _ _ _ _ _ hR5).mono ?_; rintro e w6 ⟨rfl, rfl⟩)
              | (go_at_call 31; refine (rerr_any _ _ _ _ _ hR5).mono ?_; rintro e w6 ⟨rfl, rfl⟩))
            go_roundw
            case rel => exact ⟨k + 1, q, true, by omega, hq, by go_num, rfl, rfl, hR5, hB.grown hg5 hz hrow⟩
            case measure => simp [intOf]; omega
      · cases dd
        · rcases (by omega : (len0 : Int) - q < 2 ∨ 2 ≤ (len0 : Int) - q) with d2 | d2
          · have hR : Rd wr w.heap.size g (lp.drop q) 0 := hS
            have hLl : ((lp.drop q) : List Int).length ≤ 1000000 := by rw [List.length_drop, Hp.out]; omega
            have F1 : Hid (numBE (rdOut (lp.drop q) 0 2) = 0) := by show numBE (rdOut (lp.drop q) 0 2) = _; unfold rdOut; rw [if_neg (by rintro ⟨h1, h2, h3⟩; rw [List.length_drop, Hp.out] at h3; omega)]; rfl
            have F2 : Hid (rdRest (lp.drop q) 0 2 = []) := by show _ = _; unfold rdRest; rw [if_neg (by rintro ⟨h1, h2, h3⟩; rw [List.length_drop, Hp.out] at h3; omega)]
            have F3 : Hid (rdErr (lp.drop q) 0 2 = 2) := by show _ = _; unfold rdErr; rw [if_neg (by rintro ⟨h1, h2, h3⟩; rw [List.length_drop, Hp.out] at h3; omega)]
            have hge := hR.ge
            have hrow : ∀ g', some g = some g' → w.heap.size ≤ g' := fun g' e => by injection e with e; omega
            clear hS
            go_wp2_with (first
              | (go_at_call 35; refine (rtwo16_any w.heap.size g _ _ _ hR hz).mono ?_; rintro e w5 ⟨rfl, hR5, hg5⟩; rw [F1.out]; rw [F2.out, F3.out] at hR5)
              | (go_at_call 30; refine (rleft_any _ _ _ _ _ hR5).mono ?_; rintro e w6 ⟨rfl, rfl⟩)
              | (go_at_call 31; refine (rerr_any _ _ _ _ _ hR5).mono ?_; rintro e w6 ⟨rfl, rfl⟩))
            go_roundw
            case rel => exact ⟨k + 1, q, true, by omega, hq, by go_num, rfl, rfl, hR5, hB.grown hg5 hz hrow⟩
            case measure => simp [intOf]; omega
          · have hR : Rd wr w.heap.size g (lp.drop q) 0 := hS
            have hLl : ((lp.drop q) : List Int).length ≤ 1000000 := by rw [List.length_drop, Hp.out]; omega
            have hq2 : q + 2 ≤ len0 := by omega
            have hcnd : (0 : Int) = 0 ∧ (0 : Int) ≤ 2 ∧ 2 ≤ ((lp.drop q).length : Int) := ⟨rfl, by omega, by rw [List.length_drop, Hp.out]; omega⟩
            have F1 : Hid (rdOut (lp.drop q) 0 2 = (lp.drop q).take 2) := by show _ = _; unfold rdOut; rw [if_pos hcnd]; rfl
            have F2 : Hid (rdRest (lp.drop q) 0 2 = lp.drop (q + 2)) := by show _ = _; unfold rdRest; rw [if_pos hcnd, List.drop_drop]; first | rfl | (congr 1; omega)
            have F3 : Hid (rdErr (lp.drop q) 0 2 = 0) := by show _ = _; unfold rdErr; rw [if_pos hcnd]
            have hge := hR.ge
            have hrow : ∀ g', some g = some g' → w.heap.size ≤ g' := fun g' e => by injection e with e; omega
            have F4 : Hid (((lp.drop (q + 2)).length : Int) = (len0 : Int) - ((q : Int) + 2)) := by show _ = _; rw [List.length_drop, Hp.out]; omega
            have hcut0 := RB.cut hrp2 cap0 q (by rw [Hp.out]; exact hcp)
            have hbq := hbp.drop q
            have hLq : (lp.drop q).length = len0 - q := by rw [List.length_drop, Hp.out]
            have hge := hR.ge
            have hrow : ∀ g', some g = some g' → w.heap.size ≤ g' := fun g' e => by injection e with e; omega
            clear hS hcnd
            generalize lp.drop q = lq at *
            have HLq := Lib.hid hLq
            clear hLq
            have hcut := hcut0
            rw [if_neg (by omega)] at hcut
            clear hcut0
            go_wp2
            generalize Option.map (fun x => Addr.add x q) a0 = AQ at *
            go_loop [10, 12] (fun want kk => ∃ j : Nat, Hid (j ≤ 2 ∧ j ≤ 4) ∧ kk = .int .i64 j ∧ want = .int .u32 (numBE (lq.take j))) (fun _ kk => 2 - (intOf kk).toNat)
            case atStart => exact ⟨0, ⟨Nat.zero_le _, by omega⟩, rfl, rfl⟩
            case round =>
              obtain ⟨j, HJ, rfl, rfl⟩ := hrel
              have hj := HJ.out.1
              have hj4 := HJ.out.2
              rcases (by omega : (j < 2 ∧ j < 4) ∨ (j = 2 ∨ (j = 4 ∧ 4 < 2))) with ⟨d6, d7⟩ | d6
              · obtain ⟨bq, oq, rfl, _, hcq⟩ := hcut.at_ (k := j) (by rw [HLq.out]; omega)
                have hbx := hbq.at_ j
                have hv := numBE_bd3 (lq.take j) (hbq.take j) (by rw [List.length_take]; omega)
                have HS2 : Hid (numBE (lq.take (j + 1)) = numBE (lq.take j) * 256 + lq[j]?.getD 0) := by show _ = _; rw [take_succ_getD lq j (by rw [HLq.out]; omega), numBE_snoc]
                have hor := or_u32_8 (numBE (lq.take j)) (lq[j]?.getD 0) hv.1 hv.2 hbx.1 hbx.2
                go_wp2
                go_round
                case rel => exact ⟨j + 1, ⟨by omega, by omega⟩, by go_num, by rw [HS2.out]⟩
                case measure => simp [intOf]; omega
              · obtain rfl : j = 2 := by omega
                clear d6 hj hj4
                have hbd := numBE_bd3 (lq.take 2) (hbq.take 2) (by rw [List.length_take]; omega)
                go_wp2_with (first
                  | (go_at_call 35; refine (rtwo16_any w.heap.size g _ _ _ hR hz).mono ?_; rintro e w5 ⟨rfl, hR5, hg5⟩; rw [F1.out]; rw [F2.out, F3.out] at hR5)
                  | (go_at_call 30; refine (rleft_any _ _ _ _ _ hR5).mono ?_; rintro e w6 ⟨rfl, rfl⟩; rw [F4.out])
                  | (go_at_call 31; refine (rerr_any _ _ _ _ _ hR5).mono ?_; rintro e w6 ⟨rfl, rfl⟩))
                go_roundw
                case rel => exact ⟨k + 1, q + 2, false, by omega, by omega, by go_num, by go_num, rfl, hR5, hB.grown hg5 hz hrow⟩
                case measure => simp [intOf]; omega
        · rcases (by omega : (len0 : Int) - q < 2 ∨ 2 ≤ (len0 : Int) - q) with d2 | d2
          · have hR : Rd wr w.heap.size g [] 2 := hS
            have hLl : ([] : List Int).length ≤ 1000000 := by simp
            have F1 : Hid (numBE (rdOut [] 2 2) = 0) := by show numBE (rdOut [] 2 2) = _; unfold rdOut; rw [if_neg (by rintro ⟨h1, h2, h3⟩; omega)]; rfl
            have F2 : Hid (rdRest [] 2 2 = []) := by show _ = _; unfold rdRest; rw [if_neg (by rintro ⟨h1, h2, h3⟩; omega)]
            have F3 : Hid (rdErr [] 2 2 = 2) := by show _ = _; unfold rdErr; rw [if_neg (by rintro ⟨h1, h2, h3⟩; omega)]
            have hge := hR.ge
            have hrow : ∀ g', some g = some g' → w.heap.size ≤ g' := fun g' e => by injection e with e; omega
            clear hS
            go_wp2_with (first
              | (go_at_call 35; refine (rtwo16_any w.heap.size g _ _ _ hR hz).mono ?_; rintro e w5 ⟨rfl, hR5, hg5⟩; rw [F1.out]; rw [F2.out, F3.out] at hR5)
              | (go_at_call 30; refine (rleft_any _ _ _ _ _ hR5).mono ?_; rintro e w6 ⟨rfl, rfl⟩)
              | (go_at_call 31; refine (rerr_any _ _ _ _ _ hR5).mono ?_; rintro e w6 ⟨rfl, rfl⟩))
            go_roundw
            case rel => exact ⟨k + 1, q, true, by omega, hq, by go_num, rfl, rfl, hR5, hB.grown hg5 hz hrow⟩
            case measure => simp [intOf]; omega
          · have hR : Rd wr w.heap.size g [] 2 := hS
            have hLl : ([] : List Int).length ≤ 1000000 := by simp
            have F1 : Hid (numBE (rdOut [] 2 2) = 0) := by show numBE (rdOut [] 2 2) = _; unfold rdOut; rw [if_neg (by rintro ⟨h1, h2, h3⟩; omega)]; rfl
            have F2 : Hid (rdRest [] 2 2 = []) := by show _ = _; unfold rdRest; rw [if_neg (by rintro ⟨h1, h2, h3⟩; omega)]
            have F3 : Hid (rdErr [] 2 2 = 2) := by show _ = _; unfold rdErr; rw [if_neg (by rintro ⟨h1, h2, h3⟩; omega)]
            have hge := hR.ge
            have hrow : ∀ g', some g = some g' → w.heap.size ≤ g' := fun g' e => by injection e with e; omega
            clear hS
            go_wp2_with (first
              | (go_at_call 35; refine (rtwo16_any w.heap.size g _ _ _ hR hz).mono ?_; rintro e w5 ⟨rfl, hR5, hg5⟩; rw [F1.out]; rw [F2.out, F3.out] at hR5)
              | (go_at_call 30; refine (rleft_any _ _ _ _ _ hR5).mono ?_; rintro e w6 ⟨rfl, rfl⟩)
              | (go_at_call 31; refine (rerr_any _ _ _ _ _ hR5).mono ?_; rintro e w6 ⟨rfl, rfl⟩))
            go_roundw
            case rel => exact ⟨k + 1, q, true, by omega, hq, by go_num, rfl, rfl, hR5, hB.grown hg5 hz hrow⟩
            case measure => simp [intOf]; omega
      · cases dd
        · rcases (by omega : (len0 : Int) - q < 4 ∨ 4 ≤ (len0 : Int) - q) with d2 | d2
          · have hR : Rd wr w.heap.size g (lp.drop q) 0 := hS
            have hLl : ((lp.drop q) : List Int).length ≤ 1000000 := by rw [List.length_drop, Hp.out]; omega
            have F1 : Hid (numBE (rdOut (lp.drop q) 0 4) = 0) := by show numBE (rdOut (lp.drop q) 0 4) = _; unfold rdOut; rw [if_neg (by rintro ⟨h1, h2, h3⟩; rw [List.length_drop, Hp.out] at h3; omega)]; rfl
            have F2 : Hid (rdRest (lp.drop q) 0 4 = []) := by show _ = _; unfold rdRest; rw [if_neg (by rintro ⟨h1, h2, h3⟩; rw [List.length_drop, Hp.out] at h3; omega)]
            have F3 : Hid (rdErr (lp.drop q) 0 4 = 2) := by show _ = _; unfold rdErr; rw [if_neg (by rintro ⟨h1, h2, h3⟩; rw [List.length_drop, Hp.out] at h3; omega)]
            have hge := hR.ge
            have hrow : ∀ g', some g = some g' → w.heap.size ≤ g' := fun g' e => by injection e with e; omega
            clear hS
            go_wp2_with (first
              | (go_at_call 36; refine (rfour32_any w.heap.size g _ _ _ hR hz).mono ?_; rintro e w5 ⟨rfl, hR5, hg5⟩; rw [F1.out]; rw [F2.out, F3.out] at hR5)
              | (go_at_call 30; refine (rleft_any _ _ _ _ _ hR5).mono ?_; rintro e w6 ⟨rfl, rfl⟩)
              | (go_at_call 31; refine (rerr_any _ _ _ _ _ hR5).mono ?_; rintro e w6 ⟨rfl, rfl⟩))
            go_roundw
            case rel => exact ⟨k + 1, q, true, by omega, hq, by go_num, rfl, rfl, hR5, hB.grown hg5 hz hrow⟩
            case measure => simp [intOf]; omega
          · have hR : Rd wr w.heap.size g (lp.drop q) 0 := hS
            have hLl : ((lp.drop q) : List Int).length ≤ 1000000 := by rw [List.length_drop, Hp.out]; omega
            have hq2 : q + 4 ≤ len0 := by omega
            have hcnd : (0 : Int) = 0 ∧ (0 : Int) ≤ 4 ∧ 4 ≤ ((lp.drop q).length : Int) := ⟨rfl, by omega, by rw [List.length_drop, Hp.out]; omega⟩
            have F1 : Hid (rdOut (lp.drop q) 0 4 = (lp.drop q).take 4) := by show _ = _; unfold rdOut; rw [if_pos hcnd]; rfl
            have F2 : Hid (rdRest (lp.drop q) 0 4 = lp.drop (q + 4)) := by show _ = _; unfold rdRest; rw [if_pos hcnd, List.drop_drop]; first | rfl | (congr 1; omega)
            have F3 : Hid (rdErr (lp.drop q) 0 4 = 0) := by show _ = _; unfold rdErr; rw [if_pos hcnd]
            have hge := hR.ge
            have hrow : ∀ g', some g = some g' → w.heap.size ≤ g' := fun g' e => by injection e with e; omega
            have F4 : Hid (((lp.drop (q + 4)).length : Int) = (len0 : Int) - ((q : Int) + 4)) := by show _ = _; rw [List.length_drop, Hp.out]; omega
            have hcut0 := RB.cut hrp2 cap0 q (by rw [Hp.out]; exact hcp)
            have hbq := hbp.drop q
            have hLq : (lp.drop q).length = len0 - q := by rw [List.length_drop, Hp.out]
            have hge := hR.ge
            have hrow : ∀ g', some g = some g' → w.heap.size ≤ g' := fun g' e => by injection e with e; omega
            clear hS hcnd
            generalize lp.drop q = lq at *
            have HLq := Lib.hid hLq
            clear hLq
            have hcut := hcut0
            rw [if_neg (by omega)] at hcut
            clear hcut0
            go_wp2
            generalize Option.map (fun x => Addr.add x q) a0 = AQ at *
            go_loop [10, 12] (fun want kk => ∃ j : Nat, Hid (j ≤ 4) ∧ kk = .int .i64 j ∧ want = .int .u32 (numBE (lq.take j))) (fun _ kk => 4 - (intOf kk).toNat)
            case atStart => exact ⟨0, Nat.zero_le _, rfl, rfl⟩
            case round =>
              obtain ⟨j, HJ, rfl, rfl⟩ := hrel
              have hj := HJ.out
              have hj4 := HJ.out
              rcases (by omega : (j < 4 ∧ j < 4) ∨ (j = 4 ∨ (j = 4 ∧ 4 < 4))) with ⟨d6, d7⟩ | d6
              · obtain ⟨bq, oq, rfl, _, hcq⟩ := hcut.at_ (k := j) (by rw [HLq.out]; omega)
                have hbx := hbq.at_ j
                have hv := numBE_bd3 (lq.take j) (hbq.take j) (by rw [List.length_take]; omega)
                have HS2 : Hid (numBE (lq.take (j + 1)) = numBE (lq.take j) * 256 + lq[j]?.getD 0) := by show _ = _; rw [take_succ_getD lq j (by rw [HLq.out]; omega), numBE_snoc]
                have hor := or_u32_8 (numBE (lq.take j)) (lq[j]?.getD 0) hv.1 hv.2 hbx.1 hbx.2
                go_wp2
                go_round
                case rel => exact ⟨j + 1, by show _ ≤ _; omega, by go_num, by rw [HS2.out]⟩
                case measure => simp [intOf]; omega
              · obtain rfl : j = 4 := by omega
                clear d6 hj hj4
                go_wp2_with (first
                  | (go_at_call 36; refine (rfour32_any w.heap.size g _ _ _ hR hz).mono ?_; rintro e w5 ⟨rfl, hR5, hg5⟩; rw [F1.out]; rw [F2.out, F3.out] at hR5)
                  | (go_at_call 30; refine (rleft_any _ _ _ _ _ hR5).mono ?_; rintro e w6 ⟨rfl, rfl⟩; rw [F4.out])
                  | (go_at_call 31; refine (rerr_any _ _ _ _ _ hR5).mono ?_; rintro e w6 ⟨rfl, rfl⟩))
                go_roundw
                case rel => exact ⟨k + 1, q + 4, false, by omega, by omega, by go_num, by go_num, rfl, hR5, hB.grown hg5 hz hrow⟩
                case measure => simp [intOf]; omega
        · rcases (by omega : (len0 : Int) - q < 4 ∨ 4 ≤ (len0 : Int) - q) with d2 | d2
          · have hR : Rd wr w.heap.size g [] 2 := hS
            have hLl : ([] : List Int).length ≤ 1000000 := by simp
            have F1 : Hid (numBE (rdOut [] 2 4) = 0) := by show numBE (rdOut [] 2 4) = _; unfold rdOut; rw [if_neg (by rintro ⟨h1, h2, h3⟩; omega)]; rfl
            have F2 : Hid (rdRest [] 2 4 = []) := by show _ = _; unfold rdRest; rw [if_neg (by rintro ⟨h1, h2, h3⟩; omega)]
            have F3 : Hid (rdErr [] 2 4 = 2) := by show _ = _; unfold rdErr; rw [if_neg (by rintro ⟨h1, h2, h3⟩; omega)]
            have hge := hR.ge
            have hrow : ∀ g', some g = some g' → w.heap.size ≤ g' := fun g' e => by injection e with e; omega
            clear hS
            go_wp2_with (first
              | (go_at_call 36; refine (rfour32_any w.heap.size g _ _ _ hR hz).mono ?_; rintro e w5 ⟨rfl, hR5, hg5⟩; rw [F1.out]; rw [F2.out, F3.out] at hR5)
              | (go_at_call 30; refine (rleft_any _ _ _ _ _ hR5).mono ?_; rintro e w6 ⟨rfl, rfl⟩)
              | (go_at_call 31; refine (rerr_any _ _ _ _ _ hR5).mono ?_; rintro e w6 ⟨rfl, rfl⟩))
            go_roundw
            case rel => exact ⟨k + 1, q, true, by omega, hq, by go_num, rfl, rfl, hR5, hB.grown hg5 hz hrow⟩
            case measure => simp [intOf]; omega
          · have hR : Rd wr w.heap.size g [] 2 := hS
            have hLl : ([] : List Int).length ≤ 1000000 := by simp
            have F1 : Hid (numBE (rdOut [] 2 4) = 0) := by show numBE (rdOut [] 2 4) = _; unfold rdOut; rw [if_neg (by rintro ⟨h1, h2, h3⟩; omega)]; rfl
            have F2 : Hid (rdRest [] 2 4 = []) := by show _ = _; unfold rdRest; rw [if_neg (by rintro ⟨h1, h2, h3⟩; omega)]
            have F3 : Hid (rdErr [] 2 4 = 2) := by show _ = _; unfold rdErr; rw [if_neg (by rintro ⟨h1, h2, h3⟩; omega)]
            have hge := hR.ge
            have hrow : ∀ g', some g = some g' → w.heap.size ≤ g' := fun g' e => by injection e with e; omega
            clear hS
            go_wp2_with (first
              | (go_at_call 36; refine (rfour32_any w.heap.size g _ _ _ hR hz).mono ?_; rintro e w5 ⟨rfl, hR5, hg5⟩; rw [F1.out]; rw [F2.out, F3.out] at hR5)
              | (go_at_call 30; refine (rleft_any _ _ _ _ _ hR5).mono ?_; rintro e w6 ⟨rfl, rfl⟩)
              | (go_at_call 31; refine (rerr_any _ _ _ _ _ hR5).mono ?_; rintro e w6 ⟨rfl, rfl⟩))
            go_roundw
            case rel => exact ⟨k + 1, q, true, by omega, hq, by go_num, rfl, rfl, hR5, hB.grown hg5 hz hrow⟩
            case measure => simp [intOf]; omega
      · have g1 : (kd == 1) = false := by simpa using e1
        have g2 : (kd == 2) = false := by simpa using e2
        have g3 : (kd == 4) = false := by simpa using e3
        have g1' : (kd != 1) = true := by simpa using e1
        have g2' : (kd != 2) = true := by simpa using e2
        have g3' : (kd != 4) = true := by simpa using e3
        clear e1 e2 e3
        cases dd
        · rcases (by omega : v < 0 ∨ (0 ≤ v ∧ (len0 : Int) - q < v) ∨ (0 ≤ v ∧ v ≤ (len0 : Int) - q)) with d2 | ⟨d2, d3⟩ | ⟨d2, d3⟩
          · have hR : Rd wr w.heap.size g (lp.drop q) 0 := hS
            have hLl : ((lp.drop q) : List Int).length ≤ 1000000 := by rw [List.length_drop, Hp.out]; omega
            have F1 : Hid (rdOut (lp.drop q) 0 v = []) := by show rdOut (lp.drop q) 0 v = _; unfold rdOut; rw [if_neg (by rintro ⟨h1, h2, h3⟩; rw [List.length_drop, Hp.out] at h3; omega)]
            have F2 : Hid (rdRest (lp.drop q) 0 v = []) := by show _ = _; unfold rdRest; rw [if_neg (by rintro ⟨h1, h2, h3⟩; rw [List.length_drop, Hp.out] at h3; omega)]
            have F3 : Hid (rdErr (lp.drop q) 0 v = 2) := by show _ = _; unfold rdErr; rw [if_neg (by rintro ⟨h1, h2, h3⟩; rw [List.length_drop, Hp.out] at h3; omega)]
            have hge := hR.ge
            have hrow : ∀ g', some g = some g' → w.heap.size ≤ g' := fun g' e => by injection e with e; omega
            clear hS
            go_wp2_with (first
              | (go_at_call 32; refine (rraw_any w.heap.size g _ hLl _ v _ hR hz).mono ?_; rintro e w4 ⟨A5, n5, c5, rfl, hO5, hR5, hg5⟩; rw [F1.out] at hO5; rw [F2.out, F3.out] at hR5; have L5 := Lib.hid hO5.length)
              | (go_at_call 29; refine (same_any _ _ _ _ _ _ _ _ [] [] L5.out (by rfl) (by rw [← L5.out]; simp) (by omega) Bs.nil Bs.nil _ hO5.rb (Rw.nil _ 0 _)).mono ?_; rintro e w5 ⟨rfl, q5, rfl⟩)
              | (go_at_call 30; refine (rleft_any _ _ _ _ _ (hR5.drewN q5)).mono ?_; rintro e w6 ⟨rfl, rfl⟩)
              | (go_at_call 31; refine (rerr_any _ _ _ _ _ (hR5.drewN q5)).mono ?_; rintro e w6 ⟨rfl, rfl⟩))
            go_roundw
            case rel => exact ⟨k + 1, q, true, by omega, hq, by go_num, rfl, rfl, hR5.drewN q5, bel_drewN (hB.grown hg5 hz hrow) q5⟩
            case measure => simp [intOf]; omega
          · have hR : Rd wr w.heap.size g (lp.drop q) 0 := hS
            have hLl : ((lp.drop q) : List Int).length ≤ 1000000 := by rw [List.length_drop, Hp.out]; omega
            have F1 : Hid (rdOut (lp.drop q) 0 v = []) := by show rdOut (lp.drop q) 0 v = _; unfold rdOut; rw [if_neg (by rintro ⟨h1, h2, h3⟩; rw [List.length_drop, Hp.out] at h3; omega)]
            have F2 : Hid (rdRest (lp.drop q) 0 v = []) := by show _ = _; unfold rdRest; rw [if_neg (by rintro ⟨h1, h2, h3⟩; rw [List.length_drop, Hp.out] at h3; omega)]
            have F3 : Hid (rdErr (lp.drop q) 0 v = 2) := by show _ = _; unfold rdErr; rw [if_neg (by rintro ⟨h1, h2, h3⟩; rw [List.length_drop, Hp.out] at h3; omega)]
            have hge := hR.ge
            have hrow : ∀ g', some g = some g' → w.heap.size ≤ g' := fun g' e => by injection e with e; omega
            clear hS
            go_wp2_with (first
              | (go_at_call 32; refine (rraw_any w.heap.size g _ hLl _ v _ hR hz).mono ?_; rintro e w4 ⟨A5, n5, c5, rfl, hO5, hR5, hg5⟩; rw [F1.out] at hO5; rw [F2.out, F3.out] at hR5; have L5 := Lib.hid hO5.length)
              | (go_at_call 29; refine (same_any _ _ _ _ _ _ _ _ [] [] L5.out (by rfl) (by rw [← L5.out]; simp) (by omega) Bs.nil Bs.nil _ hO5.rb (Rw.nil _ 0 _)).mono ?_; rintro e w5 ⟨rfl, q5, rfl⟩)
              | (go_at_call 30; refine (rleft_any _ _ _ _ _ (hR5.drewN q5)).mono ?_; rintro e w6 ⟨rfl, rfl⟩)
              | (go_at_call 31; refine (rerr_any _ _ _ _ _ (hR5.drewN q5)).mono ?_; rintro e w6 ⟨rfl, rfl⟩))
            go_roundw
            case rel => exact ⟨k + 1, q, true, by omega, hq, by go_num, rfl, rfl, hR5.drewN q5, bel_drewN (hB.grown hg5 hz hrow) q5⟩
            case measure => simp [intOf]; omega
          · obtain ⟨nn, rfl⟩ := Int.eq_ofNat_of_zero_le d2
            have hR : Rd wr w.heap.size g (lp.drop q) 0 := hS
            have hLl : ((lp.drop q) : List Int).length ≤ 1000000 := by rw [List.length_drop, Hp.out]; omega
            have hq2 : q + nn ≤ len0 := by omega
            have hcnd : (0 : Int) = 0 ∧ (0 : Int) ≤ (nn : Int) ∧ (nn : Int) ≤ ((lp.drop q).length : Int) := ⟨rfl, by omega, by rw [List.length_drop, Hp.out]; omega⟩
            have F1 : Hid (rdOut (lp.drop q) 0 (nn : Int) = (lp.drop q).take nn) := by show _ = _; unfold rdOut; rw [if_pos hcnd]; rfl
            have F2 : Hid (rdRest (lp.drop q) 0 (nn : Int) = lp.drop (q + nn)) := by show _ = _; unfold rdRest; rw [if_pos hcnd, List.drop_drop]; first | rfl | (congr 1; omega)
            have F3 : Hid (rdErr (lp.drop q) 0 (nn : Int) = 0) := by show _ = _; unfold rdErr; rw [if_pos hcnd]
            have hge := hR.ge
            have hrow : ∀ g', some g = some g' → w.heap.size ≤ g' := fun g' e => by injection e with e; omega
            have F4 : Hid (((lp.drop (q + nn)).length : Int) = (len0 : Int) - ((q : Int) + (nn : Int))) := by show _ = _; rw [List.length_drop, Hp.out]; omega
            have hcut0 := RB.cut hrp2 cap0 q (by rw [Hp.out]; exact hcp)
            have hbq := hbp.drop q
            have hLq : (lp.drop q).length = len0 - q := by rw [List.length_drop, Hp.out]
            clear hS hcnd
            generalize lp.drop q = lq at *
            have HLq := Lib.hid hLq
            clear hLq
            rcases Nat.eq_zero_or_pos nn with d5 | d5
            · subst d5
              replace F1 : Hid (rdOut lq 0 0 = lq.take 0) := F1
              replace F2 : Hid (rdRest lq 0 0 = lp.drop (q + 0)) := F2
              replace F3 : Hid (rdErr lq 0 0 = 0) := F3
              replace F4 : Hid (((lp.drop (q + 0)).length : Int) = (len0 : Int) - (q : Int)) := by have := F4.out; show _ = _; omega
              clear d2
              obtain ⟨AQ, hif⟩ : ∃ AQ, (if cap0 = q then a0 else Option.map (fun x => Addr.add x q) a0) = AQ := ⟨_, rfl⟩
              go_wp2
              go_loop [10, 12] (fun _ kk => kk = .int .i64 0) (fun _ _ => 0)
              case atStart => rfl
              case round =>
                obtain rfl := hrel
                go_wp2_with (first
                  | (go_at_call 32; refine (rraw_any w.heap.size g _ hLl _ 0 _ hR hz).mono ?_; rintro e w4 ⟨A5, n5, c5, rfl, hO5, hR5, hg5⟩; rw [F1.out] at hO5; rw [F2.out, F3.out] at hR5; have L5 := Lib.hid hO5.length)
                  | (go_at_call 29; refine (same_any _ _ _ _ _ _ _ _ (lq.take 0) (lq.take 0) L5.out (by rw [List.length_take, HLq.out]; omega) (by rw [← L5.out, List.length_take, HLq.out]; omega) (by omega) (hbq.take _) (hbq.take _) _ hO5.rb (Rw.nil _ 0 _)).mono ?_; rintro e w5 ⟨rfl, q5, rfl⟩)
                  | (go_at_call 30; refine (rleft_any _ _ _ _ _ (hR5.drewN q5)).mono ?_; rintro e w6 ⟨rfl, rfl⟩; rw [F4.out])
                  | (go_at_call 31; refine (rerr_any _ _ _ _ _ (hR5.drewN q5)).mono ?_; rintro e w6 ⟨rfl, rfl⟩))
                go_roundw
                case rel => exact ⟨k + 1, q + 0, false, by omega, by omega, by go_num, by go_num, rfl, hR5.drewN q5, bel_drewN (hB.grown hg5 hz hrow) q5⟩
                case measure => simp [intOf]; omega
            · have hcut := hcut0
              rw [if_neg (by omega)] at hcut
              clear hcut0
              go_wp2
              generalize Option.map (fun x => Addr.add x q) a0 = AQ at *
              go_loop [10, 12] (fun want kk => ∃ j : Nat, Hid (j ≤ nn ∧ j ≤ 4) ∧ kk = .int .i64 j ∧ want = .int .u32 (numBE (lq.take j))) (fun _ kk => nn - (intOf kk).toNat)
              case atStart => exact ⟨0, ⟨Nat.zero_le _, by omega⟩, rfl, rfl⟩
              case round =>
                obtain ⟨j, HJ, rfl, rfl⟩ := hrel
                have hj := HJ.out.1
                have hj4 := HJ.out.2
                rcases (by omega : (j < nn ∧ j < 4) ∨ (j = nn ∨ (j = 4 ∧ 4 < nn))) with ⟨d6, d7⟩ | d6
                · obtain ⟨bq, oq, rfl, _, hcq⟩ := hcut.at_ (k := j) (by rw [HLq.out]; omega)
                  have hbx := hbq.at_ j
                  have hv := numBE_bd3 (lq.take j) (hbq.take j) (by rw [List.length_take]; omega)
                  have HS2 : Hid (numBE (lq.take (j + 1)) = numBE (lq.take j) * 256 + lq[j]?.getD 0) := by show _ = _; rw [take_succ_getD lq j (by rw [HLq.out]; omega), numBE_snoc]
                  have hor := or_u32_8 (numBE (lq.take j)) (lq[j]?.getD 0) hv.1 hv.2 hbx.1 hbx.2
                  go_wp2
                  go_round
                  case rel => exact ⟨j + 1, ⟨by omega, by omega⟩, by go_num, by rw [HS2.out]⟩
                  case measure => simp [intOf]; omega
                · rcases d6 with d6 | ⟨d6, d8⟩
                  · subst d6
                    clear hj hj4 HJ
                    go_wp2_with (first
                      | (go_at_call 32; refine (rraw_any w.heap.size g _ hLl _ (j : Int) _ hR hz).mono ?_; rintro e w4 ⟨A5, n5, c5, rfl, hO5, hR5, hg5⟩; rw [F1.out] at hO5; rw [F2.out, F3.out] at hR5; have L5 := Lib.hid hO5.length)
                      | (go_at_call 29; refine (same_any _ _ _ _ _ _ _ _ (lq.take j) (lq.take j) L5.out (by rw [List.length_take, HLq.out]; omega) (by rw [← L5.out, List.length_take, HLq.out]; omega) (by omega) (hbq.take _) (hbq.take _) _ hO5.rb (by exact (Rw.grown (RB.take hcut _) hg5 hz hrow))).mono ?_; rintro e w5 ⟨rfl, q5, rfl⟩)
                      | (go_at_call 30; refine (rleft_any _ _ _ _ _ (hR5.drewN q5)).mono ?_; rintro e w6 ⟨rfl, rfl⟩; rw [F4.out])
                      | (go_at_call 31; refine (rerr_any _ _ _ _ _ (hR5.drewN q5)).mono ?_; rintro e w6 ⟨rfl, rfl⟩))
                    go_roundw
                    case rel => exact ⟨k + 1, q + j, false, by omega, by omega, by go_num, by go_num, rfl, hR5.drewN q5, bel_drewN (hB.grown hg5 hz hrow) q5⟩
                    case measure => simp [intOf]; omega
                  · subst d6
                    clear hj hj4 HJ
                    go_wp2_with (first
                      | (go_at_call 32; refine (rraw_any w.heap.size g _ hLl _ (nn : Int) _ hR hz).mono ?_; rintro e w4 ⟨A5, n5, c5, rfl, hO5, hR5, hg5⟩; rw [F1.out] at hO5; rw [F2.out, F3.out] at hR5; have L5 := Lib.hid hO5.length)
                      | (go_at_call 29; refine (same_any _ _ _ _ _ _ _ _ (lq.take nn) (lq.take nn) L5.out (by rw [List.length_take, HLq.out]; omega) (by rw [← L5.out, List.length_take, HLq.out]; omega) (by omega) (hbq.take _) (hbq.take _) _ hO5.rb (by exact (Rw.grown (RB.take hcut _) hg5 hz hrow))).mono ?_; rintro e w5 ⟨rfl, q5, rfl⟩)
                      | (go_at_call 30; refine (rleft_any _ _ _ _ _ (hR5.drewN q5)).mono ?_; rintro e w6 ⟨rfl, rfl⟩; rw [F4.out])
                      | (go_at_call 31; refine (rerr_any _ _ _ _ _ (hR5.drewN q5)).mono ?_; rintro e w6 ⟨rfl, rfl⟩))
                    go_roundw
                    case rel => exact ⟨k + 1, q + nn, false, by omega, by omega, by go_num, by go_num, rfl, hR5.drewN q5, bel_drewN (hB.grown hg5 hz hrow) q5⟩
                    case measure => simp [intOf]; omega
        · rcases (by omega : v < 0 ∨ (0 ≤ v ∧ (len0 : Int) - q < v) ∨ (0 ≤ v ∧ v ≤ (len0 : Int) - q)) with d2 | ⟨d2, d3⟩ | ⟨d2, d3⟩
          · have hR : Rd wr w.heap.size g [] 2 := hS
            have hLl : ([] : List Int).length ≤ 1000000 := by simp
            have F1 : Hid (rdOut [] 2 v = []) := by show rdOut [] 2 v = _; unfold rdOut; rw [if_neg (by rintro ⟨h1, h2, h3⟩; omega)]
            have F2 : Hid (rdRest [] 2 v = []) := by show _ = _; unfold rdRest; rw [if_neg (by rintro ⟨h1, h2, h3⟩; omega)]
            have F3 : Hid (rdErr [] 2 v = 2) := by show _ = _; unfold rdErr; rw [if_neg (by rintro ⟨h1, h2, h3⟩; omega)]
            have hge := hR.ge
            have hrow : ∀ g', some g = some g' → w.heap.size ≤ g' := fun g' e => by injection e with e; omega
            clear hS
            go_wp2_with (first
              | (go_at_call 32; refine (rraw_any w.heap.size g _ hLl _ v _ hR hz).mono ?_; rintro e w4 ⟨A5, n5, c5, rfl, hO5, hR5, hg5⟩; rw [F1.out] at hO5; rw [F2.out, F3.out] at hR5; have L5 := Lib.hid hO5.length)
              | (go_at_call 29; refine (same_any _ _ _ _ _ _ _ _ [] [] L5.out (by rfl) (by rw [← L5.out]; simp) (by omega) Bs.nil Bs.nil _ hO5.rb (Rw.nil _ 0 _)).mono ?_; rintro e w5 ⟨rfl, q5, rfl⟩)
              | (go_at_call 30; refine (rleft_any _ _ _ _ _ (hR5.drewN q5)).mono ?_; rintro e w6 ⟨rfl, rfl⟩)
              | (go_at_call 31; refine (rerr_any _ _ _ _ _ (hR5.drewN q5)).mono ?_; rintro e w6 ⟨rfl, rfl⟩))
            go_roundw
            case rel => exact ⟨k + 1, q, true, by omega, hq, by go_num, rfl, rfl, hR5.drewN q5, bel_drewN (hB.grown hg5 hz hrow) q5⟩
            case measure => simp [intOf]; omega
          · have hR : Rd wr w.heap.size g [] 2 := hS
            have hLl : ([] : List Int).length ≤ 1000000 := by simp
            have F1 : Hid (rdOut [] 2 v = []) := by show rdOut [] 2 v = _; unfold rdOut; rw [if_neg (by rintro ⟨h1, h2, h3⟩; omega)]
            have F2 : Hid (rdRest [] 2 v = []) := by show _ = _; unfold rdRest; rw [if_neg (by rintro ⟨h1, h2, h3⟩; omega)]
            have F3 : Hid (rdErr [] 2 v = 2) := by show _ = _; unfold rdErr; rw [if_neg (by rintro ⟨h1, h2, h3⟩; omega)]
            have hge := hR.ge
            have hrow : ∀ g', some g = some g' → w.heap.size ≤ g' := fun g' e => by injection e with e; omega
            clear hS
            go_wp2_with (first
              | (go_at_call 32; refine (rraw_any w.heap.size g _ hLl _ v _ hR hz).mono ?_; rintro e w4 ⟨A5, n5, c5, rfl, hO5, hR5, hg5⟩; rw [F1.out] at hO5; rw [F2.out, F3.out] at hR5; have L5 := Lib.hid hO5.length)
              | (go_at_call 29; refine (same_any _ _ _ _ _ _ _ _ [] [] L5.out (by rfl) (by rw [← L5.out]; simp) (by omega) Bs.nil Bs.nil _ hO5.rb (Rw.nil _ 0 _)).mono ?_; rintro e w5 ⟨rfl, q5, rfl⟩)
              | (go_at_call 30; refine (rleft_any _ _ _ _ _ (hR5.drewN q5)).mono ?_; rintro e w6 ⟨rfl, rfl⟩)
              | (go_at_call 31; refine (rerr_any _ _ _ _ _ (hR5.drewN q5)).mono ?_; rintro e w6 ⟨rfl, rfl⟩))
            go_roundw
            case rel => exact ⟨k + 1, q, true, by omega, hq, by go_num, rfl, rfl, hR5.drewN q5, bel_drewN (hB.grown hg5 hz hrow) q5⟩
            case measure => simp [intOf]; omega
          · have hR : Rd wr w.heap.size g [] 2 := hS
            have hLl : ([] : List Int).length ≤ 1000000 := by simp
            have F1 : Hid (rdOut [] 2 v = []) := by show rdOut [] 2 v = _; unfold rdOut; rw [if_neg (by rintro ⟨h1, h2, h3⟩; omega)]
            have F2 : Hid (rdRest [] 2 v = []) := by show _ = _; unfold rdRest; rw [if_neg (by rintro ⟨h1, h2, h3⟩; omega)]
            have F3 : Hid (rdErr [] 2 v = 2) := by show _ = _; unfold rdErr; rw [if_neg (by rintro ⟨h1, h2, h3⟩; omega)]
            have hge := hR.ge
            have hrow : ∀ g', some g = some g' → w.heap.size ≤ g' := fun g' e => by injection e with e; omega
            clear hS
            go_wp2_with (first
              | (go_at_call 32; refine (rraw_any w.heap.size g _ hLl _ v _ hR hz).mono ?_; rintro e w4 ⟨A5, n5, c5, rfl, hO5, hR5, hg5⟩; rw [F1.out] at hO5; rw [F2.out, F3.out] at hR5; have L5 := Lib.hid hO5.length)
              | (go_at_call 29; refine (same_any _ _ _ _ _ _ _ _ [] [] L5.out (by rfl) (by rw [← L5.out]; simp) (by omega) Bs.nil Bs.nil _ hO5.rb (Rw.nil _ 0 _)).mono ?_; rintro e w5 ⟨rfl, q5, rfl⟩)
              | (go_at_call 30; refine (rleft_any _ _ _ _ _ (hR5.drewN q5)).mono ?_; rintro e w6 ⟨rfl, rfl⟩)
              | (go_at_call 31; refine (rerr_any _ _ _ _ _ (hR5.drewN q5)).mono ?_; rintro e w6 ⟨rfl, rfl⟩))
            go_roundw
            case rel => exact ⟨k + 1, q, true, by omega, hq, by go_num, rfl, rfl, hR5.drewN q5, bel_drewN (hB.grown hg5 hz hrow) q5⟩
            case measure => simp [intOf]; omega
    · go_wp2_with (go_at_call 18; refine (known_any _).mono ?_; rintro e w2 ⟨rfl, hB2⟩)
      go_ret
      exact ⟨rfl, hB.trans (hB2.mono hB.size)⟩

/-! ### the row -/
set_option maxRecDepth 100000 in
theorem lifted (os : Os) (started : os.Started) (H : Type) (enc : TypeId × Value → H) :
    ReturnsInHanded {} Try.checked os 10 .any (Rows.octetReadsSpec.pre6 enc Try.prog Try.f10 Rows.octetReadsRow.domain false) (Rows.octetReadsSpec.post enc Try.prog Try.f10 false true false false) := by
  refine returnsInHanded_of_change_sized (C := Try.checked) own started (by kernel_rfl) Try.func10
    (ChangeSpec.witness6 (enc := enc) (C := Try.checked) false ⟨#[], #[.slice none 0 0, .slice none 0 0], []⟩ 8 (by kernel_rfl) (by kernel_rfl) (by kernel_rfl) (by kernel_rfl)) ?_
  intro W base args ds gs before hval0 hW hcnd hsz0 _
  have hval : ∀ (j : Nat) t v, Try.f10.params[j]? = some t → args[j]? = some v → Value.okWide Try.prog W .any base t v := hval0
  have hsz : (DataW.weightsEach Try.prog (Try.f10.params.toList ++ Rows.octetReadsSpec.plain.varTypes Try.prog) (ds ++ gs)).all (· ≤ reachBytes) = true := hsz0
  clear hsz0
  have hW' := hW
  obtain ⟨p, q, hA0, hV, rfl, hfz, hnd⟩ := hW
  have hA : DataW.TrodAll enc Try.prog W 0 (fun _ => true) true Try.f10.params.toList args.toList ds p := hA0
  rw [Try.params10] at hA hval hsz
  obtain ⟨v0, vs0, d0, ds0, p0, q0, hargs, rfl, rfl, h0, r0⟩ := trodAll_cons hA
  obtain ⟨v1, vs1, d1, ds1, p1, q1, rfl, rfl, rfl, h1, r1⟩ := trodAll_cons r0
  obtain ⟨rfl, rfl, rfl⟩ := trodAll_nil r1
  obtain rfl : args = #[v0, v1] := by cases args; simp_all
  obtain ⟨rfl, rfl⟩ := trodVars_none hV
  obtain ⟨a0, len0, cap0, rfl⟩ := okWide_slice Try.underlying22 (hval 0 22 v0 rfl rfl)
  have k0 := h0
  have lt0 : ∀ x ∈ p0, x.block < W.heap.size := by obtain ⟨m, hm⟩ := k0; exact DataW.trod_lt m _ _ _ hm
  obtain ⟨z0, w0⟩ : ∃ zs, IsRow .u8 W a0 len0 cap0 zs ∧ cap0 ≤ 140737488351232 := by
    obtain ⟨fuel, hf⟩ := h0
    rcases open_ints Try.underlying22 Try.underlying5 (by kernel_rfl) hf with ⟨hcs, _⟩ | ⟨x, l, c, zs, hcs, _, hl, hm, hz, hx, hcell, hwz⟩
    · simp [Value.cells] at hcs
      obtain ⟨rfl, rfl, rfl⟩ := hcs
      exact ⟨[], .inl ⟨rfl, rfl, rfl, rfl⟩, by omega⟩
    · simp [Value.cells] at hcs
      obtain ⟨rfl, rfl, rfl⟩ := hcs
      simp only [Prod.mk.injEq] at hx
      obtain ⟨rfl, rfl⟩ := hx
      simp only [if_true] at hz
      have hm2 := sized_slice hsz (j := 0) (t := 22) (e := 5) rfl rfl Try.underlying22
      rw [show Try.prog.bytesOf 5 = 1 from by kernel_rfl] at hm2
      simp only [lits, List.length_map, List.length_take, List.length_drop, reachBytes] at hm2
      exact ⟨zs, .inr ⟨_, rfl, hl, hm, hz, hcell, hwz⟩, by omega⟩
  obtain ⟨a1, len1, cap1, rfl⟩ := okWide_slice Try.underlying32 (hval 1 32 v1 rfl rfl)
  have k1 := h1
  have lt1 : ∀ x ∈ p1, x.block < W.heap.size := by obtain ⟨m, hm⟩ := k1; exact DataW.trod_lt m _ _ _ hm
  obtain ⟨l1, w1⟩ : ∃ l1 : List OpV, l1.length = len1 ∧ len1 ≤ cap1 ∧ cap1 * 40 ≤ 140737488351232 ∧ Ops W W.heap.size a1 l1 := by
    obtain ⟨fuel, hf⟩ := h1
    exact open_ops (by simpa [Value.cells] using hf) (fun k hk => by have := List.all_eq_true.1 hsz k (DataW.weights_mem_each (j := 1) rfl rfl k hk); simpa using this)
  clear hA0 hval0
  refine (walk a0 len0 cap0 z0 a1 len1 cap1 l1 W w0 w1).mono fun e W' ⟨he, bel⟩ => ?_
  subst he
  exact ⟨_, rfl, _, _, _, [], _, [], hW', trodAll_mk1 (shut_bool Try.underlying4 _), (trodAll_cons_mk (Below.trod laidOut (by kernel_rfl) (of_decide_eq_true (by kernel_rfl)) k0 bel lt0) (trodAll_cons_mk (Below.trod laidOut (by kernel_rfl) (of_decide_eq_true (by kernel_rfl)) k1 bel lt1) trodAll_mk0)), rfl, bel.frame _, fun h => by cases h⟩

theorem over : Rows.octetReadsRow.holds Try.pinned (OpenSpec.ofChange Rows.octetReadsSpec) :=
  OpenClaim.holds_of_wide 10 Try.f10 rfl rfl rfl rfl rfl rfl rfl ⟨rfl, rfl, rfl, rfl, rfl⟩ rfl rfl rfl rfl rfl (by kernel_rfl) Try.func10 (by kernel_rfl)
    (of_decide_eq_true (by kernel_rfl)) (by unfold Func.isWrapper; first | (rw [if_pos (by decide +kernel)]; kernel_rfl) | (rw [if_neg (by decide +kernel)]; exact ⟨rfl, rfl⟩))
    (fun os started H enc _ => lifted os started H enc)

theorem proved : Rows.OctetReadsSaid := over
#print axioms proved
end Go.Proofs.Ytnjleligdeobeaa.octetReads
