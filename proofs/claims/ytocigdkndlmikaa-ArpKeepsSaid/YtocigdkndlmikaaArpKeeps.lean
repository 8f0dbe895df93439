/- Proved: a packet that waits comes out once, as it was, when its neighbour is learnt; of more than fit the last ones. Conditions: none, for every input. -/
import Derived.Test.YtocigdkndlmikaaRows
import Derived.WalkKit
import Derived.ProofKit
import Derived.OpenShut
import Derived.ShutString
import Derived.ChangeOld
import Derived.Below
import Derived.SizedLaws
import Derived.Test.YtocigdkndlmikaaKeep
namespace Go.Proofs.Ytocigdkndlmikaa.arpKeeps
open Go.ChangeShapes Go.WideShapes Go.ChangeAt Go.RowKit
open Go.ChangeMaps (open_string shut_string)
set_option linter.unusedVariables false

theorem own : ownKnob Try.prog.godebug = none := by kernel_rfl
theorem laidOut : laidOutB Try.prog = true := by kernel_rfl

/-! ### the walk -/
set_option maxRecDepth 100000 in
set_option maxHeartbeats 4000000 in
theorem walk (a0 : Int) (v1 : Value) (v2 : Value) (w : World) (w0 : (Lit.int .u32 a0).wf = true) (w1 : ViewRows w v1) (w2 : ViewMAC w v2) :
    Calls Try.prog 3 #[.int .u32 a0, v1, v2] w fun e w' => e = .returned (.bool true) ∧ Below w.heap.size w w' := by
  obtain ⟨A, n, cap, l, rfl, hcap, hcap2, hl, hSL, hok⟩ := w1
  obtain ⟨m0, m1, m2, m3, m4, m5, rfl, _⟩ := w2
  have hoa : okA a0 := bounds_u32 w0
  have hrw : Rw w w.heap.size A (l.map rowV) := hSL.rw1
  have HR := Lib.hid hrw
  have HOK := Lib.hid hok
  have HL := Lib.hid hl
  clear hSL hok hrw hl
  go_enter Try.func3, Try.ntmps3
  go_wp2
  go_loop [7, 8] (fun s i => ∃ (k : Nat) (t : Int), k ≤ n ∧ i = .int .i64 k ∧ s = .int .i64 t ∧ Hid (t = rtot (l.take k)) ∧ 0 ≤ t ∧ t ≤ 140737488400000) (fun _ i => n - (intOf i).toNat)
  case atStart => exact ⟨0, 0, Nat.zero_le _, rfl, rfl, by show (0 : Int) = _; simp [rtot], by omega, by omega⟩
  case round =>
    obtain ⟨k, t, hk, rfl, rfl, HT, ht0, ht1⟩ := hrel
    rcases (by omega : t ≤ 4000 ∨ 4000 < t) with c2 | c2
    · rcases Nat.lt_or_ge k n with c1 | c1
      · obtain ⟨x, hx⟩ : ∃ o, l[k]? = some o := ⟨_, List.getElem?_eq_getElem (by rw [HL.out]; exact c1)⟩
        have hvx : (l.map rowV)[k]? = some (rowV x) := by rw [List.getElem?_map, hx]; rfl
        obtain ⟨b, off, rfl, hb, hcell⟩ := HR.out.at_ hvx
        have hcell := (World.cell?_alloc_lt w (.cells #[.int .u8 m0, .int .u8 m1, .int .u8 m2, .int .u8 m3, .int .u8 m4, .int .u8 m5] 26) ⟨b, off + k, none⟩ hb).trans hcell
        have hox := HOK.out x (List.mem_of_getElem? hx)
        obtain ⟨_, _, _, hxc, hxc2⟩ := hox
        have HT2 : Hid (t + 1 + x.n = rtot (l.take (k + 1))) := by
          show _ = _
          rw [take_snoc_r l k x hx, rtot_append, ← HT.out]
          simp only [rtot]; omega
        unfold rowV at hcell
        clear hvx hx
        go_wp2
        go_round
        case rel => exact ⟨k + 1, t + 1 + x.n, by omega, by go_num, by go_num, HT2, by omega, by omega⟩
        case measure => simp [intOf]; omega
      · have hkn : k = n := by omega
        subst hkn
        have HT0 : Hid (rtot l ≤ 4000) := by
          show _ ≤ _
          have := HT.out
          rw [List.take_of_length_le (by rw [HL.out]; exact Nat.le_refl _)] at this
          omega
        have hk4 : (k : Int) ≤ 4000 := by have := rtot_nonneg l; rw [HL.out] at this; have := HT0.out; omega
        obtain ⟨g, hg⟩ : ∃ g, w.heap.size + 1 = g := ⟨_, rfl⟩
        obtain ⟨W0, hW0⟩ : ∃ W0, w.alloc (.cells #[.int .u8 m0, .int .u8 m1, .int .u8 m2, .int .u8 m3, .int .u8 m4, .int .u8 m5] 26) = W0 := ⟨_, rfl⟩
        obtain ⟨W1, hW1⟩ : ∃ W1, W0.alloc (.cells #[.map none] 32) = W1 := ⟨_, rfl⟩
        have hz0 : W0.heap.size = g := by rw [← hW0, ← hg]; simp
        have hz1 : W1.heap.size = g + 1 := by rw [← hW1, World.size_alloc, hz0]
        have hk1 : Bk W1 g 32 #[.map none] := by rw [← hW1, ← hz0]; exact Bk.new W0 _ _
        have hB0 : Below w.heap.size w W0 := by rw [← hW0]; exact (Below.refl _ _).alloc (Nat.le_refl _) _
        have hB1 : Below W0.heap.size W0 W1 := by rw [← hW1]; exact (Below.refl _ _).alloc (Nat.le_refl _) _
        have ht0' : Bk W0 w.heap.size 26 #[.int .u8 m0, .int .u8 m1, .int .u8 m2, .int .u8 m3, .int .u8 m4, .int .u8 m5] := by rw [← hW0]; exact Bk.new w _ _
        have ht1' := ht0'.below hB1 ht0'.lt
        have hc1 : CacheAt W1 (fun b => g ≤ b) g [] := CacheAt.new hk1 (Nat.le_refl _)
        have HW1 : Hid ((w.alloc (.cells #[.int .u8 m0, .int .u8 m1, .int .u8 m2, .int .u8 m3, .int .u8 m4, .int .u8 m5] 26)).alloc (.cells #[.map none] 32) = W1) := Lib.hid (by rw [hW0]; exact hW1)
        have HB1 : Hid (Below w.heap.size w W1) := Lib.hid (hB0.trans (hB1.mono hB0.size))
        have HT1 := Lib.hid ht1'
        have HG := Lib.hid hg
        have HZ := Lib.hid hz1
        have HC1 := Lib.hid hc1
        clear hW0 hW1 hk1 hz0 hB0 hB1 hg hz1 ht0' ht1' hc1 c1 ht0 ht1
        go_wp2
        rw [HW1.out, HG.out]
        go_loopw [10] (fun i wr => ∃ (j : Nat) (S : List En), j ≤ k ∧ i = .int .i64 j ∧ Hid (CacheAt wr (fun b => g ≤ b) g S) ∧ Hid (absT S = if j = 0 then [] else [(a0, oneNb (lst3 ((l.map (·.l)).take j)))]) ∧ Hid (Below g W1 wr)) (fun i _ => k - (intOf i).toNat)
        case atStart => exact ⟨0, [], Nat.zero_le _, rfl, HC1, Lib.hid rfl, Lib.hid (Below.refl _ _)⟩
        case round =>
          obtain ⟨j, S, hj, rfl, HS, HA, HB⟩ := hrel
          rcases Nat.lt_or_ge j k with d1 | d1
          · obtain ⟨x, hx⟩ : ∃ o, l[j]? = some o := ⟨_, List.getElem?_eq_getElem (by rw [HL.out]; exact d1)⟩
            have hvx : (l.map rowV)[j]? = some (rowV x) := by rw [List.getElem?_map, hx]; rfl
            obtain ⟨b, off, rfl, hb, hcell⟩ := HR.out.at_ hvx
            have HBW : Hid (Below w.heap.size w wr) := Lib.hid (HB1.out.trans (HB.out.mono (by have := HG.out; omega)))
            have hcell := (HBW.out.cell (p := ⟨b, off + j, none⟩) hb).trans hcell
            have hox := HOK.out x (List.mem_of_getElem? hx)
            obtain ⟨hx1, hx2, hx3, hx4, hx5⟩ := hox
            have hx6 := rtot_mem (List.mem_of_getElem? hx)
            have hx7 : x.n ≤ 4000 := by have := HT0.out; omega
            have hr : RB wr w.heap.size x.A x.l := Rw.below hx1 HBW.out
            have hsz := HBW.out.size
            have HS2 : Hid (∀ ask : Bool, ask = ((l.map (·.l)).take j).isEmpty → Calls Try.prog 13 #[.pointer (some ⟨g, 0, none⟩), .int .u32 a0, .slice x.A x.n x.c, .int .i64 3] wr (SendPost wr (fun b => g ≤ b) g (toldC false noMac ask false) [(a0, oneNb (lst3 ((l.map (·.l)).take (j + 1))))])) := Lib.hid (by
              intro ask hask
              have := send_keep a0 hoa x.A x.n x.c _ x.l hx3 (by omega) hx2 wr hr hsz (fun b => g ≤ b) g S HS.out ((l.map (·.l)).take j) (by
                rw [HA.out]
                rcases j with _ | j
                · rfl
                · rw [if_neg (by omega), if_neg (by
                    intro e
                    have := congrArg List.length e
                    simp [HL.out] at this
                    omega)])
              rw [hask, take_snoc_r _ j x.l (by rw [List.getElem?_map, hx]; rfl)]
              exact this)
            have hemp : ((l.map (·.l)).take j).isEmpty = decide (j = 0) := by
              rcases j with _ | j
              · rfl
              · have hne : ((l.map (·.l)).take (j + 1)) ≠ [] := by
                  intro e
                  have := congrArg List.length e
                  simp [HL.out] at this
                  omega
                rw [show decide (j + 1 = 0) = false from by simp]
                cases hq : (l.map (·.l)).take (j + 1) with
                | nil => exact absurd hq hne
                | cons _ _ => rfl
            have HEM := Lib.hid hemp
            unfold rowV at hcell
            clear hvx hx hx1 hx2 hx3 hx4 hx5 hx6 hr hemp
            have d2 : (j : Int) < k := by omega
            rcases (by omega : j = 0 ∨ 0 < j) with rfl | d3
            · rw [Nat.add_zero] at hcell
              go_wp2_with fail
              refine (HS2.out true (by rw [HEM.out]; rfl)).mono ?_
              rintro e w2' ⟨rfl, S', hS', hA', hC'⟩
              have HS' : Hid (CacheAt (w2'.alloc (.cells (toldC false noMac true false) 34)) (fun b => g ≤ b) g S') := Lib.hid ((hS'.mono (G := fun b => g ≤ b) (fun b h => by have := HG.out; have := HB.out.size; have := HZ.out; rcases h with h | h <;> omega)).below ((Below.refl _ _).alloc (Nat.le_refl _) _))
              have HA' := Lib.hid hA'
              have HB' : Hid (Below g W1 (w2'.alloc (.cells (toldC false noMac true false) 34))) := Lib.hid ((HB.out.trans (hC'.below (fun _ h => h) (by have := HB.out.size; have := HZ.out; omega))).alloc (by have := HB.out.size; have := hC'.size; have := HZ.out; omega) _)
              clear hS' hA' hC'
              unfold toldC noMac at *
              go_wp2
              go_roundw
              case rel => exact ⟨1, S', by omega, by go_num, HS', Lib.hid (by rw [if_neg (by omega)]; exact HA'.out), HB'⟩
              case measure => simp [intOf]; omega
            · have d4 : ¬ ((j : Int) = 0) := by omega
              go_wp2_with fail
              refine (HS2.out false (by rw [HEM.out]; symm; simp; omega)).mono ?_
              rintro e w2' ⟨rfl, S', hS', hA', hC'⟩
              have HS' : Hid (CacheAt (w2'.alloc (.cells (toldC false noMac false false) 34)) (fun b => g ≤ b) g S') := Lib.hid ((hS'.mono (G := fun b => g ≤ b) (fun b h => by have := HG.out; have := HB.out.size; have := HZ.out; rcases h with h | h <;> omega)).below ((Below.refl _ _).alloc (Nat.le_refl _) _))
              have HA' := Lib.hid hA'
              have HB' : Hid (Below g W1 (w2'.alloc (.cells (toldC false noMac false false) 34))) := Lib.hid ((HB.out.trans (hC'.below (fun _ h => h) (by have := HB.out.size; have := HZ.out; omega))).alloc (by have := HB.out.size; have := hC'.size; have := HZ.out; omega) _)
              clear hS' hA' hC'
              unfold toldC noMac at *
              go_wp2
              go_roundw
              case rel => exact ⟨j + 1, S', by omega, by go_num, HS', Lib.hid (by rw [if_neg (by omega)]; exact HA'.out), HB'⟩
              case measure => simp [intOf]; omega
          · have hjk : j = k := by omega
            subst hjk
            have hz2 := HB.out.size
            have hT2 := HT1.out.below HB.out (by have := HG.out; omega)
            have HT2 := Lib.hid hT2
            have hHS := HS.out
            have hB2 : Below w.heap.size w wr := HB1.out.trans (HB.out.mono (by have := HG.out; omega))
            have HB2 := Lib.hid hB2
            clear hB2
            rcases (by omega : j = 0 ∨ 0 < j) with rfl | d3
            · obtain rfl : S = [] := by have := HA.out; simpa [absT] using this
              have k0 := hT2.cell 0
              have k1 := hT2.cell 1
              have k2 := hT2.cell 2
              have k3 := hT2.cell 3
              have k4 := hT2.cell 4
              have k5 := hT2.cell 5
              simp only [List.getElem?_toArray, List.getElem?_cons_zero, List.getElem?_cons_succ] at k0 k1 k2 k3 k4 k5
              clear hT2
              go_wp2_with fail
              refine (learn_not a0 hoa m0 m1 m2 m3 m4 m5 4 (by omega) false wr (fun b => g ≤ b) g [] hHS (fun _ h => by cases h) (by simp)).mono ?_
              rintro e w2' ⟨A2, n2, c2, rfl, ⟨vs, hv1, hv2⟩, S2, hc2, hS2, hC2⟩
              clear k0 k1 k2 k3 k4 k5
              obtain rfl := RowsAt.nil_ hv2
              obtain rfl : n2 = 0 := by have := hv1.length; simpa using this.symm
              obtain rfl : S2 = [] := by simpa [absT] using hS2
              have HT3 := Lib.hid (HT2.out.chg hC2 (fun h => by have := HG.out; omega))
              have HB3 : Hid (Below w.heap.size w w2') := Lib.hid (HB2.out.trans (hC2.below (fun b h => by have := HG.out; omega) HB2.out.size))
              have HZ3 : Hid (g ≤ w2'.heap.size) := Lib.hid (by have := hC2.size; have := HZ.out; show _ ≤ _; omega)
              have HC2 : Hid (CacheAt w2' (fun b => g ≤ b) g []) := Lib.hid (hc2.mono (fun b h => by have := HG.out; have := HZ.out; rcases h with h | h; exact h; omega))
              clear hv2 hS2 hc2 hC2 hHS
              go_wp2_with fail
              refine (rows_same A2 A 0 c2 cap [] [] [] w2' (Rw.nil _ _ _) (Rw.nil _ _ _) trivial trivial rfl (by omega)).mono ?_
              rintro e w3 ⟨rfl, q3, rfl⟩
              have hT3 := HT3.out.drewN q3
              have HC3 : Hid (CacheAt (w2'.drewN q3) (fun b => g ≤ b) g []) := Lib.hid (CacheAt.below HC2.out (bel_drewN (Below.refl _ _) q3))
              have k0 := hT3.cell 0
              have k1 := hT3.cell 1
              have k2 := hT3.cell 2
              have k3 := hT3.cell 3
              have k4 := hT3.cell 4
              have k5 := hT3.cell 5
              simp only [List.getElem?_toArray, List.getElem?_cons_zero, List.getElem?_cons_succ] at k0 k1 k2 k3 k4 k5
              clear hT3
              go_wp2_with fail
              refine (learn_not a0 hoa m0 m1 m2 m3 m4 m5 5 (by omega) false (w2'.drewN q3) (fun b => g ≤ b) g [] HC3.out (fun _ h => by cases h) rfl).mono ?_
              rintro e w4 ⟨A4, n4, c4, rfl, ⟨vs4, hv5, hv6⟩, S4, hc4, hS4, hC4⟩
              clear k0 k1 k2 k3 k4 k5
              obtain rfl := RowsAt.nil_ hv6
              obtain rfl : n4 = 0 := by have := hv5.length; simpa using this.symm
              obtain rfl : S4 = [] := by simpa [absT] using hS4
              have HB4 : Hid (Below w.heap.size w w4) := Lib.hid (HB3.out.trans (Chg.below (F := fun b => g ≤ b) ⟨hC4.os, hC4.tape, hC4.output, hC4.size, hC4.block⟩ (fun b h => by have := HG.out; omega) HB3.out.size))
              have HC4 : Hid (CacheAt w4 (fun b => g ≤ b) g []) := Lib.hid (hc4.mono (fun b h => by have := HB3.out.size; have := HZ3.out; rcases h with h | h; exact h; have h' : w2'.heap.size ≤ b := h; omega))
              clear hv5 hv6 hc4 hS4 hC4
              go_wp2_with fail
              refine (send_new a0 hoa none 0 0 0 [] rfl (by omega) Bs.nil 6 (by omega) _ (Rw.nil _ _ _) (Nat.zero_le _) _ g [] HC4.out (fun _ h => by cases h) (by simp)).mono ?_
              rintro e w5 ⟨rfl, S5, hc5, hS5, hC5⟩
              unfold toldC noMac
              have HB5 : Hid (Below w.heap.size w w5) := Lib.hid (HB4.out.trans (hC5.below (fun b h => by have := HG.out; omega) HB4.out.size))
              clear hc5 hS5 hC5
              go_wp2_with fail
              refine (known_any _).mono ?_
              rintro e w6 ⟨rfl, hB6⟩
              go_wp2
              go_ret
              exact ⟨rfl, (HB5.out.alloc HB5.out.size _).trans (hB6.mono (by simp; have := HB5.out.size; omega))⟩
            · have hA2 := HA.out
              rw [if_neg (by omega), List.take_of_length_le (by simp [HL.out])] at hA2
              obtain ⟨e1, rfl, hea, hen⟩ := absT_one hA2
              have HE1 := Lib.hid hea
              have HN1 := Lib.hid hen
              have k0 := hT2.cell 0
              have k1 := hT2.cell 1
              have k2 := hT2.cell 2
              have k3 := hT2.cell 3
              have k4 := hT2.cell 4
              have k5 := hT2.cell 5
              simp only [List.getElem?_toArray, List.getElem?_cons_zero, List.getElem?_cons_succ] at k0 k1 k2 k3 k4 k5
              clear hA2 hea hen hT2
              go_wp2_with fail
              refine (learn_found a0 hoa m0 m1 m2 m3 m4 m5 4 (by omega) false wr (fun b => g ≤ b) g [e1] hHS e1 (by simp) HE1.out).mono ?_
              rintro e w2' ⟨A2, n2, c2, rfl, ⟨vs, hv1, hv2⟩, S2, hc2, hS2, hC2⟩
              clear k0 k1 k2 k3 k4 k5
              have hlen : n2 = min 3 j := by
                have h1 := hv1.length
                have h2 := hv2.length
                rw [HN1.out] at h2
                change vs.length = (lst3 _).length at h2
                rw [lst3_len, List.length_map, HL.out] at h2
                omega
              rw [HN1.out] at hv2
              change RowsAt w2' _ vs (lst3 (l.map (·.l))) at hv2
              obtain ⟨e2, rfl, hea2, hen2⟩ := absT_one (S := S2) (a := a0) (n := learnt m0 m1 m2 m3 m4 m5 4) (by rw [hS2]; simp [absT, updT, HE1.out])
              have HT3 := Lib.hid (HT2.out.chg hC2 (fun h => by have := HG.out; omega))
              have HB3 : Hid (Below w.heap.size w w2') := Lib.hid (HB2.out.trans (hC2.below (fun b h => by have := HG.out; omega) HB2.out.size))
              have HC2 : Hid (CacheAt w2' (fun b => g ≤ b) g [e2]) := Lib.hid (hc2.mono (fun b h => by have := HG.out; have := HZ.out; rcases h with h | h; exact h; omega))
              have HZ3 : Hid (g ≤ w2'.heap.size) := Lib.hid (by have := hC2.size; have := HZ.out; show _ ≤ _; omega)
              have HE2 := Lib.hid hea2
              have HN2 := Lib.hid hen2
              clear hc2 hS2 hC2 hea2 hen2 hHS
              rcases (by omega : j ≤ 3 ∨ 3 < j) with d4 | d4
              · have d5 : (j : Int) ≤ 3 := by omega
                obtain rfl : j = n2 := by omega
                clear hlen
                go_wp2_with fail
                refine (rows_same A2 (A) (j) c2 (cap) vs ((l.map rowV).drop (0)) (lst3 (l.map (·.l))) w2' hv1.rw (want_rows HR.out HOK.out HB3.out (by rw [HL.out]; omega) (fun _ => (map_add0 A).symm)).2 hv2.rd (want_rows HR.out HOK.out HB3.out (A' := A) (by rw [HL.out]; omega) (fun _ => (map_add0 A).symm)).1 (by rw [lst3_len, List.length_map, HL.out]; omega) (by omega)).mono ?_
                rintro e w3 ⟨rfl, q3, rfl⟩
                have hT3 := HT3.out.drewN q3
                have HC3 : Hid (CacheAt (w2'.drewN q3) (fun b => g ≤ b) g [e2]) := Lib.hid (CacheAt.below HC2.out (bel_drewN (Below.refl _ _) q3))
                have k0 := hT3.cell 0
                have k1 := hT3.cell 1
                have k2 := hT3.cell 2
                have k3 := hT3.cell 3
                have k4 := hT3.cell 4
                have k5 := hT3.cell 5
                simp only [List.getElem?_toArray, List.getElem?_cons_zero, List.getElem?_cons_succ] at k0 k1 k2 k3 k4 k5
                clear hT3
                go_wp2_with fail
                refine (learn_found a0 hoa m0 m1 m2 m3 m4 m5 5 (by omega) false (w2'.drewN q3) (fun b => g ≤ b) g [e2] HC3.out e2 (by simp) HE2.out).mono ?_
                rintro e w4 ⟨A4, n4, c4, rfl, ⟨vs4, hv5, hv6⟩, S4, hc4, hS4, hC4⟩
                clear k0 k1 k2 k3 k4 k5
                rw [HN2.out] at hv6
                obtain rfl := RowsAt.nil_ hv6
                obtain rfl : n4 = 0 := by have := hv5.length; simpa using this.symm
                obtain ⟨e4, rfl, hea4, hen4⟩ := absT_one (S := S4) (a := a0) (n := learnt m0 m1 m2 m3 m4 m5 5) (by rw [hS4]; simp [absT, updT, HE2.out])
                have hT4 := (HT3.out.drewN q3).chg hC4 (fun h => by have := HG.out; have h' : g ≤ w.heap.size := h; omega)
                have HT4 := Lib.hid hT4
                have HB4 : Hid (Below w.heap.size w w4) := Lib.hid (HB3.out.trans (Chg.below (F := fun b => g ≤ b) ⟨hC4.os, hC4.tape, hC4.output, hC4.size, hC4.block⟩ (fun b h => by have := HG.out; omega) HB3.out.size))
                have HC4 : Hid (CacheAt w4 (fun b => g ≤ b) g [e4]) := Lib.hid (hc4.mono (fun b h => by have := HB3.out.size; have := HZ3.out; rcases h with h | h; exact h; have h' : w2'.heap.size ≤ b := h; omega))
                have HE4 := Lib.hid hea4
                have HN4 := Lib.hid hen4
                have hq := eql_mac m0 m1 m2 m3 m4 m5
                clear hv5 hv6 hc4 hS4 hC4 hea4 hen4 hT4
                go_wp2_with fail
                refine (send_known a0 hoa none 0 0 0 [] rfl (by omega) Bs.nil 6 (by omega) _ (Rw.nil _ _ _) (Nat.zero_le _) _ g [e4] HC4.out e4 (by simp) HE4.out (by rw [HN4.out]; rfl) (by rw [HN4.out]; show (6 : Int) < laterP 5 600; decide)).mono ?_
                rintro e w5 ⟨rfl, S5, hc5, hS5, hC5⟩
                rw [HN4.out]
                unfold toldC macOf learnt
                have ht5 := HT4.out.chg hC5 (fun h => by have := HG.out; omega)
                have HB5 : Hid (Below w.heap.size w w5) := Lib.hid (HB4.out.trans (hC5.below (fun b h => by have := HG.out; omega) HB4.out.size))
                have k0 := (World.cell?_alloc_lt w5 (.cells #[.bool true, .int .u8 m0, .int .u8 m1, .int .u8 m2, .int .u8 m3, .int .u8 m4, .int .u8 m5, .bool false, .bool false] 34) ⟨w.heap.size, 0, none⟩ ht5.lt).trans (ht5.cell 0)
                have k1 := (World.cell?_alloc_lt w5 (.cells #[.bool true, .int .u8 m0, .int .u8 m1, .int .u8 m2, .int .u8 m3, .int .u8 m4, .int .u8 m5, .bool false, .bool false] 34) ⟨w.heap.size, 1, none⟩ ht5.lt).trans (ht5.cell 1)
                have k2 := (World.cell?_alloc_lt w5 (.cells #[.bool true, .int .u8 m0, .int .u8 m1, .int .u8 m2, .int .u8 m3, .int .u8 m4, .int .u8 m5, .bool false, .bool false] 34) ⟨w.heap.size, 2, none⟩ ht5.lt).trans (ht5.cell 2)
                have k3 := (World.cell?_alloc_lt w5 (.cells #[.bool true, .int .u8 m0, .int .u8 m1, .int .u8 m2, .int .u8 m3, .int .u8 m4, .int .u8 m5, .bool false, .bool false] 34) ⟨w.heap.size, 3, none⟩ ht5.lt).trans (ht5.cell 3)
                have k4 := (World.cell?_alloc_lt w5 (.cells #[.bool true, .int .u8 m0, .int .u8 m1, .int .u8 m2, .int .u8 m3, .int .u8 m4, .int .u8 m5, .bool false, .bool false] 34) ⟨w.heap.size, 4, none⟩ ht5.lt).trans (ht5.cell 4)
                have k5 := (World.cell?_alloc_lt w5 (.cells #[.bool true, .int .u8 m0, .int .u8 m1, .int .u8 m2, .int .u8 m3, .int .u8 m4, .int .u8 m5, .bool false, .bool false] 34) ⟨w.heap.size, 5, none⟩ ht5.lt).trans (ht5.cell 5)
                simp only [List.getElem?_toArray, List.getElem?_cons_zero, List.getElem?_cons_succ] at k0 k1 k2 k3 k4 k5
                have d6 : ¬ (j : Int) = 0 := by omega
                clear hc5 hS5 hC5 ht5
                go_wp2_with fail
                refine (known_any _).mono ?_
                rintro e w6 ⟨rfl, hB6⟩
                go_wp2
                go_ret
                exact ⟨rfl, (HB5.out.alloc HB5.out.size _).trans (hB6.mono (by simp; have := HB5.out.size; omega))⟩
              · have d5 : ¬ (j : Int) ≤ 3 := by omega
                obtain ⟨s, hs⟩ : ∃ s, s + 3 = j := ⟨j - 3, by omega⟩
                have hs1 : IntKind.i64.wrap ((j : Int) - 3) = (s : Int) := by rw [IntWalk.i64_in _ (by omega)]; omega
                have hs2 : (s : Int) ≤ j := by omega
                obtain rfl : n2 = j - s := by omega
                clear hlen
                go_wp2_with fail
                refine (rows_same A2 (A.map (·.add s)) (j - s) c2 (cap - s) vs ((l.map rowV).drop (s)) (lst3 (l.map (·.l))) w2' hv1.rw (want_rows HR.out HOK.out HB3.out (by rw [HL.out]; omega) (fun _ => rfl)).2 hv2.rd (want_rows HR.out HOK.out HB3.out (A' := A.map (·.add s)) (by rw [HL.out]; omega) (fun _ => rfl)).1 (by rw [lst3_len, List.length_map, HL.out]; omega) (by omega)).mono ?_
                rintro e w3 ⟨rfl, q3, rfl⟩
                have hT3 := HT3.out.drewN q3
                have HC3 : Hid (CacheAt (w2'.drewN q3) (fun b => g ≤ b) g [e2]) := Lib.hid (CacheAt.below HC2.out (bel_drewN (Below.refl _ _) q3))
                have k0 := hT3.cell 0
                have k1 := hT3.cell 1
                have k2 := hT3.cell 2
                have k3 := hT3.cell 3
                have k4 := hT3.cell 4
                have k5 := hT3.cell 5
                simp only [List.getElem?_toArray, List.getElem?_cons_zero, List.getElem?_cons_succ] at k0 k1 k2 k3 k4 k5
                clear hT3
                go_wp2_with fail
                refine (learn_found a0 hoa m0 m1 m2 m3 m4 m5 5 (by omega) false (w2'.drewN q3) (fun b => g ≤ b) g [e2] HC3.out e2 (by simp) HE2.out).mono ?_
                rintro e w4 ⟨A4, n4, c4, rfl, ⟨vs4, hv5, hv6⟩, S4, hc4, hS4, hC4⟩
                clear k0 k1 k2 k3 k4 k5
                rw [HN2.out] at hv6
                obtain rfl := RowsAt.nil_ hv6
                obtain rfl : n4 = 0 := by have := hv5.length; simpa using this.symm
                obtain ⟨e4, rfl, hea4, hen4⟩ := absT_one (S := S4) (a := a0) (n := learnt m0 m1 m2 m3 m4 m5 5) (by rw [hS4]; simp [absT, updT, HE2.out])
                have hT4 := (HT3.out.drewN q3).chg hC4 (fun h => by have := HG.out; have h' : g ≤ w.heap.size := h; omega)
                have HT4 := Lib.hid hT4
                have HB4 : Hid (Below w.heap.size w w4) := Lib.hid (HB3.out.trans (Chg.below (F := fun b => g ≤ b) ⟨hC4.os, hC4.tape, hC4.output, hC4.size, hC4.block⟩ (fun b h => by have := HG.out; omega) HB3.out.size))
                have HC4 : Hid (CacheAt w4 (fun b => g ≤ b) g [e4]) := Lib.hid (hc4.mono (fun b h => by have := HB3.out.size; have := HZ3.out; rcases h with h | h; exact h; have h' : w2'.heap.size ≤ b := h; omega))
                have HE4 := Lib.hid hea4
                have HN4 := Lib.hid hen4
                have hq := eql_mac m0 m1 m2 m3 m4 m5
                clear hv5 hv6 hc4 hS4 hC4 hea4 hen4 hT4
                go_wp2_with fail
                refine (send_known a0 hoa none 0 0 0 [] rfl (by omega) Bs.nil 6 (by omega) _ (Rw.nil _ _ _) (Nat.zero_le _) _ g [e4] HC4.out e4 (by simp) HE4.out (by rw [HN4.out]; rfl) (by rw [HN4.out]; show (6 : Int) < laterP 5 600; decide)).mono ?_
                rintro e w5 ⟨rfl, S5, hc5, hS5, hC5⟩
                rw [HN4.out]
                unfold toldC macOf learnt
                have ht5 := HT4.out.chg hC5 (fun h => by have := HG.out; omega)
                have HB5 : Hid (Below w.heap.size w w5) := Lib.hid (HB4.out.trans (hC5.below (fun b h => by have := HG.out; omega) HB4.out.size))
                have k0 := (World.cell?_alloc_lt w5 (.cells #[.bool true, .int .u8 m0, .int .u8 m1, .int .u8 m2, .int .u8 m3, .int .u8 m4, .int .u8 m5, .bool false, .bool false] 34) ⟨w.heap.size, 0, none⟩ ht5.lt).trans (ht5.cell 0)
                have k1 := (World.cell?_alloc_lt w5 (.cells #[.bool true, .int .u8 m0, .int .u8 m1, .int .u8 m2, .int .u8 m3, .int .u8 m4, .int .u8 m5, .bool false, .bool false] 34) ⟨w.heap.size, 1, none⟩ ht5.lt).trans (ht5.cell 1)
                have k2 := (World.cell?_alloc_lt w5 (.cells #[.bool true, .int .u8 m0, .int .u8 m1, .int .u8 m2, .int .u8 m3, .int .u8 m4, .int .u8 m5, .bool false, .bool false] 34) ⟨w.heap.size, 2, none⟩ ht5.lt).trans (ht5.cell 2)
                have k3 := (World.cell?_alloc_lt w5 (.cells #[.bool true, .int .u8 m0, .int .u8 m1, .int .u8 m2, .int .u8 m3, .int .u8 m4, .int .u8 m5, .bool false, .bool false] 34) ⟨w.heap.size, 3, none⟩ ht5.lt).trans (ht5.cell 3)
                have k4 := (World.cell?_alloc_lt w5 (.cells #[.bool true, .int .u8 m0, .int .u8 m1, .int .u8 m2, .int .u8 m3, .int .u8 m4, .int .u8 m5, .bool false, .bool false] 34) ⟨w.heap.size, 4, none⟩ ht5.lt).trans (ht5.cell 4)
                have k5 := (World.cell?_alloc_lt w5 (.cells #[.bool true, .int .u8 m0, .int .u8 m1, .int .u8 m2, .int .u8 m3, .int .u8 m4, .int .u8 m5, .bool false, .bool false] 34) ⟨w.heap.size, 5, none⟩ ht5.lt).trans (ht5.cell 5)
                simp only [List.getElem?_toArray, List.getElem?_cons_zero, List.getElem?_cons_succ] at k0 k1 k2 k3 k4 k5
                have d6 : ¬ (j : Int) = 0 := by omega
                clear hc5 hS5 hC5 ht5
                go_wp2_with fail
                refine (known_any _).mono ?_
                rintro e w6 ⟨rfl, hB6⟩
                go_wp2
                go_ret
                exact ⟨rfl, (HB5.out.alloc HB5.out.size _).trans (hB6.mono (by simp; have := HB5.out.size; omega))⟩
    · rcases (by omega : k < n ∨ n ≤ k) with c3 | c3
      all_goals
        go_wp2_with fail
        refine (known_any _).mono ?_
        rintro e w6 ⟨rfl, hB6⟩
        go_wp2
        go_ret
        exact ⟨rfl, ((Below.refl _ _).alloc (Nat.le_refl _) _).trans (hB6.mono (by simp))⟩

/-! ### the row -/
set_option maxRecDepth 100000 in
theorem lifted (os : Os) (started : os.Started) (H : Type) (enc : TypeId × Value → H) :
    ReturnsInHanded {} Try.checked os 3 .any (Rows.arpKeepsSpec.pre6 enc Try.prog Try.f3 Rows.arpKeepsRow.domain false) (Rows.arpKeepsSpec.post enc Try.prog Try.f3 false true false false) := by
  refine returnsInHanded_of_change_sized (C := Try.checked) own started (by kernel_rfl) Try.func3
    (ChangeSpec.witness6 (enc := enc) (C := Try.checked) false ⟨#[], #[.int .u32 0, .slice none 0 0, .agg #[.int .u8 0, .int .u8 0, .int .u8 0, .int .u8 0, .int .u8 0, .int .u8 0]], []⟩ 8 (by kernel_rfl) (by kernel_rfl) (by kernel_rfl) (by kernel_rfl)) ?_
  intro W base args ds gs before hval0 hW hcnd hsz0 _
  have hval : ∀ (j : Nat) t v, Try.f3.params[j]? = some t → args[j]? = some v → Value.okWide Try.prog W .any base t v := hval0
  have hsz : (DataW.weightsEach Try.prog (Try.f3.params.toList ++ Rows.arpKeepsSpec.plain.varTypes Try.prog) (ds ++ gs)).all (· ≤ reachBytes) = true := hsz0
  clear hsz0
  have hW' := hW
  obtain ⟨p, q, hA0, hV, rfl, hfz, hnd⟩ := hW
  have hA : DataW.TrodAll enc Try.prog W 0 (fun _ => true) true Try.f3.params.toList args.toList ds p := hA0
  rw [Try.params3] at hA hval hsz
  obtain ⟨v0, vs0, d0, ds0, p0, q0, hargs, rfl, rfl, h0, r0⟩ := trodAll_cons hA
  obtain ⟨v1, vs1, d1, ds1, p1, q1, rfl, rfl, rfl, h1, r1⟩ := trodAll_cons r0
  obtain ⟨v2, vs2, d2, ds2, p2, q2, rfl, rfl, rfl, h2, r2⟩ := trodAll_cons r1
  obtain ⟨rfl, rfl, rfl⟩ := trodAll_nil r2
  obtain rfl : args = #[v0, v1, v2] := by cases args; simp_all
  obtain ⟨rfl, rfl⟩ := trodVars_none hV
  obtain ⟨a0, rfl, rfl, rfl, w0⟩ := open_int Try.underlying23 (hval 0 23 v0 rfl rfl) h0
  have k1 := h1
  have lt1 : ∀ x ∈ p1, x.block < W.heap.size := by obtain ⟨m, hm⟩ := k1; exact DataW.trod_lt m _ _ _ hm
  have w1 : ViewRows W v1 := open_rows (hval 1 24 v1 rfl rfl) h1 (fun k hk => by have := List.all_eq_true.1 hsz k (DataW.weights_mem_each (j := 1) rfl rfl k hk); simpa using this)
  have k2 := h2
  have lt2 : ∀ x ∈ p2, x.block < W.heap.size := by obtain ⟨m, hm⟩ := k2; exact DataW.trod_lt m _ _ _ hm
  have w2 : ViewMAC W v2 := open_mac (hval 2 26 v2 rfl rfl) h2 (fun k hk => by have := List.all_eq_true.1 hsz k (DataW.weights_mem_each (j := 2) rfl rfl k hk); simpa using this)
  clear hA0 hval0
  refine (walk a0 v1 v2 W w0 w1 w2).mono fun e W' ⟨he, bel⟩ => ?_
  subst he
  exact ⟨_, rfl, _, _, _, [], _, [], hW', trodAll_mk1 (shut_bool Try.underlying4 _), (trodAll_cons_mk (shut_int Try.underlying23 w0) (trodAll_cons_mk (Below.trod laidOut (by kernel_rfl) (of_decide_eq_true (by kernel_rfl)) k1 bel lt1) (trodAll_cons_mk (Below.trod laidOut (by kernel_rfl) (of_decide_eq_true (by kernel_rfl)) k2 bel lt2) trodAll_mk0))), rfl, bel.frame _, fun h => by cases h⟩

theorem over : Rows.arpKeepsRow.holds Try.pinned (OpenSpec.ofChange Rows.arpKeepsSpec) :=
  OpenClaim.holds_of_wide 3 Try.f3 rfl rfl rfl rfl rfl rfl rfl ⟨rfl, rfl, rfl, rfl, rfl⟩ rfl rfl rfl rfl rfl (by kernel_rfl) Try.func3 (by kernel_rfl)
    (of_decide_eq_true (by kernel_rfl)) (by unfold Func.isWrapper; first | (rw [if_pos (by decide +kernel)]; kernel_rfl) | (rw [if_neg (by decide +kernel)]; exact ⟨rfl, rfl⟩))
    (fun os started H enc _ => lifted os started H enc)

theorem proved : Rows.ArpKeepsSaid := over
#print axioms proved
end Go.Proofs.Ytocigdkndlmikaa.arpKeeps
