/- Proved: what is wrong with a packet, by ipv4.wrong and by the reference's May, each by its walk. Conditions: the packet lies in memory. -/
import Derived.Test.YtcjkhonapafndaaIpW
set_option linter.unusedVariables false
set_option linter.unusedSimpArgs false
namespace Go.Proofs.Ytcjkhonapafndaa
open Go.RowKit

def upto (p : PkV) (j : Nat) : Prop := (0 < j → 0 ≤ p.svc ∧ p.svc ≤ 255) ∧ (1 < j → 0 ≤ p.life ∧ p.life ≤ 255) ∧ (2 < j → 0 ≤ p.proto ∧ p.proto ≤ 255) ∧ (3 < j → 0 ≤ p.id ∧ p.id ≤ 65535) ∧ (4 < j → 0 ≤ p.off ∧ p.off ≤ 65528)
def WrPost (p : PkV) (ol : List Int) (dn : Nat) (w : World) (e : Ending) (w' : World) : Prop := ∃ k, e = .returned (.int .i64 k) ∧ errIs p ol dn k ∧ Below w.heap.size w w'
set_option maxHeartbeats 4000000 in
set_option maxRecDepth 100000 in
theorem wrong_any (p : PkV) (hp : p.Ok) (oA dA : Option Addr) (on oc dn dc B : Nat) (ol : List Int) (hn : ol.length = on) (hc : on ≤ oc) (hmo : on ≤ 140737488355328) (hb : Bs ol) (hmd : dn ≤ 140737488355328) (w : World) (hr : RB w B oA ol) (hB : B ≤ w.heap.size) :
    Calls Try.prog 34 #[.agg (pkC p (.slice oA on oc) (.slice dA dn dc))] w (WrPost p ol dn w) := by
  obtain ⟨W, hW⟩ : ∃ W, w.alloc (.cells (pkC p (.slice oA on oc) (.slice dA dn dc)) 26) = W := ⟨_, rfl⟩
  have hm : Bk W w.heap.size 26 (pkC p (.slice oA on oc) (.slice dA dn dc)) := by rw [← hW]; exact Bk.new w _ _
  have hBW : Below w.heap.size w W := by rw [← hW]; exact (Below.refl _ _).alloc (Nat.le_refl _) _
  have HN := Lib.hid hn
  have HM := Lib.hid hm
  have HBW := Lib.hid hBW
  have HZ := Lib.hid hm.lt
  have HR := Lib.hid (show RB W B oA ol from Rw.below hr (hBW.mono hB))
  have HW : Hid (w.alloc (.cells #[.int .i64 p.svc, .int .i64 p.id, .bool p.whole, .bool p.more, .int .i64 p.off, .int .i64 p.life, .int .i64 p.proto, .int .u32 p.src, .int .u32 p.dst, .slice oA on oc, .slice dA dn dc] 26) = W) := Lib.hid hW
  clear hn hW hBW hm hr
  unfold pkC
  go_enter Try.func34, Try.ntmps34
  go_wp2
  rw [HW.out]
  go_loopw [21] (fun i wr => ∃ j : Nat, j ≤ 5 ∧ i = .int .i64 j ∧ Hid (upto p j) ∧ Hid (Below (w.heap.size + 1) W wr)) (fun i _ => 5 - (intOf i).toNat)
  case atStart => exact ⟨0, Nat.zero_le _, rfl, Lib.hid (by unfold upto; exact ⟨fun h => absurd h (by omega), fun h => absurd h (by omega), fun h => absurd h (by omega), fun h => absurd h (by omega), fun h => absurd h (by omega)⟩), Lib.hid (Below.refl _ _)⟩
  case round =>
    obtain ⟨j, hj, rfl, HU, HB⟩ := hrel
    have hz := HZ.out
    have hz1 := HB.out.size
    have HBw : Hid (Below w.heap.size w wr) := Lib.hid (HBW.out.trans (HB.out.mono (Nat.le_succ _)))
    have HMr : Hid (Bk wr w.heap.size 26 (pkC p (.slice oA on oc) (.slice dA dn dc))) := Lib.hid (HM.out.below HB.out (Nat.lt_succ_self _))
    rcases (by omega : j = 0 ∨ j = 1 ∨ j = 2 ∨ j = 3 ∨ j = 4 ∨ j = 5) with rfl | rfl | rfl | rfl | rfl | rfl
    · have hidx : ∀ w', (Instr.index 98 (.agg #[.int .i64 p.svc, .int .i64 255, .int .i64 p.life, .int .i64 255, .int .i64 p.proto, .int .i64 255, .int .i64 p.id, .int .i64 65535, .int .i64 p.off, .int .i64 65528]) (.int .i64 0)).run Try.prog w' = .ok (.agg #[.int .i64 p.svc, .int .i64 255]) w' := fun w' => by kernel_rfl
      rcases (by omega : p.svc < 0 ∨ (0 ≤ p.svc ∧ 255 < p.svc) ∨ (0 ≤ p.svc ∧ p.svc ≤ 255)) with d | ⟨d, d2⟩ | ⟨d, d2⟩
      · have HE : Hid (errIs p ol dn 1) := Lib.hid (.inl ⟨fun h => by have := h; unfold numsP at this; omega, rfl⟩)
        go_wp2
        go_ret
        exact ⟨1, rfl, HE.out, HBw.out.alloc (by omega) _⟩
      · have HE : Hid (errIs p ol dn 1) := Lib.hid (.inl ⟨fun h => by have := h; unfold numsP at this; omega, rfl⟩)
        have d3 : ¬ p.svc < 0 := by omega
        go_wp2
        go_ret
        exact ⟨1, rfl, HE.out, HBw.out.alloc (by omega) _⟩
      · have HU2 : Hid (upto p 1) := Lib.hid (by have h := HU.out; unfold upto at h ⊢; exact ⟨fun _ => ⟨d, d2⟩, fun h0 => absurd h0 (by omega), fun h0 => absurd h0 (by omega), fun h0 => absurd h0 (by omega), fun h0 => absurd h0 (by omega)⟩)
        have d3 : ¬ p.svc < 0 := by omega
        have d4 : ¬ 255 < p.svc := by omega
        go_wp2
        go_roundw
        case rel => exact ⟨1, by omega, rfl, HU2, Lib.hid (HB.out.alloc (by omega) _)⟩
        case measure => simp [intOf]
    · have hidx : ∀ w', (Instr.index 98 (.agg #[.int .i64 p.svc, .int .i64 255, .int .i64 p.life, .int .i64 255, .int .i64 p.proto, .int .i64 255, .int .i64 p.id, .int .i64 65535, .int .i64 p.off, .int .i64 65528]) (.int .i64 1)).run Try.prog w' = .ok (.agg #[.int .i64 p.life, .int .i64 255]) w' := fun w' => by kernel_rfl
      rcases (by omega : p.life < 0 ∨ (0 ≤ p.life ∧ 255 < p.life) ∨ (0 ≤ p.life ∧ p.life ≤ 255)) with d | ⟨d, d2⟩ | ⟨d, d2⟩
      · have HE : Hid (errIs p ol dn 1) := Lib.hid (.inl ⟨fun h => by have := h; unfold numsP at this; omega, rfl⟩)
        go_wp2
        go_ret
        exact ⟨1, rfl, HE.out, HBw.out.alloc (by omega) _⟩
      · have HE : Hid (errIs p ol dn 1) := Lib.hid (.inl ⟨fun h => by have := h; unfold numsP at this; omega, rfl⟩)
        have d3 : ¬ p.life < 0 := by omega
        go_wp2
        go_ret
        exact ⟨1, rfl, HE.out, HBw.out.alloc (by omega) _⟩
      · have HU2 : Hid (upto p 2) := Lib.hid (by have h := HU.out; unfold upto at h ⊢; exact ⟨fun _ => h.1 (by omega), fun _ => ⟨d, d2⟩, fun h0 => absurd h0 (by omega), fun h0 => absurd h0 (by omega), fun h0 => absurd h0 (by omega)⟩)
        have d3 : ¬ p.life < 0 := by omega
        have d4 : ¬ 255 < p.life := by omega
        go_wp2
        go_roundw
        case rel => exact ⟨2, by omega, rfl, HU2, Lib.hid (HB.out.alloc (by omega) _)⟩
        case measure => simp [intOf]
    · have hidx : ∀ w', (Instr.index 98 (.agg #[.int .i64 p.svc, .int .i64 255, .int .i64 p.life, .int .i64 255, .int .i64 p.proto, .int .i64 255, .int .i64 p.id, .int .i64 65535, .int .i64 p.off, .int .i64 65528]) (.int .i64 2)).run Try.prog w' = .ok (.agg #[.int .i64 p.proto, .int .i64 255]) w' := fun w' => by kernel_rfl
      rcases (by omega : p.proto < 0 ∨ (0 ≤ p.proto ∧ 255 < p.proto) ∨ (0 ≤ p.proto ∧ p.proto ≤ 255)) with d | ⟨d, d2⟩ | ⟨d, d2⟩
      · have HE : Hid (errIs p ol dn 1) := Lib.hid (.inl ⟨fun h => by have := h; unfold numsP at this; omega, rfl⟩)
        go_wp2
        go_ret
        exact ⟨1, rfl, HE.out, HBw.out.alloc (by omega) _⟩
      · have HE : Hid (errIs p ol dn 1) := Lib.hid (.inl ⟨fun h => by have := h; unfold numsP at this; omega, rfl⟩)
        have d3 : ¬ p.proto < 0 := by omega
        go_wp2
        go_ret
        exact ⟨1, rfl, HE.out, HBw.out.alloc (by omega) _⟩
      · have HU2 : Hid (upto p 3) := Lib.hid (by have h := HU.out; unfold upto at h ⊢; exact ⟨fun _ => h.1 (by omega), fun _ => h.2.1 (by omega), fun _ => ⟨d, d2⟩, fun h0 => absurd h0 (by omega), fun h0 => absurd h0 (by omega)⟩)
        have d3 : ¬ p.proto < 0 := by omega
        have d4 : ¬ 255 < p.proto := by omega
        go_wp2
        go_roundw
        case rel => exact ⟨3, by omega, rfl, HU2, Lib.hid (HB.out.alloc (by omega) _)⟩
        case measure => simp [intOf]
    · have hidx : ∀ w', (Instr.index 98 (.agg #[.int .i64 p.svc, .int .i64 255, .int .i64 p.life, .int .i64 255, .int .i64 p.proto, .int .i64 255, .int .i64 p.id, .int .i64 65535, .int .i64 p.off, .int .i64 65528]) (.int .i64 3)).run Try.prog w' = .ok (.agg #[.int .i64 p.id, .int .i64 65535]) w' := fun w' => by kernel_rfl
      rcases (by omega : p.id < 0 ∨ (0 ≤ p.id ∧ 65535 < p.id) ∨ (0 ≤ p.id ∧ p.id ≤ 65535)) with d | ⟨d, d2⟩ | ⟨d, d2⟩
      · have HE : Hid (errIs p ol dn 1) := Lib.hid (.inl ⟨fun h => by have := h; unfold numsP at this; omega, rfl⟩)
        go_wp2
        go_ret
        exact ⟨1, rfl, HE.out, HBw.out.alloc (by omega) _⟩
      · have HE : Hid (errIs p ol dn 1) := Lib.hid (.inl ⟨fun h => by have := h; unfold numsP at this; omega, rfl⟩)
        have d3 : ¬ p.id < 0 := by omega
        go_wp2
        go_ret
        exact ⟨1, rfl, HE.out, HBw.out.alloc (by omega) _⟩
      · have HU2 : Hid (upto p 4) := Lib.hid (by have h := HU.out; unfold upto at h ⊢; exact ⟨fun _ => h.1 (by omega), fun _ => h.2.1 (by omega), fun _ => h.2.2.1 (by omega), fun _ => ⟨d, d2⟩, fun h0 => absurd h0 (by omega)⟩)
        have d3 : ¬ p.id < 0 := by omega
        have d4 : ¬ 65535 < p.id := by omega
        go_wp2
        go_roundw
        case rel => exact ⟨4, by omega, rfl, HU2, Lib.hid (HB.out.alloc (by omega) _)⟩
        case measure => simp [intOf]
    · have hidx : ∀ w', (Instr.index 98 (.agg #[.int .i64 p.svc, .int .i64 255, .int .i64 p.life, .int .i64 255, .int .i64 p.proto, .int .i64 255, .int .i64 p.id, .int .i64 65535, .int .i64 p.off, .int .i64 65528]) (.int .i64 4)).run Try.prog w' = .ok (.agg #[.int .i64 p.off, .int .i64 65528]) w' := fun w' => by kernel_rfl
      rcases (by omega : p.off < 0 ∨ (0 ≤ p.off ∧ 65528 < p.off) ∨ (0 ≤ p.off ∧ p.off ≤ 65528)) with d | ⟨d, d2⟩ | ⟨d, d2⟩
      · have HE : Hid (errIs p ol dn 1) := Lib.hid (.inl ⟨fun h => by have := h; unfold numsP at this; omega, rfl⟩)
        go_wp2
        go_ret
        exact ⟨1, rfl, HE.out, HBw.out.alloc (by omega) _⟩
      · have HE : Hid (errIs p ol dn 1) := Lib.hid (.inl ⟨fun h => by have := h; unfold numsP at this; omega, rfl⟩)
        have d3 : ¬ p.off < 0 := by omega
        go_wp2
        go_ret
        exact ⟨1, rfl, HE.out, HBw.out.alloc (by omega) _⟩
      · have HU2 : Hid (upto p 5) := Lib.hid (by have h := HU.out; unfold upto at h ⊢; exact ⟨fun _ => h.1 (by omega), fun _ => h.2.1 (by omega), fun _ => h.2.2.1 (by omega), fun _ => h.2.2.2.1 (by omega), fun _ => ⟨d, d2⟩⟩)
        have d3 : ¬ p.off < 0 := by omega
        have d4 : ¬ 65528 < p.off := by omega
        go_wp2
        go_roundw
        case rel => exact ⟨5, by omega, rfl, HU2, Lib.hid (HB.out.alloc (by omega) _)⟩
        case measure => simp [intOf]
    · have hu := HU.out
      unfold upto at hu
      have u0 := hu.1 (by omega)
      have u1 := hu.2.1 (by omega)
      have u2 := hu.2.2.1 (by omega)
      have u3 := hu.2.2.2.1 (by omega)
      have u4 := hu.2.2.2.2 (by omega)
      obtain ⟨u40, u41⟩ := u4
      have y0 := HMr.out.cell 0
      have y1 := HMr.out.cell 1
      have y2 := HMr.out.cell 2
      have y3 := HMr.out.cell 3
      have y4 := HMr.out.cell 4
      have y5 := HMr.out.cell 5
      have y6 := HMr.out.cell 6
      have y7 := HMr.out.cell 7
      have y8 := HMr.out.cell 8
      have y9 := HMr.out.cell 9
      have y10 := HMr.out.cell 10
      simp only [pkC, List.setIfInBounds_toArray, List.getElem?_toArray, List.getElem?_cons_zero, List.getElem?_cons_succ] at y0 y1 y2 y3 y4 y5 y6 y7 y8 y9 y10
      clear hu
      rcases Decidable.em (p.off % 8 = 0) with d | d
      · have HNP : Hid (numsP p) := Lib.hid ⟨u0, u1, u2, u3, ⟨u40, u41⟩, d⟩
        have d1 : (p.off % 8 != 0) = false := by simpa using d
        rcases (by omega : 40 < on ∨ on ≤ 40) with e | e
        · have HE : Hid (errIs p ol dn 3) := Lib.hid (.inr (.inl ⟨HNP.out, .inl (by rw [HN.out]; exact e), rfl⟩))
          have e1 : (40 : Int) < on := by omega
          go_wp2
          go_ret
          exact ⟨3, rfl, HE.out, HBw.out⟩
        · have e1 : ¬ (40 : Int) < on := by omega
          have hgood := good_any oA on oc B ol HN.out hc hmo hb wr (Rw.below HR.out (HB.out.mono (by omega)))
          obtain ⟨G, hG⟩ : ∃ G, goodO ol = G := ⟨_, rfl⟩
          rw [hG] at hgood
          have HG := Lib.hid hG
          have HGD := Lib.hid hgood
          clear hG hgood
          go_wp2_with fail
          refine HGD.out.mono ?_
          rintro e2 w' ⟨rfl, rfl⟩
          rcases G with _ | _
          · have HE : Hid (errIs p ol dn 3) := Lib.hid (.inr (.inl ⟨HNP.out, .inr HG.out, rfl⟩))
            go_wp2
            go_ret
            exact ⟨3, rfl, HE.out, HBw.out⟩
          · have hwi := within_any p ⟨u40, u41⟩ oA dA on oc dn dc e hmd wr
            have HWI := Lib.hid hwi
            unfold pkC at HWI
            clear hwi
            go_wp2_with fail
            refine HWI.out.mono ?_
            rintro e2 w4 ⟨rfl, hB4⟩
            have HB4 : Hid (Below w.heap.size w w4) := Lib.hid (HBw.out.trans (hB4.mono (by omega)))
            clear hB4
            rcases Decidable.em (fitsP p.off on dn) with f | f
            · have HE : Hid (errIs p ol dn 0) := Lib.hid (.inr (.inr (.inr ⟨HNP.out, by rw [HN.out]; exact e, HG.out, by rw [HN.out]; exact f, rfl⟩)))
              rw [decide_eq_true f]
              clear f
              go_wp2
              go_ret
              exact ⟨0, rfl, HE.out, HB4.out⟩
            · have HE : Hid (errIs p ol dn 5) := Lib.hid (.inr (.inr (.inl ⟨HNP.out, by rw [HN.out]; exact e, HG.out, by rw [HN.out]; exact f, rfl⟩)))
              rw [decide_eq_false f]
              clear f
              go_wp2
              go_ret
              exact ⟨5, rfl, HE.out, HB4.out⟩
      · have HE : Hid (errIs p ol dn 1) := Lib.hid (.inl ⟨fun h => d h.2.2.2.2.2, rfl⟩)
        have d1 : (p.off % 8 != 0) = true := by simpa using d
        go_wp2
        go_ret
        exact ⟨1, rfl, HE.out, HBw.out⟩
set_option maxHeartbeats 4000000 in
set_option maxRecDepth 100000 in
theorem rmay_any (p : PkV) (hp : p.Ok) (oA dA : Option Addr) (on oc dn dc B : Nat) (ol : List Int) (hn : ol.length = on) (hc : on ≤ oc) (hmo : on ≤ 140737488355328) (hb : Bs ol) (hmd : dn ≤ 140737488355328) (w : World) (hr : RB w B oA ol) (hB : B ≤ w.heap.size) :
    Calls Try.prog 31 #[.agg (pkC p (.slice oA on oc) (.slice dA dn dc))] w (WrPost p ol dn w) := by
  obtain ⟨W, hW⟩ : ∃ W, w.alloc (.cells (pkC p (.slice oA on oc) (.slice dA dn dc)) 26) = W := ⟨_, rfl⟩
  have hm : Bk W w.heap.size 26 (pkC p (.slice oA on oc) (.slice dA dn dc)) := by rw [← hW]; exact Bk.new w _ _
  have hBW : Below w.heap.size w W := by rw [← hW]; exact (Below.refl _ _).alloc (Nat.le_refl _) _
  have HN := Lib.hid hn
  have HM := Lib.hid hm
  have HBW := Lib.hid hBW
  have HZ := Lib.hid hm.lt
  have HR := Lib.hid (show RB W B oA ol from Rw.below hr (hBW.mono hB))
  have HW : Hid (w.alloc (.cells #[.int .i64 p.svc, .int .i64 p.id, .bool p.whole, .bool p.more, .int .i64 p.off, .int .i64 p.life, .int .i64 p.proto, .int .u32 p.src, .int .u32 p.dst, .slice oA on oc, .slice dA dn dc] 26) = W) := Lib.hid hW
  clear hn hW hBW hm hr
  have y0 := HM.out.cell 0
  have y1 := HM.out.cell 1
  have y2 := HM.out.cell 2
  have y3 := HM.out.cell 3
  have y4 := HM.out.cell 4
  have y5 := HM.out.cell 5
  have y6 := HM.out.cell 6
  have y7 := HM.out.cell 7
  have y8 := HM.out.cell 8
  have y9 := HM.out.cell 9
  have y10 := HM.out.cell 10
  simp only [pkC, List.setIfInBounds_toArray, List.getElem?_toArray, List.getElem?_cons_zero, List.getElem?_cons_succ] at y0 y1 y2 y3 y4 y5 y6 y7 y8 y9 y10
  rcases (by omega : p.svc < 0 ∨ (0 ≤ p.svc ∧ 255 < p.svc) ∨ (0 ≤ p.svc ∧ p.svc ≤ 255)) with d0 | ⟨d0, e0⟩ | ⟨d0, e0⟩
  · have HE : Hid (errIs p ol dn 1) := Lib.hid (.inl ⟨fun h => by have := h; unfold numsP at this; omega, rfl⟩)
    unfold pkC
    go_enter Try.func31, Try.ntmps31
    go_wp2
    go_ret
    exact ⟨1, rfl, HE.out, by rw [HW.out]; exact HBW.out⟩
  · have HE : Hid (errIs p ol dn 1) := Lib.hid (.inl ⟨fun h => by have := h; unfold numsP at this; omega, rfl⟩)
    have g0 : ¬ p.svc < 0 := by omega
    unfold pkC
    go_enter Try.func31, Try.ntmps31
    go_wp2
    go_ret
    exact ⟨1, rfl, HE.out, by rw [HW.out]; exact HBW.out⟩
  have g0 : ¬ p.svc < 0 := by omega
  have i0 : ¬ 255 < p.svc := by omega
  rcases (by omega : p.life < 0 ∨ (0 ≤ p.life ∧ 255 < p.life) ∨ (0 ≤ p.life ∧ p.life ≤ 255)) with d1 | ⟨d1, e1⟩ | ⟨d1, e1⟩
  · have HE : Hid (errIs p ol dn 1) := Lib.hid (.inl ⟨fun h => by have := h; unfold numsP at this; omega, rfl⟩)
    unfold pkC
    go_enter Try.func31, Try.ntmps31
    go_wp2
    go_ret
    exact ⟨1, rfl, HE.out, by rw [HW.out]; exact HBW.out⟩
  · have HE : Hid (errIs p ol dn 1) := Lib.hid (.inl ⟨fun h => by have := h; unfold numsP at this; omega, rfl⟩)
    have g1 : ¬ p.life < 0 := by omega
    unfold pkC
    go_enter Try.func31, Try.ntmps31
    go_wp2
    go_ret
    exact ⟨1, rfl, HE.out, by rw [HW.out]; exact HBW.out⟩
  have g1 : ¬ p.life < 0 := by omega
  have i1 : ¬ 255 < p.life := by omega
  rcases (by omega : p.proto < 0 ∨ (0 ≤ p.proto ∧ 255 < p.proto) ∨ (0 ≤ p.proto ∧ p.proto ≤ 255)) with d2 | ⟨d2, e2⟩ | ⟨d2, e2⟩
  · have HE : Hid (errIs p ol dn 1) := Lib.hid (.inl ⟨fun h => by have := h; unfold numsP at this; omega, rfl⟩)
    unfold pkC
    go_enter Try.func31, Try.ntmps31
    go_wp2
    go_ret
    exact ⟨1, rfl, HE.out, by rw [HW.out]; exact HBW.out⟩
  · have HE : Hid (errIs p ol dn 1) := Lib.hid (.inl ⟨fun h => by have := h; unfold numsP at this; omega, rfl⟩)
    have g2 : ¬ p.proto < 0 := by omega
    unfold pkC
    go_enter Try.func31, Try.ntmps31
    go_wp2
    go_ret
    exact ⟨1, rfl, HE.out, by rw [HW.out]; exact HBW.out⟩
  have g2 : ¬ p.proto < 0 := by omega
  have i2 : ¬ 255 < p.proto := by omega
  rcases (by omega : p.id < 0 ∨ (0 ≤ p.id ∧ 65535 < p.id) ∨ (0 ≤ p.id ∧ p.id ≤ 65535)) with d3 | ⟨d3, e3⟩ | ⟨d3, e3⟩
  · have HE : Hid (errIs p ol dn 1) := Lib.hid (.inl ⟨fun h => by have := h; unfold numsP at this; omega, rfl⟩)
    unfold pkC
    go_enter Try.func31, Try.ntmps31
    go_wp2
    go_ret
    exact ⟨1, rfl, HE.out, by rw [HW.out]; exact HBW.out⟩
  · have HE : Hid (errIs p ol dn 1) := Lib.hid (.inl ⟨fun h => by have := h; unfold numsP at this; omega, rfl⟩)
    have g3 : ¬ p.id < 0 := by omega
    unfold pkC
    go_enter Try.func31, Try.ntmps31
    go_wp2
    go_ret
    exact ⟨1, rfl, HE.out, by rw [HW.out]; exact HBW.out⟩
  have g3 : ¬ p.id < 0 := by omega
  have i3 : ¬ 65535 < p.id := by omega
  rcases (by omega : p.off < 0 ∨ (0 ≤ p.off ∧ 65528 < p.off) ∨ (0 ≤ p.off ∧ p.off ≤ 65528)) with d4 | ⟨d4, e4⟩ | ⟨d4, e4⟩
  · have HE : Hid (errIs p ol dn 1) := Lib.hid (.inl ⟨fun h => by have := h; unfold numsP at this; omega, rfl⟩)
    unfold pkC
    go_enter Try.func31, Try.ntmps31
    go_wp2
    go_ret
    exact ⟨1, rfl, HE.out, by rw [HW.out]; exact HBW.out⟩
  · have HE : Hid (errIs p ol dn 1) := Lib.hid (.inl ⟨fun h => by have := h; unfold numsP at this; omega, rfl⟩)
    have g4 : ¬ p.off < 0 := by omega
    unfold pkC
    go_enter Try.func31, Try.ntmps31
    go_wp2
    go_ret
    exact ⟨1, rfl, HE.out, by rw [HW.out]; exact HBW.out⟩
  have g4 : ¬ p.off < 0 := by omega
  have i4 : ¬ 65528 < p.off := by omega
  rcases Decidable.em (p.off % 8 = 0) with d | d
  · have HNP : Hid (numsP p) := Lib.hid ⟨⟨d0, e0⟩, ⟨d1, e1⟩, ⟨d2, e2⟩, ⟨d3, e3⟩, ⟨d4, e4⟩, d⟩
    have f1 : (p.off % 8 != 0) = false := by simpa using d
    rcases (by omega : 40 < on ∨ on ≤ 40) with e | e
    · have HE : Hid (errIs p ol dn 3) := Lib.hid (.inr (.inl ⟨HNP.out, .inl (by rw [HN.out]; exact e), rfl⟩))
      have e1 : (40 : Int) < on := by omega
      unfold pkC
      go_enter Try.func31, Try.ntmps31
      go_wp2
      go_ret
      exact ⟨3, rfl, HE.out, by rw [HW.out]; exact HBW.out⟩
    · have e1 : ¬ (40 : Int) < on := by omega
      have hgood := ropt_any oA on oc B ol HN.out hc hmo hb W HR.out
      obtain ⟨G, hG⟩ : ∃ G, goodO ol = G := ⟨_, rfl⟩
      rw [hG] at hgood
      have HG := Lib.hid hG
      have HGD := Lib.hid hgood
      clear hG hgood
      unfold pkC
      go_enter Try.func31, Try.ntmps31
      go_wp2_with fail
      rw [HW.out]
      refine HGD.out.mono ?_
      rintro e2 w' ⟨rfl, rfl⟩
      rcases G with _ | _
      · have HE : Hid (errIs p ol dn 3) := Lib.hid (.inr (.inl ⟨HNP.out, .inr HG.out, rfl⟩))
        go_wp2
        go_ret
        exact ⟨3, rfl, HE.out, HBW.out⟩
      · have hwi := head_any p oA on oc (.slice dA dn dc) hmo W
        have HWI := Lib.hid hwi
        unfold pkC at HWI
        have hz := HZ.out
        have hh := hdN_le on
        obtain ⟨h, hH⟩ : ∃ h, hdN on = h := ⟨_, rfl⟩
        have hh' : h ≤ 63 := by omega
        have HH := Lib.hid hH
        clear hwi hH hh
        go_wp2_with fail
        refine HWI.out.mono ?_
        rintro e2 w4 ⟨rfl, hB4⟩
        rw [HH.out]
        have HB4 : Hid (Below w.heap.size w w4) := Lib.hid (HBW.out.trans (hB4.mono (by omega)))
        have hm4 := HM.out.below hB4 HZ.out
        have z4 := hm4.cell 4
        have z10 := hm4.cell 10
        simp only [pkC, List.getElem?_toArray, List.getElem?_cons_zero, List.getElem?_cons_succ] at z4 z10
        clear hB4 hm4
        rcases Decidable.em (h + dn ≤ 65535) with k | k
        · have k1 : ¬ 65535 - (h : Int) < dn := by omega
          rcases Decidable.em (p.off + dn ≤ 65535 - (h : Int)) with f | f
          · have HE : Hid (errIs p ol dn 0) := Lib.hid (.inr (.inr (.inr ⟨HNP.out, by rw [HN.out]; exact e, HG.out, by rw [HN.out]; unfold fitsP; rw [HH.out]; exact ⟨k, f⟩, rfl⟩)))
            have f2 : ¬ 65535 - (h : Int) < p.off + dn := by omega
            clear f
            go_wp2
            go_ret
            exact ⟨0, rfl, HE.out, HB4.out⟩
          · have HE : Hid (errIs p ol dn 5) := Lib.hid (.inr (.inr (.inl ⟨HNP.out, by rw [HN.out]; exact e, HG.out, by rw [HN.out]; unfold fitsP; rw [HH.out]; exact fun q => f q.2, rfl⟩)))
            have f2 : 65535 - (h : Int) < p.off + dn := by omega
            clear f
            go_wp2
            go_ret
            exact ⟨5, rfl, HE.out, HB4.out⟩
        · have k1 : 65535 - (h : Int) < dn := by omega
          have HE : Hid (errIs p ol dn 5) := Lib.hid (.inr (.inr (.inl ⟨HNP.out, by rw [HN.out]; exact e, HG.out, by rw [HN.out]; unfold fitsP; rw [HH.out]; exact fun q => k q.1, rfl⟩)))
          go_wp2
          go_ret
          exact ⟨5, rfl, HE.out, HB4.out⟩
  · have HE : Hid (errIs p ol dn 1) := Lib.hid (.inl ⟨fun h => d h.2.2.2.2.2, rfl⟩)
    have f1 : (p.off % 8 != 0) = true := by simpa using d
    unfold pkC
    go_enter Try.func31, Try.ntmps31
    go_wp2
    go_ret
    exact ⟨1, rfl, HE.out, by rw [HW.out]; exact HBW.out⟩
end Go.Proofs.Ytcjkhonapafndaa
