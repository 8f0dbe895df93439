/- Proved: of every script of pieces each answer, and what is given up, is that of the document's Store. Conditions: none, for every input. -/
import Derived.Test.YtcjkhonapafndaaRows
import Derived.WalkKit
import Derived.ProofKit
import Derived.OpenShut
import Derived.ShutString
import Derived.ChangeOld
import Derived.Below
import Derived.SizedLaws
import Derived.Test.YtcjkhonapafndaaPly
import Derived.Test.YtcjkhonapafndaaKnw
import Derived.Test.YtcjkhonapafndaaIn
namespace Go.Proofs.Ytcjkhonapafndaa.fragPlays
open Go.ChangeShapes Go.WideShapes Go.ChangeAt Go.RowKit
open Go.ChangeMaps (open_string shut_string)
set_option linter.unusedVariables false

theorem own : ownKnob Try.prog.godebug = none := by kernel_rfl
theorem laidOut : laidOutB Try.prog = true := by kernel_rfl

/-! ### the walk -/
set_option maxRecDepth 100000 in
set_option maxHeartbeats 32000000 in
theorem walk (v0 : Value) (w : World) (w0 : ViewStq w v0) :
    Calls Try.prog 8 #[v0] w fun e w' => e = .returned (.bool true) ∧ Below w.heap.size w w' := by
  obtain ⟨A, len, cap, l, rfl, hcp, hcap, hn, hr, hq⟩ := w0
  have hmax : len ≤ 140737488351232 := by omega
  have HHV := Lib.hid (heavy_any A len cap l hn hmax w hr hq)
  have Hn := Lib.hid hn
  have Hr := Lib.hid hr
  have Hq := Lib.hid hq
  clear hn hr hq hcp hcap
  go_enter Try.func8, Try.ntmps8
  go_wp2_with fail
  refine HHV.out.mono ?_
  rintro e wh ⟨⟨hv, rfl, hvy⟩, hBh⟩
  have HBH := Lib.hid hBh
  have HVY := Lib.hid hvy
  clear hBh hvy
  cases hv with
  | true =>
    go_wp2_with (go_at_call 18; refine (known_any _).mono ?_; rintro e5 w5 ⟨rfl, hB5⟩)
    go_ret
    exact ⟨rfl, HBH.out.trans (hB5.mono HBH.out.size)⟩
  | false =>
    obtain ⟨s, hs⟩ : ∃ s, wh.heap.size = s := ⟨_, rfl⟩
    obtain ⟨W1, hW1⟩ : ∃ W1, wh.alloc (.cells #[.map none, .slice none 0 0] 46) = W1 := ⟨_, rfl⟩
    obtain ⟨q, hqq⟩ : ∃ q, W1.heap.size = q := ⟨_, rfl⟩
    obtain ⟨W2, hW2⟩ : ∃ W2, W1.alloc (.cells #[.slice none 0 0] 60) = W2 := ⟨_, rfl⟩
    have HP0 : Hid (PlE wh s q 0 W2) := Lib.hid (by rw [← hs, ← hqq]; exact PlE.start wh W1 W2 hW1 hW2)
    have HSQ : Hid (s + 1 = q) := Lib.hid (by rw [← hqq, ← hW1, World.size_alloc, hs])
    have HS := Lib.hid hs
    have HW1 := Lib.hid hW1
    have HW2 := Lib.hid hW2
    have HRW : Hid (∀ X, Below wh.heap.size wh X → SL 13 stqC X w.heap.size A l) := Lib.hid (fun X hX => Hr.out.below (HBH.out.trans (hX.mono HBH.out.size)))
    have HXQ : Hid (∀ x ∈ l, StqOk wh x) := Lib.hid (fun x hx => by
      obtain ⟨h1, h2, h3, h4⟩ := Hq.out x hx
      exact ⟨h1, h2.below HBH.out, h3.below HBH.out, h4⟩)
    clear hs hW1 hqq hW2
    go_wp2_with fail
    rw [HW1.out, HS.out, HSQ.out, HW2.out]
    go_loopw [5, 6] (fun v5 v6 wr => ∃ (k : Nat) (t : Int), k ≤ len ∧ k ≤ 120 ∧ 0 ≤ t ∧ t ≤ k * 1073741824 ∧ v5 = .int .i64 t ∧ v6 = .int .i64 k ∧ Hid (PlE wh s q t wr)) (fun _ v6 _ => len - (intOf v6).toNat)
    case atStart => exact ⟨0, 0, Nat.zero_le _, by omega, by omega, by omega, rfl, rfl, HP0⟩
    case round =>
      obtain ⟨k, t, hk, hk2, ht0, ht1, rfl, rfl, HC⟩ := hrel
      have hBK : Below wh.heap.size wh wr := HC.out.bl
      have HBK := Lib.hid hBK
      clear hBK
      rcases (by omega : len = k ∨ (k < len ∧ 120 ≤ k) ∨ (k < len ∧ k < 120)) with rfl | ⟨d, d'⟩ | ⟨d, d'⟩
      · have t1 : decide ((len : Int) < (len : Int)) = false := decide_eq_false (by omega)
        go_wp2_with (go_at_call 18; refine (known_any _).mono ?_; rintro e5 w5 ⟨rfl, hB5⟩)
        go_ret
        exact ⟨rfl, HBH.out.trans ((HBK.out.trans (hB5.mono HBK.out.size)).mono HBH.out.size)⟩
      · have t1 : decide ((k : Int) < (len : Int)) = true := decide_eq_true (by omega)
        have t2 : decide ((k : Int) < 120) = false := decide_eq_false (by omega)
        have t3 : decide (k < 120) = false := decide_eq_false (by omega)
        go_wp2_with (go_at_call 18; refine (known_any _).mono ?_; rintro e5 w5 ⟨rfl, hB5⟩)
        go_ret
        exact ⟨rfl, HBH.out.trans ((HBK.out.trans (hB5.mono HBK.out.size)).mono HBH.out.size)⟩
      · have t1 : decide ((k : Int) < (len : Int)) = true := decide_eq_true (by omega)
        have t2 : decide ((k : Int) < 120) = true := decide_eq_true (by omega)
        have t3 : decide (k < 120) = true := decide_eq_true (by omega)
        have hki : (0 : Int) ≤ (k : Int) ∧ (k : Int) < (len : Int) := by omega
        obtain ⟨x, hx⟩ : ∃ x, l[k]? = some x := ⟨_, List.getElem?_eq_getElem (by rw [Hn.out]; exact d)⟩
        obtain ⟨b, off, rfl, hbB, hA⟩ := (HRW.out wr HBK.out).at_ hx
        have hxo := HXQ.out x (List.mem_of_getElem? hx)
        have hxs := HVY.out (by trivial) k x d' hx
        have hxt := hxo.2.2.2.2
        obtain ⟨xk, xp, xoA, xon, xoc, xol, xdA, xdn, xdc, xdl, xt⟩ := x
        obtain ⟨psvc, pid, pwh, pmo, poff, plife, pproto, psrc, pdst⟩ := xp
        have hbB2 : b < wh.heap.size := Nat.lt_of_lt_of_le hbB HBH.out.size
        have HA : Hid (∀ X, Below wh.heap.size wh X → ∀ j u, (stqC (⟨xk, ⟨psvc, pid, pwh, pmo, poff, plife, pproto, psrc, pdst⟩, xoA, xon, xoc, xol, xdA, xdn, xdc, xdl, xt⟩ : StV))[j]? = some u → X.cell? ⟨b, off + k * 13 + j, none⟩ = some u) := Lib.hid (fun X hX j u hu =>
          ((hX.cell (p := ⟨b, off + k * 13 + j, none⟩) hbB2).trans (HBK.out.cell (p := ⟨b, off + k * 13 + j, none⟩) hbB2).symm).trans (hA j u hu))
        have HXO : Hid (StqOk wh (⟨xk, ⟨psvc, pid, pwh, pmo, poff, plife, pproto, psrc, pdst⟩, xoA, xon, xoc, xol, xdA, xdn, xdc, xdl, xt⟩ : StV)) := Lib.hid hxo
        have hxs' : xdn + xon ≤ 24000 := hxs
        have hxt' : -9223372036854775808 ≤ xt ∧ xt ≤ 9223372036854775807 := hxt
        clear hA hx hxo hxs hxt hbB
        have c0 : wr.cell? ⟨b, off + k * 13, none⟩ = some (.int .i64 xk) := HA.out wr HBK.out 0 _ rfl
        have c12 : wr.cell? ⟨b, off + k * 13 + 12, none⟩ = some (.int .i64 xt) := HA.out wr HBK.out 12 _ rfl
        go_upto_region 9 with (fail)
        go_cut [5] (fun s5 wx => ∃ t' : Int, s5 = .int .i64 t' ∧ t ≤ t' ∧ t' ≤ t + 1073741824 ∧ wx = wr)
        case first =>
          as_aux_lemma =>
          rcases (by omega : xt ≤ 0 ∨ (0 < xt ∧ xt ≤ 1073741824) ∨ 1073741824 < xt) with hp | ⟨hp, hp2⟩ | hp
          · go_wp2_with fail
            go_meet
            exact ⟨_, rfl, by omega, by omega, rfl⟩
          · go_wp2_with fail
            go_meet
            exact ⟨_, rfl, by omega, by omega, rfl⟩
          · have hp3 : 0 < xt := by omega
            go_wp2_with fail
            go_meet
            exact ⟨_, rfl, by omega, by omega, rfl⟩
        case rest =>
          obtain ⟨t', rfl, ht2, ht3, hwc⟩ := hcut
          have hwc' := hwc.symm
          clear hwc
          subst hwc'
          have HP : Hid (PlE wh s q t' wr) := Lib.hid (HC.out.later ht2 (by omega))
          clear c12
          go_upto_if 46 with (fail)
          go_cut [] (fun wx => Hid (PlE wh s q t' wx))
          case first =>
            by_cases hk3 : xk = 2
            · as_aux_lemma =>
              subst hk3
              go_wp2_with (first
                | (go_at_call 24; refine (pl_tick1 HP.out).mono ?_; rintro e1 w1 ⟨A1, n1, m1, rfl, hT1⟩)
                | (go_at_call 25; refine (pl_tick2 hT1).mono ?_; rintro e2 w2 ⟨A2, n2, m2, rfl, hT2⟩)
                | (go_at_call 15; refine (pl_tick3 hT2).mono ?_; rintro e3 w3 ⟨rfl, hP3⟩))
              go_meet
              exact Lib.hid hP3
            · as_aux_lemma =>
              have q0 : (xk == 2) = false := beq_eq_false_iff_ne.2 hk3
              clear hk3
              have HRO := Lib.hid (pl_roomy (x := (⟨xk, ⟨psvc, pid, pwh, pmo, poff, plife, pproto, psrc, pdst⟩, xoA, xon, xoc, xol, xdA, xdn, xdc, xdl, xt⟩ : StV)) HP.out HXO.out (by show xdn ≤ 24000; omega))
              simp only at HRO
              have c11 : wr.cell? ⟨b, off + k * 13 + 11, none⟩ = some (.slice xdA xdn xdc) := HA.out wr HBK.out 11 _ rfl
              go_wp2_with fail
              refine HRO.out.mono ?_
              rintro e1 w1 ⟨A1, c1, rfl, hD1⟩
              have hc1 : xdn + 1 ≤ c1 := hD1.bl.2
              obtain ⟨g1, hg1⟩ : ∃ g1, w1.heap.size = g1 := ⟨_, rfl⟩
              obtain ⟨X1, hX1⟩ : ∃ X1, w1.alloc (.cells #[.int .i64 psvc, .int .i64 pid, .bool pwh, .bool pmo, .int .i64 poff, .int .i64 plife, .int .i64 pproto, .int .u32 psrc, .int .u32 pdst, .slice xoA xon xoc, .slice A1 xdn c1] 26) = X1 := ⟨_, rfl⟩
              have HX1 := Lib.hid hX1
              have HG1 := Lib.hid hg1
              have HM1 : Hid (Bk X1 g1 26 #[.int .i64 psvc, .int .i64 pid, .bool pwh, .bool pmo, .int .i64 poff, .int .i64 plife, .int .i64 pproto, .int .u32 psrc, .int .u32 pdst, .slice xoA xon xoc, .slice A1 xdn c1]) := Lib.hid (by rw [← hX1, ← hg1]; exact Bk.new w1 _ _)
              have HD1 : Hid (D1 wh s q t' (⟨xk, ⟨psvc, pid, pwh, pmo, poff, plife, pproto, psrc, pdst⟩, xoA, xon, xoc, xol, xdA, xdn, xdc, xdl, xt⟩ : StV) A1 c1 X1) := Lib.hid (by rw [← hX1]; exact hD1.below ((Below.refl _ _).alloc (Nat.le_refl _) _))
              have HBL1 := Lib.hid hD1.bl.1
              have v1 : w1.cell? ⟨b, off + k * 13 + 1, none⟩ = some (.int .i64 psvc) := HA.out w1 HBL1.out 1 _ rfl
              have v2 : w1.cell? ⟨b, off + k * 13 + 2, none⟩ = some (.int .i64 pid) := HA.out w1 HBL1.out 2 _ rfl
              have v3 : w1.cell? ⟨b, off + k * 13 + 3, none⟩ = some (.bool pwh) := HA.out w1 HBL1.out 3 _ rfl
              have v4 : w1.cell? ⟨b, off + k * 13 + 4, none⟩ = some (.bool pmo) := HA.out w1 HBL1.out 4 _ rfl
              have v5 : w1.cell? ⟨b, off + k * 13 + 5, none⟩ = some (.int .i64 poff) := HA.out w1 HBL1.out 5 _ rfl
              have v6 : w1.cell? ⟨b, off + k * 13 + 6, none⟩ = some (.int .i64 plife) := HA.out w1 HBL1.out 6 _ rfl
              have v7 : w1.cell? ⟨b, off + k * 13 + 7, none⟩ = some (.int .i64 pproto) := HA.out w1 HBL1.out 7 _ rfl
              have v8 : w1.cell? ⟨b, off + k * 13 + 8, none⟩ = some (.int .u32 psrc) := HA.out w1 HBL1.out 8 _ rfl
              have v9 : w1.cell? ⟨b, off + k * 13 + 9, none⟩ = some (.int .u32 pdst) := HA.out w1 HBL1.out 9 _ rfl
              have v10 : w1.cell? ⟨b, off + k * 13 + 10, none⟩ = some (.slice xoA xon xoc) := HA.out w1 HBL1.out 10 _ rfl
              have v11 : w1.cell? ⟨b, off + k * 13 + 11, none⟩ = some (.slice xdA xdn xdc) := HA.out w1 HBL1.out 11 _ rfl
              clear hD1 hX1 hg1 c11 c0
              go_upto_region 16 with (fail)
              rw [HX1.out, HG1.out]
              have mm0 : X1.cell? ⟨g1, 0, none⟩ = some (.int .i64 psvc) := HM1.out.cell 0
              have mm1 : X1.cell? ⟨g1, 1, none⟩ = some (.int .i64 pid) := HM1.out.cell 1
              have mm2 : X1.cell? ⟨g1, 2, none⟩ = some (.bool pwh) := HM1.out.cell 2
              have mm3 : X1.cell? ⟨g1, 3, none⟩ = some (.bool pmo) := HM1.out.cell 3
              have mm4 : X1.cell? ⟨g1, 4, none⟩ = some (.int .i64 poff) := HM1.out.cell 4
              have mm5 : X1.cell? ⟨g1, 5, none⟩ = some (.int .i64 plife) := HM1.out.cell 5
              have mm6 : X1.cell? ⟨g1, 6, none⟩ = some (.int .i64 pproto) := HM1.out.cell 6
              have mm7 : X1.cell? ⟨g1, 7, none⟩ = some (.int .u32 psrc) := HM1.out.cell 7
              have mm8 : X1.cell? ⟨g1, 8, none⟩ = some (.int .u32 pdst) := HM1.out.cell 8
              have mm9 : X1.cell? ⟨g1, 9, none⟩ = some (.slice xoA xon xoc) := HM1.out.cell 9
              have mm10 : X1.cell? ⟨g1, 10, none⟩ = some (.slice A1 xdn c1) := HM1.out.cell 10
              have HAD1 := Lib.hid (pl_add1 (x := (⟨xk, ⟨psvc, pid, pwh, pmo, poff, plife, pproto, psrc, pdst⟩, xoA, xon, xoc, xol, xdA, xdn, xdc, xdl, xt⟩ : StV)) HD1.out HXO.out hxs')
              unfold pkC at HAD1
              simp only at HAD1
              clear v1 v2 v3 v4 v5 v6 v7 v8 v9 v10 v11
              go_wp2_with fail
              refine HAD1.out.mono ?_
              rintro e2 w2 ⟨⟨ra, rb, rc, rd, re, rf, rg, rh, ri⟩, rol, rdl, ris, rer, B1, m1, d1, B2, m2, d2, rfl, hD2⟩
              obtain ⟨g2, hg2⟩ : ∃ g2, w2.heap.size = g2 := ⟨_, rfl⟩
              obtain ⟨X2, hX2⟩ : ∃ X2, w2.alloc (.cells #[.int .i64 ra, .int .i64 rb, .bool rc, .bool rd, .int .i64 re, .int .i64 rf, .int .i64 rg, .int .u32 rh, .int .u32 ri, .slice B1 m1 d1, .slice B2 m2 d2] 26) = X2 := ⟨_, rfl⟩
              have HX2 := Lib.hid hX2
              have HG2 := Lib.hid hg2
              have HD2 : Hid (D2b wh s q t' (⟨xk, ⟨psvc, pid, pwh, pmo, poff, plife, pproto, psrc, pdst⟩, xoA, xon, xoc, xol, xdA, xdn, xdc, xdl, xt⟩ : StV) A1 c1 (⟨ra, rb, rc, rd, re, rf, rg, rh, ri⟩, rol, rdl) ris rer B1 m1 d1 B2 m2 d2 g2 #[.int .i64 ra, .int .i64 rb, .bool rc, .bool rd, .int .i64 re, .int .i64 rf, .int .i64 rg, .int .u32 rh, .int .u32 ri, .slice B1 m1 d1, .slice B2 m2 d2] X2) := Lib.hid (by rw [← hX2, ← hg2]; exact hD2.box _)
              have HBL2 := Lib.hid HD2.out.bl
              have HAD2 := Lib.hid (pl_add2 HD2.out HXO.out hxs')
              unfold pkC at HAD2
              simp only at HAD2
              clear hD2 hX2 hg2 mm0 mm1 mm2 mm3 mm4 mm5 mm6 mm7 mm8 mm9 mm10
              have v1 : X2.cell? ⟨b, off + k * 13 + 1, none⟩ = some (.int .i64 psvc) := HA.out X2 HBL2.out 1 _ rfl
              have v2 : X2.cell? ⟨b, off + k * 13 + 2, none⟩ = some (.int .i64 pid) := HA.out X2 HBL2.out 2 _ rfl
              have v3 : X2.cell? ⟨b, off + k * 13 + 3, none⟩ = some (.bool pwh) := HA.out X2 HBL2.out 3 _ rfl
              have v4 : X2.cell? ⟨b, off + k * 13 + 4, none⟩ = some (.bool pmo) := HA.out X2 HBL2.out 4 _ rfl
              have v5 : X2.cell? ⟨b, off + k * 13 + 5, none⟩ = some (.int .i64 poff) := HA.out X2 HBL2.out 5 _ rfl
              have v6 : X2.cell? ⟨b, off + k * 13 + 6, none⟩ = some (.int .i64 plife) := HA.out X2 HBL2.out 6 _ rfl
              have v7 : X2.cell? ⟨b, off + k * 13 + 7, none⟩ = some (.int .i64 pproto) := HA.out X2 HBL2.out 7 _ rfl
              have v8 : X2.cell? ⟨b, off + k * 13 + 8, none⟩ = some (.int .u32 psrc) := HA.out X2 HBL2.out 8 _ rfl
              have v9 : X2.cell? ⟨b, off + k * 13 + 9, none⟩ = some (.int .u32 pdst) := HA.out X2 HBL2.out 9 _ rfl
              have v10 : X2.cell? ⟨b, off + k * 13 + 10, none⟩ = some (.slice xoA xon xoc) := HA.out X2 HBL2.out 10 _ rfl
              have v11 : X2.cell? ⟨b, off + k * 13 + 11, none⟩ = some (.slice xdA xdn xdc) := HA.out X2 HBL2.out 11 _ rfl
              simp only
              go_upto_region 17 with (fail)
              rw [HX2.out, HG2.out]
              go_wp2_with fail
              refine HAD2.out.mono ?_
              rintro e3 w3 ⟨B5, d5, B6, d6, rfl, hD3, hb3⟩
              obtain ⟨g3, hg3⟩ : ∃ g3, w3.heap.size = g3 := ⟨_, rfl⟩
              obtain ⟨X3, hX3⟩ : ∃ X3, w3.alloc (.cells #[.int .i64 ra, .int .i64 rb, .bool rc, .bool rd, .int .i64 re, .int .i64 rf, .int .i64 rg, .int .u32 rh, .int .u32 ri, .slice B5 m1 d5, .slice B6 m2 d6] 26) = X3 := ⟨_, rfl⟩
              have HX3 := Lib.hid hX3
              have HG3 := Lib.hid hg3
              have hB3 : Below w3.heap.size w3 X3 := by rw [← hX3]; exact (Below.refl _ _).alloc (Nat.le_refl _) _
              have hD3' := hD3.below hB3
              have hb3' : Bk X3 g2 26 #[.int .i64 ra, .int .i64 rb, .bool rc, .bool rd, .int .i64 re, .int .i64 rf, .int .i64 rg, .int .u32 rh, .int .u32 ri, .slice B1 m1 d1, .slice B2 m2 d2] := by rw [← hX3]; exact hb3.alloc _
              have hn3 : Bk X3 g3 26 #[.int .i64 ra, .int .i64 rb, .bool rc, .bool rd, .int .i64 re, .int .i64 rf, .int .i64 rg, .int .u32 rh, .int .u32 ri, .slice B5 m1 d5, .slice B6 m2 d6] := by rw [← hX3, ← hg3]; exact Bk.new w3 _ _
              have HD3 := Lib.hid hD3'
              have HB3 := Lib.hid hb3'
              have HPK := Lib.hid (pl_packets ⟨ra, rb, rc, rd, re, rf, rg, rh, ri⟩ d5 d6 hD3')
              unfold pkC at HPK
              simp only at HPK
              have y0 : X3.cell? ⟨g2, 0, none⟩ = some (.int .i64 ra) := hb3'.cell 0
              have y1 : X3.cell? ⟨g2, 1, none⟩ = some (.int .i64 rb) := hb3'.cell 1
              have y2 : X3.cell? ⟨g2, 2, none⟩ = some (.bool rc) := hb3'.cell 2
              have y3 : X3.cell? ⟨g2, 3, none⟩ = some (.bool rd) := hb3'.cell 3
              have y4 : X3.cell? ⟨g2, 4, none⟩ = some (.int .i64 re) := hb3'.cell 4
              have y5 : X3.cell? ⟨g2, 5, none⟩ = some (.int .i64 rf) := hb3'.cell 5
              have y6 : X3.cell? ⟨g2, 6, none⟩ = some (.int .i64 rg) := hb3'.cell 6
              have y7 : X3.cell? ⟨g2, 7, none⟩ = some (.int .u32 rh) := hb3'.cell 7
              have y8 : X3.cell? ⟨g2, 8, none⟩ = some (.int .u32 ri) := hb3'.cell 8
              have y9 : X3.cell? ⟨g2, 9, none⟩ = some (.slice B1 m1 d1) := hb3'.cell 9
              have y10 : X3.cell? ⟨g2, 10, none⟩ = some (.slice B2 m2 d2) := hb3'.cell 10
              have z0 : X3.cell? ⟨g3, 0, none⟩ = some (.int .i64 ra) := hn3.cell 0
              have z1 : X3.cell? ⟨g3, 1, none⟩ = some (.int .i64 rb) := hn3.cell 1
              have z2 : X3.cell? ⟨g3, 2, none⟩ = some (.bool rc) := hn3.cell 2
              have z3 : X3.cell? ⟨g3, 3, none⟩ = some (.bool rd) := hn3.cell 3
              have z4 : X3.cell? ⟨g3, 4, none⟩ = some (.int .i64 re) := hn3.cell 4
              have z5 : X3.cell? ⟨g3, 5, none⟩ = some (.int .i64 rf) := hn3.cell 5
              have z6 : X3.cell? ⟨g3, 6, none⟩ = some (.int .i64 rg) := hn3.cell 6
              have z7 : X3.cell? ⟨g3, 7, none⟩ = some (.int .u32 rh) := hn3.cell 7
              have z8 : X3.cell? ⟨g3, 8, none⟩ = some (.int .u32 ri) := hn3.cell 8
              have z9 : X3.cell? ⟨g3, 9, none⟩ = some (.slice B5 m1 d5) := hn3.cell 9
              have z10 : X3.cell? ⟨g3, 10, none⟩ = some (.slice B6 m2 d6) := hn3.cell 10
              clear hD3 hD3' hX3 hg3 hb3 hb3' hn3 hB3 v1 v2 v3 v4 v5 v6 v7 v8 v9 v10 v11
              go_upto_region 18 with (fail)
              rw [HX3.out, HG3.out]
              have hdn : xdn ≤ 24000 := by omega
              have qq1 : (ris != ris) = false := by cases ris <;> rfl
              have qq2 : (rer != rer) = false := by simp
              go_wp2_with fail
              refine HPK.out.mono ?_
              rintro e4 w4 ⟨rfl, hD4, hb4⟩
              have x11 : w4.cell? ⟨b, off + k * 13 + 11, none⟩ = some (.slice xdA xdn xdc) := HA.out w4 hD4.bl 11 _ rfl
              have HD4 := Lib.hid hD4
              have HB4 : Hid (Bk w4 g2 26 #[.int .i64 ra, .int .i64 rb, .bool rc, .bool rd, .int .i64 re, .int .i64 rf, .int .i64 rg, .int .u32 rh, .int .u32 ri, .slice B1 m1 d1, .slice B2 m2 d2]) := Lib.hid (HB3.out.below hb4 HB3.out.lt)
              clear hD4 hb4 y0 z0 y1 z1 y2 z2 y3 z3 y4 z4 y5 z5 y6 z6 y7 z7 y8 z8 y9 z9 y10 z10 qq1 qq2
              go_wp2_with fail
              refine (pl_stands HD4.out HXO.out hdn).mono ?_
              rintro e6 w6 ⟨rfl, hD6, hb6⟩
              have x10 : w6.cell? ⟨g2, 10, none⟩ = some (.slice B2 m2 d2) := (HB4.out.below hb6 HB4.out.lt).cell 10
              have HD6 := Lib.hid hD6
              clear hD6 hb6 x11
              go_wp2_with fail
              refine (pl_spoil1 HD6.out).mono ?_
              rintro e7 w7 ⟨rfl, hD7⟩
              have HD7 := Lib.hid hD7
              clear hD7 x10
              go_wp2_with fail
              refine (pl_spoil2 HD7.out HXO.out hdn).mono ?_
              rintro e8 w8 ⟨rfl, hP8⟩
              have HP8 := Lib.hid hP8
              clear hP8
              go_wp2_with fail
              go_meet
              exact HP8
          case rest =>
            as_aux_lemma =>
            obtain ⟨A9, n9, c9, hn9, hc9, hL9⟩ := hcut.out.len
            have HC9 := Lib.hid hcut.out
            have HL9 := Lib.hid hL9
            have u8a : decide ((8 : Int) < (n9 : Int)) = false := decide_eq_false (by omega)
            have u8b : decide (8 < n9) = false := decide_eq_false (by omega)
            clear hL9 c0 hcut
            go_wp2_with fail
            go_quiet ((go_at_call 22; exact Calls.quiet_of_same (HL9.out _)))
            go_wp2_with fail
            go_roundw
            case rel => exact ⟨k + 1, t', by omega, by omega, by omega, by omega, rfl, by go_num, Lib.hid (HC9.out.drewN _)⟩
            case measure => simp [intOf]; omega

/-! ### the row -/
set_option maxRecDepth 100000 in
theorem lifted (os : Os) (started : os.Started) (H : Type) (enc : TypeId × Value → H) :
    ReturnsInHanded {} Try.checked os 8 .any (Rows.fragPlaysSpec.pre6 enc Try.prog Try.f8 Rows.fragPlaysRow.domain false) (Rows.fragPlaysSpec.post enc Try.prog Try.f8 false true false false) := by
  refine returnsInHanded_of_change_sized (C := Try.checked) own started (by kernel_rfl) Try.func8
    (ChangeSpec.witness6 (enc := enc) (C := Try.checked) false ⟨#[], #[.slice none 0 0], []⟩ 8 (by kernel_rfl) (by kernel_rfl) (by kernel_rfl) (by kernel_rfl)) ?_
  intro W base args ds gs before hval0 hW hcnd hsz0 _
  have hval : ∀ (j : Nat) t v, Try.f8.params[j]? = some t → args[j]? = some v → Value.okWide Try.prog W .any base t v := hval0
  have hsz : (DataW.weightsEach Try.prog (Try.f8.params.toList ++ Rows.fragPlaysSpec.plain.varTypes Try.prog) (ds ++ gs)).all (· ≤ reachBytes) = true := hsz0
  clear hsz0
  have hW' := hW
  obtain ⟨p, q, hA0, hV, rfl, hfz, hnd⟩ := hW
  have hA : DataW.TrodAll enc Try.prog W 0 (fun _ => true) true Try.f8.params.toList args.toList ds p := hA0
  rw [Try.params8] at hA hval hsz
  obtain ⟨v0, vs0, d0, ds0, p0, q0, hargs, rfl, rfl, h0, r0⟩ := trodAll_cons hA
  obtain ⟨rfl, rfl, rfl⟩ := trodAll_nil r0
  obtain rfl : args = #[v0] := by cases args; simp_all
  obtain ⟨rfl, rfl⟩ := trodVars_none hV
  have k0 := h0
  have lt0 : ∀ x ∈ p0, x.block < W.heap.size := by obtain ⟨m, hm⟩ := k0; exact DataW.trod_lt m _ _ _ hm
  have w0 : ViewStq W v0 := open_stq (hval 0 55 v0 rfl rfl) h0 (fun k hk => by have := List.all_eq_true.1 hsz k (DataW.weights_mem_each (j := 0) rfl rfl k hk); simpa using this)
  clear hA0 hval0
  refine (walk v0 W w0).mono fun e W' ⟨he, bel⟩ => ?_
  subst he
  exact ⟨_, rfl, _, _, _, [], _, [], hW', trodAll_mk1 (shut_bool Try.underlying4 _), (trodAll_cons_mk (Below.trod laidOut (by kernel_rfl) (of_decide_eq_true (by kernel_rfl)) k0 bel lt0) trodAll_mk0), rfl, bel.frame _, fun h => by cases h⟩

theorem over : Rows.fragPlaysRow.holds Try.pinned (OpenSpec.ofChange Rows.fragPlaysSpec) :=
  OpenClaim.holds_of_wide 8 Try.f8 rfl rfl rfl rfl rfl rfl rfl ⟨rfl, rfl, rfl, rfl, rfl⟩ rfl rfl rfl rfl rfl (by kernel_rfl) Try.func8 (by kernel_rfl)
    (of_decide_eq_true (by kernel_rfl)) (by unfold Func.isWrapper; first | (rw [if_pos (by decide +kernel)]; kernel_rfl) | (rw [if_neg (by decide +kernel)]; exact ⟨rfl, rfl⟩))
    (fun os started H enc _ => lifted os started H enc)

theorem proved : Rows.FragPlaysSaid := over
#print axioms proved
end Go.Proofs.Ytcjkhonapafndaa.fragPlays
