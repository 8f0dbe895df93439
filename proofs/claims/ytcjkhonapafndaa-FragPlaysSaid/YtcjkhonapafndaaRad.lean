/- Proved: Add of the reference's Store, of a piece that may be put in. Conditions: the Store lies in memory. -/
import Derived.Test.YtcjkhonapafndaaRa3
import Derived.Test.YtcjkhonapafndaaInv
import Derived.Test.YtcjkhonapafndaaAdw
import Derived.Deep.DeepCutAuto
import Derived.Deep.RegionHeld3
import Derived.WalkMore
set_option linter.unusedVariables false
set_option linter.unusedSimpArgs false
namespace Go.Proofs.Ytcjkhonapafndaa
open Go.RowKit
set_option maxHeartbeats 16000000 in
set_option maxRecDepth 100000 in
theorem radd_good (q : Nat) (G : Nat → Prop) (A : Option Addr) (n c : Nat) (L : List RVm) (p : PkV) (oA dA : Option Addr) (on oc dn dc : Nat) (ol dl : List Int) (now : Int) (w : World) (h : RfS w q G A n c L) (hn : n ≤ 100) (hg : Good p dn) (ho : RB w w.heap.size oA ol) (hol : ol.length = on) (hr : RB w w.heap.size dA dl) (hdl : dl.length = dn) (hdc : dn ≤ dc) (hoc : on ≤ oc) (hno : ∀ b, (0 < ol.length ∧ blk oA = some b) ∨ (0 < dl.length ∧ blk dA = some b) → ¬ ownR q A b) :
    Calls Try.prog 26 #[.pointer (some ⟨q, 0, none⟩), .agg (pkC p (.slice oA on oc) (.slice dA dn dc)), .int .i64 now] w (RaPost w q A G (L.map RVm.rv) oA dA ol dl (GoodV (L.map RVm.rv) p ol dl now)) := by
  have hg1 := hg.pos
  have hg2 := hg.off
  have hg3 := hg.o8
  have hg4 := hg.d8
  have hg5 := hg.mo
  have hg6 := hg.lng
  obtain ⟨psvc, pid, pwh, pmo, poff, plife, pproto, psrc, pdst⟩ := p
  simp only at hg1 hg2 hg3 hg4 hg5 hg6
  obtain ⟨pn, rfl⟩ : ∃ pn : Nat, poff = (pn : Int) := ⟨poff.toNat, by omega⟩
  have HG := Lib.hid hg
  obtain ⟨gx, hgx⟩ : ∃ gx, w.heap.size = gx := ⟨_, rfl⟩
  obtain ⟨W, hW⟩ : ∃ W, (w.alloc (.cells #[.int .i64 psvc, .int .i64 pid, .bool pwh, .bool pmo, .int .i64 (pn : Int), .int .i64 plife, .int .i64 pproto, .int .u32 psrc, .int .u32 pdst, .slice oA on oc, .slice dA dn dc] 26)).alloc (.cells #[.int .i64 0, .int .i64 0, .bool false, .bool false, .int .i64 0, .int .i64 0, .int .i64 0, .int .u32 0, .int .u32 0, .slice none 0 0, .slice none 0 0] 26) = W := ⟨_, rfl⟩
  have hz : (w.alloc (.cells #[.int .i64 psvc, .int .i64 pid, .bool pwh, .bool pmo, .int .i64 (pn : Int), .int .i64 plife, .int .i64 pproto, .int .u32 psrc, .int .u32 pdst, .slice oA on oc, .slice dA dn dc] 26)).heap.size = gx + 1 := by rw [World.size_alloc, hgx]
  have hpk : Bk W gx 26 #[.int .i64 psvc, .int .i64 pid, .bool pwh, .bool pmo, .int .i64 (pn : Int), .int .i64 plife, .int .i64 pproto, .int .u32 psrc, .int .u32 pdst, .slice oA on oc, .slice dA dn dc] := by rw [← hW, ← hgx]; exact (Bk.new w _ _).alloc _
  have hzk : Bk W (gx + 1) 26 #[.int .i64 0, .int .i64 0, .bool false, .bool false, .int .i64 0, .int .i64 0, .int .i64 0, .int .u32 0, .int .u32 0, .slice none 0 0, .slice none 0 0] := by
    rw [← hW]
    have := Bk.new (w.alloc (.cells #[.int .i64 psvc, .int .i64 pid, .bool pwh, .bool pmo, .int .i64 (pn : Int), .int .i64 plife, .int .i64 pproto, .int .u32 psrc, .int .u32 pdst, .slice oA on oc, .slice dA dn dc] 26)) 26 #[.int .i64 0, .int .i64 0, .bool false, .bool false, .int .i64 0, .int .i64 0, .int .i64 0, .int .u32 0, .int .u32 0, .slice none 0 0, .slice none 0 0]
    rwa [hz] at this
  have hBW : Below gx w W := by rw [← hW, ← hgx]; exact ((Below.refl _ _).alloc (Nat.le_refl _) _).alloc (by rw [World.size_alloc]; omega) _
  have hS : RfS W q G A n c L := h.below (by rw [hgx]; exact hBW)
  have hSP := Lib.hid (fun (w1 : World) (h1 : RfS w1 q G A n c L) => spot_any q A n c L (⟨psvc, pid, pwh, pmo, (pn : Int), plife, pproto, psrc, pdst⟩ : PkV) (.slice oA on oc) (.slice dA dn dc) w1 h1.st (by omega))
  unfold pkC at hSP
  simp only at hSP
  have HW := Lib.hid hW
  have HGX := Lib.hid hgx
  have HQ : Hid (q < gx) := Lib.hid (by rw [← hgx]; exact h.st.1.lt)
  have HAO : Hid (∀ b, ownR q A b → b < gx) := Lib.hid (by rw [← hgx]; exact h.olt)
  have HGB : Hid (∀ b, G b → b < gx) := Lib.hid (by rw [← hgx]; exact h.lt)
  have HPK := Lib.hid hpk
  have HZK := Lib.hid hzk
  have HBW := Lib.hid hBW
  have HS := Lib.hid hS
  have HO := Lib.hid ho
  have HOL := Lib.hid hol
  have HR := Lib.hid hr
  have HDL := Lib.hid hdl
  have HNO : Hid (∀ b, (0 < ol.length ∧ blk oA = some b) ∨ (0 < dl.length ∧ blk dA = some b) → b < gx ∧ ¬ ownR q A b) := Lib.hid (fun b hb => ⟨by
    rcases hb with ⟨k1, k2⟩ | ⟨k1, k2⟩
    · have := rb_lt ho k1 k2; omega
    · have := rb_lt hr k1 k2; omega, hno b hb⟩)
  have b0 : W.cell? ⟨gx, 0, none⟩ = some (.int .i64 psvc) := hpk.cell 0
  have b1 : W.cell? ⟨gx, 1, none⟩ = some (.int .i64 pid) := hpk.cell 1
  have b2 : W.cell? ⟨gx, 2, none⟩ = some (.bool pwh) := hpk.cell 2
  have b3 : W.cell? ⟨gx, 3, none⟩ = some (.bool pmo) := hpk.cell 3
  have b4 : W.cell? ⟨gx, 4, none⟩ = some (.int .i64 (pn : Int)) := hpk.cell 4
  have b5 : W.cell? ⟨gx, 5, none⟩ = some (.int .i64 plife) := hpk.cell 5
  have b6 : W.cell? ⟨gx, 6, none⟩ = some (.int .i64 pproto) := hpk.cell 6
  have b7 : W.cell? ⟨gx, 7, none⟩ = some (.int .u32 psrc) := hpk.cell 7
  have b8 : W.cell? ⟨gx, 8, none⟩ = some (.int .u32 pdst) := hpk.cell 8
  have b9 : W.cell? ⟨gx, 9, none⟩ = some (.slice oA on oc) := hpk.cell 9
  have b10 : W.cell? ⟨gx, 10, none⟩ = some (.slice dA dn dc) := hpk.cell 10
  have hx8 : dn % 8 = 0 ∨ pmo = false := by
    cases pmo with
    | true => exact .inl (hg4 rfl)
    | false => exact .inr rfl
  have hmo : pmo = true ∨ 0 < pn := hg5.imp id (fun e => by omega)
  have HX8 := Lib.hid hx8
  have HMO := Lib.hid hmo
  have HO8 := Lib.hid hg3
  have hb1 : pn + dn ≤ 65515 := by omega
  unfold pkC
  simp only
  clear hno hW hgx hpk hzk hBW hS ho hol hr hdl hz h hx8 hmo hg hg2 hg3 hg4 hg5 hg6
  go_enter Try.func26, Try.ntmps26
  go_upto_region 1 with (fail)
  rw [HW.out, HGX.out]
  go_cut [24] (fun s24 wx => s24 = .bool false ∧ wx = W)
  case first =>
    cases pmo with
    | true =>
      go_wp2_with fail
      go_meet
      exact ⟨rfl, rfl⟩
    | false =>
      have hp0 : 0 < pn := by rcases HMO.out with h | h; cases h; exact h
      have t1 : decide ((pn : Int) ≤ 0) = false := decide_eq_false (by omega)
      have t2 : decide (pn = 0) = false := decide_eq_false (by omega)
      clear hp0
      go_wp2_with fail
      go_meet
      exact ⟨rfl, rfl⟩
  case rest =>
    obtain ⟨rfl, hwc⟩ := hcut
    have hwc' := hwc.symm
    clear hwc
    subst hwc'
    go_upto_region 4 with (fail)
    go_cut [50] (fun s50 wx => s50 = .bool false ∧ wx = W)
    case first =>
      have t3 : ((dn : Int) == 0) = false := beq_eq_false_iff_ne.2 (by omega)
      have t4 : (dn == 0) = false := beq_eq_false_iff_ne.2 (by omega)
      have t5 : decide ((pn : Int) < 0) = false := decide_eq_false (by omega)
      have t6 := HO8.out
      cases pmo with
      | true =>
        have t7 : (dn : Int).tmod 8 = 0 := by
          rcases HX8.out with h | h
          · rw [Int.tmod_eq_emod_of_nonneg (by omega)]; omega
          · cases h
        go_wp2_with fail
        go_meet
        exact ⟨rfl, rfl⟩
      | false =>
        go_wp2_with fail
        go_meet
        exact ⟨rfl, rfl⟩
    case rest =>
      obtain ⟨rfl, hwc⟩ := hcut
      have hwc' := hwc.symm
      clear hwc
      subst hwc'
      have t8 : decide ((65515 : Int) - (dn : Int) < (pn : Int)) = false := decide_eq_false (by omega)
      go_wp2_with fail
      refine (hSP.out _ HS.out).mono ?_
      rintro e w1 ⟨⟨s, rfl, hsp⟩, hB1⟩
      have HSPO := Lib.hid hsp
      have HB1 := Lib.hid hB1
      have hS1 := HS.out.below hB1
      have HS1 := Lib.hid hS1
      have hp1 := HPK.out.below hB1 HPK.out.lt
      have HP1 := Lib.hid hp1
      have HZ1 := Lib.hid (HZK.out.below hB1 HZK.out.lt)
      have hsb : s = -1 ∨ 0 ≤ s := by
        rcases hsp with ⟨h, _⟩ | ⟨K1, x, K2, _, _, _, h⟩ <;> omega
      have p0 : w1.cell? ⟨gx, 0, none⟩ = some (.int .i64 psvc) := hp1.cell 0
      have p1 : w1.cell? ⟨gx, 1, none⟩ = some (.int .i64 pid) := hp1.cell 1
      have p2 : w1.cell? ⟨gx, 2, none⟩ = some (.bool pwh) := hp1.cell 2
      have p3 : w1.cell? ⟨gx, 3, none⟩ = some (.bool pmo) := hp1.cell 3
      have p4 : w1.cell? ⟨gx, 4, none⟩ = some (.int .i64 (pn : Int)) := hp1.cell 4
      have p5 : w1.cell? ⟨gx, 5, none⟩ = some (.int .i64 plife) := hp1.cell 5
      have p6 : w1.cell? ⟨gx, 6, none⟩ = some (.int .i64 pproto) := hp1.cell 6
      have p7 : w1.cell? ⟨gx, 7, none⟩ = some (.int .u32 psrc) := hp1.cell 7
      have p8 : w1.cell? ⟨gx, 8, none⟩ = some (.int .u32 pdst) := hp1.cell 8
      have p9 : w1.cell? ⟨gx, 9, none⟩ = some (.slice oA on oc) := hp1.cell 9
      have p10 : w1.cell? ⟨gx, 10, none⟩ = some (.slice dA dn dc) := hp1.cell 10
      have c0 : w1.cell? ⟨q, 0, none⟩ = some (.slice A n c) := hS1.st.1.cell 0
      clear hsp hB1 hS1 hp1 b0 b1 b2 b3 b4 b5 b6 b7 b8 b9 b10
      go_upto_if 66 with (fail)
      go_cut [11] (fun s11 wx => ∃ i : Nat, s11 = .int .i64 i ∧ Hid (∃ A1 n1 c1 L1 x, RaM w1 gx q (⟨psvc, pid, pwh, pmo, (pn : Int), plife, pproto, psrc, pdst⟩ : PkV) (.slice oA on oc) (.slice dA dn dc) A G (L.map RVm.rv) dn now A1 n1 c1 i L1 x wx))
      case first =>
        rcases hsb with rfl | hs0
        · as_aux_lemma =>
          go_upto_if 108 with (fail)
          go_cut [] (fun wx => Hid (∃ A2 n2 c2 L2, RaN w1 gx q (⟨psvc, pid, pwh, pmo, (pn : Int), plife, pproto, psrc, pdst⟩ : PkV) (.slice oA on oc) (.slice dA dn dc) A G L n A2 n2 c2 L2 wx))
          case first =>
            rcases Nat.lt_or_ge n 8 with r | r
            · have tA : decide ((8 : Int) ≤ (n : Int)) = false := decide_eq_false (by omega)
              go_wp2_with fail
              go_meet
              exact Lib.hid ⟨A, n, c, L, HS1.out, by omega, .inl ⟨r, rfl⟩, HP1.out, HZ1.out, Chg.refl _ _, fun b hb => .inl hb⟩
            · have tA : decide ((8 : Int) ≤ (n : Int)) = true := decide_eq_true (by omega)
              go_wp2_with fail
              refine (oldest_any q A n c L w1 HS1.out.st (by omega) (by omega)).mono ?_
              rintro e w2 ⟨⟨m, rfl, hO⟩, kk, rfl⟩
              have hl := HS1.out.st.2.1.len
              rw [← hl] at hO
              obtain ⟨K1, x, K2, e1, e2, e3, e4⟩ := hO.split
              have HE := Lib.hid (And.intro e1 (And.intro e2 e3))
              have HD := Lib.hid (rdrop (HS1.out.drewN kk) (by omega) m (by omega))
              clear hO hl e1 e2 e3 e4
              go_wp2_with fail
              refine HD.out.mono ?_
              rintro e w3 ⟨rfl, A3, n3, c3, h3, hC3, hA3⟩
              have H3 := Lib.hid (And.intro h3 (And.intro hC3 hA3))
              clear h3 hC3 hA3
              go_wp2_with fail
              go_meet
              obtain ⟨h3, hC3, hA3⟩ := H3.out
              have hz1 : gx + 1 < w1.heap.size := HZ1.out.lt
              have hC4 : Chg (fun b => b = q) w1 w3 := ((Chg.refl _ _).drewN kk).trans hC3 (fun _ e => .inl e)
              have hq := HQ.out
              have hl3 := h3.st.2.1.len
              have hl1 := HS1.out.st.2.1.len
              refine Lib.hid ⟨A3, n3, c3, _, h3, ?_, .inr ⟨r, K1, x, K2, HE.out.1, HE.out.2.1, HE.out.2.2⟩, HP1.out.chg hC4 (by omega), HZ1.out.chg hC4 (by omega), hC4.mono (fun b _ e => .inl e), fun b hb => .inr ?_⟩
              · rw [List.length_append, List.length_take, List.length_drop] at hl3
                omega
              · have h9 := hA3 b hb
                have h10 : (w1.drewN kk).heap.size = w1.heap.size := rfl
                omega
          case rest =>
            obtain ⟨A2, n2, c2, L2, hN⟩ := hcut.out
            have HN := Lib.hid hN
            have hn2 := hN.n2
            obtain ⟨W2, hW2⟩ : ∃ W2, W2 = wc := ⟨_, rfl⟩
            subst hW2
            clear hN hcut p0 p1 p2 p3 p4 p5 p6 p7 p8 p9 p10 c0
            go_upto_region 21 with (fail)
            have HST : Hid (raR q gx n2 c2 A2 (pkK (⟨psvc, pid, pwh, pmo, (pn : Int), plife, pproto, psrc, pdst⟩ : PkV)) now #[.int .i64 psvc, .int .i64 pid, .bool pwh, .bool pmo, .int .i64 (pn : Int), .int .i64 plife, .int .i64 pproto, .int .u32 psrc, .int .u32 pdst, .slice oA on oc, .slice dA dn dc] L2 W2 (fun _ => false) (fun _ => undef) W2.drew) := Lib.hid (by
              have hq := HQ.out
              have hzx := HN.out.pk.lt
              have ho := HN.out.ow
              have hz1 := HZ1.out.lt
              refine ⟨(fun _ h => by cases h), (Chg.refl _ _).drewN 1, ⟨(fun h => by cases h), (fun h => by cases h)⟩, fun _ => HN.out.st.st.2.1, (fun h => by cases h), (fun h => by cases h), fun _ => HN.out.st.st.1, (fun h => by cases h), HN.out.pk, HN.out.st.st.2.2, ⟨by omega, fun e => ?_⟩, ⟨by omega, hzx⟩⟩
              rcases ho gx e with h | h
              · have := HAO.out gx (.inr h); omega
              · omega)
            refine wp_region_inv [some 113, some 114, some 115, some 116, some 117, some 118, some 119, some 120, some 121, some 122, some 123, some 124, some 125, some 126, some 127, some 128, some 129, some 130, some 131, none] (raR q gx n2 c2 A2 (pkK (⟨psvc, pid, pwh, pmo, (pn : Int), plife, pproto, psrc, pdst⟩ : PkV)) now #[.int .i64 psvc, .int .i64 pid, .bool pwh, .bool pmo, .int .i64 (pn : Int), .int .i64 plife, .int .i64 pproto, .int .u32 psrc, .int .u32 pdst, .slice oA on oc, .slice dA dn dc] L2 W2) (by kernel_rfl) rfl (by kernel_rfl) (by kernel_rfl) (by kernel_rfl) (by kernel_rfl) ?_ ?_ ?_
            · exact HST.out
            · refine ⟨?_, ?_, ?_, ?_, ?_, ?_, ?_, ?_, ?_, ?_, ?_, ?_, ?_, ?_, ?_, ?_, ?_, ?_, ?_, ?_, trivial⟩
              · as_aux_lemma =>
                intro L v w3 f hL hdep hF hR K hK
                exact s_mv (.tmp 0) rfl ((hF.1 0 (by decide)).trans rfl : f.eval (.tmp 0) = .pointer (some ⟨q, 0, none⟩)) (hK _ _ (raR_step hR rfl rfl))
              · as_aux_lemma =>
                intro L v w3 f hL hdep hF hR K hK
                exact s_mv (.tmp 0) rfl ((hF.1 0 (by decide)).trans rfl : f.eval (.tmp 0) = .pointer (some ⟨q, 0, none⟩)) (hK _ _ (raR_step hR rfl rfl))
              · as_aux_lemma =>
                intro L v w3 f hL hdep hF hR K hK
                simp [Region.binds] at hdep
                have e1 : f.eval (.tmp 114) = _ := ((hF.2 1 114 rfl hdep).trans (hR.pl 1 hdep rfl)).trans (show raC q gx n2 c2 A2 (pkK (⟨psvc, pid, pwh, pmo, (pn : Int), plife, pproto, psrc, pdst⟩ : PkV)) now 1 = .pointer (some ⟨q, 0, none⟩) from rfl)
                exact s_nil 114 rfl e1 (hK _ _ (raR_step hR rfl rfl))
              · as_aux_lemma =>
                intro L v w3 f hL hdep hF hR K hK
                simp [Region.binds] at hdep
                have e2 : f.eval (.tmp 115) = _ := ((hF.2 2 115 rfl hdep).trans (hR.pl 2 hdep rfl)).trans (show raC q gx n2 c2 A2 (pkK (⟨psvc, pid, pwh, pmo, (pn : Int), plife, pproto, psrc, pdst⟩ : PkV)) now 2 = .pointer (some ⟨q, 0, none⟩) from rfl)
                exact s_fa_s0 115 rfl e2 (hK _ _ (raR_step hR rfl rfl))
              · as_aux_lemma =>
                intro L v w3 f hL hdep hF hR K hK
                simp [Region.binds] at hdep
                have hcq : w3.cell? ⟨q, 0, none⟩ = some (.slice A2 n2 c2) := ((hR.st (raD_old hR.dp (.inl hL))).cell 0).trans rfl
                have e3 : f.eval (.tmp 116) = _ := ((hF.2 3 116 rfl hdep).trans (hR.pl 3 hdep rfl)).trans (show raC q gx n2 c2 A2 (pkK (⟨psvc, pid, pwh, pmo, (pn : Int), plife, pproto, psrc, pdst⟩ : PkV)) now 3 = .pointer (some ⟨q, 0, none⟩) from rfl)
                exact s_ld_r 116 rfl e3 hcq (hK _ _ (raR_step hR rfl rfl))
              · as_aux_lemma =>
                intro L v w3 f hL hdep hF hR K hK
                exact s_fa_p7 4 rfl ((hF.1 4 (by decide)).trans rfl : f.eval (.tmp 4) = .pointer (some ⟨gx, 0, none⟩)) (hK _ _ (raR_step hR rfl rfl))
              · as_aux_lemma =>
                intro L v w3 f hL hdep hF hR K hK
                simp [Region.binds] at hdep
                have hcp : w3.cell? ⟨gx, 7, none⟩ = some (.int .u32 psrc) := (hR.pk.cell 7).trans rfl
                have e5 : f.eval (.tmp 118) = _ := ((hF.2 5 118 rfl hdep).trans (hR.pl 5 hdep rfl)).trans (show raC q gx n2 c2 A2 (pkK (⟨psvc, pid, pwh, pmo, (pn : Int), plife, pproto, psrc, pdst⟩ : PkV)) now 5 = .pointer (some ⟨gx, 7, none⟩) from rfl)
                exact s_ld_u 118 rfl e5 hcp (hK _ _ (raR_step hR rfl rfl))
              · as_aux_lemma =>
                intro L v w3 f hL hdep hF hR K hK
                exact s_fa_p8 4 rfl ((hF.1 4 (by decide)).trans rfl : f.eval (.tmp 4) = .pointer (some ⟨gx, 0, none⟩)) (hK _ _ (raR_step hR rfl rfl))
              · as_aux_lemma =>
                intro L v w3 f hL hdep hF hR K hK
                simp [Region.binds] at hdep
                have hcp : w3.cell? ⟨gx, 8, none⟩ = some (.int .u32 pdst) := (hR.pk.cell 8).trans rfl
                have e7 : f.eval (.tmp 120) = _ := ((hF.2 7 120 rfl hdep).trans (hR.pl 7 hdep rfl)).trans (show raC q gx n2 c2 A2 (pkK (⟨psvc, pid, pwh, pmo, (pn : Int), plife, pproto, psrc, pdst⟩ : PkV)) now 7 = .pointer (some ⟨gx, 8, none⟩) from rfl)
                exact s_ld_u 120 rfl e7 hcp (hK _ _ (raR_step hR rfl rfl))
              · as_aux_lemma =>
                intro L v w3 f hL hdep hF hR K hK
                exact s_fa_p6 4 rfl ((hF.1 4 (by decide)).trans rfl : f.eval (.tmp 4) = .pointer (some ⟨gx, 0, none⟩)) (hK _ _ (raR_step hR rfl rfl))
              · as_aux_lemma =>
                intro L v w3 f hL hdep hF hR K hK
                simp [Region.binds] at hdep
                have hcp : w3.cell? ⟨gx, 6, none⟩ = some (.int .i64 pproto) := (hR.pk.cell 6).trans rfl
                have e9 : f.eval (.tmp 122) = _ := ((hF.2 9 122 rfl hdep).trans (hR.pl 9 hdep rfl)).trans (show raC q gx n2 c2 A2 (pkK (⟨psvc, pid, pwh, pmo, (pn : Int), plife, pproto, psrc, pdst⟩ : PkV)) now 9 = .pointer (some ⟨gx, 6, none⟩) from rfl)
                exact s_ld_i 122 rfl e9 hcp (hK _ _ (raR_step hR rfl rfl))
              · as_aux_lemma =>
                intro L v w3 f hL hdep hF hR K hK
                exact s_fa_p1 4 rfl ((hF.1 4 (by decide)).trans rfl : f.eval (.tmp 4) = .pointer (some ⟨gx, 0, none⟩)) (hK _ _ (raR_step hR rfl rfl))
              · as_aux_lemma =>
                intro L v w3 f hL hdep hF hR K hK
                simp [Region.binds] at hdep
                have hcp : w3.cell? ⟨gx, 1, none⟩ = some (.int .i64 pid) := (hR.pk.cell 1).trans rfl
                have e11 : f.eval (.tmp 124) = _ := ((hF.2 11 124 rfl hdep).trans (hR.pl 11 hdep rfl)).trans (show raC q gx n2 c2 A2 (pkK (⟨psvc, pid, pwh, pmo, (pn : Int), plife, pproto, psrc, pdst⟩ : PkV)) now 11 = .pointer (some ⟨gx, 1, none⟩) from rfl)
                exact s_ld_i 124 rfl e11 hcp (hK _ _ (raR_step hR rfl rfl))
              · as_aux_lemma =>
                intro L v w3 f hL hdep hF hR K hK
                exact s_mv (.tmp 2) rfl ((hF.1 2 (by decide)).trans rfl : f.eval (.tmp 2) = .int .i64 now) (hK _ _ (raR_step hR rfl rfl))
              · as_aux_lemma =>
                intro L v w3 f hL hdep hF hR K hK
                simp [Region.binds] at hdep
                obtain ⟨d6, d8, d10, d12, d13⟩ := hdep
                have e6 : f.eval (.tmp 119) = _ := ((hF.2 6 119 rfl d6).trans (hR.pl 6 d6 rfl)).trans (show raC q gx n2 c2 A2 (pkK (⟨psvc, pid, pwh, pmo, (pn : Int), plife, pproto, psrc, pdst⟩ : PkV)) now 6 = .int .u32 psrc from rfl)
                have e8 : f.eval (.tmp 121) = _ := ((hF.2 8 121 rfl d8).trans (hR.pl 8 d8 rfl)).trans (show raC q gx n2 c2 A2 (pkK (⟨psvc, pid, pwh, pmo, (pn : Int), plife, pproto, psrc, pdst⟩ : PkV)) now 8 = .int .u32 pdst from rfl)
                have e10 : f.eval (.tmp 123) = _ := ((hF.2 10 123 rfl d10).trans (hR.pl 10 d10 rfl)).trans (show raC q gx n2 c2 A2 (pkK (⟨psvc, pid, pwh, pmo, (pn : Int), plife, pproto, psrc, pdst⟩ : PkV)) now 10 = .int .i64 pproto from rfl)
                have e12 : f.eval (.tmp 125) = _ := ((hF.2 12 125 rfl d12).trans (hR.pl 12 d12 rfl)).trans (show raC q gx n2 c2 A2 (pkK (⟨psvc, pid, pwh, pmo, (pn : Int), plife, pproto, psrc, pdst⟩ : PkV)) now 12 = .int .i64 pid from rfl)
                have e13 : f.eval (.tmp 126) = _ := ((hF.2 13 126 rfl d13).trans (hR.pl 13 d13 rfl)).trans (show raC q gx n2 c2 A2 (pkK (⟨psvc, pid, pwh, pmo, (pn : Int), plife, pproto, psrc, pdst⟩ : PkV)) now 13 = .int .i64 now from rfl)
                exact s_bl_w (k := pkK (⟨psvc, pid, pwh, pmo, (pn : Int), plife, pproto, psrc, pdst⟩ : PkV)) (now := now) rfl e6 e8 e10 e12 e13 (hK _ _ (raR_step hR rfl rfl))
              · as_aux_lemma =>
                intro L v w3 f hL hdep hF hR K hK
                simp [Region.binds] at hdep
                have e14 : f.eval (.tmp 127) = .agg (rvC (newM (pkK (⟨psvc, pid, pwh, pmo, (pn : Int), plife, pproto, psrc, pdst⟩ : PkV)) now)).toArray := ((hF.2 14 127 rfl hdep).trans (hR.pl 14 hdep rfl)).trans rfl
                refine ra_lit 127 (newM (pkK (⟨psvc, pid, pwh, pmo, (pn : Int), plife, pproto, psrc, pdst⟩ : PkV)) now) rfl e14 ?_
                exact hK _ _ (raR_lit hR hL)
              · as_aux_lemma =>
                intro L v w3 f hL hdep hF hR K hK
                simp [Region.binds] at hdep
                obtain ⟨d4, d15⟩ := hdep
                have e4 : f.eval (.tmp 117) = _ := ((hF.2 4 117 rfl d4).trans (hR.pl 4 d4 rfl)).trans (show raC q gx n2 c2 A2 (pkK (⟨psvc, pid, pwh, pmo, (pn : Int), plife, pproto, psrc, pdst⟩ : PkV)) now 4 = .slice A2 n2 c2 from rfl)
                have e15 : f.eval (.tmp 128) = v 15 := hF.2 15 128 rfl d15
                obtain ⟨u, w4, hrun, hR4⟩ := raR_app hR hL d4 d15 (by omega)
                unfold Oper.wp execOp
                simp only [resolve, invoke, builtin, Sem.run_bind, Sem.run_pure, Result.andThen_ok, List.map_toArray, List.map_cons, List.map_nil, e4, e15, hrun]
                exact hK _ _ hR4
              · as_aux_lemma =>
                intro L v w3 f hL hdep hF hR K hK
                simp [Region.binds] at hdep
                have e0 : f.eval (.tmp 113) = _ := ((hF.2 0 113 rfl hdep.1).trans (hR.pl 0 hdep.1 rfl)).trans (show raC q gx n2 c2 A2 (pkK (⟨psvc, pid, pwh, pmo, (pn : Int), plife, pproto, psrc, pdst⟩ : PkV)) now 0 = .pointer (some ⟨q, 0, none⟩) from rfl)
                exact s_nil 113 rfl e0 (hK _ _ (raR_step hR rfl rfl))
              · as_aux_lemma =>
                intro L v w3 f hL hdep hF hR K hK
                simp [Region.binds] at hdep
                have e17 : f.eval (.tmp 130) = _ := ((hF.2 17 130 rfl hdep.1).trans (hR.pl 17 hdep.1 rfl)).trans (show raC q gx n2 c2 A2 (pkK (⟨psvc, pid, pwh, pmo, (pn : Int), plife, pproto, psrc, pdst⟩ : PkV)) now 17 = .pointer (some ⟨q, 0, none⟩) from rfl)
                exact s_fa_s0 130 rfl e17 (hK _ _ (raR_step hR rfl rfl))
              · as_aux_lemma =>
                intro L v w3 f hL hdep hF hR K hK
                simp [Region.binds] at hdep
                obtain ⟨d18, d16, _⟩ := hdep
                have e18 : f.eval (.tmp 131) = _ := ((hF.2 18 131 rfl d18).trans (hR.pl 18 d18 rfl)).trans (show raC q gx n2 c2 A2 (pkK (⟨psvc, pid, pwh, pmo, (pn : Int), plife, pproto, psrc, pdst⟩ : PkV)) now 18 = .pointer (some ⟨q, 0, none⟩) from rfl)
                obtain ⟨A9, c9, e9, _⟩ := hR.app d16
                have e16 : f.eval (.tmp 129) = .slice A9 (n2 + 1) c9 := (hF.2 16 129 rfl d16).trans e9
                have hcq : w3.cell? ⟨q, 0, none⟩ = some (.slice A2 n2 c2) := ((hR.st hL).cell 0).trans rfl
                have hfq : w3.frozen? ⟨q, 0, none⟩ = false := (hR.st hL).frozen 0
                have hN := raR_st hR hL d16
                rw [e9] at hN
                exact s_st_r 131 129 rfl e18 e16 hcq hfq (hK undef _ hN)
            · intro v w3 L' hall hR
              obtain ⟨A3, c3, e16, hA3, hb3⟩ := hR.app (hall 16 (by decide))
              have hB3 := hR.st' (hall 19 (by decide))
              rw [e16] at hB3
              have c9 : w3.cell? ⟨q, 0, none⟩ = some (.slice A3 (n2 + 1) c3) := hB3.cell 0
              have HFI := Lib.hid (And.intro hA3 (And.intro hb3 (And.intro hB3 (And.intro hR.ch hR.pk))))
              clear hall hR e16 hA3 hb3 hB3
              simp only [frL, if_true, Act.put, List.setIfInBounds_toArray, List.set_cons_zero, List.set_cons_succ]
              have hn0 : (0 : Int) ≤ (n2 : Int) ∧ (n2 : Int) ≤ 100 := by omega
              go_wp2_with fail
              go_meet
              obtain ⟨hA3, hb3, hB3, hch, hpk⟩ := HFI.out
              have hq := HQ.out
              have hz1 := HZ1.out.lt
              have hsz := HN.out.ch.size
              have hst := HN.out.st
              have hl2 := hst.st.2.1.len
              have hno : ∀ x ∈ L.map RVm.rv, x.k ≠ pkK (⟨psvc, pid, pwh, pmo, (pn : Int), plife, pproto, psrc, pdst⟩ : PkV) := fun x hx => by
                obtain ⟨y, hy, rfl⟩ := List.mem_map.1 hx
                rcases HSPO.out with ⟨_, h⟩ | ⟨_, _, _, _, _, _, h⟩
                · exact h y hy
                · omega
              have hlen := HS.out.st.2.1.len
              have hnb : ∀ b, ownR q A2 b → ¬ G b := fun b hb hg => by
                rcases hb with rfl | hb
                · exact hst.nq hg
                · exact hst.na b hb hg
              have hmap : (L2.map RVm.rv).length = L2.length := List.length_map _
              refine ⟨n2, by go_num, Lib.hid ⟨A3, n2 + 1, c3, L2 ++ [newM (pkK (⟨psvc, pid, pwh, pmo, (pn : Int), plife, pproto, psrc, pdst⟩ : PkV)) now], newM (pkK (⟨psvc, pid, pwh, pmo, (pn : Int), plife, pproto, psrc, pdst⟩ : PkV)) now, ⟨⟨hB3, hA3, fun e => ?_⟩, fun x hx => ?_, hst.nq, fun b hb hg => ?_, fun b hb => Nat.lt_of_lt_of_le (hst.lt b hb) hch.size⟩, by omega, ?_, ⟨false, .inr ⟨rfl, hno, ?_, rfl, ?_⟩, fun h => by cases h⟩, hpk, ?_, ?_, ?_⟩⟩
              · rcases hb3 q e with h | h
                · exact hst.st.2.2 h
                · have := hst.st.1.lt; omega
              · rcases List.mem_append.1 hx with hx | hx
                · exact (hst.ok x hx).chg hch (fun b hb hf => hnb b hf hb)
                · rw [List.mem_singleton] at hx
                  subst hx
                  exact newM_ok _ _ _ _
              · rcases hb3 b hb with h | h
                · exact hst.na b h hg
                · have := hst.lt b hg; omega
              · rw [List.getElem?_append_right (by omega), hl2, Nat.sub_self]; rfl
              · rw [List.drop_eq_nil_of_le (by rw [List.length_append, hl2]; exact Nat.le_refl _)]; rfl
              · rw [List.take_left' hl2, List.length_map, hlen]
                rcases HN.out.of with ⟨h1, h2⟩ | ⟨h1, K1, x, K2, h2, h3, h4⟩
                · exact .inl ⟨h1, by rw [h2]⟩
                · refine .inr ⟨h1, K1.map RVm.rv, x.rv, K2.map RVm.rv, by rw [h2, List.map_append, List.map_cons], ⟨fun y hy => ?_, fun y hy => ?_⟩, by rw [h4, List.map_append]⟩
                  · obtain ⟨z, hz, rfl⟩ := List.mem_map.1 hy
                    exact h3.1 z hz
                  · obtain ⟨z, hz, rfl⟩ := List.mem_map.1 hy
                    exact h3.2 z hz
              · refine HN.out.zk.chg hch (fun hb => ?_)
                rcases hb with hb | hb
                · omega
                · rcases HN.out.ow _ hb with h | h
                  · have := HAO.out _ (.inr h); omega
                  · omega
              · refine HN.out.ch.trans hch (fun x hx => ?_)
                rcases hx with hx | hx
                · exact .inl (.inl hx)
                · exact (HN.out.ow x hx).imp .inr id
              · intro b hb
                rcases hb3 b hb with h | h
                · exact HN.out.ow b h
                · right; omega
        · have t9 : decide ((0 : Int) ≤ s) = true := decide_eq_true hs0
          obtain ⟨K1, x, K2, hL, hxk, hK1, hsi⟩ : ∃ K1 x K2, L = K1 ++ x :: K2 ∧ x.k = pkK (⟨psvc, pid, pwh, pmo, (pn : Int), plife, pproto, psrc, pdst⟩ : PkV) ∧ (∀ y ∈ K1, y.k ≠ pkK (⟨psvc, pid, pwh, pmo, (pn : Int), plife, pproto, psrc, pdst⟩ : PkV)) ∧ s = (K1.length : Int) := by
            rcases HSPO.out with ⟨h, _⟩ | h
            · omega
            · exact h
          obtain ⟨i, hi⟩ : ∃ i, K1.length = i := ⟨_, rfl⟩
          rw [hi] at hsi
          subst hsi
          have hx : L[i]? = some x := by rw [hL, List.getElem?_append_right (by omega), hi, Nat.sub_self]; rfl
          have hlen := HS1.out.st.2.1.len
          have hil : i < n := by have := (List.getElem?_eq_some_iff.1 hx).1; omega
          obtain ⟨g, rfl, _, hgl, _⟩ := HS1.out.st.2.1.cell hx
          have HRG := Lib.hid (HS1.out.st.2.1.range hx)
          have hib : (0 : Int) ≤ (i : Int) ∧ (i : Int) < (n : Int) := by omega
          have HX := Lib.hid (And.intro hL (And.intro hxk (And.intro hi hx)))
          obtain ⟨fin, hfin⟩ : ∃ f, x.fin = f := ⟨_, rfl⟩
          obtain ⟨xn, hxn⟩ : ∃ f, x.hn = f := ⟨_, rfl⟩
          have hxok := HS1.out.ok x (List.mem_of_getElem? hx)
          have HXO := Lib.hid hxok
          have HFX := Lib.hid (And.intro hfin hxn)
          have hbx := Bk.new w1 94 (rvC x).toArray
          have k7 : (w1.alloc (.cells (rvC x).toArray 94)).cell? ⟨w1.heap.size, 7, none⟩ = some (.int .i64 fin) := by rw [← hfin]; exact hbx.cell 7
          have k6 : (w1.alloc (.cells (rvC x).toArray 94)).cell? ⟨w1.heap.size, 6, none⟩ = some (.slice x.hA xn x.hc) := by rw [← hxn]; exact hbx.cell 6
          have hpa := HP1.out.alloc (.cells (rvC x).toArray 94)
          have k3 : (w1.alloc (.cells (rvC x).toArray 94)).cell? ⟨gx, 3, none⟩ = some (.bool pmo) := hpa.cell 3
          have hxn5 : xn ≤ 65515 := by rw [← hxn]; exact hxok.le
          have HZA := Lib.hid (HZ1.out.alloc (.cells (rvC x).toArray 94))
          clear hL hxk hK1 hi hx hfin hxn hxok hbx hpa
          have hways : (pmo = true ∧ fin < 0) ∨ (pmo = true ∧ 0 ≤ fin ∧ ¬ fin < (pn : Int) + dn ∧ ¬ fin < (xn : Int)) ∨ (pmo = true ∧ 0 ≤ fin ∧ fin < (pn : Int) + dn) ∨ (pmo = true ∧ 0 ≤ fin ∧ ¬ fin < (pn : Int) + dn ∧ fin < (xn : Int)) ∨ (pmo = false ∧ fin < 0 ∧ xn ≤ pn + dn) ∨ (pmo = false ∧ fin = (pn : Int) + dn ∧ xn ≤ pn + dn) ∨ (pmo = false ∧ 0 ≤ fin ∧ ¬ fin = (pn : Int) + dn) ∨ (pmo = false ∧ fin < 0 ∧ pn + dn < xn) ∨ (pmo = false ∧ fin = (pn : Int) + dn ∧ pn + dn < xn) := by
            cases pmo <;> simp <;> omega
          have hal : Below w1.heap.size w1 (w1.alloc (.cells (rvC x).toArray 94)) := (Below.refl _ _).alloc (Nat.le_refl _) _
          have hsp : L.map RVm.rv = (L.take i).map RVm.rv ++ x.rv :: (L.drop (i + 1)).map RVm.rv := by
            obtain ⟨hL, _, hi, _⟩ := HX.out
            have e2 : K1 ++ x :: K2 = (K1 ++ [x]) ++ K2 := by simp
            rw [hL, List.take_left' hi, e2, List.drop_left' (by rw [List.length_append, hi]; rfl)]
            simp
          have hfit : FitV x.rv pmo ((pn : Int) + (dn : Int)) → Hid (∃ A1 n1 c1 L1 x', RaM w1 gx q (⟨psvc, pid, pwh, pmo, (pn : Int), plife, pproto, psrc, pdst⟩ : PkV) (.slice oA on oc) (.slice dA dn dc) (some ⟨g, 0, none⟩) G (L.map RVm.rv) dn now A1 n1 c1 i L1 x' (w1.alloc (.cells (rvC x).toArray 94))) := fun hF =>
            Lib.hid ⟨_, n, c, L, x, HS1.out.below hal, by omega, HX.out.2.2.2, ⟨true, .inl ⟨rfl, hsp, HX.out.2.1⟩, fun _ => hF⟩, HP1.out.alloc _, HZ1.out.alloc _, (Chg.refl _ _).alloc _, fun b hb => .inl hb⟩
          have hrej : ¬ FitV x.rv pmo ((pn : Int) + (dn : Int)) → ∀ w9, Chg (fun b => b = gx + 1) (w1.alloc (.cells (rvC x).toArray 94)) w9 →
              RaPost w q (some ⟨g, 0, none⟩) G (L.map RVm.rv) oA dA ol dl (GoodV (L.map RVm.rv) (⟨psvc, pid, pwh, pmo, (pn : Int), plife, pproto, psrc, pdst⟩ : PkV) ol dl now) (.returned (.tuple #[.agg #[.int .i64 0, .int .i64 0, .bool false, .bool false, .int .i64 0, .int .i64 0, .int .i64 0, .int .u32 0, .int .u32 0, .slice none 0 0, .slice none 0 0], .bool false, .int .i64 3])) w9 := fun hF w9 hc => by
            have hz := HZ1.out.lt
            have hS9 : RfS w9 q G (some ⟨g, 0, none⟩) n c L := (HS1.out.below hal).chg hc (fun b hb e => by
              rcases hb with hb | hb
              · have := HAO.out b hb; omega
              · have := HGB.out b hb; omega)
            refine ⟨G, some ⟨g, 0, none⟩, n, c, L, (zeroP, [], []), false, 3, none, none, 0, 0, 0, 0, rfl, hS9, Rw.nil _ _ _, rfl, Rw.nil _ _ _, rfl, fun b hb => .inl hb, fun b hb => .inl hb, ?_, ?_⟩
            · have hgx := HGX.out
              have h1 : Below w.heap.size w w1 := by
                have hw := HBW.out
                rw [← hgx] at hw
                exact hw.trans (HB1.out.mono hw.size)
              have h2 := h1.trans (hal.mono h1.size)
              exact (Chg.of_below h2).trans hc (fun b e => .inr (by omega))
            · exact ⟨_, x.rv, _, true, .inl ⟨rfl, hsp, HX.out.2.1⟩, .inl ⟨rfl, by rw [HDL.out]; exact hF, rfl, rfl, rfl, rfl⟩⟩
          have HFIT := Lib.hid hfit
          have HREJ := Lib.hid hrej
          clear hal hsp hfit hrej
          have HWS := Lib.hid hways
          clear hways
          go_upto_region 12 with (first | (refine ld_rw rfl (.tmp 72) rfl rfl x HRG.out ?_) | (refine st_rw_new rfl (.tmp 12) (.tmp 73) rfl rfl rfl rfl x rfl ?_))
          clear p0 p1 p2 p3 p4 p5 p6 p7 p8 p9 p10 c0 t9
          rcases HWS.out with hw | hw | hw | hw | hw | hw | hw | hw | hw
          · as_aux_lemma =>
            have hpm : pmo = true := hw.1
            subst hpm
            have q0 : decide ((0 : Int) ≤ fin) = false := decide_eq_false (by omega)
            have HWY := Lib.hid hw
            clear hw
            go_wp2_with fail
            go_meet
            exact ⟨i, rfl, HFIT.out (by have h1 := HFX.out.1; have h2 := HFX.out.2; have h3 := HXO.out.hl; have h4 := HWY.out; show (if (true : Bool) = true then x.fin < 0 ∨ ((pn : Int) + (dn : Int) ≤ x.fin ∧ (x.has.length : Int) ≤ x.fin) else (x.fin < 0 ∨ x.fin = (pn : Int) + (dn : Int)) ∧ (x.has.length : Int) ≤ (pn : Int) + (dn : Int)); rw [if_pos rfl]; omega)⟩
          · as_aux_lemma =>
            have hpm : pmo = true := hw.1
            subst hpm
            have q0 : decide ((0 : Int) ≤ fin) = true := decide_eq_true (by omega)
            have q1 : decide (fin < (pn : Int) + (dn : Int)) = false := decide_eq_false (by omega)
            have q2 : decide (fin < (xn : Int)) = false := decide_eq_false (by omega)
            have HWY := Lib.hid hw
            clear hw
            go_wp2_with fail
            go_meet
            exact ⟨i, rfl, HFIT.out (by have h1 := HFX.out.1; have h2 := HFX.out.2; have h3 := HXO.out.hl; have h4 := HWY.out; show (if (true : Bool) = true then x.fin < 0 ∨ ((pn : Int) + (dn : Int) ≤ x.fin ∧ (x.has.length : Int) ≤ x.fin) else (x.fin < 0 ∨ x.fin = (pn : Int) + (dn : Int)) ∧ (x.has.length : Int) ≤ (pn : Int) + (dn : Int)); rw [if_pos rfl]; omega)⟩
          · as_aux_lemma =>
            have hpm : pmo = true := hw.1
            subst hpm
            have q0 : decide ((0 : Int) ≤ fin) = true := decide_eq_true (by omega)
            have q1 : decide (fin < (pn : Int) + (dn : Int)) = true := decide_eq_true (by omega)
            have HWY := Lib.hid hw
            clear hw
            go_wp2_with (first | (refine st_zero rfl (.tmp 6) (.tmp 86) rfl rfl rfl rfl HZA.out ?_) | (refine st_zero rfl (.tmp 6) (.tmp 102) rfl rfl rfl rfl HZA.out ?_))
            refine bodyPost_ret (results_c2 rfl _ _ (gx + 1) _ _ _ _ rfl HZA.out Try.underlying26 rfl (by kernel_rfl)) rfl ?_
            exact HREJ.out (fun hF => by have h1 := HFX.out.1; have h2 := HFX.out.2; have h3 := HXO.out.hl; have h4 := HWY.out; have h5 : (if (true : Bool) = true then x.fin < 0 ∨ ((pn : Int) + (dn : Int) ≤ x.fin ∧ (x.has.length : Int) ≤ x.fin) else (x.fin < 0 ∨ x.fin = (pn : Int) + (dn : Int)) ∧ (x.has.length : Int) ≤ (pn : Int) + (dn : Int)) := hF; revert h5; rw [if_pos rfl]; omega) _ (Chg.refl _ _)
          · as_aux_lemma =>
            have hpm : pmo = true := hw.1
            subst hpm
            have q0 : decide ((0 : Int) ≤ fin) = true := decide_eq_true (by omega)
            have q1 : decide (fin < (pn : Int) + (dn : Int)) = false := decide_eq_false (by omega)
            have q2 : decide (fin < (xn : Int)) = true := decide_eq_true (by omega)
            have HWY := Lib.hid hw
            clear hw
            go_wp2_with (first | (refine st_zero rfl (.tmp 6) (.tmp 86) rfl rfl rfl rfl HZA.out ?_) | (refine st_zero rfl (.tmp 6) (.tmp 102) rfl rfl rfl rfl HZA.out ?_))
            refine bodyPost_ret (results_c2 rfl _ _ (gx + 1) _ _ _ _ rfl HZA.out Try.underlying26 rfl (by kernel_rfl)) rfl ?_
            exact HREJ.out (fun hF => by have h1 := HFX.out.1; have h2 := HFX.out.2; have h3 := HXO.out.hl; have h4 := HWY.out; have h5 : (if (true : Bool) = true then x.fin < 0 ∨ ((pn : Int) + (dn : Int) ≤ x.fin ∧ (x.has.length : Int) ≤ x.fin) else (x.fin < 0 ∨ x.fin = (pn : Int) + (dn : Int)) ∧ (x.has.length : Int) ≤ (pn : Int) + (dn : Int)) := hF; revert h5; rw [if_pos rfl]; omega) _ (Chg.refl _ _)
          · as_aux_lemma =>
            have hpm : pmo = false := hw.1
            subst hpm
            have q0 : decide ((0 : Int) ≤ fin) = false := decide_eq_false (by omega)
            have q1 : decide ((pn : Int) + (dn : Int) < (xn : Int)) = false := decide_eq_false (by omega)
            have q2 : decide (pn + dn < xn) = false := decide_eq_false (by omega)
            have HWY := Lib.hid hw
            clear hw
            go_wp2_with fail
            go_meet
            exact ⟨i, rfl, HFIT.out (by have h1 := HFX.out.1; have h2 := HFX.out.2; have h3 := HXO.out.hl; have h4 := HWY.out; show (if (false : Bool) = true then x.fin < 0 ∨ ((pn : Int) + (dn : Int) ≤ x.fin ∧ (x.has.length : Int) ≤ x.fin) else (x.fin < 0 ∨ x.fin = (pn : Int) + (dn : Int)) ∧ (x.has.length : Int) ≤ (pn : Int) + (dn : Int)); rw [if_neg (by decide)]; omega)⟩
          · as_aux_lemma =>
            have hpm : pmo = false := hw.1
            subst hpm
            have q0 : decide ((0 : Int) ≤ fin) = true := decide_eq_true (by omega)
            have q1 : (fin != (pn : Int) + (dn : Int)) = false := bne_eq_false_iff_eq.2 (by omega)
            have q2 : decide ((pn : Int) + (dn : Int) < (xn : Int)) = false := decide_eq_false (by omega)
            have q3 : decide (pn + dn < xn) = false := decide_eq_false (by omega)
            have HWY := Lib.hid hw
            clear hw
            go_wp2_with fail
            go_meet
            exact ⟨i, rfl, HFIT.out (by have h1 := HFX.out.1; have h2 := HFX.out.2; have h3 := HXO.out.hl; have h4 := HWY.out; show (if (false : Bool) = true then x.fin < 0 ∨ ((pn : Int) + (dn : Int) ≤ x.fin ∧ (x.has.length : Int) ≤ x.fin) else (x.fin < 0 ∨ x.fin = (pn : Int) + (dn : Int)) ∧ (x.has.length : Int) ≤ (pn : Int) + (dn : Int)); rw [if_neg (by decide)]; omega)⟩
          · as_aux_lemma =>
            have hpm : pmo = false := hw.1
            subst hpm
            have q0 : decide ((0 : Int) ≤ fin) = true := decide_eq_true (by omega)
            have q1 : (fin != (pn : Int) + (dn : Int)) = true := bne_iff_ne.2 (by omega)
            have HWY := Lib.hid hw
            clear hw
            go_wp2_with (first | (refine st_zero rfl (.tmp 6) (.tmp 86) rfl rfl rfl rfl HZA.out ?_) | (refine st_zero rfl (.tmp 6) (.tmp 102) rfl rfl rfl rfl HZA.out ?_))
            refine bodyPost_ret (results_c2 rfl _ _ (gx + 1) _ _ _ _ rfl HZA.out Try.underlying26 rfl (by kernel_rfl)) rfl ?_
            exact HREJ.out (fun hF => by have h1 := HFX.out.1; have h2 := HFX.out.2; have h3 := HXO.out.hl; have h4 := HWY.out; have h5 : (if (false : Bool) = true then x.fin < 0 ∨ ((pn : Int) + (dn : Int) ≤ x.fin ∧ (x.has.length : Int) ≤ x.fin) else (x.fin < 0 ∨ x.fin = (pn : Int) + (dn : Int)) ∧ (x.has.length : Int) ≤ (pn : Int) + (dn : Int)) := hF; revert h5; rw [if_neg (by decide)]; omega) _ (Chg.refl _ _)
          · as_aux_lemma =>
            have hpm : pmo = false := hw.1
            subst hpm
            have q0 : decide ((0 : Int) ≤ fin) = false := decide_eq_false (by omega)
            have q1 : decide ((pn : Int) + (dn : Int) < (xn : Int)) = true := decide_eq_true (by omega)
            have q2 : decide (pn + dn < xn) = true := decide_eq_true (by omega)
            have HWY := Lib.hid hw
            clear hw
            go_wp2_with (first | (refine st_zero rfl (.tmp 6) (.tmp 86) rfl rfl rfl rfl HZA.out ?_) | (refine st_zero rfl (.tmp 6) (.tmp 102) rfl rfl rfl rfl HZA.out ?_))
            refine bodyPost_ret (results_c2 rfl _ _ (gx + 1) _ _ _ _ rfl HZA.out Try.underlying26 rfl (by kernel_rfl)) rfl ?_
            exact HREJ.out (fun hF => by have h1 := HFX.out.1; have h2 := HFX.out.2; have h3 := HXO.out.hl; have h4 := HWY.out; have h5 : (if (false : Bool) = true then x.fin < 0 ∨ ((pn : Int) + (dn : Int) ≤ x.fin ∧ (x.has.length : Int) ≤ x.fin) else (x.fin < 0 ∨ x.fin = (pn : Int) + (dn : Int)) ∧ (x.has.length : Int) ≤ (pn : Int) + (dn : Int)) := hF; revert h5; rw [if_neg (by decide)]; omega) _ (Chg.refl _ _)
          · as_aux_lemma =>
            have hpm : pmo = false := hw.1
            subst hpm
            have q0 : decide ((0 : Int) ≤ fin) = true := decide_eq_true (by omega)
            have q1 : (fin != (pn : Int) + (dn : Int)) = false := bne_eq_false_iff_eq.2 (by omega)
            have q2 : decide ((pn : Int) + (dn : Int) < (xn : Int)) = true := decide_eq_true (by omega)
            have q3 : decide (pn + dn < xn) = true := decide_eq_true (by omega)
            have HWY := Lib.hid hw
            clear hw
            go_wp2_with (first | (refine st_zero rfl (.tmp 6) (.tmp 86) rfl rfl rfl rfl HZA.out ?_) | (refine st_zero rfl (.tmp 6) (.tmp 102) rfl rfl rfl rfl HZA.out ?_))
            refine bodyPost_ret (results_c2 rfl _ _ (gx + 1) _ _ _ _ rfl HZA.out Try.underlying26 rfl (by kernel_rfl)) rfl ?_
            exact HREJ.out (fun hF => by have h1 := HFX.out.1; have h2 := HFX.out.2; have h3 := HXO.out.hl; have h4 := HWY.out; have h5 : (if (false : Bool) = true then x.fin < 0 ∨ ((pn : Int) + (dn : Int) ≤ x.fin ∧ (x.has.length : Int) ≤ x.fin) else (x.fin < 0 ∨ x.fin = (pn : Int) + (dn : Int)) ∧ (x.has.length : Int) ≤ (pn : Int) + (dn : Int)) := hF; revert h5; rw [if_neg (by decide)]; omega) _ (Chg.refl _ _)
      case rest =>
        as_aux_lemma =>
        obtain ⟨i, rfl, hcc⟩ := hcut
        obtain ⟨A1, n1, c1, L1, x, hM⟩ := hcc.out
        have hx := hM.at_
        have hlen := hM.st.st.2.1.len
        have hil : i < n1 := by have := (List.getElem?_eq_some_iff.1 hx).1; omega
        have hn1 := hM.n1
        obtain ⟨g, rfl, -, hgl, -⟩ := hM.st.st.2.1.cell hx
        have HM := Lib.hid hM
        have HLEN := Lib.hid hlen
        obtain ⟨W3, hW3⟩ : ∃ W3, W3 = wc := ⟨_, rfl⟩
        subst hW3
        have hib : (0 : Int) ≤ (i : Int) ∧ (i : Int) < (n1 : Int) := by omega
        clear hcc hM hx hlen hgl hsb p0 p1 p2 p3 p4 p5 p6 p7 p8 p9 p10 c0
        go_upto_region 23 with (fail)
        have HSD : Hid (RfS W3.drew q G (some ⟨g, 0, none⟩) n1 c1 L1) := Lib.hid (HM.out.st.drewN 1)
        have HMD : Hid (RaM w1 gx q (⟨psvc, pid, pwh, pmo, (pn : Int), plife, pproto, psrc, pdst⟩ : PkV) (.slice oA on oc) (.slice dA dn dc) A G (L.map RVm.rv) dn now (some ⟨g, 0, none⟩) n1 c1 i L1 x W3.drew) := Lib.hid (by
          have h := HM.out
          exact ⟨h.st.drewN 1, h.n1, h.at_, h.of, h.pk, h.zk, h.ch.drewN 1, h.ow⟩)
        have HROW : Hid (RB W3.drew W3.drew.heap.size oA ol ∧ RB W3.drew W3.drew.heap.size dA dl) := Lib.hid (by
          have hq := HGX.out
          have h1 : Below w.heap.size w w1 := by
            have hw := HBW.out
            rw [← hq] at hw
            exact hw.trans (HB1.out.mono hw.size)
          have ho1 : RB w1 w1.heap.size oA ol := Rw.more (Rw.below HO.out h1) h1.size
          have hr1 : RB w1 w1.heap.size dA dl := Rw.more (Rw.below HR.out h1) h1.size
          exact ⟨rw_chg ho1 (HM.out.ch.drewN 1) (fun hn b hb => (HNO.out b (.inl ⟨by rwa [by8_length] at hn, hb⟩)).2), rw_chg hr1 (HM.out.ch.drewN 1) (fun hn b hb => (HNO.out b (.inr ⟨by rwa [by8_length] at hn, hb⟩)).2)⟩)
        have HST : Hid (rsR q g n1 c1 i x #[.int .i64 psvc, .int .i64 pid, .bool pwh, .bool pmo, .int .i64 (pn : Int), .int .i64 plife, .int .i64 pproto, .int .u32 psrc, .int .u32 pdst, .slice oA on oc, .slice dA dn dc] ((pn : Int) + (dn : Int)) (⟨psvc, pid, pwh, pmo, (pn : Int), plife, pproto, psrc, pdst⟩ : PkV) ol dl oA dA G W3.drew (fun _ => false) (fun _ => undef) W3.drew) := Lib.hid ⟨(fun _ h => by cases h), ⟨(fun h => by cases h), (fun h => by cases h), (fun h => by cases h), (fun h => by cases h), (fun h => by cases h)⟩, fun _ => rfl, (fun h => by cases h), (fun h => by cases h)⟩
        refine wp_region_inv [some 138, some 139, some 140, some 141, some 142, some 143, some 144, some 145, some 146, some 147, some 148, some 149, some 150, some 151, some 152, some 153, none] (rsR q g n1 c1 i x #[.int .i64 psvc, .int .i64 pid, .bool pwh, .bool pmo, .int .i64 (pn : Int), .int .i64 plife, .int .i64 pproto, .int .u32 psrc, .int .u32 pdst, .slice oA on oc, .slice dA dn dc] ((pn : Int) + (dn : Int)) (⟨psvc, pid, pwh, pmo, (pn : Int), plife, pproto, psrc, pdst⟩ : PkV) ol dl oA dA G W3.drew) (by kernel_rfl) rfl (by kernel_rfl) (by kernel_rfl) (by kernel_rfl) (by kernel_rfl) ?_ ?_ ?_
        · exact HST.out
        · refine ⟨?_, ?_, ?_, ?_, ?_, ?_, ?_, ?_, ?_, ?_, ?_, ?_, ?_, ?_, ?_, ?_, ?_, trivial⟩
          · as_aux_lemma =>
            intro L v w3 f hL hdep hF hR K hK
            exact s_mv (.tmp 0) rfl ((hF.1 0 (by decide)).trans rfl : f.eval (.tmp 0) = .pointer (some ⟨q, 0, none⟩)) (hK _ _ (rsR_step hR rfl rfl (fun e => by cases e) (fun e => by cases e) (fun e => by cases e)))
          · as_aux_lemma =>
            intro L v w3 f hL hdep hF hR K hK
            simp [Region.binds] at hdep
            have e0 : f.eval (.tmp 138) = .pointer (some ⟨q, 0, none⟩) := ((hF.2 0 138 rfl hdep).trans (hR.pl 0 hdep rfl)).trans (show rsC q g n1 c1 i x #[.int .i64 psvc, .int .i64 pid, .bool pwh, .bool pmo, .int .i64 (pn : Int), .int .i64 plife, .int .i64 pproto, .int .u32 psrc, .int .u32 pdst, .slice oA on oc, .slice dA dn dc] ((pn : Int) + (dn : Int)) 0 = .pointer (some ⟨q, 0, none⟩) from rfl)
            exact s_nil 138 rfl e0 (hK _ _ (rsR_step hR rfl rfl (fun e => by cases e) (fun e => by cases e) (fun e => by cases e)))
          · as_aux_lemma =>
            intro L v w3 f hL hdep hF hR K hK
            simp [Region.binds] at hdep
            have e1 : f.eval (.tmp 139) = .pointer (some ⟨q, 0, none⟩) := ((hF.2 1 139 rfl hdep).trans (hR.pl 1 hdep rfl)).trans (show rsC q g n1 c1 i x #[.int .i64 psvc, .int .i64 pid, .bool pwh, .bool pmo, .int .i64 (pn : Int), .int .i64 plife, .int .i64 pproto, .int .u32 psrc, .int .u32 pdst, .slice oA on oc, .slice dA dn dc] ((pn : Int) + (dn : Int)) 1 = .pointer (some ⟨q, 0, none⟩) from rfl)
            exact s_fa_s0 139 rfl e1 (hK _ _ (rsR_step hR rfl rfl (fun e => by cases e) (fun e => by cases e) (fun e => by cases e)))
          · as_aux_lemma =>
            intro L v w3 f hL hdep hF hR K hK
            simp [Region.binds] at hdep
            have h16 := rsD_16 hR.dp hL
            have hcq : w3.cell? ⟨q, 0, none⟩ = some (.slice (some ⟨g, 0, none⟩) n1 c1) := ((HSD.out.below (hR.below h16)).st.1.cell 0).trans rfl
            have e2 : f.eval (.tmp 140) = .pointer (some ⟨q, 0, none⟩) := ((hF.2 2 140 rfl hdep).trans (hR.pl 2 hdep rfl)).trans (show rsC q g n1 c1 i x #[.int .i64 psvc, .int .i64 pid, .bool pwh, .bool pmo, .int .i64 (pn : Int), .int .i64 plife, .int .i64 pproto, .int .u32 psrc, .int .u32 pdst, .slice oA on oc, .slice dA dn dc] ((pn : Int) + (dn : Int)) 2 = .pointer (some ⟨q, 0, none⟩) from rfl)
            exact s_ld_r 140 rfl e2 hcq (hK _ _ (rsR_step hR rfl rfl (fun e => by cases e) (fun e => by cases e) (fun e => by cases e)))
          · as_aux_lemma =>
            intro L v w3 f hL hdep hF hR K hK
            exact s_mv (.tmp 11) rfl ((hF.1 11 (by decide)).trans rfl : f.eval (.tmp 11) = .int .i64 (i : Int)) (hK _ _ (rsR_step hR rfl rfl (fun e => by cases e) (fun e => by cases e) (fun e => by cases e)))
          · as_aux_lemma =>
            intro L v w3 f hL hdep hF hR K hK
            exact s_mv (.tmp 0) rfl ((hF.1 0 (by decide)).trans rfl : f.eval (.tmp 0) = .pointer (some ⟨q, 0, none⟩)) (hK _ _ (rsR_step hR rfl rfl (fun e => by cases e) (fun e => by cases e) (fun e => by cases e)))
          · as_aux_lemma =>
            intro L v w3 f hL hdep hF hR K hK
            simp [Region.binds] at hdep
            have e5 : f.eval (.tmp 143) = .pointer (some ⟨q, 0, none⟩) := ((hF.2 5 143 rfl hdep).trans (hR.pl 5 hdep rfl)).trans (show rsC q g n1 c1 i x #[.int .i64 psvc, .int .i64 pid, .bool pwh, .bool pmo, .int .i64 (pn : Int), .int .i64 plife, .int .i64 pproto, .int .u32 psrc, .int .u32 pdst, .slice oA on oc, .slice dA dn dc] ((pn : Int) + (dn : Int)) 5 = .pointer (some ⟨q, 0, none⟩) from rfl)
            exact s_nil 143 rfl e5 (hK _ _ (rsR_step hR rfl rfl (fun e => by cases e) (fun e => by cases e) (fun e => by cases e)))
          · as_aux_lemma =>
            intro L v w3 f hL hdep hF hR K hK
            simp [Region.binds] at hdep
            have e6 : f.eval (.tmp 144) = .pointer (some ⟨q, 0, none⟩) := ((hF.2 6 144 rfl hdep).trans (hR.pl 6 hdep rfl)).trans (show rsC q g n1 c1 i x #[.int .i64 psvc, .int .i64 pid, .bool pwh, .bool pmo, .int .i64 (pn : Int), .int .i64 plife, .int .i64 pproto, .int .u32 psrc, .int .u32 pdst, .slice oA on oc, .slice dA dn dc] ((pn : Int) + (dn : Int)) 6 = .pointer (some ⟨q, 0, none⟩) from rfl)
            exact s_fa_s0 144 rfl e6 (hK _ _ (rsR_step hR rfl rfl (fun e => by cases e) (fun e => by cases e) (fun e => by cases e)))
          · as_aux_lemma =>
            intro L v w3 f hL hdep hF hR K hK
            simp [Region.binds] at hdep
            have hcq : w3.cell? ⟨q, 0, none⟩ = some (.slice (some ⟨g, 0, none⟩) n1 c1) := by rw [hR.a (rsD_14 hR.dp (.inl hL))]; exact (HSD.out.st.1.cell 0).trans rfl
            have e7 : f.eval (.tmp 145) = .pointer (some ⟨q, 0, none⟩) := ((hF.2 7 145 rfl hdep).trans (hR.pl 7 hdep rfl)).trans (show rsC q g n1 c1 i x #[.int .i64 psvc, .int .i64 pid, .bool pwh, .bool pmo, .int .i64 (pn : Int), .int .i64 plife, .int .i64 pproto, .int .u32 psrc, .int .u32 pdst, .slice oA on oc, .slice dA dn dc] ((pn : Int) + (dn : Int)) 7 = .pointer (some ⟨q, 0, none⟩) from rfl)
            exact s_ld_r 145 rfl e7 hcq (hK _ _ (rsR_step hR rfl rfl (fun e => by cases e) (fun e => by cases e) (fun e => by cases e)))
          · as_aux_lemma =>
            intro L v w3 f hL hdep hF hR K hK
            exact s_mv (.tmp 11) rfl ((hF.1 11 (by decide)).trans rfl : f.eval (.tmp 11) = .int .i64 (i : Int)) (hK _ _ (rsR_step hR rfl rfl (fun e => by cases e) (fun e => by cases e) (fun e => by cases e)))
          · as_aux_lemma =>
            intro L v w3 f hL hdep hF hR K hK
            simp [Region.binds] at hdep
            obtain ⟨d8, d9⟩ := hdep
            have e8 : f.eval (.tmp 146) = .slice (some ⟨g, 0, none⟩) n1 c1 := ((hF.2 8 146 rfl d8).trans (hR.pl 8 d8 rfl)).trans (show rsC q g n1 c1 i x #[.int .i64 psvc, .int .i64 pid, .bool pwh, .bool pmo, .int .i64 (pn : Int), .int .i64 plife, .int .i64 pproto, .int .u32 psrc, .int .u32 pdst, .slice oA on oc, .slice dA dn dc] ((pn : Int) + (dn : Int)) 8 = .slice (some ⟨g, 0, none⟩) n1 c1 from rfl)
            have e9 : f.eval (.tmp 147) = .int .i64 i := ((hF.2 9 147 rfl d9).trans (hR.pl 9 d9 rfl)).trans (show rsC q g n1 c1 i x #[.int .i64 psvc, .int .i64 pid, .bool pwh, .bool pmo, .int .i64 (pn : Int), .int .i64 plife, .int .i64 pproto, .int .u32 psrc, .int .u32 pdst, .slice oA on oc, .slice dA dn dc] ((pn : Int) + (dn : Int)) 9 = .int .i64 i from rfl)
            exact s_ix 146 147 rfl e8 e9 hil hn1 (hK _ _ (rsR_step hR rfl rfl (fun e => by cases e) (fun e => by cases e) (fun _ => d8)))
          · as_aux_lemma =>
            intro L v w3 f hL hdep hF hR K hK
            simp [Region.binds] at hdep
            have e10 : f.eval (.tmp 148) = .pointer (some ⟨g, i * 20, none⟩) := ((hF.2 10 148 rfl hdep).trans (hR.pl 10 hdep rfl)).trans (show rsC q g n1 c1 i x #[.int .i64 psvc, .int .i64 pid, .bool pwh, .bool pmo, .int .i64 (pn : Int), .int .i64 plife, .int .i64 pproto, .int .u32 psrc, .int .u32 pdst, .slice oA on oc, .slice dA dn dc] ((pn : Int) + (dn : Int)) 10 = .pointer (some ⟨g, i * 20, none⟩) from rfl)
            obtain ⟨d, hu, hd⟩ := rw_row
            refine wp_load_mid 94 (.tmp 148) rfl g (i * 20) e10 (rvC x) d ?_ hu hd rw_size ?_
            · rw [hR.a (rsD_14 hR.dp (.inr (.inr (.inl hL))))]
              exact HSD.out.st.2.1.range HM.out.at_
            · exact hK _ _ (rsR_step hR rfl rfl (fun e => by cases e) (fun _ => hdep) (fun e => by cases e))
          · as_aux_lemma =>
            intro L v w3 f hL hdep hF hR K hK
            have e0 : f.eval (.tmp 4) = .pointer (some ⟨gx, 0, none⟩) := (hF.1 4 (by decide)).trans rfl
            obtain ⟨d, hu, hd⟩ := pk_row
            have hb : Bk w3 gx 26 #[.int .i64 psvc, .int .i64 pid, .bool pwh, .bool pmo, .int .i64 (pn : Int), .int .i64 plife, .int .i64 pproto, .int .u32 psrc, .int .u32 pdst, .slice oA on oc, .slice dA dn dc] := by rw [hR.a (rsD_14 hR.dp (.inr (.inr (.inr hL))))]; exact HM.out.pk
            refine wp_load_mid 26 (.tmp 4) rfl gx 0 e0 [.int .i64 psvc, .int .i64 pid, .bool pwh, .bool pmo, .int .i64 (pn : Int), .int .i64 plife, .int .i64 pproto, .int .u32 psrc, .int .u32 pdst, .slice oA on oc, .slice dA dn dc] d (bk_range hb) hu hd pk_size ?_
            exact hK _ _ (rsR_step hR rfl rfl (fun e => by cases e) (fun e => by cases e) (fun e => by cases e))
          · as_aux_lemma =>
            intro L v w3 f hL hdep hF hR K hK
            exact s_mv (.tmp 10) rfl ((hF.1 10 (by decide)).trans rfl : f.eval (.tmp 10) = .int .i64 ((pn : Int) + (dn : Int))) (hK _ _ (rsR_step hR rfl rfl (fun e => by cases e) (fun e => by cases e) (fun e => by cases e)))
          · as_aux_lemma =>
            intro L v w3 f hL hdep hF hR K hK
            simp [Region.binds] at hdep
            obtain ⟨d11, d12, d13⟩ := hdep
            have e11 : f.eval (.tmp 149) = .agg (rvC x).toArray := ((hF.2 11 149 rfl d11).trans (hR.pl 11 d11 rfl)).trans (show rsC q g n1 c1 i x #[.int .i64 psvc, .int .i64 pid, .bool pwh, .bool pmo, .int .i64 (pn : Int), .int .i64 plife, .int .i64 pproto, .int .u32 psrc, .int .u32 pdst, .slice oA on oc, .slice dA dn dc] ((pn : Int) + (dn : Int)) 11 = .agg (rvC x).toArray from rfl)
            have e12 : f.eval (.tmp 150) = .agg #[.int .i64 psvc, .int .i64 pid, .bool pwh, .bool pmo, .int .i64 (pn : Int), .int .i64 plife, .int .i64 pproto, .int .u32 psrc, .int .u32 pdst, .slice oA on oc, .slice dA dn dc] := ((hF.2 12 150 rfl d12).trans (hR.pl 12 d12 rfl)).trans (show rsC q g n1 c1 i x #[.int .i64 psvc, .int .i64 pid, .bool pwh, .bool pmo, .int .i64 (pn : Int), .int .i64 plife, .int .i64 pproto, .int .u32 psrc, .int .u32 pdst, .slice oA on oc, .slice dA dn dc] ((pn : Int) + (dn : Int)) 12 = .agg #[.int .i64 psvc, .int .i64 pid, .bool pwh, .bool pmo, .int .i64 (pn : Int), .int .i64 plife, .int .i64 pproto, .int .u32 psrc, .int .u32 pdst, .slice oA on oc, .slice dA dn dc] from rfl)
            have e13 : f.eval (.tmp 151) = .int .i64 ((pn : Int) + (dn : Int)) := ((hF.2 13 151 rfl d13).trans (hR.pl 13 d13 rfl)).trans (show rsC q g n1 c1 i x #[.int .i64 psvc, .int .i64 pid, .bool pwh, .bool pmo, .int .i64 (pn : Int), .int .i64 plife, .int .i64 pproto, .int .u32 psrc, .int .u32 pdst, .slice oA on oc, .slice dA dn dc] ((pn : Int) + (dn : Int)) 13 = .int .i64 ((pn : Int) + (dn : Int)) from rfl)
            have hw3 := hR.a hL
            have e13' : f.eval (.tmp 151) = .int .i64 ((pn + dn : Nat) : Int) := e13
            unfold Oper.wp
            simp only [execOp, resolve, List.map_toArray, List.map_cons, List.map_nil, e11, e12, e13']
            subst hw3
            refine (rlay_ok (p := (⟨psvc, pid, pwh, pmo, (pn : Int), plife, pproto, psrc, pdst⟩ : PkV)) (en := pn + dn) (HSD.out.ok x (List.mem_of_getElem? HM.out.at_)) HROW.out.1 HOL.out HROW.out.2 HDL.out hdc hoc (by show (0 : Int) ≤ (pn : Int); omega) (by show (((pn + dn : Nat)) : Int) = (pn : Int) + (dn : Int); omega) (by omega) HSD.out.lt).mono ?_
            rintro e w4 ⟨y, rfl, hl, hk, hB⟩
            exact hK _ _ (rsR_lay hR hL d11 d12 hl hk hB)
          · as_aux_lemma =>
            intro L v w3 f hL hdep hF hR K hK
            simp [Region.binds] at hdep
            obtain ⟨d3, d4, _⟩ := hdep
            have e3 : f.eval (.tmp 141) = .slice (some ⟨g, 0, none⟩) n1 c1 := ((hF.2 3 141 rfl d3).trans (hR.pl 3 d3 rfl)).trans (show rsC q g n1 c1 i x #[.int .i64 psvc, .int .i64 pid, .bool pwh, .bool pmo, .int .i64 (pn : Int), .int .i64 plife, .int .i64 pproto, .int .u32 psrc, .int .u32 pdst, .slice oA on oc, .slice dA dn dc] ((pn : Int) + (dn : Int)) 3 = .slice (some ⟨g, 0, none⟩) n1 c1 from rfl)
            have e4 : f.eval (.tmp 142) = .int .i64 i := ((hF.2 4 142 rfl d4).trans (hR.pl 4 d4 rfl)).trans (show rsC q g n1 c1 i x #[.int .i64 psvc, .int .i64 pid, .bool pwh, .bool pmo, .int .i64 (pn : Int), .int .i64 plife, .int .i64 pproto, .int .u32 psrc, .int .u32 pdst, .slice oA on oc, .slice dA dn dc] ((pn : Int) + (dn : Int)) 4 = .int .i64 i from rfl)
            exact s_ix 141 142 rfl e3 e4 hil hn1 (hK _ _ (rsR_step hR rfl rfl (fun _ => d3) (fun e => by cases e) (fun e => by cases e)))
          · as_aux_lemma =>
            intro L v w3 f hL hdep hF hR K hK
            simp [Region.binds] at hdep
            obtain ⟨d15, d14⟩ : L 15 = true ∧ L 14 = true := by simp_all
            have e15 : f.eval (.tmp 153) = .pointer (some ⟨g, i * 20, none⟩) := ((hF.2 15 153 rfl d15).trans (hR.pl 15 d15 rfl)).trans (show rsC q g n1 c1 i x #[.int .i64 psvc, .int .i64 pid, .bool pwh, .bool pmo, .int .i64 (pn : Int), .int .i64 plife, .int .i64 pproto, .int .u32 psrc, .int .u32 pdst, .slice oA on oc, .slice dA dn dc] ((pn : Int) + (dn : Int)) 15 = .pointer (some ⟨g, i * 20, none⟩) from rfl)
            obtain ⟨y, e14, hl, hk, hB⟩ := hR.b d14 hL
            have e14' : f.eval (.tmp 152) = .agg (rvC y).toArray := (hF.2 14 152 rfl d14).trans e14
            obtain ⟨_, hth⟩ := RaL.mk_ HMD.out HAO.out HZ1.out.lt hil hk hB HNO.out
            refine wp_store_mid 94 (.tmp 153) (.tmp 152) rfl g (i * 20) (rvC y).toArray e15 e14' hth rw_size (rvC_all y) ?_
            exact hK _ _ (rsR_st hR hL d14 d15 hl hk hB)
        · as_aux_lemma =>
          intro v w3 L' hall hR
          obtain ⟨y, w5, hl, hk, hB, rfl⟩ := hR.c (hall 16 (by decide))
          obtain ⟨hRL, _⟩ := RaL.mk_ HMD.out HAO.out HZ1.out.lt hil hk hB HNO.out
          obtain ⟨G4, hG4⟩ : ∃ G4, (fun b => G b ∨ layG G W3.drew oA dA ol dl w5 b) = G4 := ⟨_, rfl⟩
          obtain ⟨W4, hW4⟩ : ∃ W4, w5.setCells g (i * 20) (rvC y) = W4 := ⟨_, rfl⟩
          rw [hG4, hW4] at hRL
          rw [hW4]
          have HRL := Lib.hid hRL
          have HLV := Lib.hid hl
          obtain ⟨bx, hbx⟩ : ∃ bx, W4.heap.size = bx := ⟨_, rfl⟩
          obtain ⟨W5, hW5⟩ : ∃ W5, W4.alloc (.cells (rvC y).toArray 94) = W5 := ⟨_, rfl⟩
          have HBX := Lib.hid hbx
          have HW5 := Lib.hid hW5
          have HB5 : Hid (Bk W5 bx 94 (rvC y).toArray) := Lib.hid (by rw [← hW5, ← hbx]; exact Bk.new W4 _ _)
          have HA5 : Hid (Below W4.heap.size W4 W5) := Lib.hid (by rw [← hW5]; exact (Below.refl _ _).alloc (Nat.le_refl _) _)
          have HRG : Hid (W4.rangeAt g (i * 20) (rvC y)) := Lib.hid (hRL.st.st.2.1.range (List.getElem?_set_self (by have := HLEN.out; omega)))
          have hS5 : RfS W5 q G4 (some ⟨g, 0, none⟩) n1 c1 (L1.set i y) := hRL.st.below HA5.out
          have HS5 := Lib.hid hS5
          have HK5 : Hid (RvOk W5 G4 y) := Lib.hid (hRL.ok.chg (Chg.of_below (F := fun _ => False) HA5.out) (fun _ _ e => e))
          have HZB : Hid (Bk W5 (gx + 1) 26 #[.int .i64 0, .int .i64 0, .bool false, .bool false, .int .i64 0, .int .i64 0, .int .i64 0, .int .u32 0, .int .u32 0, .slice none 0 0, .slice none 0 0]) := Lib.hid (hRL.zk.below HA5.out hRL.zk.lt)
          have c0 : W4.cell? ⟨q, 0, none⟩ = some (.slice (some ⟨g, 0, none⟩) n1 c1) := hRL.st.st.1.cell 0
          obtain ⟨fin, hfin⟩ : ∃ f, y.fin = f := ⟨_, rfl⟩
          obtain ⟨yn, hyn⟩ : ∃ f, y.hn = f := ⟨_, rfl⟩
          have k7 : W5.cell? ⟨bx, 7, none⟩ = some (.int .i64 fin) := by rw [← hfin]; exact HB5.out.cell 7
          have k6 : W5.cell? ⟨bx, 6, none⟩ = some (.slice y.hA yn y.hc) := by rw [← hyn]; exact HB5.out.cell 6
          have hyn5 : yn ≤ 65515 := by rw [← hyn]; exact HK5.out.le
          have HFY := Lib.hid (And.intro hfin hyn)
          have HGC : Hid (Chg (ownR q A) w W5) := Lib.hid (by
            have hq := HGX.out
            have h1 : Below w.heap.size w w1 := by
              have hw := HBW.out
              rw [← hq] at hw
              exact hw.trans (HB1.out.mono hw.size)
            have h2 := (Chg.of_below (F := ownR q A) h1).trans hRL.ch (fun b e => .inl e)
            exact h2.trans (Chg.of_below (F := ownR q A) HA5.out) (fun b e => .inl e))
          have HGG : Hid (∀ b, G4 b → (b < gx ∨ gx + 1 < b) ∧ (G b ∨ w.heap.size ≤ b ∨ (0 < ol.length ∧ blk oA = some b) ∨ (0 < dl.length ∧ blk dA = some b))) := Lib.hid (fun b hb => by
            have hq := HGX.out
            have hz := HZ1.out.lt
            rcases hRL.gg b hb with k | k | k | k
            · exact ⟨.inl (HGB.out b k), .inl k⟩
            · exact ⟨.inr (by omega), .inr (.inl (by omega))⟩
            · exact ⟨.inl (HNO.out b (.inl k)).1, .inr (.inr (.inl k))⟩
            · exact ⟨.inl (HNO.out b (.inr k)).1, .inr (.inr (.inr k))⟩)
          have hgood : ∀ (M' : List RV) (out : Pk3) (is : Bool), (∀ K1 K2, K1 = (L1.take i).map RVm.rv → K2 = (L1.drop (i + 1)).map RVm.rv → (DoneV y.rv ∧ M' = K1 ++ K2 ∧ out = outV y.rv ∧ is = true) ∨ (¬ DoneV y.rv ∧ M' = K1 ++ y.rv :: K2 ∧ out = (zeroP, [], []) ∧ is = false)) →
              GoodV (L.map RVm.rv) (⟨psvc, pid, pwh, pmo, (pn : Int), plife, pproto, psrc, pdst⟩ : PkV) ol dl now M' out is 0 := fun M' out is h => by
            obtain ⟨old, h1, h2⟩ := HM.out.of
            exact ⟨_, x.rv, _, old, h1, .inr ⟨fun e => by rw [HDL.out]; exact h2 e, rfl, y.rv, HLV.out, h _ _ rfl rfl⟩⟩
          have HGD := Lib.hid hgood
          have hnot : ¬ DoneV y.rv → ∀ w9, Chg (fun b => b = gx + 1) W5 w9 →
              RaPost w q A G (L.map RVm.rv) oA dA ol dl (GoodV (L.map RVm.rv) (⟨psvc, pid, pwh, pmo, (pn : Int), plife, pproto, psrc, pdst⟩ : PkV) ol dl now) (.returned (.tuple #[.agg #[.int .i64 0, .int .i64 0, .bool false, .bool false, .int .i64 0, .int .i64 0, .int .i64 0, .int .u32 0, .int .u32 0, .slice none 0 0, .slice none 0 0], .bool false, .int .i64 0])) w9 := fun hD w9 hc => by
            have hq := HGX.out
            have hgz := HRL.out.gz
            have hS9 : RfS w9 q G4 (some ⟨g, 0, none⟩) n1 c1 (L1.set i y) := HS5.out.chg hc (fun b hb e => by
              rcases hb with (hb | hb) | hb
              · omega
              · have e2 : g = b := by simpa [blk] using hb
                omega
              · have := (HGG.out b hb).1; omega)
            refine ⟨G4, some ⟨g, 0, none⟩, n1, c1, L1.set i y, (zeroP, [], []), false, 0, none, none, 0, 0, 0, 0, rfl, hS9, Rw.nil _ _ _, rfl, Rw.nil _ _ _, rfl, fun b hb => (HGG.out b hb).2, fun b hb => ?_, HGC.out.trans hc (fun b e => .inr (by omega)), ?_⟩
            · have h1 := HM.out.ow b hb
              have h2 : w.heap.size ≤ w1.heap.size := by have := HZ1.out.lt; omega
              exact h1.imp id (fun k => by omega)
            · refine HGD.out _ _ _ (fun K1 K2 h1 h2 => .inr ⟨hD, ?_, rfl, rfl⟩)
              rw [(put_map HM.out.at_).1, h1, h2]
          have HNOT := Lib.hid hnot
          clear hall hR hk hB hRL hl hG4 hW4 hbx hW5 hS5 hfin hyn hgood hnot HST HMD HSD HROW HNO
          simp only [frL, if_true, Act.put, List.setIfInBounds_toArray, List.set_cons_zero, List.set_cons_succ]
          go_upto_region 25 with (first | (refine ld_rw rfl (.tmp 159) rfl rfl y HRG.out ?_) | (refine st_rw_new rfl (.tmp 14) (.tmp 160) rfl rfl rfl rfl y rfl ?_))
          rw [HW5.out, HBX.out]
          clear c0
          rcases (by omega : fin < 0 ∨ (0 ≤ fin ∧ (yn : Int) < fin) ∨ (0 ≤ fin ∧ fin ≤ (yn : Int))) with hw | hw | hw
          · as_aux_lemma =>
            have q0 : decide (fin < 0) = true := decide_eq_true hw
            go_wp2_with (first | (refine st_zero rfl (.tmp 6) (.tmp 172) rfl rfl rfl rfl HZB.out ?_))
            refine bodyPost_ret (results_c2 rfl _ _ (gx + 1) _ _ _ _ rfl HZB.out Try.underlying26 rfl (by kernel_rfl)) rfl ?_
            exact HNOT.out (fun hD => by have h1 : (0 : Int) ≤ y.fin := hD.1; have h2 := HFY.out.1; omega) _ (Chg.refl _ _)
          · as_aux_lemma =>
            have q0 : decide (fin < 0) = false := decide_eq_false (by omega)
            have q1 : decide ((yn : Int) < fin) = true := decide_eq_true hw.2
            go_wp2_with (first | (refine st_zero rfl (.tmp 6) (.tmp 172) rfl rfl rfl rfl HZB.out ?_))
            refine bodyPost_ret (results_c2 rfl _ _ (gx + 1) _ _ _ _ rfl HZB.out Try.underlying26 rfl (by kernel_rfl)) rfl ?_
            exact HNOT.out (fun hD => by have h1 : y.fin ≤ (y.has.length : Int) := hD.2.1; have h2 := HFY.out; have h3 := HK5.out.hl; omega) _ (Chg.refl _ _)
          · as_aux_lemma =>
            have q0 : decide (fin < 0) = false := decide_eq_false (by omega)
            have q1 : decide ((yn : Int) < fin) = false := decide_eq_false (by omega)
            have HWY := Lib.hid hw
            obtain ⟨hw0, hw1⟩ := hw
            go_wp2_with fail
            go_loop [15] (fun v15 => ∃ k : Nat, (k : Int) ≤ fin ∧ v15 = .int .i64 k ∧ Hid (∀ j : Nat, j < k → y.has[j]? = some true)) (fun v15 => fin.toNat - (intOf v15).toNat)
            case atStart => exact ⟨0, by omega, rfl, Lib.hid (fun j hj => by omega)⟩
            case round =>
              obtain ⟨k, hk, rfl, HT⟩ := hrel
              rcases Int.lt_or_le (k : Int) fin with r | r
              · as_aux_lemma =>
                have t1 : decide ((k : Int) < fin) = true := decide_eq_true r
                have hky : (0 : Int) ≤ (k : Int) ∧ (k : Int) < (yn : Int) := by omega
                obtain ⟨b, hb⟩ : ∃ b, y.has[k]? = some b := ⟨_, List.getElem?_eq_getElem (by rw [HK5.out.hl, HFY.out.2]; omega)⟩
                obtain ⟨hbk, hof, eA, _, hcell⟩ := HK5.out.h.at_ (bls_get hb)
                rw [eA] at k6
                have HBK := Lib.hid (And.intro hb eA)
                clear hb eA
                cases b with
                | true =>
                  go_wp2_with fail
                  go_round
                  case rel =>
                    refine ⟨k + 1, by omega, by go_num, Lib.hid (fun j hj => ?_)⟩
                    rcases Nat.lt_or_ge j k with h5 | h5
                    · exact HT.out j h5
                    · obtain rfl : j = k := by omega
                      exact HBK.out.1
                  case measure => simp [intOf]; omega
                | false =>
                  go_wp2_with (first | (refine st_zero rfl (.tmp 6) (.tmp 185) rfl rfl rfl rfl HZB.out ?_))
                  refine bodyPost_ret (results_c2 rfl _ _ (gx + 1) _ _ _ _ rfl HZB.out Try.underlying26 rfl (by kernel_rfl)) rfl ?_
                  exact HNOT.out (fun hD => by have h1 := hD.2.2 k (by show (k : Int) < y.fin; have h2 := HFY.out.1; omega); have h3 : y.has[k]? = some true := h1; rw [HBK.out.1] at h3; cases h3) _ (Chg.refl _ _)
              · as_aux_lemma =>
                obtain rfl : (k : Int) = fin := by omega
                have t1 : decide ((k : Int) < (k : Int)) = false := decide_eq_false (by omega)
                have HDV : Hid (DoneV y.rv) := Lib.hid ⟨by show (0 : Int) ≤ y.fin; have h2 := HFY.out.1; omega, by show y.fin ≤ (y.has.length : Int); have h2 := HFY.out; have h3 := HK5.out.hl; omega, fun c hc => HT.out c (by have h4 : (c : Int) < y.fin := hc; have h2 := HFY.out.1; omega)⟩
                have HKC : Hid ((k : Int) ≤ (y.dc : Int) ∧ k ≤ y.dn ∧ (k : Int) ≤ 1000000) := Lib.hid (by have h1 := HK5.out.dc; have h2 := HK5.out.eq; have h3 := HFY.out.2; omega)
                have HDR := Lib.hid (rdrop HS5.out (by omega) i hil)
                clear k6 q0 q1 hw0 hw1
                go_wp2_with fail
                refine HDR.out.mono ?_
                rintro e w6 ⟨rfl, A6, n6, c6, h6, hC6, hA6⟩
                have hqb : q < bx := by have h1 := HRL.out.st.st.1.lt; have h2 := HBX.out; omega
                have hgb : gx + 1 < bx := by have h1 := HRL.out.zk.lt; have h2 := HBX.out; omega
                have hb5s : bx < W5.heap.size := HB5.out.lt
                have h6s := hC6.size
                have hb6 : Bk w6 bx 94 (rvC y).toArray := HB5.out.chg hC6 (by omega)
                have HB6 := Lib.hid hb6
                have HZ6 : Hid (Bk w6 (gx + 1) 26 #[.int .i64 0, .int .i64 0, .bool false, .bool false, .int .i64 0, .int .i64 0, .int .i64 0, .int .u32 0, .int .u32 0, .slice none 0 0, .slice none 0 0]) := Lib.hid (HZB.out.chg hC6 (by have := HRL.out.gz; omega))
                have H6 := Lib.hid (And.intro h6 (And.intro hC6 hA6))
                clear h6 hC6 hA6 hb6 t1 k7
                go_upto_region 34 with (first | (refine ld_first rfl (.tmp 189) rfl rfl y HB6.out ?_) | (refine st_pk_new rfl (.tmp 16) (.tmp 190) rfl rfl rfl rfl (([.int .i64 y.f.svc, .int .i64 y.f.id, .bool y.f.whole, .bool y.f.more, .int .i64 y.f.off, .int .i64 y.f.life, .int .i64 y.f.proto, .int .u32 y.f.src, .int .u32 y.f.dst, .slice y.oA y.on y.oc, .slice y.fA y.fn y.fc] : List Value).toArray) rfl (by kernel_rfl) rfl ?_))
                obtain ⟨gy, hgy⟩ : ∃ gy, w6.heap.size = gy := ⟨_, rfl⟩
                obtain ⟨W7, hW7⟩ : ∃ W7, w6.alloc (.cells (([.int .i64 y.f.svc, .int .i64 y.f.id, .bool y.f.whole, .bool y.f.more, .int .i64 y.f.off, .int .i64 y.f.life, .int .i64 y.f.proto, .int .u32 y.f.src, .int .u32 y.f.dst, .slice y.oA y.on y.oc, .slice y.fA y.fn y.fc] : List Value).toArray) 26) = W7 := ⟨_, rfl⟩
                rw [hW7, hgy]
                have HBY : Hid (Bk W7 gy 26 (([.int .i64 y.f.svc, .int .i64 y.f.id, .bool y.f.whole, .bool y.f.more, .int .i64 y.f.off, .int .i64 y.f.life, .int .i64 y.f.proto, .int .u32 y.f.src, .int .u32 y.f.dst, .slice y.oA y.on y.oc, .slice y.fA y.fn y.fc] : List Value).toArray)) := Lib.hid (by rw [← hW7, ← hgy]; exact Bk.new w6 _ _)
                have HB7 : Hid (Bk W7 bx 94 (rvC y).toArray) := Lib.hid (by rw [← hW7]; exact HB6.out.alloc _)
                have HZ7 : Hid (Bk W7 (gx + 1) 26 #[.int .i64 0, .int .i64 0, .bool false, .bool false, .int .i64 0, .int .i64 0, .int .i64 0, .int .u32 0, .int .u32 0, .slice none 0 0, .slice none 0 0]) := Lib.hid (by rw [← hW7]; exact HZ6.out.alloc _)
                have HA7 : Hid (Below w6.heap.size w6 W7) := Lib.hid (by rw [← hW7]; exact (Below.refl _ _).alloc (Nat.le_refl _) _)
                have HNE : Hid (bx ≠ gx + 1 ∧ gy ≠ gx + 1) := Lib.hid ⟨by omega, by omega⟩
                have HQB := Lib.hid (And.intro hqb (And.intro hgb (And.intro hb5s h6s)))
                have HGY := Lib.hid hgy
                clear hW7 hgy hqb hgb hb5s h6s
                refine wp_region_inv [some 191, some 192, some 193, some 194, some 195, some 196, some 197, some 198, some 199, some 200, some 201, some 202, some 203, some 204, some 205, some 206, some 207, some 208, some 209, some 210, some 211, some 212, none, some 7, some 8] (reR gx gy bx k y W7.drew) (by kernel_rfl) rfl (by kernel_rfl) (by kernel_rfl) (by kernel_rfl) (by kernel_rfl) ?_ ?_ ?_
                · exact ⟨(fun _ h => by cases h), HB7.out, HBY.out, fun _ => HZ7.out, (fun h => by cases h), Chg.refl _ _, HNE.out⟩
                · refine ⟨?_, ?_, ?_, ?_, ?_, ?_, ?_, ?_, ?_, ?_, ?_, ?_, ?_, ?_, ?_, ?_, ?_, ?_, ?_, ?_, ?_, ?_, ?_, ?_, ?_, trivial⟩
                  · as_aux_lemma =>
                    intro L v w3 f hL hdep hF hR K hK
                    exact s_fa_p0 16 rfl ((hF.1 16 (by decide)).trans rfl : f.eval (.tmp 16) = .pointer (some ⟨gy, 0, none⟩)) (hK _ _ (reR_step hR rfl rfl))
                  · as_aux_lemma =>
                    intro L v w3 f hL hdep hF hR K hK
                    simp [Region.binds] at hdep
                    have hcq : w3.cell? ⟨gy, 0, none⟩ = some (.int .i64 y.f.svc) := (hR.hg.cell 0).trans rfl
                    have e0 : f.eval (.tmp 191) = .pointer (some ⟨gy, 0, none⟩) := ((hF.2 0 191 rfl hdep).trans (hR.pl 0 hdep rfl)).trans (show reC gy bx k y 0 = .pointer (some ⟨gy, 0, none⟩) from rfl)
                    exact s_ld_i 191 rfl e0 hcq (hK _ _ (reR_step hR rfl rfl))
                  · as_aux_lemma =>
                    intro L v w3 f hL hdep hF hR K hK
                    exact s_fa_w3 14 rfl ((hF.1 14 (by decide)).trans rfl : f.eval (.tmp 14) = .pointer (some ⟨bx, 0, none⟩)) (hK _ _ (reR_step hR rfl rfl))
                  · as_aux_lemma =>
                    intro L v w3 f hL hdep hF hR K hK
                    simp [Region.binds] at hdep
                    have hcq : w3.cell? ⟨bx, 3, none⟩ = some (.int .i64 y.k.2.2.2) := (hR.hb.cell 3).trans rfl
                    have e2 : f.eval (.tmp 193) = .pointer (some ⟨bx, 3, none⟩) := ((hF.2 2 193 rfl hdep).trans (hR.pl 2 hdep rfl)).trans (show reC gy bx k y 2 = .pointer (some ⟨bx, 3, none⟩) from rfl)
                    exact s_ld_i 193 rfl e2 hcq (hK _ _ (reR_step hR rfl rfl))
                  · as_aux_lemma =>
                    intro L v w3 f hL hdep hF hR K hK
                    exact s_fa_p2 16 rfl ((hF.1 16 (by decide)).trans rfl : f.eval (.tmp 16) = .pointer (some ⟨gy, 0, none⟩)) (hK _ _ (reR_step hR rfl rfl))
                  · as_aux_lemma =>
                    intro L v w3 f hL hdep hF hR K hK
                    simp [Region.binds] at hdep
                    have hcq : w3.cell? ⟨gy, 2, none⟩ = some (.bool y.f.whole) := (hR.hg.cell 2).trans rfl
                    have e4 : f.eval (.tmp 195) = .pointer (some ⟨gy, 2, none⟩) := ((hF.2 4 195 rfl hdep).trans (hR.pl 4 hdep rfl)).trans (show reC gy bx k y 4 = .pointer (some ⟨gy, 2, none⟩) from rfl)
                    exact s_ld_b 195 rfl e4 hcq (hK _ _ (reR_step hR rfl rfl))
                  · as_aux_lemma =>
                    intro L v w3 f hL hdep hF hR K hK
                    exact s_fa_p5 16 rfl ((hF.1 16 (by decide)).trans rfl : f.eval (.tmp 16) = .pointer (some ⟨gy, 0, none⟩)) (hK _ _ (reR_step hR rfl rfl))
                  · as_aux_lemma =>
                    intro L v w3 f hL hdep hF hR K hK
                    simp [Region.binds] at hdep
                    have hcq : w3.cell? ⟨gy, 5, none⟩ = some (.int .i64 y.f.life) := (hR.hg.cell 5).trans rfl
                    have e6 : f.eval (.tmp 197) = .pointer (some ⟨gy, 5, none⟩) := ((hF.2 6 197 rfl hdep).trans (hR.pl 6 hdep rfl)).trans (show reC gy bx k y 6 = .pointer (some ⟨gy, 5, none⟩) from rfl)
                    exact s_ld_i 197 rfl e6 hcq (hK _ _ (reR_step hR rfl rfl))
                  · as_aux_lemma =>
                    intro L v w3 f hL hdep hF hR K hK
                    exact s_fa_w2 14 rfl ((hF.1 14 (by decide)).trans rfl : f.eval (.tmp 14) = .pointer (some ⟨bx, 0, none⟩)) (hK _ _ (reR_step hR rfl rfl))
                  · as_aux_lemma =>
                    intro L v w3 f hL hdep hF hR K hK
                    simp [Region.binds] at hdep
                    have hcq : w3.cell? ⟨bx, 2, none⟩ = some (.int .i64 y.k.2.2.1) := (hR.hb.cell 2).trans rfl
                    have e8 : f.eval (.tmp 199) = .pointer (some ⟨bx, 2, none⟩) := ((hF.2 8 199 rfl hdep).trans (hR.pl 8 hdep rfl)).trans (show reC gy bx k y 8 = .pointer (some ⟨bx, 2, none⟩) from rfl)
                    exact s_ld_i 199 rfl e8 hcq (hK _ _ (reR_step hR rfl rfl))
                  · as_aux_lemma =>
                    intro L v w3 f hL hdep hF hR K hK
                    exact s_fa_w0 14 rfl ((hF.1 14 (by decide)).trans rfl : f.eval (.tmp 14) = .pointer (some ⟨bx, 0, none⟩)) (hK _ _ (reR_step hR rfl rfl))
                  · as_aux_lemma =>
                    intro L v w3 f hL hdep hF hR K hK
                    simp [Region.binds] at hdep
                    have hcq : w3.cell? ⟨bx, 0, none⟩ = some (.int .u32 y.k.1) := (hR.hb.cell 0).trans rfl
                    have e10 : f.eval (.tmp 201) = .pointer (some ⟨bx, 0, none⟩) := ((hF.2 10 201 rfl hdep).trans (hR.pl 10 hdep rfl)).trans (show reC gy bx k y 10 = .pointer (some ⟨bx, 0, none⟩) from rfl)
                    exact s_ld_u 201 rfl e10 hcq (hK _ _ (reR_step hR rfl rfl))
                  · as_aux_lemma =>
                    intro L v w3 f hL hdep hF hR K hK
                    exact s_fa_w1 14 rfl ((hF.1 14 (by decide)).trans rfl : f.eval (.tmp 14) = .pointer (some ⟨bx, 0, none⟩)) (hK _ _ (reR_step hR rfl rfl))
                  · as_aux_lemma =>
                    intro L v w3 f hL hdep hF hR K hK
                    simp [Region.binds] at hdep
                    have hcq : w3.cell? ⟨bx, 1, none⟩ = some (.int .u32 y.k.2.1) := (hR.hb.cell 1).trans rfl
                    have e12 : f.eval (.tmp 203) = .pointer (some ⟨bx, 1, none⟩) := ((hF.2 12 203 rfl hdep).trans (hR.pl 12 hdep rfl)).trans (show reC gy bx k y 12 = .pointer (some ⟨bx, 1, none⟩) from rfl)
                    exact s_ld_u 203 rfl e12 hcq (hK _ _ (reR_step hR rfl rfl))
                  · as_aux_lemma =>
                    intro L v w3 f hL hdep hF hR K hK
                    exact s_fa_p9 16 rfl ((hF.1 16 (by decide)).trans rfl : f.eval (.tmp 16) = .pointer (some ⟨gy, 0, none⟩)) (hK _ _ (reR_step hR rfl rfl))
                  · as_aux_lemma =>
                    intro L v w3 f hL hdep hF hR K hK
                    simp [Region.binds] at hdep
                    have hcq : w3.cell? ⟨gy, 9, none⟩ = some (.slice y.oA y.on y.oc) := (hR.hg.cell 9).trans rfl
                    have e14 : f.eval (.tmp 205) = .pointer (some ⟨gy, 9, none⟩) := ((hF.2 14 205 rfl hdep).trans (hR.pl 14 hdep rfl)).trans (show reC gy bx k y 14 = .pointer (some ⟨gy, 9, none⟩) from rfl)
                    exact s_ld_y 205 rfl e14 hcq (hK _ _ (reR_step hR rfl rfl))
                  · as_aux_lemma =>
                    intro L v w3 f hL hdep hF hR K hK
                    exact s_fa_w5 14 rfl ((hF.1 14 (by decide)).trans rfl : f.eval (.tmp 14) = .pointer (some ⟨bx, 0, none⟩)) (hK _ _ (reR_step hR rfl rfl))
                  · as_aux_lemma =>
                    intro L v w3 f hL hdep hF hR K hK
                    simp [Region.binds] at hdep
                    have hcq : w3.cell? ⟨bx, 5, none⟩ = some (.slice y.dA y.dn y.dc) := (hR.hb.cell 5).trans rfl
                    have e16 : f.eval (.tmp 207) = .pointer (some ⟨bx, 5, none⟩) := ((hF.2 16 207 rfl hdep).trans (hR.pl 16 hdep rfl)).trans (show reC gy bx k y 16 = .pointer (some ⟨bx, 5, none⟩) from rfl)
                    exact s_ld_y 207 rfl e16 hcq (hK _ _ (reR_step hR rfl rfl))
                  · as_aux_lemma =>
                    intro L v w3 f hL hdep hF hR K hK
                    exact s_fa_w7 14 rfl ((hF.1 14 (by decide)).trans rfl : f.eval (.tmp 14) = .pointer (some ⟨bx, 0, none⟩)) (hK _ _ (reR_step hR rfl rfl))
                  · as_aux_lemma =>
                    intro L v w3 f hL hdep hF hR K hK
                    simp [Region.binds] at hdep
                    have hcq : w3.cell? ⟨bx, 7, none⟩ = some (.int .i64 (k : Int)) := by rw [← HFY.out.1]; exact (hR.hb.cell 7).trans rfl
                    have e18 : f.eval (.tmp 209) = .pointer (some ⟨bx, 7, none⟩) := ((hF.2 18 209 rfl hdep).trans (hR.pl 18 hdep rfl)).trans (show reC gy bx k y 18 = .pointer (some ⟨bx, 7, none⟩) from rfl)
                    exact s_ld_i 209 rfl e18 hcq (hK _ _ (reR_step hR rfl rfl))
                  · as_aux_lemma =>
                    intro L v w3 f hL hdep hF hR K hK
                    simp [Region.binds] at hdep
                    obtain ⟨d17, d19⟩ : L 17 = true ∧ L 19 = true := by simp_all
                    have e17 : f.eval (.tmp 208) = .slice y.dA y.dn y.dc := ((hF.2 17 208 rfl d17).trans (hR.pl 17 d17 rfl)).trans (show reC gy bx k y 17 = .slice y.dA y.dn y.dc from rfl)
                    have e19 : f.eval (.tmp 210) = .int .i64 (k : Int) := ((hF.2 19 210 rfl d19).trans (hR.pl 19 d19 rfl)).trans (show reC gy bx k y 19 = .int .i64 (k : Int) from rfl)
                    exact s_sl 208 210 rfl e17 e19 HKC.out.1 HKC.out.2.2 (hK _ _ (reR_step hR rfl rfl))
                  · as_aux_lemma =>
                    intro L v w3 f hL hdep hF hR K hK
                    simp [Region.binds] at hdep
                    obtain ⟨d1, d3, d5, d7, d9, d11, d13, d15, d20⟩ : L 1 = true ∧ L 3 = true ∧ L 5 = true ∧ L 7 = true ∧ L 9 = true ∧ L 11 = true ∧ L 13 = true ∧ L 15 = true ∧ L 20 = true := by simp_all
                    have e1 : f.eval (.tmp 192) = .int .i64 y.f.svc := ((hF.2 1 192 rfl d1).trans (hR.pl 1 d1 rfl)).trans (show reC gy bx k y 1 = .int .i64 y.f.svc from rfl)
                    have e3 : f.eval (.tmp 194) = .int .i64 y.k.2.2.2 := ((hF.2 3 194 rfl d3).trans (hR.pl 3 d3 rfl)).trans (show reC gy bx k y 3 = .int .i64 y.k.2.2.2 from rfl)
                    have e5 : f.eval (.tmp 196) = .bool y.f.whole := ((hF.2 5 196 rfl d5).trans (hR.pl 5 d5 rfl)).trans (show reC gy bx k y 5 = .bool y.f.whole from rfl)
                    have e7 : f.eval (.tmp 198) = .int .i64 y.f.life := ((hF.2 7 198 rfl d7).trans (hR.pl 7 d7 rfl)).trans (show reC gy bx k y 7 = .int .i64 y.f.life from rfl)
                    have e9 : f.eval (.tmp 200) = .int .i64 y.k.2.2.1 := ((hF.2 9 200 rfl d9).trans (hR.pl 9 d9 rfl)).trans (show reC gy bx k y 9 = .int .i64 y.k.2.2.1 from rfl)
                    have e11 : f.eval (.tmp 202) = .int .u32 y.k.1 := ((hF.2 11 202 rfl d11).trans (hR.pl 11 d11 rfl)).trans (show reC gy bx k y 11 = .int .u32 y.k.1 from rfl)
                    have e13 : f.eval (.tmp 204) = .int .u32 y.k.2.1 := ((hF.2 13 204 rfl d13).trans (hR.pl 13 d13 rfl)).trans (show reC gy bx k y 13 = .int .u32 y.k.2.1 from rfl)
                    have e15 : f.eval (.tmp 206) = .slice y.oA y.on y.oc := ((hF.2 15 206 rfl d15).trans (hR.pl 15 d15 rfl)).trans (show reC gy bx k y 15 = .slice y.oA y.on y.oc from rfl)
                    have e20 : f.eval (.tmp 211) = .slice y.dA k y.dc := ((hF.2 20 211 rfl d20).trans (hR.pl 20 d20 rfl)).trans (show reC gy bx k y 20 = .slice y.dA k y.dc from rfl)
                    exact s_bl_p rfl e1 e3 e5 e7 e9 e11 e13 e15 e20 (hK _ _ (reR_step hR rfl rfl))
                  · as_aux_lemma =>
                    intro L v w3 f hL hdep hF hR K hK
                    simp [Region.binds] at hdep
                    have d21 : L 21 = true := by simp_all
                    have e21 : f.eval (.tmp 212) = .agg #[.int .i64 y.f.svc, .int .i64 y.k.2.2.2, .bool y.f.whole, .bool false, .int .i64 0, .int .i64 y.f.life, .int .i64 y.k.2.2.1, .int .u32 y.k.1, .int .u32 y.k.2.1, .slice y.oA y.on y.oc, .slice y.dA k y.dc] := ((hF.2 21 212 rfl d21).trans (hR.pl 21 d21 rfl)).trans (show reC gy bx k y 21 = .agg #[.int .i64 y.f.svc, .int .i64 y.k.2.2.2, .bool y.f.whole, .bool false, .int .i64 0, .int .i64 y.f.life, .int .i64 y.k.2.2.1, .int .u32 y.k.1, .int .u32 y.k.2.1, .slice y.oA y.on y.oc, .slice y.dA k y.dc] from rfl)
                    have e6 : f.eval (.tmp 6) = .pointer (some ⟨gx + 1, 0, none⟩) := (hF.1 6 (by decide)).trans rfl
                    refine wp_store_row 26 (.tmp 6) (.tmp 212) rfl (gx + 1) #[.int .i64 y.f.svc, .int .i64 y.k.2.2.2, .bool y.f.whole, .bool false, .int .i64 0, .int .i64 y.f.life, .int .i64 y.k.2.2.1, .int .u32 y.k.1, .int .u32 y.k.2.1, .slice y.oA y.on y.oc, .slice y.dA k y.dc] e6 e21 26 _ (hR.z0 hL) pk_size rfl (by kernel_rfl) ?_
                    exact hK _ _ (reR_st hR hL)
                  · as_aux_lemma =>
                    intro L v w3 f hL hdep hF hR K hK
                    exact s_as (.const (.bool true)) rfl rfl (hK _ _ (reR_step hR rfl rfl))
                  · as_aux_lemma =>
                    intro L v w3 f hL hdep hF hR K hK
                    exact s_as (.const (.int .i64 0)) rfl rfl (hK _ _ (reR_step hR rfl rfl))
                · as_aux_lemma =>
                  intro v w8 L' hall hR
                  have hz8 := hR.z1 (hall 22 (by decide))
                  have hc8 := hR.ch
                  have HZ8 := Lib.hid hz8
                  have HC8 := Lib.hid hc8
                  have e20 : v 23 = .bool true := (hR.pl 23 (hall 23 (by decide)) rfl).trans rfl
                  have e21 : v 24 = .int .i64 0 := (hR.pl 24 (hall 24 (by decide)) rfl).trans rfl
                  have HEE := Lib.hid (And.intro e20 e21)
                  clear hall hR hz8 hc8 e20 e21
                  simp only [frL, if_true, Act.put, List.setIfInBounds_toArray, List.set_cons_zero, List.set_cons_succ]
                  rw [HEE.out.1, HEE.out.2]
                  go_wp2_with fail
                  refine bodyPost_ret (results_c2 rfl _ _ (gx + 1) _ _ _ _ rfl HZ8.out Try.underlying26 rfl (by kernel_rfl)) rfl ?_
                  obtain ⟨h6, hC6, hA6⟩ := H6.out
                  obtain ⟨hqb, hgb, hb5s, h6s⟩ := HQB.out
                  have hq := HGX.out
                  have hgz := HRL.out.gz
                  have hC78 : Chg (fun b => b = gx + 1) w6 w8 := ((Chg.of_below (F := fun b => b = gx + 1) HA7.out).drewN 1).trans HC8.out (fun b e => .inl e)
                  have hCf : Chg (fun b => b = q ∨ b = gx + 1) W5 w8 := (hC6.mono (fun b _ e => .inl e)).trans hC78 (fun b e => .inl (.inr e))
                  have hGn : ∀ b, G4 b → ¬ (b = q ∨ b = gx + 1) := fun b hb e => by
                    rcases e with e | e
                    · exact HS5.out.nq (e ▸ hb)
                    · have := (HGG.out b hb).1; omega
                  have hS8 : RfS w8 q G4 A6 n6 c6 ((L1.set i y).take i ++ (L1.set i y).drop (i + 1)) := h6.chg hC78 (fun b hb e => by
                    rcases hb with (hb | hb) | hb
                    · omega
                    · have := hA6 b hb; omega
                    · exact hGn b hb (.inr e))
                  obtain ⟨r1, r2, r3⟩ := outV_row y HK5.out.z (.slice y.oA y.on y.oc) (.slice y.dA k y.dc)
                  have hkd : k ≤ y.data.length := by have h1 := HK5.out.dl; have h2 := HKC.out.2.1; omega
                  have hft : y.fin.toNat = k := by have h2 := HFY.out.1; omega
                  refine ⟨G4, A6, n6, c6, _, outV y.rv, true, 0, y.oA, y.dA, y.on, y.oc, k, y.dc, by rw [r1]; rfl, hS8, ?_, ?_, ?_, ?_, fun b hb => (HGG.out b hb).2, fun b hb => .inr ?_, ?_, ?_⟩
                  · rw [r2]; exact rw_chg HK5.out.o hCf (fun hn b hb => hGn b (HK5.out.oG (by rwa [by8_length] at hn) b hb))
                  · rw [r2]; exact HK5.out.ol
                  · rw [r3, hft]
                    have h9 : RB w8 w8.heap.size y.dA y.data := rw_chg HK5.out.d hCf (fun hn b hb => hGn b (HK5.out.dG (by rwa [by8_length] at hn) b hb))
                    exact h9.take k
                  · rw [r3, hft, List.length_take]; omega
                  · have h1 := hA6 b hb
                    have h2 := HGC.out.size
                    omega
                  · exact HGC.out.trans hCf (fun b e => by
                      rcases e with e | e
                      · exact .inl (.inl e)
                      · exact .inr (by omega))
                  · refine HGD.out _ _ _ (fun K1 K2 h1 h2 => .inl ⟨HDV.out, ?_, rfl, rfl⟩)
                    rw [List.map_append, h1, h2, List.take_set_of_le (Nat.le_refl _), List.drop_set_of_lt (Nat.lt_succ_self i)]
end Go.Proofs.Ytcjkhonapafndaa
