/- Proved: what Send of the reference's does where a neighbour is asked for anew. Conditions: as the laws say. -/
import Derived.Test.YtocigdkndlmikaaRfs
set_option linter.unusedVariables false
set_option linter.unusedSimpArgs false
namespace Go.Proofs.Ytocigdkndlmikaa
open Go.RowKit
set_option maxHeartbeats 4000000 in
set_option maxRecDepth 1000000 in
theorem rsend_new (q : Nat) (G : Nat → Prop) (A : Option Addr) (n c : Nat) (S : List En) (a : Int) (ha : okA a) (Ap : Option Addr) (np cp B : Nat) (l : List Int) (hnp : l.length = np) (hmax : np ≤ 140737488355328) (hbs : Bs l) (now : Int) (hnow : 0 ≤ now ∧ now ≤ 1099511627776) (w : World) (hr : RB w B Ap l) (hB : B ≤ q) (hBA : ∀ b, blk A = some b → B ≤ b) (h : RcK w q G A n c S) (hn : n ≤ 16)
    (hno : ∀ x ∈ S, x.a ≠ a) :
    Calls Try.prog 43 #[.pointer (some ⟨q, 0, none⟩), .int .u32 a, .slice Ap np cp, .int .i64 now] w (RSend w q G A S a now l) := by
  have HNO := Lib.hid hno
  clear hno
  have hlen := h.len
  have HS := Lib.hid h
  have HLEN := Lib.hid hlen
  have hql := h.st.1.lt
  have HNP := Lib.hid hnp
  have HBS := Lib.hid hbs
  have HR := Lib.hid hr
  have HBA := Lib.hid hBA
  have HA := Lib.hid ha
  obtain ⟨t, ht⟩ : ∃ t, w.heap.size = t := ⟨_, rfl⟩
  have HT := Lib.hid ht
  obtain ⟨W0, hW0⟩ : ∃ W0, w.alloc (.cells told0 34) = W0 := ⟨_, rfl⟩
  have hS0 : SdS w W0 q A := by rw [← hW0]; exact ⟨(Chg.refl _ w).alloc _, Bk.new w _ _⟩
  have HD0 := Lib.hid hS0
  have hB0 : Below w.heap.size w W0 := by rw [← hW0]; exact (Below.refl _ _).alloc (Nat.le_refl _) _
  have HK0 := Lib.hid (h.below hB0)
  have HW0 : Hid (w.alloc (.cells #[.bool false, .int .u8 0, .int .u8 0, .int .u8 0, .int .u8 0, .int .u8 0, .int .u8 0, .bool false, .bool false] 34) = W0) := Lib.hid (by rw [← hW0]; rfl)
  clear h hlen hW0 hS0 hB0 hnp hbs hr hBA ha ht
  go_enter Try.func43, Try.ntmps43
  go_wp2_with fail
  rw [HW0.out, HT.out]
  refine (spot_any q A n c S a _ HK0.out.st (by omega)).mono ?_
  rintro e1 w1 ⟨i, v, rfl, hsp, k, rfl⟩
  have HSP := Lib.hid hsp
  generalize hW1 : World.drewN W0 k = W1
  have HK1 : Hid (RcK W1 q G A n c S) := Lib.hid (by rw [← hW1]; exact HK0.out.drewN k)
  have HD1 : Hid (SdS w W1 q A) := Lib.hid (by rw [← hW1]; exact ⟨HD0.out.ch.drewN k, HD0.out.tb.drewN k⟩)
  clear hW1 hsp
  have hv := spot_not HSP.out HNO.out
  subst hv
  have HRB2 := Lib.hid (HD1.out.rb HR.out (Nat.le_trans hB (Nat.le_of_lt hql)) hB HBA.out)
  have hr2 := HRB2.out
  have hBz : B ≤ W1.heap.size := by have := HD1.out.size; omega
  go_wp2_with (first
    | (at_builtin; refine ap8_new rfl (.tmp 52) (.tmp 53) rfl rfl rfl hr2 hBz HNP.out hmax ?_; intro A3 c3 W3 hO3 hB3 hz3 hc3; have HO3 := Lib.hid hO3; have HB3 := Lib.hid hB3; clear hO3 hB3 hc3))
  clear hr2
  have HK3 : Hid (RcK W3 q G A n c S) := Lib.hid (HK1.out.below HB3.out)
  have HD3 : Hid (SdS w W3 q A) := Lib.hid (HD1.out.below HB3.out)
  refine (rroom_any q G A n c S W3 HK3.out (by omega)).mono ?_
  rintro e3 w3 (⟨rfl, hn15, k3, hw3⟩ | ⟨rfl, hn16, m, A4, n4, c4, hbest, hk4, hc4, hA4⟩ | ⟨rfl, hn16, hnone, k3, hw3⟩)
  · obtain ⟨A4, n4, c4, S4, HK4, HD4, HRM, HNE, hn4, HC34, HZ34, HAP, HZ24⟩ : ∃ A4 n4 c4 S4, Hid (RcK w3 q G A4 n4 c4 S4) ∧ Hid (SdS w w3 q A) ∧ Hid (RoomT (absT S) (absT S4)) ∧ Hid (∀ y ∈ S4, y.a ≠ a) ∧ n4 ≤ 15 ∧ Hid (∀ b, W1.heap.size ≤ b → b < W3.heap.size → w3.heap[b]? = W3.heap[b]?) ∧ Hid (W3.heap.size ≤ w3.heap.size) ∧ Hid (∀ b, blk A3 = some b → b ≠ q ∧ blk A4 ≠ some b ∧ b < w3.heap.size) ∧ Hid (w.heap.size < W1.heap.size ∧ W1.heap.size ≤ w3.heap.size) := by
      subst hw3
      refine ⟨A, n, c, S, Lib.hid (HK3.out.drewN k3), Lib.hid ⟨HD3.out.ch.drewN k3, HD3.out.tb.drewN k3⟩, Lib.hid (.inl ⟨by unfold absT; rw [List.length_map, HLEN.out]; omega, rfl⟩), HNO, hn15, Lib.hid (fun _ _ _ => rfl), Lib.hid (Nat.le_refl _), Lib.hid (fun b hb => ?_), Lib.hid ⟨HD1.out.size, HB3.out.size⟩⟩
      obtain ⟨h1, h2⟩ := Ow.lt HO3.out b hb
      have h3 := HD1.out.size
      exact ⟨by omega, fun e => by have := HK1.out.olt b (.inr e); omega, h2⟩
    clear hw3
    generalize hW4 : w3 = W4 at *
    clear hW4
    have HDX : Hid (NrOk (W4.alloc (.cells #[.slice A3 np c3] 27)) (newG G A3 W4.heap.size) (newE a now l W4.heap.size)) := Lib.hid (new_ok HO3.out HBS.out hmax HA.out HC34.out HZ34.out)
    have HK5 : Hid (RcK (W4.alloc (.cells #[.slice A3 np c3] 27)) q (newG G A3 W4.heap.size) A4 n4 c4 S4) := Lib.hid (new_rc HK4.out HAP.out _)
    have HD5 : Hid (SdS w (W4.alloc (.cells #[.slice A3 np c3] 27)) q A) := Lib.hid (HD4.out.below ((Below.refl _ _).alloc (Nat.le_refl _) _))
    have HLAT := Lib.hid (rlater_any now 10 hnow.1 hnow.2 (by omega))
    go_wp2_with fail
    refine (HLAT.out _).mono ?_
    rintro e9 w9 ⟨rfl, rfl⟩
    go_wp2_with fail
    refine (show Calls Try.prog 55 #[.pointer (some ⟨q, 0, none⟩), .agg (nrC (newE a now l _)).toArray] _ _ from (rinsert_any HK5.out (by omega) (newE a now l _) HDX.out HNE.out).mono ?_)
    rintro e6 w6 ⟨rfl, A6, n6, c6, S6, hk6, hp6, hc6, hA6⟩
    have HDz : Hid (SdS w w6 q A) := Lib.hid (HD5.out.chq hc6 hql)
    have htb : Bk w6 t 34 told0 := by have := HDz.out.tb; rw [HT.out] at this; exact this
    have hql' : q < w6.heap.size := by have := HDz.out.size; omega
    have y0 := htb.cell 0
    have y1 := htb.cell 1
    have y2 := htb.cell 2
    have y3 := htb.cell 3
    have y4 := htb.cell 4
    have y5 := htb.cell 5
    have y6 := htb.cell 6
    have y7 := htb.cell 7
    have y8 := htb.cell 8
    simp only [told0, List.getElem?_toArray, List.getElem?_cons_zero, List.getElem?_cons_succ] at y0 y1 y2 y3 y4 y5 y6 y7 y8
    have x0 := htb.frozen 0
    have x1 := htb.frozen 1
    have x2 := htb.frozen 2
    have x3 := htb.frozen 3
    have x4 := htb.frozen 4
    have x5 := htb.frozen 5
    have x6 := htb.frozen 6
    have x7 := htb.frozen 7
    have x8 := htb.frozen 8
    clear htb
    have HFIN : Hid (∀ w7, Chg (fun b => b = t) w6 w7 → RSend w q G A S a now l (.returned (.agg (toldC false noMac true false))) w7) := Lib.hid fun w7 h7 =>
      ⟨_, _, S6, rfl, .inr (.inr (.inr (.inl ⟨none_abs HNO.out, absT S4, HRM.out, rfl, rfl⟩))), hp6,
        RcTo.tail hk6 (fun b hb => by
          have h1 := HZ24.out
          have h2 := HD4.out.size
          rcases hb with e | e | e
          · exact .inl e
          · have := (Ow.lt HO3.out b e).1; exact .inr (by omega)
          · exact .inr (by omega)) (fun b hb => .inr (by have h1 := hA6 b hb; have h2 := HD5.out.size; omega)) HDz.out.ch HT.out (fun hb => by
          have h1 := HZ24.out
          have h2 := HD4.out.size
          have h3 := HT.out
          rcases hb with e | e | e
          · have := HS.out.lt t e; omega
          · have := (Ow.lt HO3.out t e).1; omega
          · omega) (fun e => by have h1 := hA6 t e; have h2 := HD5.out.size; have h3 := HT.out; omega) (by have := HT.out; omega) h7⟩
    clear hk6 hp6 hc6 hA6
    go_wp2_with fail
    refine bodyPost_ret (v := .agg #[.bool false, .int .u8 0, .int .u8 0, .int .u8 0, .int .u8 0, .int .u8 0, .int .u8 0, .bool true, .bool false]) (by simp [results, Try.results43, go_sem, *]) rfl ?_
    refine HFIN.out _ ?_
    refine Chg.set1 ?_ _
    refine Chg.set1 ?_ _
    refine Chg.set1 ?_ _
    refine Chg.set1 ?_ _
    refine Chg.set1 ?_ _
    refine Chg.set1 ?_ _
    refine Chg.set1 ?_ _
    refine Chg.set1 ?_ _
    refine Chg.set1 ?_ _
    exact Chg.refl _ _
  · obtain ⟨S4, HK4, HD4, HRM, HNE, hn4, HC34, HZ34, HAP, HZ24⟩ : ∃ S4, Hid (RcK w3 q G A4 n4 c4 S4) ∧ Hid (SdS w w3 q A) ∧ Hid (RoomT (absT S) (absT S4)) ∧ Hid (∀ y ∈ S4, y.a ≠ a) ∧ n4 ≤ 15 ∧ Hid (∀ b, W1.heap.size ≤ b → b < W3.heap.size → w3.heap[b]? = W3.heap[b]?) ∧ Hid (W3.heap.size ≤ w3.heap.size) ∧ Hid (∀ b, blk A3 = some b → b ≠ q ∧ blk A4 ≠ some b ∧ b < w3.heap.size) ∧ Hid (w.heap.size < W1.heap.size ∧ W1.heap.size ≤ w3.heap.size) := by
      have hl4 := hk4.len
      obtain ⟨xm, hxm, _, hmn, _⟩ := id hbest
      rw [List.length_append, List.length_take, List.length_drop, HLEN.out] at hl4
      have hzq : q < W1.heap.size := by have := HD1.out.size; omega
      refine ⟨_, Lib.hid hk4, Lib.hid (HD3.out.chq hc4 hql), Lib.hid (best_room HS.out.so HLEN.out hn16 hbest), Lib.hid (fun y hy => ?_), by omega, Lib.hid (fun b h1 h2 => hc4.block b h2 (by omega)), Lib.hid hc4.size, Lib.hid (fun b hb => ?_), Lib.hid ⟨HD1.out.size, Nat.le_trans HB3.out.size hc4.size⟩⟩
      · rcases List.mem_append.1 hy with e | e
        · exact HNO.out y (List.mem_of_mem_take e)
        · exact HNO.out y (List.mem_of_mem_drop e)
      · obtain ⟨h1, h2⟩ := Ow.lt HO3.out b hb
        exact ⟨by omega, fun e => by have := hA4 b e; omega, Nat.lt_of_lt_of_le h2 hc4.size⟩
    clear hbest hk4 hc4 hA4
    generalize hW4 : w3 = W4 at *
    clear hW4
    have HDX : Hid (NrOk (W4.alloc (.cells #[.slice A3 np c3] 27)) (newG G A3 W4.heap.size) (newE a now l W4.heap.size)) := Lib.hid (new_ok HO3.out HBS.out hmax HA.out HC34.out HZ34.out)
    have HK5 : Hid (RcK (W4.alloc (.cells #[.slice A3 np c3] 27)) q (newG G A3 W4.heap.size) A4 n4 c4 S4) := Lib.hid (new_rc HK4.out HAP.out _)
    have HD5 : Hid (SdS w (W4.alloc (.cells #[.slice A3 np c3] 27)) q A) := Lib.hid (HD4.out.below ((Below.refl _ _).alloc (Nat.le_refl _) _))
    have HLAT := Lib.hid (rlater_any now 10 hnow.1 hnow.2 (by omega))
    go_wp2_with fail
    refine (HLAT.out _).mono ?_
    rintro e9 w9 ⟨rfl, rfl⟩
    go_wp2_with fail
    refine (show Calls Try.prog 55 #[.pointer (some ⟨q, 0, none⟩), .agg (nrC (newE a now l _)).toArray] _ _ from (rinsert_any HK5.out (by omega) (newE a now l _) HDX.out HNE.out).mono ?_)
    rintro e6 w6 ⟨rfl, A6, n6, c6, S6, hk6, hp6, hc6, hA6⟩
    have HDz : Hid (SdS w w6 q A) := Lib.hid (HD5.out.chq hc6 hql)
    have htb : Bk w6 t 34 told0 := by have := HDz.out.tb; rw [HT.out] at this; exact this
    have hql' : q < w6.heap.size := by have := HDz.out.size; omega
    have y0 := htb.cell 0
    have y1 := htb.cell 1
    have y2 := htb.cell 2
    have y3 := htb.cell 3
    have y4 := htb.cell 4
    have y5 := htb.cell 5
    have y6 := htb.cell 6
    have y7 := htb.cell 7
    have y8 := htb.cell 8
    simp only [told0, List.getElem?_toArray, List.getElem?_cons_zero, List.getElem?_cons_succ] at y0 y1 y2 y3 y4 y5 y6 y7 y8
    have x0 := htb.frozen 0
    have x1 := htb.frozen 1
    have x2 := htb.frozen 2
    have x3 := htb.frozen 3
    have x4 := htb.frozen 4
    have x5 := htb.frozen 5
    have x6 := htb.frozen 6
    have x7 := htb.frozen 7
    have x8 := htb.frozen 8
    clear htb
    have HFIN : Hid (∀ w7, Chg (fun b => b = t) w6 w7 → RSend w q G A S a now l (.returned (.agg (toldC false noMac true false))) w7) := Lib.hid fun w7 h7 =>
      ⟨_, _, S6, rfl, .inr (.inr (.inr (.inl ⟨none_abs HNO.out, absT S4, HRM.out, rfl, rfl⟩))), hp6,
        RcTo.tail hk6 (fun b hb => by
          have h1 := HZ24.out
          have h2 := HD4.out.size
          rcases hb with e | e | e
          · exact .inl e
          · have := (Ow.lt HO3.out b e).1; exact .inr (by omega)
          · exact .inr (by omega)) (fun b hb => .inr (by have h1 := hA6 b hb; have h2 := HD5.out.size; omega)) HDz.out.ch HT.out (fun hb => by
          have h1 := HZ24.out
          have h2 := HD4.out.size
          have h3 := HT.out
          rcases hb with e | e | e
          · have := HS.out.lt t e; omega
          · have := (Ow.lt HO3.out t e).1; omega
          · omega) (fun e => by have h1 := hA6 t e; have h2 := HD5.out.size; have h3 := HT.out; omega) (by have := HT.out; omega) h7⟩
    clear hk6 hp6 hc6 hA6
    go_wp2_with fail
    refine bodyPost_ret (v := .agg #[.bool false, .int .u8 0, .int .u8 0, .int .u8 0, .int .u8 0, .int .u8 0, .int .u8 0, .bool true, .bool false]) (by simp [results, Try.results43, go_sem, *]) rfl ?_
    refine HFIN.out _ ?_
    refine Chg.set1 ?_ _
    refine Chg.set1 ?_ _
    refine Chg.set1 ?_ _
    refine Chg.set1 ?_ _
    refine Chg.set1 ?_ _
    refine Chg.set1 ?_ _
    refine Chg.set1 ?_ _
    refine Chg.set1 ?_ _
    refine Chg.set1 ?_ _
    exact Chg.refl _ _
  · have HK4 : Hid (RcK w3 q G A n c S) := Lib.hid (by rw [hw3]; exact HK3.out.drewN k3)
    have HDz : Hid (SdS w w3 q A) := Lib.hid (by rw [hw3]; exact ⟨HD3.out.ch.drewN k3, HD3.out.tb.drewN k3⟩)
    have htb : Bk w3 t 34 told0 := by have := HDz.out.tb; rw [HT.out] at this; exact this
    have hql' : q < w3.heap.size := by have := HDz.out.size; omega
    have y0 := htb.cell 0
    have y1 := htb.cell 1
    have y2 := htb.cell 2
    have y3 := htb.cell 3
    have y4 := htb.cell 4
    have y5 := htb.cell 5
    have y6 := htb.cell 6
    have y7 := htb.cell 7
    have y8 := htb.cell 8
    simp only [told0, List.getElem?_toArray, List.getElem?_cons_zero, List.getElem?_cons_succ] at y0 y1 y2 y3 y4 y5 y6 y7 y8
    have x0 := htb.frozen 0
    have x1 := htb.frozen 1
    have x2 := htb.frozen 2
    have x3 := htb.frozen 3
    have x4 := htb.frozen 4
    have x5 := htb.frozen 5
    have x6 := htb.frozen 6
    have x7 := htb.frozen 7
    have x8 := htb.frozen 8
    clear htb
    have HFIN : Hid (∀ w7, Chg (fun b => b = t) w3 w7 → RSend w q G A S a now l (.returned (.agg (toldC false noMac false true))) w7) := Lib.hid fun w7 h7 =>
      ⟨_, absT S, S, rfl, .inr (.inr (.inr (.inr ⟨none_abs HNO.out, none_full HLEN.out hn16 hnone, rfl, rfl⟩))), List.Perm.refl _,
        RcTo.tail HK4.out (fun b hb => .inl hb) (fun b hb => .inl hb) HDz.out.ch HT.out (fun hb => by have := HS.out.lt t hb; have := HT.out; omega) (fun hb => by have := HS.out.olt t (.inr hb); have := HT.out; omega) (by have := HT.out; omega) h7⟩
    clear hnone hw3
    go_wp2_with fail
    refine bodyPost_ret (v := .agg #[.bool false, .int .u8 0, .int .u8 0, .int .u8 0, .int .u8 0, .int .u8 0, .int .u8 0, .bool false, .bool true]) (by simp [results, Try.results43, go_sem, *]) rfl ?_
    refine HFIN.out _ ?_
    refine Chg.set1 ?_ _
    refine Chg.set1 ?_ _
    refine Chg.set1 ?_ _
    refine Chg.set1 ?_ _
    refine Chg.set1 ?_ _
    refine Chg.set1 ?_ _
    refine Chg.set1 ?_ _
    refine Chg.set1 ?_ _
    refine Chg.set1 ?_ _
    exact Chg.refl _ _
set_option maxHeartbeats 4000000 in
set_option maxRecDepth 1000000 in
theorem rsend_old (q : Nat) (G : Nat → Prop) (A : Option Addr) (n c : Nat) (S : List En) (a : Int) (ha : okA a) (Ap : Option Addr) (np cp B : Nat) (l : List Int) (hnp : l.length = np) (hmax : np ≤ 140737488355328) (hbs : Bs l) (now : Int) (hnow : 0 ≤ now ∧ now ≤ 1099511627776) (w : World) (hr : RB w B Ap l) (hB : B ≤ q) (hBA : ∀ b, blk A = some b → B ≤ b) (h : RcK w q G A n c S) (hn : n ≤ 16)
    (x : En) (hx : x ∈ S) (hxa : x.a = a) (hk : x.n.kn = true) (htk : x.n.tk ≤ now) :
    Calls Try.prog 43 #[.pointer (some ⟨q, 0, none⟩), .int .u32 a, .slice Ap np cp, .int .i64 now] w (RSend w q G A S a now l) := by
  have HX := Lib.hid (And.intro hx (And.intro hxa (And.intro hk htk)))
  clear hx hxa hk htk
  have hlen := h.len
  have HS := Lib.hid h
  have HLEN := Lib.hid hlen
  have hql := h.st.1.lt
  have HNP := Lib.hid hnp
  have HBS := Lib.hid hbs
  have HR := Lib.hid hr
  have HBA := Lib.hid hBA
  have HA := Lib.hid ha
  obtain ⟨t, ht⟩ : ∃ t, w.heap.size = t := ⟨_, rfl⟩
  have HT := Lib.hid ht
  obtain ⟨W0, hW0⟩ : ∃ W0, w.alloc (.cells told0 34) = W0 := ⟨_, rfl⟩
  have hS0 : SdS w W0 q A := by rw [← hW0]; exact ⟨(Chg.refl _ w).alloc _, Bk.new w _ _⟩
  have HD0 := Lib.hid hS0
  have hB0 : Below w.heap.size w W0 := by rw [← hW0]; exact (Below.refl _ _).alloc (Nat.le_refl _) _
  have HK0 := Lib.hid (h.below hB0)
  have HW0 : Hid (w.alloc (.cells #[.bool false, .int .u8 0, .int .u8 0, .int .u8 0, .int .u8 0, .int .u8 0, .int .u8 0, .bool false, .bool false] 34) = W0) := Lib.hid (by rw [← hW0]; rfl)
  clear h hlen hW0 hS0 hB0 hnp hbs hr hBA ha ht
  go_enter Try.func43, Try.ntmps43
  go_wp2_with fail
  rw [HW0.out, HT.out]
  refine (spot_any q A n c S a _ HK0.out.st (by omega)).mono ?_
  rintro e1 w1 ⟨i, v, rfl, hsp, k, rfl⟩
  have HSP := Lib.hid hsp
  generalize hW1 : World.drewN W0 k = W1
  have HK1 : Hid (RcK W1 q G A n c S) := Lib.hid (by rw [← hW1]; exact HK0.out.drewN k)
  have HD1 : Hid (SdS w W1 q A) := Lib.hid (by rw [← hW1]; exact ⟨HD0.out.ch.drewN k, HD0.out.tb.drewN k⟩)
  clear hW1 hsp
  obtain ⟨rfl, hxi⟩ : v = true ∧ S[i]? = some x := spot_is HSP.out HS.out.so HX.out.1 HX.out.2.1
  have hin : i < n := by have := (List.getElem?_eq_some_iff.1 hxi).1; have := HLEN.out; omega
  obtain ⟨g, hAg, _, hg, hcl⟩ := HK1.out.st.2.1.cell hxi
  have c0 : W1.cell? ⟨q, 0, none⟩ = some (.slice A n c) := HK1.out.st.1.cell 0
  rw [hAg] at c0
  have hki : (0 : Int) ≤ (i : Int) ∧ (i : Int) < (n : Int) := by omega
  obtain ⟨tk, htk⟩ : ∃ z, x.n.tk = z := ⟨_, rfl⟩
  have hx1 : W1.cell? ⟨g, i * 11 + 1, none⟩ = some (.bool true) := by rw [← HX.out.2.2.1]; exact (hcl 1 _ rfl).1
  have hx8 : W1.cell? ⟨g, i * 11 + 8, none⟩ = some (.int .i64 tk) := by rw [← htk]; exact (hcl 8 _ rfl).1
  have t1 : decide (now < tk) = false := decide_eq_false (by rw [← htk]; have := HX.out.2.2.2; omega)
  have HXI := Lib.hid hxi
  clear hcl hxi htk hAg
  go_wp2_with fail
  refine (cdrop HK1.out (by omega) i hin).mono ?_
  rintro e2 W2 ⟨rfl, A2, n2, c2, hk2, hc2, hA2⟩
  have HK2 := Lib.hid hk2
  have HD2 : Hid (SdS w W2 q A) := Lib.hid (HD1.out.chq hc2 hql)
  have hn2 : n2 ≤ 15 := by
    have hl4 := hk2.len
    rw [List.length_append, List.length_take, List.length_drop, HLEN.out] at hl4
    omega
  have HDA : Hid (absT (S.take i ++ S.drop (i + 1)) = dropT (absT S) a) := Lib.hid (by rw [← HX.out.2.1]; exact drop_abs HS.out.so HXI.out)
  have HNO2 : Hid (∀ y ∈ S.take i ++ S.drop (i + 1), y.a ≠ a) := Lib.hid (by
    rw [← filter_out HS.out.so HXI.out]
    intro y hy
    have := (List.mem_filter.1 hy).2
    rw [← HX.out.2.1]
    simpa using this)
  obtain ⟨S2, hS2⟩ : ∃ S2, S.take i ++ S.drop (i + 1) = S2 := ⟨_, rfl⟩
  rw [hS2] at HK2 HDA HNO2
  clear hk2 hc2 hS2 c0 hx1 hx8 t1
  have HRB2 := Lib.hid (HD2.out.rb HR.out (Nat.le_trans hB (Nat.le_of_lt hql)) hB HBA.out)
  have hr2 := HRB2.out
  have hBz : B ≤ W2.heap.size := by have := HD2.out.size; omega
  go_wp2_with (first
    | (at_builtin; refine ap8_new rfl (.tmp 52) (.tmp 53) rfl rfl rfl hr2 hBz HNP.out hmax ?_; intro A3 c3 W3 hO3 hB3 hz3 hc3; have HO3 := Lib.hid hO3; have HB3 := Lib.hid hB3; clear hO3 hB3 hc3))
  clear hr2
  have HK3 : Hid (RcK W3 q G A2 n2 c2 S2) := Lib.hid (HK2.out.below HB3.out)
  have HD3 : Hid (SdS w W3 q A) := Lib.hid (HD2.out.below HB3.out)
  refine (rroom_any q G A2 n2 c2 S2 W3 HK3.out (by omega)).mono ?_
  rintro e3 w3 (⟨rfl, hn15, k3, hw3⟩ | ⟨rfl, hn16, m, A4, n4, c4, hbest, hk4, hc4, hA4⟩ | ⟨rfl, hn16, hnone, k3, hw3⟩)
  · obtain ⟨A4, n4, c4, S4, HK4, HD4, HRM, HNE, hn4, HC34, HZ34, HAP, HZ24⟩ : ∃ A4 n4 c4 S4, Hid (RcK w3 q G A4 n4 c4 S4) ∧ Hid (SdS w w3 q A) ∧ Hid (absT S4 = dropT (absT S) a) ∧ Hid (∀ y ∈ S4, y.a ≠ a) ∧ n4 ≤ 15 ∧ Hid (∀ b, W2.heap.size ≤ b → b < W3.heap.size → w3.heap[b]? = W3.heap[b]?) ∧ Hid (W3.heap.size ≤ w3.heap.size) ∧ Hid (∀ b, blk A3 = some b → b ≠ q ∧ blk A4 ≠ some b ∧ b < w3.heap.size) ∧ Hid (w.heap.size < W2.heap.size ∧ W2.heap.size ≤ w3.heap.size) := by
      subst hw3
      refine ⟨A2, n2, c2, S2, Lib.hid (HK3.out.drewN k3), Lib.hid ⟨HD3.out.ch.drewN k3, HD3.out.tb.drewN k3⟩, HDA, HNO2, hn15, Lib.hid (fun _ _ _ => rfl), Lib.hid (Nat.le_refl _), Lib.hid (fun b hb => ?_), Lib.hid ⟨HD2.out.size, HB3.out.size⟩⟩
      obtain ⟨h1, h2⟩ := Ow.lt HO3.out b hb
      have h3 := HD2.out.size
      exact ⟨by omega, fun e => by have := HK2.out.olt b (.inr e); omega, h2⟩
    clear hw3
    generalize hW4 : w3 = W4 at *
    clear hW4
    have HDX : Hid (NrOk (W4.alloc (.cells #[.slice A3 np c3] 27)) (newG G A3 W4.heap.size) (newE a now l W4.heap.size)) := Lib.hid (new_ok HO3.out HBS.out hmax HA.out HC34.out HZ34.out)
    have HK5 : Hid (RcK (W4.alloc (.cells #[.slice A3 np c3] 27)) q (newG G A3 W4.heap.size) A4 n4 c4 S4) := Lib.hid (new_rc HK4.out HAP.out _)
    have HD5 : Hid (SdS w (W4.alloc (.cells #[.slice A3 np c3] 27)) q A) := Lib.hid (HD4.out.below ((Below.refl _ _).alloc (Nat.le_refl _) _))
    have HLAT := Lib.hid (rlater_any now 10 hnow.1 hnow.2 (by omega))
    go_wp2_with fail
    refine (HLAT.out _).mono ?_
    rintro e9 w9 ⟨rfl, rfl⟩
    go_wp2_with fail
    refine (show Calls Try.prog 55 #[.pointer (some ⟨q, 0, none⟩), .agg (nrC (newE a now l _)).toArray] _ _ from (rinsert_any HK5.out (by omega) (newE a now l _) HDX.out HNE.out).mono ?_)
    rintro e6 w6 ⟨rfl, A6, n6, c6, S6, hk6, hp6, hc6, hA6⟩
    have HDz : Hid (SdS w w6 q A) := Lib.hid (HD5.out.chq hc6 hql)
    have htb : Bk w6 t 34 told0 := by have := HDz.out.tb; rw [HT.out] at this; exact this
    have hql' : q < w6.heap.size := by have := HDz.out.size; omega
    have y0 := htb.cell 0
    have y1 := htb.cell 1
    have y2 := htb.cell 2
    have y3 := htb.cell 3
    have y4 := htb.cell 4
    have y5 := htb.cell 5
    have y6 := htb.cell 6
    have y7 := htb.cell 7
    have y8 := htb.cell 8
    simp only [told0, List.getElem?_toArray, List.getElem?_cons_zero, List.getElem?_cons_succ] at y0 y1 y2 y3 y4 y5 y6 y7 y8
    have x0 := htb.frozen 0
    have x1 := htb.frozen 1
    have x2 := htb.frozen 2
    have x3 := htb.frozen 3
    have x4 := htb.frozen 4
    have x5 := htb.frozen 5
    have x6 := htb.frozen 6
    have x7 := htb.frozen 7
    have x8 := htb.frozen 8
    clear htb
    have HFIN : Hid (∀ w7, Chg (fun b => b = t) w6 w7 → RSend w q G A S a now l (.returned (.agg (toldC false noMac true false))) w7) := Lib.hid fun w7 h7 =>
      ⟨_, _, S6, rfl, .inr (.inl ⟨x.n, by rw [← HX.out.2.1]; exact List.mem_map.2 ⟨x, HX.out.1, rfl⟩, HX.out.2.2.1, HX.out.2.2.2, rfl, rfl⟩), by rw [← HRM.out]; exact hp6,
        RcTo.tail hk6 (fun b hb => by
          have h1 := HZ24.out
          have h2 := HD4.out.size
          rcases hb with e | e | e
          · exact .inl e
          · have := (Ow.lt HO3.out b e).1; exact .inr (by omega)
          · exact .inr (by omega)) (fun b hb => .inr (by have h1 := hA6 b hb; have h2 := HD5.out.size; omega)) HDz.out.ch HT.out (fun hb => by
          have h1 := HZ24.out
          have h2 := HD4.out.size
          have h3 := HT.out
          rcases hb with e | e | e
          · have := HS.out.lt t e; omega
          · have := (Ow.lt HO3.out t e).1; omega
          · omega) (fun e => by have h1 := hA6 t e; have h2 := HD5.out.size; have h3 := HT.out; omega) (by have := HT.out; omega) h7⟩
    clear hk6 hp6 hc6 hA6
    go_wp2_with fail
    refine bodyPost_ret (v := .agg #[.bool false, .int .u8 0, .int .u8 0, .int .u8 0, .int .u8 0, .int .u8 0, .int .u8 0, .bool true, .bool false]) (by simp [results, Try.results43, go_sem, *]) rfl ?_
    refine HFIN.out _ ?_
    refine Chg.set1 ?_ _
    refine Chg.set1 ?_ _
    refine Chg.set1 ?_ _
    refine Chg.set1 ?_ _
    refine Chg.set1 ?_ _
    refine Chg.set1 ?_ _
    refine Chg.set1 ?_ _
    refine Chg.set1 ?_ _
    refine Chg.set1 ?_ _
    exact Chg.refl _ _
  · exfalso; omega
  · exfalso; omega
end Go.Proofs.Ytocigdkndlmikaa
