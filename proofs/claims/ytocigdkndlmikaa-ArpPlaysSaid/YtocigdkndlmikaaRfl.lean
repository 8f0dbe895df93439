/- Proved: what Learn of the reference's answers and what becomes of its cache. Conditions: as the laws say. -/
import Derived.Test.YtocigdkndlmikaaRfx
import Derived.StillTailTactics
set_option linter.unusedVariables false
set_option linter.unusedSimpArgs false
namespace Go.Proofs.Ytocigdkndlmikaa
open Go.RowKit
theorem bdrewN {B : Nat} {w w' : World} (h : Below B w w') (k : Nat) : Below B w (w'.drewN k) := ⟨h.os, h.tape, h.output, h.size, h.block⟩
/-- One neighbour is another one. -/
theorem RcK.putE {W : World} {q : Nat} {G : Nat → Prop} {g n c i : Nat} {S : List En} {x y : En} (h : RcK W q G (some ⟨g, 0, none⟩) n c S) (hx : S[i]? = some x) (hok : NrOk W G y) (ha : y.a = x.a) :
    RcK (W.setCells g (i * 11) (nrC y)) q G (some ⟨g, 0, none⟩) n c (S.set i y) ∧ Chg (fun b => b = g) W (W.setCells g (i * 11) (nrC y)) := by
  have hi : i < n := by have := (List.getElem?_eq_some_iff.1 hx).1; have := h.len; omega
  obtain ⟨hr, _, hc⟩ := h.st.2.1.set hi y
  have hgG : ∀ b, G b → ¬ b = g := fun b hb e => h.na g rfl (e ▸ hb)
  have hgq : q ≠ g := fun e => h.st.2.2 (by rw [e]; rfl)
  refine ⟨⟨⟨h.st.1.chg hc hgq, hr, h.st.2.2⟩, fun z hz => ?_, h.nq, h.na, fun b hb => Nat.lt_of_lt_of_le (h.lt b hb) hc.size, ?_⟩, hc⟩
  · rcases List.mem_or_eq_of_mem_set hz with e | e
    · exact (h.ok z e).chg hc hgG
    · rw [e]; exact hok.chg hc hgG
  · have e : (S.set i y).map (·.a) = S.map (·.a) := by
      rw [List.map_set]
      refine List.ext_getElem? fun j => ?_
      rw [List.getElem?_set]
      split
      · rename_i e
        subst e
        rw [List.getElem?_map, hx]
        split
        · show some y.a = some x.a
          rw [ha]
        · rename_i hl
          exact absurd (by rw [List.length_map]; exact (List.getElem?_eq_some_iff.1 hx).1) hl
      · rfl
    rw [e]; exact h.so
/-- What Learn of the reference's answers and leaves. -/
def RLearn (w : World) (q : Nat) (G : Nat → Prop) (A : Option Addr) (S : List En) (a : Int) (n' : Nb) (fresh : Bool) (e : Ending) (w' : World) : Prop :=
  ∃ A1 k1 c1 ws M S', e = .returned (.slice A1 k1 c1) ∧ (∃ vs, Of 27 w' 0 A1 k1 c1 vs ∧ RowsAt w' (fun _ => True) vs ws) ∧ ws.length ≤ 3 ∧ LearnT (absT S) a n' fresh ws M ∧ (absT S').Perm M ∧ RcTo w q G A S' w'
theorem learn_nothing {w w' : World} {q : Nat} {G : Nat → Prop} {A : Option Addr} {S : List En} {a : Int} {n' : Nb} {fresh : Bool} {M : Tb} {S' : List En} (h : LearnT (absT S) a n' fresh [] M) (hp : (absT S').Perm M) (hr : RcTo w q G A S' w') : RLearn w q G A S a n' fresh (.returned (.slice none 0 0)) w' :=
  ⟨none, 0, 0, [], M, S', rfl, ⟨[], Of.none_ _ _ _, trivial⟩, Nat.zero_le _, h, hp, hr⟩
theorem RcTo.same {w w' : World} {q : Nat} {G : Nat → Prop} {A : Option Addr} {n c : Nat} {S : List En} (h : RcK w' q G A n c S) (hb : Below w.heap.size w w') : RcTo w q G A S w' :=
  ⟨G, A, n, c, h, fun b hb => .inl hb, fun b hb => .inl hb, (Chg.of_below (F := fun _ => False) hb).mono (fun _ _ e => e.elim)⟩
/-- One that is learnt. -/
def lrnE (a m0 m1 m2 m3 m4 m5 now : Int) : En := ⟨a, 0, none, 0, 0, learnt m0 m1 m2 m3 m4 m5 now⟩
set_option maxHeartbeats 4000000 in
set_option maxRecDepth 1000000 in
theorem rlearn_not (q : Nat) (G : Nat → Prop) (A : Option Addr) (n c : Nat) (S : List En) (a : Int) (ha : okA a) (m0 m1 m2 m3 m4 m5 now : Int) (hnow : 0 ≤ now ∧ now ≤ 1099511627776) (fresh : Bool) (w : World) (h : RcK w q G A n c S) (hn : n ≤ 16)
    (hno : ∀ x ∈ S, x.a ≠ a) (hfr : fresh = false) :
    Calls Try.prog 45 #[.pointer (some ⟨q, 0, none⟩), .int .u32 a, .agg #[.int .u8 m0, .int .u8 m1, .int .u8 m2, .int .u8 m3, .int .u8 m4, .int .u8 m5], .int .i64 now, .bool fresh] w (RLearn w q G A S a (learnt m0 m1 m2 m3 m4 m5 now) fresh) := by
  subst hfr
  have HNO := Lib.hid hno
  clear hno
  have hlen := h.len
  have HS := Lib.hid h
  have HLEN := Lib.hid hlen
  have hql := h.st.1.lt
  have HA := Lib.hid ha
  obtain ⟨t, ht⟩ : ∃ t, w.heap.size = t := ⟨_, rfl⟩
  have HT := Lib.hid ht
  obtain ⟨W0, hW0⟩ : ∃ W0, w.alloc (.cells #[.int .u8 m0, .int .u8 m1, .int .u8 m2, .int .u8 m3, .int .u8 m4, .int .u8 m5] 26) = W0 := ⟨_, rfl⟩
  have hB0 : Below w.heap.size w W0 := by rw [← hW0]; exact (Below.refl _ _).alloc (Nat.le_refl _) _
  have HM0 : Hid (Bk W0 t 26 #[.int .u8 m0, .int .u8 m1, .int .u8 m2, .int .u8 m3, .int .u8 m4, .int .u8 m5]) := Lib.hid (by rw [← ht, ← hW0]; exact Bk.new w _ _)
  have HB0 := Lib.hid hB0
  have HK0 := Lib.hid (h.below hB0)
  have HW0 := Lib.hid hW0
  clear h hlen hW0 hB0 ha ht
  go_enter Try.func45, Try.ntmps45
  go_wp2_with fail
  rw [HW0.out, HT.out]
  refine (spot_any q A n c S a _ HK0.out.st (by omega)).mono ?_
  rintro e1 w1 ⟨i, v, rfl, hsp, k, rfl⟩
  have HSP := Lib.hid hsp
  generalize hW1 : World.drewN W0 k = W1
  have HK1 : Hid (RcK W1 q G A n c S) := Lib.hid (by rw [← hW1]; exact HK0.out.drewN k)
  have HB1 : Hid (Below w.heap.size w W1) := Lib.hid (by rw [← hW1]; exact HB0.out.trans (bdrewN (Below.refl _ _) k))
  have HM1 : Hid (Bk W1 t 26 #[.int .u8 m0, .int .u8 m1, .int .u8 m2, .int .u8 m3, .int .u8 m4, .int .u8 m5]) := Lib.hid (by rw [← hW1]; exact HM0.out.drewN k)
  clear hW1 hsp
  have hv := spot_not HSP.out HNO.out
  subst hv
  go_wp2_with fail
  go_ret
  exact learn_nothing (.inr (.inl ⟨none_abs HNO.out, rfl, rfl, rfl⟩)) (List.Perm.refl _) (RcTo.same HK1.out HB1.out)
set_option maxHeartbeats 4000000 in
set_option maxRecDepth 1000000 in
theorem rlearn_new (q : Nat) (G : Nat → Prop) (A : Option Addr) (n c : Nat) (S : List En) (a : Int) (ha : okA a) (m0 m1 m2 m3 m4 m5 now : Int) (hnow : 0 ≤ now ∧ now ≤ 1099511627776) (fresh : Bool) (w : World) (h : RcK w q G A n c S) (hn : n ≤ 16)
    (hno : ∀ x ∈ S, x.a ≠ a) (hfr : fresh = true) :
    Calls Try.prog 45 #[.pointer (some ⟨q, 0, none⟩), .int .u32 a, .agg #[.int .u8 m0, .int .u8 m1, .int .u8 m2, .int .u8 m3, .int .u8 m4, .int .u8 m5], .int .i64 now, .bool fresh] w (RLearn w q G A S a (learnt m0 m1 m2 m3 m4 m5 now) fresh) := by
  subst hfr
  have HNO := Lib.hid hno
  clear hno
  have hlen := h.len
  have HS := Lib.hid h
  have HLEN := Lib.hid hlen
  have hql := h.st.1.lt
  have HA := Lib.hid ha
  obtain ⟨t, ht⟩ : ∃ t, w.heap.size = t := ⟨_, rfl⟩
  have HT := Lib.hid ht
  obtain ⟨W0, hW0⟩ : ∃ W0, w.alloc (.cells #[.int .u8 m0, .int .u8 m1, .int .u8 m2, .int .u8 m3, .int .u8 m4, .int .u8 m5] 26) = W0 := ⟨_, rfl⟩
  have hB0 : Below w.heap.size w W0 := by rw [← hW0]; exact (Below.refl _ _).alloc (Nat.le_refl _) _
  have HM0 : Hid (Bk W0 t 26 #[.int .u8 m0, .int .u8 m1, .int .u8 m2, .int .u8 m3, .int .u8 m4, .int .u8 m5]) := Lib.hid (by rw [← ht, ← hW0]; exact Bk.new w _ _)
  have HB0 := Lib.hid hB0
  have HK0 := Lib.hid (h.below hB0)
  have HW0 := Lib.hid hW0
  clear h hlen hW0 hB0 ha ht
  go_enter Try.func45, Try.ntmps45
  go_wp2_with fail
  rw [HW0.out, HT.out]
  refine (spot_any q A n c S a _ HK0.out.st (by omega)).mono ?_
  rintro e1 w1 ⟨i, v, rfl, hsp, k, rfl⟩
  have HSP := Lib.hid hsp
  generalize hW1 : World.drewN W0 k = W1
  have HK1 : Hid (RcK W1 q G A n c S) := Lib.hid (by rw [← hW1]; exact HK0.out.drewN k)
  have HB1 : Hid (Below w.heap.size w W1) := Lib.hid (by rw [← hW1]; exact HB0.out.trans (bdrewN (Below.refl _ _) k))
  have HM1 : Hid (Bk W1 t 26 #[.int .u8 m0, .int .u8 m1, .int .u8 m2, .int .u8 m3, .int .u8 m4, .int .u8 m5]) := Lib.hid (by rw [← hW1]; exact HM0.out.drewN k)
  clear hW1 hsp
  have hv := spot_not HSP.out HNO.out
  subst hv
  go_wp2_with fail
  refine (rroom_any q G A n c S W1 HK1.out (by omega)).mono ?_
  rintro e3 w3 (⟨rfl, hn15, k3, hw3⟩ | ⟨rfl, hn16, m, A4, n4, c4, hbest, hk4, hc4, hA4⟩ | ⟨rfl, hn16, hnone, k3, hw3⟩)
  · obtain ⟨W2, hW2⟩ : ∃ W2, w3 = W2 := ⟨_, rfl⟩
    have HK2 : Hid (RcK W2 q G A n c S) := Lib.hid (by rw [← hW2, hw3]; exact HK1.out.drewN k3)
    have HM2 : Hid (Bk W2 t 26 #[.int .u8 m0, .int .u8 m1, .int .u8 m2, .int .u8 m3, .int .u8 m4, .int .u8 m5]) := Lib.hid (by rw [← hW2, hw3]; exact HM1.out.drewN k3)
    have HZ2 : Hid (w.heap.size ≤ W2.heap.size) := Lib.hid (by rw [← hW2, hw3]; exact HB1.out.size)
    have HC2 : Hid (Chg (ownC q A) w W2) := Lib.hid (by rw [← hW2, hw3]; exact ((Chg.of_below (F := fun _ => False) HB1.out).mono (fun _ _ e => e.elim)).drewN k3)
    have HRM : Hid (RoomT (absT S) (absT S)) := Lib.hid (.inl ⟨by unfold absT; rw [List.length_map, HLEN.out]; omega, rfl⟩)
    have HNE : Hid (∀ x ∈ S, x.a ≠ (lrnE a m0 m1 m2 m3 m4 m5 now).a) := Lib.hid HNO.out
    subst hW2
    clear hw3
    generalize hW4 : w3 = W2 at *
    clear hW4
    have HMz : Hid (Bk W2 t 26 #[.int .u8 m0, .int .u8 m1, .int .u8 m2, .int .u8 m3, .int .u8 m4, .int .u8 m5]) := Lib.hid (HM2.out)
    have y0 := HMz.out.cell 0
    have y1 := HMz.out.cell 1
    have y2 := HMz.out.cell 2
    have y3 := HMz.out.cell 3
    have y4 := HMz.out.cell 4
    have y5 := HMz.out.cell 5
    simp only [List.getElem?_toArray, List.getElem?_cons_zero, List.getElem?_cons_succ] at y0 y1 y2 y3 y4 y5
    have HLAT := Lib.hid (rlater_any now 600 hnow.1 hnow.2 (by omega))
    have HOK : Hid (∀ W9, Below W2.heap.size W2 W9 → NrOk W9 G (lrnE a m0 m1 m2 m3 m4 m5 now)) := Lib.hid (fun W9 _ => ⟨⟨[], Of.none_ _ _ _, trivial⟩, (fun b hb => by cases hb), Nat.zero_le _, HA.out, Int.le_refl _, show (0 : Int) ≤ 3 by omega⟩)
    go_wp2_with fail
    refine wp_region_still_tail 6 (by kernel_rfl) (by kernel_rfl) ?_
    change wpStill _ _ (World.drew _) (fun a' => wpList _ _ _ _ a' (World.drew _)) _ _
    simp only [List.take_succ_cons, List.take_zero, List.drop_succ_cons, List.drop_zero]
    still_step
    still_step
    still_step
    still_step
    still_call ((HLAT.out _).mono fun _ _ h => h)
    still_step
    refine wpStill_nil ?_
    go_wp2_with fail
    refine (show Calls Try.prog 55 #[.pointer (some ⟨q, 0, none⟩), .agg (nrC (lrnE a m0 m1 m2 m3 m4 m5 now)).toArray] _ _ from (rinsert_any (HK2.out.below (bdrewN (Below.refl _ _) 1)) (by omega) (lrnE a m0 m1 m2 m3 m4 m5 now) (HOK.out _ (bdrewN (Below.refl _ _) 1)) HNE.out).mono ?_)
    rintro e6 w6 ⟨rfl, A6, n6, c6, S6, hk6, hp6, hc6, hA6⟩
    have HFIN : Hid (RLearn w q G A S a (learnt m0 m1 m2 m3 m4 m5 now) true (.returned (.slice none 0 0)) w6) := Lib.hid (learn_nothing (.inr (.inr (.inl ⟨none_abs HNO.out, rfl, ⟨_, HRM.out, rfl⟩, rfl⟩))) hp6 ⟨G, A6, n6, c6, hk6, fun b hb => .inl hb, fun b hb => .inr (by have h1 := hA6 b hb; have h2 := HZ2.out; have h3 : (World.drewN W2 1).heap.size = W2.heap.size := rfl; have h4 : W2.drew.heap.size = W2.heap.size := rfl; omega), HC2.out.trans (((Chg.refl (fun b => b = q) W2).drewN 1).trans hc6 (fun z hz => .inl hz)) (fun z hz => .inl (.inl hz))⟩)
    clear hk6 hp6 hc6 hA6
    go_wp2_with fail
    go_ret
    exact HFIN.out
  · obtain ⟨W2, hW2⟩ : ∃ W2, w3 = W2 := ⟨_, rfl⟩
    have hl4 := hk4.len
    obtain ⟨xm, hxm, _, hmn, _⟩ := id hbest
    rw [List.length_append, List.length_take, List.length_drop, HLEN.out] at hl4
    have hn4 : n4 ≤ 15 := by omega
    have HK2 : Hid (RcK W2 q G A4 n4 c4 (S.take m ++ S.drop (m + 1))) := Lib.hid (by rw [← hW2]; exact hk4)
    have HM2 : Hid (Bk W2 t 26 #[.int .u8 m0, .int .u8 m1, .int .u8 m2, .int .u8 m3, .int .u8 m4, .int .u8 m5]) := Lib.hid (by rw [← hW2]; exact HM1.out.chg hc4 (by have := HT.out; omega))
    have HZ2 : Hid (w.heap.size ≤ W2.heap.size) := Lib.hid (by rw [← hW2]; exact Nat.le_trans HB1.out.size hc4.size)
    have HC2 : Hid (Chg (ownC q A) w W2) := Lib.hid (by rw [← hW2]; exact ((Chg.of_below (F := fun _ => False) HB1.out).mono (fun _ _ e => e.elim)).trans hc4 (fun z hz => .inl (.inl hz)))
    have HRM : Hid (RoomT (absT S) (absT (S.take m ++ S.drop (m + 1)))) := Lib.hid (best_room HS.out.so HLEN.out hn16 hbest)
    have HNE : Hid (∀ x ∈ S.take m ++ S.drop (m + 1), x.a ≠ (lrnE a m0 m1 m2 m3 m4 m5 now).a) := Lib.hid (fun y hy => by
      rcases List.mem_append.1 hy with e | e
      · exact HNO.out y (List.mem_of_mem_take e)
      · exact HNO.out y (List.mem_of_mem_drop e))
    rw [hW2]
    clear hbest hk4 hc4 hA4 hW2 hl4 hxm
    have HMz : Hid (Bk W2 t 26 #[.int .u8 m0, .int .u8 m1, .int .u8 m2, .int .u8 m3, .int .u8 m4, .int .u8 m5]) := Lib.hid (HM2.out)
    have y0 := HMz.out.cell 0
    have y1 := HMz.out.cell 1
    have y2 := HMz.out.cell 2
    have y3 := HMz.out.cell 3
    have y4 := HMz.out.cell 4
    have y5 := HMz.out.cell 5
    simp only [List.getElem?_toArray, List.getElem?_cons_zero, List.getElem?_cons_succ] at y0 y1 y2 y3 y4 y5
    have HLAT := Lib.hid (rlater_any now 600 hnow.1 hnow.2 (by omega))
    have HOK : Hid (∀ W9, Below W2.heap.size W2 W9 → NrOk W9 G (lrnE a m0 m1 m2 m3 m4 m5 now)) := Lib.hid (fun W9 _ => ⟨⟨[], Of.none_ _ _ _, trivial⟩, (fun b hb => by cases hb), Nat.zero_le _, HA.out, Int.le_refl _, show (0 : Int) ≤ 3 by omega⟩)
    go_wp2_with fail
    refine wp_region_still_tail 6 (by kernel_rfl) (by kernel_rfl) ?_
    change wpStill _ _ (World.drew _) (fun a' => wpList _ _ _ _ a' (World.drew _)) _ _
    simp only [List.take_succ_cons, List.take_zero, List.drop_succ_cons, List.drop_zero]
    still_step
    still_step
    still_step
    still_step
    still_call ((HLAT.out _).mono fun _ _ h => h)
    still_step
    refine wpStill_nil ?_
    go_wp2_with fail
    refine (show Calls Try.prog 55 #[.pointer (some ⟨q, 0, none⟩), .agg (nrC (lrnE a m0 m1 m2 m3 m4 m5 now)).toArray] _ _ from (rinsert_any (HK2.out.below (bdrewN (Below.refl _ _) 1)) (by omega) (lrnE a m0 m1 m2 m3 m4 m5 now) (HOK.out _ (bdrewN (Below.refl _ _) 1)) HNE.out).mono ?_)
    rintro e6 w6 ⟨rfl, A6, n6, c6, S6, hk6, hp6, hc6, hA6⟩
    have HFIN : Hid (RLearn w q G A S a (learnt m0 m1 m2 m3 m4 m5 now) true (.returned (.slice none 0 0)) w6) := Lib.hid (learn_nothing (.inr (.inr (.inl ⟨none_abs HNO.out, rfl, ⟨_, HRM.out, rfl⟩, rfl⟩))) hp6 ⟨G, A6, n6, c6, hk6, fun b hb => .inl hb, fun b hb => .inr (by have h1 := hA6 b hb; have h2 := HZ2.out; have h3 : (World.drewN W2 1).heap.size = W2.heap.size := rfl; have h4 : W2.drew.heap.size = W2.heap.size := rfl; omega), HC2.out.trans (((Chg.refl (fun b => b = q) W2).drewN 1).trans hc6 (fun z hz => .inl hz)) (fun z hz => .inl (.inl hz))⟩)
    clear hk6 hp6 hc6 hA6
    go_wp2_with fail
    go_ret
    exact HFIN.out
  · have HF : Hid (RLearn w q G A S a (learnt m0 m1 m2 m3 m4 m5 now) true (.returned (.slice none 0 0)) w3) := Lib.hid (learn_nothing (.inr (.inr (.inr ⟨none_abs HNO.out, rfl, none_full HLEN.out hn16 hnone, rfl, rfl⟩))) (List.Perm.refl _) (RcTo.same (by rw [hw3]; exact HK1.out.drewN k3) (by rw [hw3]; exact bdrewN HB1.out k3)))
    clear hnone hw3
    go_wp2_with fail
    go_ret
    exact HF.out
set_option maxHeartbeats 4000000 in
set_option maxRecDepth 1000000 in
theorem rlearn_found (q : Nat) (G : Nat → Prop) (A : Option Addr) (n c : Nat) (S : List En) (a : Int) (ha : okA a) (m0 m1 m2 m3 m4 m5 now : Int) (hnow : 0 ≤ now ∧ now ≤ 1099511627776) (fresh : Bool) (w : World) (h : RcK w q G A n c S) (hn : n ≤ 16)
    (x : En) (hx : x ∈ S) (hxa : x.a = a) :
    Calls Try.prog 45 #[.pointer (some ⟨q, 0, none⟩), .int .u32 a, .agg #[.int .u8 m0, .int .u8 m1, .int .u8 m2, .int .u8 m3, .int .u8 m4, .int .u8 m5], .int .i64 now, .bool fresh] w (RLearn w q G A S a (learnt m0 m1 m2 m3 m4 m5 now) fresh) := by
  have HX := Lib.hid (And.intro hx hxa)
  clear hx hxa
  have hlen := h.len
  have HS := Lib.hid h
  have HLEN := Lib.hid hlen
  have hql := h.st.1.lt
  have HA := Lib.hid ha
  obtain ⟨t, ht⟩ : ∃ t, w.heap.size = t := ⟨_, rfl⟩
  have HT := Lib.hid ht
  obtain ⟨W0, hW0⟩ : ∃ W0, w.alloc (.cells #[.int .u8 m0, .int .u8 m1, .int .u8 m2, .int .u8 m3, .int .u8 m4, .int .u8 m5] 26) = W0 := ⟨_, rfl⟩
  have hB0 : Below w.heap.size w W0 := by rw [← hW0]; exact (Below.refl _ _).alloc (Nat.le_refl _) _
  have HM0 : Hid (Bk W0 t 26 #[.int .u8 m0, .int .u8 m1, .int .u8 m2, .int .u8 m3, .int .u8 m4, .int .u8 m5]) := Lib.hid (by rw [← ht, ← hW0]; exact Bk.new w _ _)
  have HB0 := Lib.hid hB0
  have HK0 := Lib.hid (h.below hB0)
  have HW0 := Lib.hid hW0
  clear h hlen hW0 hB0 ha ht
  go_enter Try.func45, Try.ntmps45
  go_wp2_with fail
  rw [HW0.out, HT.out]
  refine (spot_any q A n c S a _ HK0.out.st (by omega)).mono ?_
  rintro e1 w1 ⟨i, v, rfl, hsp, k, rfl⟩
  have HSP := Lib.hid hsp
  generalize hW1 : World.drewN W0 k = W1
  have HK1 : Hid (RcK W1 q G A n c S) := Lib.hid (by rw [← hW1]; exact HK0.out.drewN k)
  have HB1 : Hid (Below w.heap.size w W1) := Lib.hid (by rw [← hW1]; exact HB0.out.trans (bdrewN (Below.refl _ _) k))
  have HM1 : Hid (Bk W1 t 26 #[.int .u8 m0, .int .u8 m1, .int .u8 m2, .int .u8 m3, .int .u8 m4, .int .u8 m5]) := Lib.hid (by rw [← hW1]; exact HM0.out.drewN k)
  clear hW1 hsp
  obtain ⟨rfl, hxi⟩ : v = true ∧ S[i]? = some x := spot_is HSP.out HS.out.so HX.out.1 HX.out.2
  have hin : i < n := by have := (List.getElem?_eq_some_iff.1 hxi).1; have := HLEN.out; omega
  obtain ⟨g, rfl, _, hg, hcl⟩ := HK1.out.st.2.1.cell hxi
  have c0 : W1.cell? ⟨q, 0, none⟩ = some (.slice (some ⟨g, 0, none⟩) n c) := HK1.out.st.1.cell 0
  have hki : (0 : Int) ≤ (i : Int) ∧ (i : Int) < (n : Int) := by omega
  have hx10 : W1.cell? ⟨g, i * 11 + 10, none⟩ = some (.slice x.A x.k x.c) := (hcl 10 _ rfl).1
  have HXI := Lib.hid hxi
  have HMz := HM1
  have y0 := HMz.out.cell 0
  have y1 := HMz.out.cell 1
  have y2 := HMz.out.cell 2
  have y3 := HMz.out.cell 3
  have y4 := HMz.out.cell 4
  have y5 := HMz.out.cell 5
  simp only [List.getElem?_toArray, List.getElem?_cons_zero, List.getElem?_cons_succ] at y0 y1 y2 y3 y4 y5
  have HLAT := Lib.hid (rlater_any now 600 hnow.1 hnow.2 (by omega))
  obtain ⟨hset, hthere, hchg⟩ := HK1.out.st.2.1.set (k := i) hin (lrnE a m0 m1 m2 m3 m4 m5 now)
  have HTH : Hid (W1.drew.there g (i * 11) 11) := Lib.hid hthere
  clear hcl hxi hset hthere hchg
  go_wp2_with fail
  refine wp_region_still_tail 11 (by kernel_rfl) (by kernel_rfl) ?_
  change wpStill _ _ (World.drew _) (fun a' => wpList _ _ _ _ a' (World.drew _)) _ _
  simp only [List.take_succ_cons, List.take_zero, List.drop_succ_cons, List.drop_zero]
  still_step
  still_step
  still_step
  still_step
  still_step
  still_step
  still_step
  still_step
  still_call ((HLAT.out _).mono fun _ _ h => h)
  still_step
  still_step
  refine wpStill_nil ?_
  go_wp2_with (first
    | (refine st_nr_mid rfl (.tmp 54) (.tmp 53) rfl rfl rfl (lrnE a m0 m1 m2 m3 m4 m5 now) rfl HTH.out ?_))
  go_ret
  have hd : Below W1.heap.size W1 W1.drew := bdrewN (Below.refl _ _) 1
  have hK2 := HK1.out.below hd
  obtain ⟨⟨vs, hv1, hv2⟩, hvG, hw3, _⟩ := hK2.ok x HX.out.1
  obtain ⟨hK3, hc3⟩ := hK2.putE (y := lrnE a m0 m1 m2 m3 m4 m5 now) HXI.out ⟨⟨[], Of.none_ _ _ _, trivial⟩, (fun b hb => by cases hb), Nat.zero_le _, HA.out, Int.le_refl _, show (0 : Int) ≤ 3 by omega⟩ HX.out.2.symm
  have hgG : ∀ b, G b → ¬ b = g := fun b hb e => HS.out.na g rfl (e ▸ hb)
  refine ⟨x.A, x.k, x.c, x.n.ws, updT (absT S) a (learnt m0 m1 m2 m3 m4 m5 now), _, rfl, ⟨vs, hv1.of_block (fun b hb => hc3.block b (hv1.lt b hb).2 (hgG b (hvG b hb))), hv2.keep (fun b hb hl => hc3.block b hl (hgG b hb)) (fun _ _ => True.intro)⟩, hw3, .inl ⟨x.n, by rw [← HX.out.2]; exact List.mem_map.2 ⟨x, HX.out.1, rfl⟩, rfl, rfl⟩, List.Perm.of_eq ?_, G, some ⟨g, 0, none⟩, n, c, hK3, fun b hb => .inl hb, fun b hb => .inl hb, ((Chg.of_below (F := fun _ => False) (bdrewN HB1.out 1)).mono (fun _ _ e => e.elim)).trans hc3 (fun z hz => .inl (.inr (by have e : z = g := hz; rw [e]; rfl)))⟩
  have := upd_set (y := lrnE a m0 m1 m2 m3 m4 m5 now) HS.out.so HXI.out HX.out.2.symm
  rw [this, HX.out.2]; rfl
/-- Learn of the reference's, whatever its cache. -/
theorem rlearn_any (q : Nat) (G : Nat → Prop) (A : Option Addr) (n c : Nat) (S : List En) (a : Int) (ha : okA a) (m0 m1 m2 m3 m4 m5 now : Int) (hnow : 0 ≤ now ∧ now ≤ 1099511627776) (fresh : Bool) (w : World) (h : RcK w q G A n c S) (hn : n ≤ 16) :
    Calls Try.prog 45 #[.pointer (some ⟨q, 0, none⟩), .int .u32 a, .agg #[.int .u8 m0, .int .u8 m1, .int .u8 m2, .int .u8 m3, .int .u8 m4, .int .u8 m5], .int .i64 now, .bool fresh] w (RLearn w q G A S a (learnt m0 m1 m2 m3 m4 m5 now) fresh) := by
  by_cases hex : ∃ x ∈ S, x.a = a
  · obtain ⟨x, hx, hxa⟩ := hex
    exact rlearn_found q G A n c S a ha m0 m1 m2 m3 m4 m5 now hnow fresh w h hn x hx hxa
  · have hno : ∀ x ∈ S, x.a ≠ a := fun x hx e => hex ⟨x, hx, e⟩
    cases fresh with
    | true => exact rlearn_new q G A n c S a ha m0 m1 m2 m3 m4 m5 now hnow true w h hn hno rfl
    | false => exact rlearn_not q G A n c S a ha m0 m1 m2 m3 m4 m5 now hnow false w h hn hno rfl
end Go.Proofs.Ytocigdkndlmikaa
