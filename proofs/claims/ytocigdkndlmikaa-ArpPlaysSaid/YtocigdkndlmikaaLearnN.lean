/- Proved: what Learn makes of a neighbour that is not there. Conditions: as each law says. -/
import Derived.Test.YtocigdkndlmikaaLearn
set_option linter.unusedVariables false
set_option linter.unusedSimpArgs false
namespace Go.Proofs.Ytocigdkndlmikaa
open Go.RowKit
def zeroNb : Nb := ⟨false, 0, 0, 0, 0, 0, 0, 0, 0, []⟩
theorem updT_new {T : List (Int × Nb)} {a : Int} {n n' : Nb} (h : ∀ p ∈ T, p.1 ≠ a) : updT (T ++ [(a, n)]) a n' = T ++ [(a, n')] := by
  unfold updT
  rw [List.map_append]
  congr 1
  · rw [List.map_congr_left (f := fun p : Int × Nb => if p.1 = a then (a, n') else p) (g := id) (fun p hp => if_neg (h p hp)), List.map_id]
  · simp
set_option maxHeartbeats 4000000 in
set_option maxRecDepth 100000 in
theorem learn_new (a : Int) (ha : okA a) (m0 m1 m2 m3 m4 m5 now : Int) (hnow : -9223372036854775808 ≤ now ∧ now ≤ 9223372036854775807) (fresh : Bool) (w : World)
    (F : Nat → Prop) (g : Nat) (S : List En) (h : CacheAt w F g S) (hna0 : ∀ e ∈ S, e.a ≠ a) (hlen : S.length ≤ 15) (hfr : fresh = true) :
    Calls Try.prog 14 #[.pointer (some ⟨g, 0, none⟩), .int .u32 a, .agg #[.int .u8 m0, .int .u8 m1, .int .u8 m2, .int .u8 m3, .int .u8 m4, .int .u8 m5], .int .i64 now, .bool fresh] w (LearnPost w F g [] (absT S ++ [(a, learnt m0 m1 m2 m3 m4 m5 now)])) := by
  subst hfr
  have hnd := h.nodup
  have HCA := Lib.hid h
  obtain ⟨mv0, h1, h2, h3, h4, h5, h6⟩ := h
  have HCM : Hid (CacheMv w F g mv0 S) := Lib.hid ⟨h1, h2, h3, h4, h5, h6⟩
  have HF := Lib.hid h2
  have HFM := Lib.hid h3
  have HEN := Lib.hid h4
  have HAP := Lib.hid h5
  have HND := Lib.hid hnd
  obtain ⟨w0, hw0⟩ : ∃ w0, w.alloc (.cells #[.int .u8 m0, .int .u8 m1, .int .u8 m2, .int .u8 m3, .int .u8 m4, .int .u8 m5] 26) = w0 := ⟨_, rfl⟩
  have hB0 : Below w.heap.size w w0 := by rw [← hw0]; exact (Below.refl _ _).alloc (Nat.le_refl _) _
  have ht0 : Bk w0 w.heap.size 26 #[.int .u8 m0, .int .u8 m1, .int .u8 m2, .int .u8 m3, .int .u8 m4, .int .u8 m5] := by rw [← hw0]; exact Bk.new w _ _
  have HW0 := Lib.hid hw0
  have HM := Lib.hid h1
  have hg : g < w.heap.size := h1.1.lt
  have hz0 : w0.heap.size = w.heap.size + 1 := by rw [← hw0]; simp
  have HZ0 := Lib.hid hz0
  have HB0 := Lib.hid hB0
  have hm0 := h1.kept (hB0.block g hg) (fun b hb => hB0.block b (h1.2.2 b hb).lt)
  have HM0 := Lib.hid hm0
  have c0 := (World.cell?_alloc_lt w (.cells #[.int .u8 m0, .int .u8 m1, .int .u8 m2, .int .u8 m3, .int .u8 m4, .int .u8 m5] 26) ⟨g, 0, none⟩ hg).trans (h1.1.cell 0)
  simp only [List.getElem?_toArray, List.getElem?_cons_zero] at c0
  have HNA0 := Lib.hid hna0
  have hlook : (Instr.lookup mapT (.map mv0) (.int .u32 a) false).run Try.prog (w.alloc (.cells #[.int .u8 m0, .int .u8 m1, .int .u8 m2, .int .u8 m3, .int .u8 m4, .int .u8 m5] 26)) = .ok (.pointer none) (w.alloc (.cells #[.int .u8 m0, .int .u8 m1, .int .u8 m2, .int .u8 m3, .int .u8 m4, .int .u8 m5] 26)) := by
    have := hm0.look ha
    rw [getL_enE_none HNA0.out] at this
    rw [← HW0.out] at this
    exact this
  clear hna0 hw0 h1 h2 h3 h4 h5 h6 hnd hz0 hB0 hm0
  go_enter Try.func14, Try.ntmps14
  go_wp2_with fail
  rw [HW0.out]
  refine (room_small g mv0 S _ HM0.out (by omega)).mono ?_
  intro e1 w1 hR
  have hR2 : e1 = .returned (.bool true) ∧ MapAt w1 g mv0 (S.map enE) ∧ Chg (fun _ => False) w0 w1 := by
    rcases hR with ⟨h1, h2, h3, h4⟩ | ⟨h1, h2, _⟩ | ⟨h1, h2, _⟩
    · exact ⟨h1, h3, h4⟩
    · omega
    · omega
  obtain ⟨rfl, hm1, hC1⟩ := hR2
  have hB1 := hC1.no
  have hcm1 : CacheMv w1 (fun b => F b) g mv0 S := (show CacheMv w F g mv0 S from HCM.out).keep (fun b _ hl => (HB0.out.trans (hB1.mono HB0.out.size)).block b hl) (fun _ h => h)
  have ht1 := ht0.below hB1 ht0.lt
  obtain ⟨w2, hw2⟩ : ∃ w2, w1.alloc (.cells (nbC zeroNb none 0 0) 74) = w2 := ⟨_, rfl⟩
  have hB2 : Below w1.heap.size w1 w2 := by rw [← hw2]; exact (Below.refl _ _).alloc (Nat.le_refl _) _
  have hp2 : Bk w2 w1.heap.size 74 (nbC zeroNb none 0 0) := by rw [← hw2]; exact Bk.new w1 _ _
  have ht2 := ht1.below hB2 ht1.lt
  have hm2 := hm1.kept (hB2.block g hm1.1.lt) (fun b hb => hB2.block b (hm1.2.2 b hb).lt)
  have HW2 : Hid (w1.alloc (.cells #[.bool false, .int .u8 0, .int .u8 0, .int .u8 0, .int .u8 0, .int .u8 0, .int .u8 0, .int .i64 0, .int .i64 0, .slice none 0 0] 74) = w2) := Lib.hid (by rw [← hw2]; rfl)
  have HM2 := Lib.hid hm2
  have HCM1 := Lib.hid hcm1
  have HB1 := Lib.hid hB1
  have HB2 := Lib.hid hB2
  have z1 : w.heap.size < w1.heap.size := ht1.lt
  have hg1 : g < w1.heap.size := hm1.1.lt
  clear hw2 hB2 hm2 hcm1 hB1 hC1 hR hlook ht1 ht0 hm1
  go_wp2_with fail
  rw [HW2.out]
  refine (alay_any a w1.heap.size g mv0 _ _ ha HM2.out).mono ?_
  intro e3 w3 hL
  have HL3 := Lib.hid hL
  obtain ⟨rfl, b4, _, _, hC3⟩ := hL
  have hn3 : ∀ {p : Nat} {t : TypeId} {cs : Array Value}, Bk w2 p t cs → t ≠ 32 → ¬ (p = g ∨ mv0 = some p) := by
    rintro p t cs hb ht (rfl | hb2)
    · exact Bk.ne_ hb HM2.out.1 ht rfl
    · exact (HM2.out.2.2 p hb2).ne_bk hb rfl
  have hbe3 := hp2.chg hC3 (hn3 hp2 (by decide))
  have ht3 := ht2.chg hC3 (hn3 ht2 (by decide))
  have HBE := Lib.hid hbe3
  have HC3 := Lib.hid hC3
  have t0 := ht3.cell 0
  have t1 := ht3.cell 1
  have t2 := ht3.cell 2
  have t3 := ht3.cell 3
  have t4 := ht3.cell 4
  have t5 := ht3.cell 5
  simp only [toldC, nbC, List.setIfInBounds_toArray, List.set_cons_succ, List.set_cons_zero, List.getElem?_toArray, List.getElem?_cons_zero, List.getElem?_cons_succ] at t0 t1 t2 t3 t4 t5
  have y0 := hbe3.cell 0
  have y1 := hbe3.cell 1
  have y2 := hbe3.cell 2
  have y3 := hbe3.cell 3
  have y4 := hbe3.cell 4
  have y5 := hbe3.cell 5
  have y6 := hbe3.cell 6
  have y7 := hbe3.cell 7
  have y8 := hbe3.cell 8
  have y9 := hbe3.cell 9
  simp only [zeroNb, toldC, nbC, List.setIfInBounds_toArray, List.set_cons_succ, List.set_cons_zero, List.getElem?_toArray, List.getElem?_cons_zero, List.getElem?_cons_succ] at y0 y1 y2 y3 y4 y5 y6 y7 y8 y9
  have x0 := hbe3.frozen 0
  have x1 := hbe3.frozen 1
  have x2 := hbe3.frozen 2
  have x3 := hbe3.frozen 3
  have x4 := hbe3.frozen 4
  have x5 := hbe3.frozen 5
  have x6 := hbe3.frozen 6
  have x7 := hbe3.frozen 7
  have x8 := hbe3.frozen 8
  have x9 := hbe3.frozen 9
  have fin : ∀ W5, Chg (fun b => b = w1.heap.size) w3 W5 → Bk W5 w1.heap.size 74 (nbC (learnt m0 m1 m2 m3 m4 m5 now) none 0 0) → LearnPost w F g [] (absT S ++ [(a, learnt m0 m1 m2 m3 m4 m5 now)]) (.returned (.slice none 0 0)) W5 := fun W5 hC hB5 => by
    obtain ⟨⟨mv', r1⟩, r2⟩ := CacheAt.insert (nb := zeroNb) (A := none) (k := 0) (c := 0) HCM1.out.1 HCM1.out.2.1 HCM1.out.2.2.1 HCM1.out.2.2.2.1 HCM1.out.2.2.2.2.1 hlen HNA0.out w1.heap.size HB2.out (Nat.le_refl _) hp2 ⟨[], Of.none_ _ _ _, trivial⟩ (fun b hb => by cases hb) (Nat.zero_le _) ha ⟨Int.le_refl _, by show (0 : Int) ≤ 3; omega⟩ HL3.out
    have hup := r1.update (e := ⟨a, w1.heap.size, none, 0, 0, zeroNb⟩) (by simp) (n' := learnt m0 m1 m2 m3 m4 m5 now) (A' := none) (k' := 0) (c' := 0) (hC.mono (fun _ _ h => .inl h)) hB5 ⟨[], Of.none_ _ _ _, trivial⟩ (fun b hb => by cases hb) (Nat.zero_le _) ⟨Int.le_refl _, by show (0 : Int) ≤ 3; omega⟩
    have hz1 := r2.size
    refine ⟨none, 0, 0, rfl, ⟨[], Of.none_ _ _ _, trivial⟩, _, CacheAt.mono ⟨mv', hup⟩ (fun b hb => ?_), ?_, ((Chg.of_below (HB0.out.trans (HB1.out.mono HB0.out.size))).trans r2 (fun x hx => .inl hx)).trans hC (fun x hx => by rw [hx]; exact .inr (by omega))⟩
    · rcases hb with (hb | hb) | hb
      · exact .inl hb
      · exact .inr (by omega)
      · exact .inr (by omega)
    · rw [absT_putS]
      have h9 : absT (S ++ [⟨a, w1.heap.size, none, 0, 0, zeroNb⟩]) = absT S ++ [(a, zeroNb)] := by simp [absT]
      rw [h9]
      exact updT_new (fun p hp => by obtain ⟨x, hx, rfl⟩ := List.mem_map.1 hp; exact HNA0.out x hx)
  have HFIN := Lib.hid fin
  clear fin hn3 hp2 ht2 hC3 ht3 hbe3
  go_wp2_with fail
  refine wp_region_still_tail 6 (by kernel_rfl) (by kernel_rfl) ?_
  change wpStill _ _ (World.drew _) (fun a' => wpList _ _ _ _ a' (World.drew _)) _ _
  simp only [List.take_succ_cons, List.take_zero, List.drop_succ_cons, List.drop_zero]
  still_step
  still_step
  still_step
  still_call ((plus_any now 600 hnow (by omega) _).mono fun _ _ h => ⟨h.1, h.2.symm⟩)
  still_step
  still_step
  refine wpStill_nil ?_
  go_wp2_with fail
  go_ret
  refine HFIN.out _ ?_ ?_
  · refine Chg.drew_ ?_
    refine Chg.set1 ?_ _
    refine Chg.set1 ?_ _
    refine Chg.set1 ?_ _
    refine Chg.set1 ?_ _
    refine Chg.set1 ?_ _
    refine Chg.set1 ?_ _
    refine Chg.set1 ?_ _
    refine Chg.set1 ?_ _
    refine Chg.set1 ?_ _
    refine Chg.set1 ?_ _
    exact Chg.refl _ _
  · have hbk : Bk (((((((((((w3).setCell ⟨w1.heap.size, 0, none⟩ (.bool true)).setCell ⟨w1.heap.size, 1, none⟩ (.int .u8 m0)).setCell ⟨w1.heap.size, 2, none⟩ (.int .u8 m1)).setCell ⟨w1.heap.size, 3, none⟩ (.int .u8 m2)).setCell ⟨w1.heap.size, 4, none⟩ (.int .u8 m3)).setCell ⟨w1.heap.size, 5, none⟩ (.int .u8 m4)).setCell ⟨w1.heap.size, 6, none⟩ (.int .u8 m5)).setCell ⟨w1.heap.size, 7, none⟩ (.int .i64 (laterP now 600))).setCell ⟨w1.heap.size, 8, none⟩ (.int .i64 0)).setCell ⟨w1.heap.size, 9, none⟩ (.slice none 0 0)) w1.heap.size 74 _ := ((((((((((HBE.out).set 0 (.bool true)).set 1 (.int .u8 m0)).set 2 (.int .u8 m1)).set 3 (.int .u8 m2)).set 4 (.int .u8 m3)).set 5 (.int .u8 m4)).set 6 (.int .u8 m5)).set 7 (.int .i64 (laterP now 600))).set 8 (.int .i64 0)).set 9 (.slice none 0 0)
    simp only [nbC, zeroNb, List.setIfInBounds_toArray, List.set_cons_zero, List.set_cons_succ] at hbk
    exact Bk.drew hbk
set_option maxHeartbeats 4000000 in
set_option maxRecDepth 100000 in
theorem learn_not (a : Int) (ha : okA a) (m0 m1 m2 m3 m4 m5 now : Int) (hnow : -9223372036854775808 ≤ now ∧ now ≤ 9223372036854775807) (fresh : Bool) (w : World)
    (F : Nat → Prop) (g : Nat) (S : List En) (h : CacheAt w F g S) (hna0 : ∀ e ∈ S, e.a ≠ a) (hfr : fresh = false) :
    Calls Try.prog 14 #[.pointer (some ⟨g, 0, none⟩), .int .u32 a, .agg #[.int .u8 m0, .int .u8 m1, .int .u8 m2, .int .u8 m3, .int .u8 m4, .int .u8 m5], .int .i64 now, .bool fresh] w (LearnPost w F g [] (absT S)) := by
  subst hfr
  have hnd := h.nodup
  have HCA := Lib.hid h
  obtain ⟨mv0, h1, h2, h3, h4, h5, h6⟩ := h
  have HCM : Hid (CacheMv w F g mv0 S) := Lib.hid ⟨h1, h2, h3, h4, h5, h6⟩
  have HF := Lib.hid h2
  have HFM := Lib.hid h3
  have HEN := Lib.hid h4
  have HAP := Lib.hid h5
  have HND := Lib.hid hnd
  obtain ⟨w0, hw0⟩ : ∃ w0, w.alloc (.cells #[.int .u8 m0, .int .u8 m1, .int .u8 m2, .int .u8 m3, .int .u8 m4, .int .u8 m5] 26) = w0 := ⟨_, rfl⟩
  have hB0 : Below w.heap.size w w0 := by rw [← hw0]; exact (Below.refl _ _).alloc (Nat.le_refl _) _
  have ht0 : Bk w0 w.heap.size 26 #[.int .u8 m0, .int .u8 m1, .int .u8 m2, .int .u8 m3, .int .u8 m4, .int .u8 m5] := by rw [← hw0]; exact Bk.new w _ _
  have HW0 := Lib.hid hw0
  have HM := Lib.hid h1
  have hg : g < w.heap.size := h1.1.lt
  have hz0 : w0.heap.size = w.heap.size + 1 := by rw [← hw0]; simp
  have HZ0 := Lib.hid hz0
  have HB0 := Lib.hid hB0
  have hm0 := h1.kept (hB0.block g hg) (fun b hb => hB0.block b (h1.2.2 b hb).lt)
  have HM0 := Lib.hid hm0
  have c0 := (World.cell?_alloc_lt w (.cells #[.int .u8 m0, .int .u8 m1, .int .u8 m2, .int .u8 m3, .int .u8 m4, .int .u8 m5] 26) ⟨g, 0, none⟩ hg).trans (h1.1.cell 0)
  simp only [List.getElem?_toArray, List.getElem?_cons_zero] at c0
  have HNA0 := Lib.hid hna0
  have hlook : (Instr.lookup mapT (.map mv0) (.int .u32 a) false).run Try.prog (w.alloc (.cells #[.int .u8 m0, .int .u8 m1, .int .u8 m2, .int .u8 m3, .int .u8 m4, .int .u8 m5] 26)) = .ok (.pointer none) (w.alloc (.cells #[.int .u8 m0, .int .u8 m1, .int .u8 m2, .int .u8 m3, .int .u8 m4, .int .u8 m5] 26)) := by
    have := hm0.look ha
    rw [getL_enE_none HNA0.out] at this
    rw [← HW0.out] at this
    exact this
  clear hna0 hw0 h1 h2 h3 h4 h5 h6 hnd hz0 hB0 hm0
  go_enter Try.func14, Try.ntmps14
  go_wp2_with fail
  go_ret
  rw [HW0.out]
  exact ⟨none, 0, 0, rfl, ⟨[], Of.none_ _ _ _, trivial⟩, S, (HCA.out.below HB0.out).mono (fun _ h => .inl h), rfl, Chg.of_below HB0.out⟩
end Go.Proofs.Ytocigdkndlmikaa
