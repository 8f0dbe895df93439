/- Proved: what Learn answers and what becomes of the cache, way by way. Conditions: as each law says. -/
import Derived.Test.YtocigdkndlmikaaSend
import Derived.Test.YtocigdkndlmikaaCacheU
import Derived.StillTailTactics
set_option linter.unusedVariables false
set_option linter.unusedSimpArgs false
namespace Go.Proofs.Ytocigdkndlmikaa
open Go.RowKit

def learnt (m0 m1 m2 m3 m4 m5 now : Int) : Nb := ⟨true, m0, m1, m2, m3, m4, m5, laterP now 600, 0, []⟩
def updT (T : List (Int × Nb)) (a : Int) (n : Nb) : List (Int × Nb) := T.map fun p => if p.1 = a then (a, n) else p
theorem absT_putS (S : List En) (e' : En) : absT (putS S e') = updT (absT S) e'.a e'.n := by
  unfold absT putS updT
  rw [List.map_map, List.map_map]
  refine List.map_congr_left fun x _ => ?_
  simp only [Function.comp]
  split <;> rfl
def LearnPost (w : World) (F : Nat → Prop) (g : Nat) (ws : List (List Int)) (T' : List (Int × Nb)) (e : Ending) (w' : World) : Prop :=
  ∃ A k c, e = .returned (.slice A k c) ∧ (∃ vs, Of 27 w' 0 A k c vs ∧ RowsAt w' (fun b => F b ∨ w.heap.size ≤ b) vs ws) ∧ ∃ S', CacheAt w' (fun b => F b ∨ w.heap.size ≤ b) g S' ∧ absT S' = T' ∧ Chg F w w'
theorem Chg.drew_ {F : Nat → Prop} {w w' : World} (h : Chg F w w') : Chg F w w'.drew := ⟨h.os, h.tape, h.output, h.size, h.block⟩
theorem Chg.set1' {F : Nat → Prop} {w w' : World} {t o : Nat} (hF : F t) (h : Chg F w w') (u : Value) : Chg F w (w'.setCell ⟨t, o, none⟩ u) := h.setCell (p := ⟨t, o, none⟩) (.inl hF) u

/-- Rows of other types stay where one block is written. -/
theorem RowsAt.stays {w w' : World} {F G : Nat → Prop} {p : Nat} {t : TypeId} {cs : Array Value} (hb : Bk w p t cs) (ht : t ≠ 5) (hc : Chg (fun b => b = p) w w') (hFG : ∀ b, F b → G b) : ∀ {vs : List Value} {ls : List (List Int)}, RowsAt w F vs ls → RowsAt w' G vs ls := by
  intro vs
  induction vs with
  | nil => intro ls h; cases ls; exact trivial; exact h.elim
  | cons v vs ih =>
    intro ls h
    cases ls with
    | nil => exact h.elim
    | cons l ls =>
      refine ⟨?_, ih h.2⟩
      obtain ⟨A, n, c, rfl, r1, r2, r3⟩ := h.1
      refine ⟨A, n, c, rfl, ⟨r1.1, ?_⟩, fun b hb => hFG b (r2 b hb), r3⟩
      rcases r1.2 with h4 | ⟨g', cap, cur, h4, h5, h6, h7⟩
      · exact .inl h4
      · refine .inr ⟨g', cap, cur, h4, h5, (hc.block g' (Array.getElem?_eq_some_iff.1 h6).1 ?_).trans h6, h7⟩
        rintro rfl
        exact Bk.ne_ hb (show Bk w g' 5 cur from h6) ht rfl
theorem Of.stays_ {E : TypeId} {w w' : World} {p base : Nat} {t : TypeId} {cs : Array Value} {A : Option Addr} {n c : Nat} {xs : List Value} (h : Of E w base A n c xs) (hb : Bk w p t cs) (ht : t ≠ E) (hc : Chg (fun b => b = p) w w') : Of E w' base A n c xs := by
  refine h.of_block fun b hbA => hc.block b (h.lt b hbA).2 ?_
  rintro rfl
  rcases h.2 with ⟨hA, _⟩ | ⟨g', off, cur, hA, _, hh, _⟩
  · rw [hA] at hbA; cases hbA
  · rw [hA] at hbA
    have e2 : g' = b := by simpa [blk] using hbA
    subst e2
    exact Bk.ne_ hb (show Bk w g' E cur from hh) ht rfl
theorem learn_nil (a : Int) (m0 m1 m2 m3 m4 m5 now : Int) (fresh : Bool) (w : World) :
    Calls Try.prog 14 #[.pointer none, .int .u32 a, .agg #[.int .u8 m0, .int .u8 m1, .int .u8 m2, .int .u8 m3, .int .u8 m4, .int .u8 m5], .int .i64 now, .bool fresh] w fun e w' => e = .returned (.slice none 0 0) ∧ Below w.heap.size w w' := by
  go_enter Try.func14, Try.ntmps14
  go_wp2
  go_ret
  exact ⟨rfl, (Below.refl _ _).alloc (Nat.le_refl _) _⟩
set_option maxHeartbeats 4000000 in
set_option maxRecDepth 100000 in
theorem learn_found (a : Int) (ha : okA a) (m0 m1 m2 m3 m4 m5 now : Int) (hnow : -9223372036854775808 ≤ now ∧ now ≤ 9223372036854775807) (fresh : Bool) (w : World)
    (F : Nat → Prop) (g : Nat) (S : List En) (h : CacheAt w F g S) (e : En) (he : e ∈ S) (hea : e.a = a) :
    Calls Try.prog 14 #[.pointer (some ⟨g, 0, none⟩), .int .u32 a, .agg #[.int .u8 m0, .int .u8 m1, .int .u8 m2, .int .u8 m3, .int .u8 m4, .int .u8 m5], .int .i64 now, .bool fresh] w (LearnPost w F g e.n.ws (updT (absT S) a (learnt m0 m1 m2 m3 m4 m5 now))) := by
  subst hea
  have hnd := h.nodup
  have HCA := Lib.hid h
  obtain ⟨mv0, h1, h2, h3, h4, h5, h6⟩ := h
  have HCM : Hid (CacheMv w F g mv0 S) := Lib.hid ⟨h1, h2, h3, h4, h5, h6⟩
  have HF := Lib.hid h2
  have HFM := Lib.hid h3
  have HEN := Lib.hid h4
  have HAP := Lib.hid h5
  have HND := Lib.hid hnd
  obtain ⟨w0, hw0⟩ : ∃ w0, w.alloc (.cells #[.int .u8 m0, .int .u8 m1, .int .u8 m2, .int .u8 m3, .int .u8 m4, .int .u8 m5] 26) = w0 := ⟨_, rfl⟩
  have hB0 : Below w.heap.size w w0 := by rw [← hw0]; exact (Below.refl _ _).alloc (Nat.le_refl _) _
  have ht0 : Bk w0 w.heap.size 26 #[.int .u8 m0, .int .u8 m1, .int .u8 m2, .int .u8 m3, .int .u8 m4, .int .u8 m5] := by rw [← hw0]; exact Bk.new w _ _
  have HW0 := Lib.hid hw0
  have HM := Lib.hid h1
  have hg : g < w.heap.size := h1.1.lt
  have hz0 : w0.heap.size = w.heap.size + 1 := by rw [← hw0]; simp
  have HZ0 := Lib.hid hz0
  have HB0 := Lib.hid hB0
  have hm0 := h1.kept (hB0.block g hg) (fun b hb => hB0.block b (h1.2.2 b hb).lt)
  have HM0 := Lib.hid hm0
  have c0 := (World.cell?_alloc_lt w (.cells #[.int .u8 m0, .int .u8 m1, .int .u8 m2, .int .u8 m3, .int .u8 m4, .int .u8 m5] 26) ⟨g, 0, none⟩ hg).trans (h1.1.cell 0)
  simp only [List.getElem?_toArray, List.getElem?_cons_zero] at c0
  have hlook : (Instr.lookup mapT (.map mv0) (.int .u32 e.a) false).run Try.prog (w.alloc (.cells #[.int .u8 m0, .int .u8 m1, .int .u8 m2, .int .u8 m3, .int .u8 m4, .int .u8 m5] 26)) = .ok (.pointer (some ⟨e.p, 0, none⟩)) (w.alloc (.cells #[.int .u8 m0, .int .u8 m1, .int .u8 m2, .int .u8 m3, .int .u8 m4, .int .u8 m5] 26)) := by
    have := hm0.look ha
    rw [getL_enE hnd he] at this
    rw [← HW0.out] at this
    exact this
  have hbe0 := ((h4 e he).1).below hB0 (h4 e he).1.lt
  have HBE := Lib.hid hbe0
  have k9 := (World.cell?_alloc_lt w (.cells #[.int .u8 m0, .int .u8 m1, .int .u8 m2, .int .u8 m3, .int .u8 m4, .int .u8 m5] 26) ⟨e.p, 9, none⟩ (h4 e he).1.lt).trans ((h4 e he).1.cell 9)
  simp only [nbC, List.getElem?_toArray, List.getElem?_cons_zero, List.getElem?_cons_succ] at k9
  clear hw0 h1 h2 h3 h4 h5 h6 hnd hz0 hB0 hm0
  go_enter Try.func14, Try.ntmps14
  go_wp2_with fail
  rw [HW0.out]
  clear hlook k9 c0
  have t0 := ht0.cell 0
  have t1 := ht0.cell 1
  have t2 := ht0.cell 2
  have t3 := ht0.cell 3
  have t4 := ht0.cell 4
  have t5 := ht0.cell 5
  simp only [toldC, nbC, List.setIfInBounds_toArray, List.set_cons_succ, List.set_cons_zero, List.getElem?_toArray, List.getElem?_cons_zero, List.getElem?_cons_succ] at t0 t1 t2 t3 t4 t5
  have y0 := hbe0.cell 0
  have y1 := hbe0.cell 1
  have y2 := hbe0.cell 2
  have y3 := hbe0.cell 3
  have y4 := hbe0.cell 4
  have y5 := hbe0.cell 5
  have y6 := hbe0.cell 6
  have y7 := hbe0.cell 7
  have y8 := hbe0.cell 8
  have y9 := hbe0.cell 9
  simp only [toldC, nbC, List.setIfInBounds_toArray, List.set_cons_succ, List.set_cons_zero, List.getElem?_toArray, List.getElem?_cons_zero, List.getElem?_cons_succ] at y0 y1 y2 y3 y4 y5 y6 y7 y8 y9
  have x0 := hbe0.frozen 0
  have x1 := hbe0.frozen 1
  have x2 := hbe0.frozen 2
  have x3 := hbe0.frozen 3
  have x4 := hbe0.frozen 4
  have x5 := hbe0.frozen 5
  have x6 := hbe0.frozen 6
  have x7 := hbe0.frozen 7
  have x8 := hbe0.frozen 8
  have x9 := hbe0.frozen 9
  have fin : ∀ W5, Chg (fun b => b = e.p) w0 W5 → Bk W5 e.p 74 (nbC (learnt m0 m1 m2 m3 m4 m5 now) none 0 0) → LearnPost w F g e.n.ws (updT (absT S) e.a (learnt m0 m1 m2 m3 m4 m5 now)) (.returned (.slice e.A e.k e.c)) W5 := fun W5 hC hB5 => by
    have hcm : CacheMv w0 (fun b => F b) g mv0 S := (show CacheMv w F g mv0 S from HCM.out).keep (fun b _ hl => HB0.out.block b hl) (fun _ h => h)
    obtain ⟨_, _, ⟨vs, v1, v2⟩, _⟩ := hcm.2.2.2.1 e he
    have hup := hcm.update he (n' := learnt m0 m1 m2 m3 m4 m5 now) (A' := none) (k' := 0) (c' := 0) (hC.mono (fun _ _ h => .inl h)) hB5 ⟨[], Of.none_ _ _ _, trivial⟩ (fun b hb => by cases hb) (Nat.zero_le _) ⟨Int.le_refl _, by show (0 : Int) ≤ 3; omega⟩
    have hz := HB0.out.size
    refine ⟨e.A, e.k, e.c, rfl, ⟨vs, v1.stays_ HBE.out (by decide) hC, v2.stays HBE.out (by decide) hC (fun b h => .inl h)⟩, _, CacheAt.mono ⟨mv0, hup⟩ (fun b hb => hb.imp id (fun h => by omega)), absT_putS _ _, (Chg.of_below HB0.out).trans hC (fun x hx => by rw [hx]; exact .inl (HEN.out e he).2.1)⟩
  have HFIN := Lib.hid fin
  clear fin
  refine wp_region_still_tail 6 (by kernel_rfl) (by kernel_rfl) ?_
  change wpStill _ _ (World.drew _) (fun a' => wpList _ _ _ _ a' (World.drew _)) _ _
  simp only [List.take_succ_cons, List.take_zero, List.drop_succ_cons, List.drop_zero]
  still_step
  still_step
  still_step
  still_call ((plus_any now 600 hnow (by omega) _).mono fun _ _ h => ⟨h.1, h.2.symm⟩)
  still_step
  still_step
  refine wpStill_nil ?_
  go_wp2_with fail
  go_ret
  refine HFIN.out _ ?_ ?_
  · refine Chg.drew_ ?_
    refine Chg.set1 ?_ _
    refine Chg.set1 ?_ _
    refine Chg.set1 ?_ _
    refine Chg.set1 ?_ _
    refine Chg.set1 ?_ _
    refine Chg.set1 ?_ _
    refine Chg.set1 ?_ _
    refine Chg.set1 ?_ _
    refine Chg.set1 ?_ _
    refine Chg.set1 ?_ _
    exact Chg.refl _ _
  · have hbk : Bk (((((((((((w0).setCell ⟨e.p, 0, none⟩ (.bool true)).setCell ⟨e.p, 1, none⟩ (.int .u8 m0)).setCell ⟨e.p, 2, none⟩ (.int .u8 m1)).setCell ⟨e.p, 3, none⟩ (.int .u8 m2)).setCell ⟨e.p, 4, none⟩ (.int .u8 m3)).setCell ⟨e.p, 5, none⟩ (.int .u8 m4)).setCell ⟨e.p, 6, none⟩ (.int .u8 m5)).setCell ⟨e.p, 7, none⟩ (.int .i64 (laterP now 600))).setCell ⟨e.p, 8, none⟩ (.int .i64 0)).setCell ⟨e.p, 9, none⟩ (.slice none 0 0)) e.p 74 _ := ((((((((((HBE.out).set 0 (.bool true)).set 1 (.int .u8 m0)).set 2 (.int .u8 m1)).set 3 (.int .u8 m2)).set 4 (.int .u8 m3)).set 5 (.int .u8 m4)).set 6 (.int .u8 m5)).set 7 (.int .i64 (laterP now 600))).set 8 (.int .i64 0)).set 9 (.slice none 0 0)
    simp only [nbC, List.setIfInBounds_toArray, List.set_cons_zero, List.set_cons_succ] at hbk
    exact Bk.drew hbk
end Go.Proofs.Ytocigdkndlmikaa
