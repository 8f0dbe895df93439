/- Proved: what Learn answers and what becomes of the cache, way by way; what Send does where a neighbour is to be forgotten, is asked for already, or has no room; what Learn makes of a neighbour that is not there; what Send does where a neighbour has to go first. Conditions: as each law says. -/
import Derived.StillTailTactics
import Derived.Test.YtaeafkdfbcppgaaGreatT12
set_option linter.unusedSectionVars false
set_option linter.unusedSimpArgs false
set_option linter.unusedVariables false
namespace Go.Proofs.YtaeafkdfbcppgaaGreat
open Go.RowKit
variable {V : HV}
def learnt (m0 m1 m2 m3 m4 m5 now : Int) : Nb := ⟨true, m0, m1, m2, m3, m4, m5, laterP now 600, 0, []⟩
def updT (T : List (Int × Nb)) (a : Int) (n : Nb) : List (Int × Nb) := T.map fun p => if p.1 = a then (a, n) else p
theorem absT_putS (S : List En) (e' : En) : absT (putS S e') = updT (absT S) e'.a e'.n := by
 unfold absT putS updT
 rw [List.map_map, List.map_map]
 refine List.map_congr_left fun x _ => ?_
 simp only [Function.comp]
 split <;> rfl
def LearnPost (V : HV) (w : World) (F : Nat → Prop) (g : Nat) (ws : List (List Int)) (T' : List (Int × Nb)) (e : Ending) (w' : World) : Prop :=
 ∃ A k c, e = .returned (.slice A k c) ∧ (∃ vs, Of 37 w' 0 A k c vs ∧ RowsAt w' (fun b => F b ∨ w.heap.size ≤ b) vs ws ∧ ∀ b, blk A = some b → F b ∨ w.heap.size ≤ b) ∧ ∃ S', CacheAt V w' (fun b => F b ∨ w.heap.size ≤ b) g S' ∧ absT S' = T' ∧ Chg F w w'
theorem Chg.drew_ {F : Nat → Prop} {w w' : World} (h : Chg F w w') : Chg F w w'.drew := ⟨h.os, h.tape, h.output, h.size, h.block⟩
theorem RowsAt.stays {w w' : World} {F G : Nat → Prop} {p : Nat} {t : TypeId} {cs : Array Value} (hb : Bk w p t cs) (ht : t ≠ 5) (hc : Chg (fun b => b = p) w w') (hFG : ∀ b, F b → G b) : ∀ {vs : List Value} {ls : List (List Int)}, RowsAt w F vs ls → RowsAt w' G vs ls := by
 intro vs
 induction vs with
 | nil => intro ls h; cases ls; exact trivial; exact h.elim
 | cons v vs ih =>
  intro ls h
  cases ls with
  | nil => exact h.elim
  | cons l ls =>
   refine ⟨?_, ih h.2⟩
   obtain ⟨A, n, c, rfl, r1, r2, r3⟩ := h.1
   refine ⟨A, n, c, rfl, ⟨r1.1, ?_⟩, fun b hb => hFG b (r2 b hb), r3⟩
   rcases r1.2 with h4 | ⟨g', cap, cur, h4, h5, h6, h7⟩
   ·exact .inl h4
   ·refine .inr ⟨g', cap, cur, h4, h5, (hc.block g' (Array.getElem?_eq_some_iff.1 h6).1 ?_).trans h6, h7⟩
    rintro rfl
    exact Bk.ne_ hb (show Bk w g' 5 cur from h6) ht rfl
theorem Of.stays_ {E : TypeId} {w w' : World} {p base : Nat} {t : TypeId} {cs : Array Value} {A : Option Addr} {n c : Nat} {xs : List Value} (h : Of E w base A n c xs) (hb : Bk w p t cs) (ht : t ≠ E) (hc : Chg (fun b => b = p) w w') : Of E w' base A n c xs := by
 refine h.of_block fun b hbA => hc.block b (h.lt b hbA).2 ?_
 rintro rfl
 rcases h.2 with ⟨hA, _⟩ | ⟨g', off, cur, hA, _, hh, _⟩
 ·rw [hA] at hbA; cases hbA
 ·rw [hA] at hbA
  have e2 : g' = b := by simpa [blk] using hbA
  subst e2
  exact Bk.ne_ hb (show Bk w g' E cur from hh) ht rfl
set_option maxHeartbeats 4000000 in
set_option maxRecDepth 100000 in
theorem learn_found (a : Int) (ha : okA a) (m0 m1 m2 m3 m4 m5 now : Int) (hnow : -9223372036854775808 ≤ now ∧ now ≤ 9223372036854775807) (fresh : Bool) (w : World)
  (F : Nat → Prop) (g : Nat) (S : List En) (h : CacheAt V w F g S) (e : En) (he : e ∈ S) (hea : e.a = a) :
  Calls Tryz.prog 148 #[.pointer (some ⟨g, 8, none⟩), .int .u32 a, .agg #[.int .u8 m0, .int .u8 m1, .int .u8 m2, .int .u8 m3, .int .u8 m4, .int .u8 m5], .int .i64 now, .bool fresh] w (LearnPost V w F g e.n.ws (updT (absT S) a (learnt m0 m1 m2 m3 m4 m5 now))) := by
 subst hea
 have hnd := h.nodup
 have HCA := Lib.hid h
 obtain ⟨mv0, h1, h2, h3, h4, h5, h6⟩ := h
 have HCM : Hid (CacheMv V w F g mv0 S) := Lib.hid ⟨h1, h2, h3, h4, h5, h6⟩
 have HF := Lib.hid h2
 have HFM := Lib.hid h3
 have HEN := Lib.hid h4
 have HAP := Lib.hid h5
 have HND := Lib.hid hnd
 obtain ⟨w0, hw0⟩ : ∃ w0, w.alloc (.cells #[.int .u8 m0, .int .u8 m1, .int .u8 m2, .int .u8 m3, .int .u8 m4, .int .u8 m5] 26) = w0 := ⟨_, rfl⟩
 have hB0 : Below w.heap.size w w0 := by rw [← hw0]; exact (Below.refl _ _).alloc (Nat.le_refl _) _
 have ht0 : Bk w0 w.heap.size 26 #[.int .u8 m0, .int .u8 m1, .int .u8 m2, .int .u8 m3, .int .u8 m4, .int .u8 m5] := by rw [← hw0]; exact Bk.new w _ _
 have HW0 := Lib.hid hw0
 have HM := Lib.hid h1
 have hg : g < w.heap.size := h1.1.lt
 have hz0 : w0.heap.size = w.heap.size + 1 := by rw [← hw0]; simp
 have HZ0 := Lib.hid hz0
 have HB0 := Lib.hid hB0
 have hm0 := h1.kept (hB0.block g hg) (fun b hb => hB0.block b (h1.2.2 b hb).lt)
 have HM0 := Lib.hid hm0
 have c0 := (World.cell?_alloc_lt w (.cells #[.int .u8 m0, .int .u8 m1, .int .u8 m2, .int .u8 m3, .int .u8 m4, .int .u8 m5] 26) ⟨g, 8, none⟩ hg).trans (show _ = some (Value.map _) from h1.1.cell 8)
 try simp only [List.getElem?_toArray, List.getElem?_cons_zero] at c0
 have hlook : (Instr.lookup mapT (.map mv0) (.int .u32 e.a) false).run Tryz.prog (w.alloc (.cells #[.int .u8 m0, .int .u8 m1, .int .u8 m2, .int .u8 m3, .int .u8 m4, .int .u8 m5] 26)) = .ok (.pointer (some ⟨e.p, 0, none⟩)) (w.alloc (.cells #[.int .u8 m0, .int .u8 m1, .int .u8 m2, .int .u8 m3, .int .u8 m4, .int .u8 m5] 26)) := by
  have := hm0.look ha
  rw [getL_enE hnd he] at this
  rw [← HW0.out] at this
  exact this
 have hbe0 := ((h4 e he).1).below hB0 (h4 e he).1.lt
 have HBE := Lib.hid hbe0
 have k9 := (World.cell?_alloc_lt w (.cells #[.int .u8 m0, .int .u8 m1, .int .u8 m2, .int .u8 m3, .int .u8 m4, .int .u8 m5] 26) ⟨e.p, 9, none⟩ (h4 e he).1.lt).trans ((h4 e he).1.cell 9)
 simp only [nbC, List.getElem?_toArray, List.getElem?_cons_zero, List.getElem?_cons_succ] at k9
 clear hw0 h1 h2 h3 h4 h5 h6 hnd hz0 hB0 hm0
 go_enter Tryz.func148, Tryz.ntmps148
 go_wp2_with fail
 rw [HW0.out]
 clear hlook k9 c0
 have t0 := ht0.cell 0
 have t1 := ht0.cell 1
 have t2 := ht0.cell 2
 have t3 := ht0.cell 3
 have t4 := ht0.cell 4
 have t5 := ht0.cell 5
 simp only [toldC, nbC, List.setIfInBounds_toArray, List.set_cons_succ, List.set_cons_zero, List.getElem?_toArray, List.getElem?_cons_zero, List.getElem?_cons_succ] at t0 t1 t2 t3 t4 t5
 have y0 := hbe0.cell 0
 have y1 := hbe0.cell 1
 have y2 := hbe0.cell 2
 have y3 := hbe0.cell 3
 have y4 := hbe0.cell 4
 have y5 := hbe0.cell 5
 have y6 := hbe0.cell 6
 have y7 := hbe0.cell 7
 have y8 := hbe0.cell 8
 have y9 := hbe0.cell 9
 simp only [toldC, nbC, List.setIfInBounds_toArray, List.set_cons_succ, List.set_cons_zero, List.getElem?_toArray, List.getElem?_cons_zero, List.getElem?_cons_succ] at y0 y1 y2 y3 y4 y5 y6 y7 y8 y9
 have x0 := hbe0.frozen 0
 have x1 := hbe0.frozen 1
 have x2 := hbe0.frozen 2
 have x3 := hbe0.frozen 3
 have x4 := hbe0.frozen 4
 have x5 := hbe0.frozen 5
 have x6 := hbe0.frozen 6
 have x7 := hbe0.frozen 7
 have x8 := hbe0.frozen 8
 have x9 := hbe0.frozen 9
 have fin : ∀ W5, Chg (fun b => b = e.p) w0 W5 → Bk W5 e.p 235 (nbC (learnt m0 m1 m2 m3 m4 m5 now) none 0 0) → LearnPost V w F g e.n.ws (updT (absT S) e.a (learnt m0 m1 m2 m3 m4 m5 now)) (.returned (.slice e.A e.k e.c)) W5 := fun W5 hC hB5 => by
  have hcm : CacheMv V w0 (fun b => F b) g mv0 S := (show CacheMv V w F g mv0 S from HCM.out).keep (fun b _ hl => HB0.out.block b hl) (fun _ h => h)
  obtain ⟨_, _, ⟨vs, v1, v2⟩, v3, _⟩ := hcm.2.2.2.1 e he
  have hup := hcm.update he (n' := learnt m0 m1 m2 m3 m4 m5 now) (A' := none) (k' := 0) (c' := 0) (hC.mono (fun _ _ h => .inl h)) hB5 ⟨[], Of.none_ _ _ _, trivial⟩ (fun b hb => by cases hb) (Nat.zero_le _) ⟨Int.le_refl _, by show (0 : Int) ≤ 3; omega⟩
  have hz := HB0.out.size
  refine ⟨e.A, e.k, e.c, rfl, ⟨vs, v1.stays_ HBE.out (by decide) hC, v2.stays HBE.out (by decide) hC (fun b h => .inl h), fun b hb => .inl (v3 b hb)⟩, _, CacheAt.mono ⟨mv0, hup⟩ (fun b hb => hb.imp id (fun h => by omega)), absT_putS _ _, (Chg.of_below HB0.out).trans hC (fun x hx => by rw [hx]; exact .inl (HEN.out e he).2.1)⟩
 have HFIN := Lib.hid fin
 clear fin
 refine wp_region_still_tail 6 (by kernel_rfl) (by kernel_rfl) ?_
 change wpStill _ _ (World.drew _) (fun a' => wpList _ _ _ _ a' (World.drew _)) _ _
 simp only [List.take_succ_cons, List.take_zero, List.drop_succ_cons, List.drop_zero]
 still_step
 still_step
 still_step
 still_call ((plus_any now 600 hnow (by omega) _).mono fun _ _ h => ⟨h.1, h.2.symm⟩)
 still_step
 still_step
 refine wpStill_nil ?_
 go_wp2_with fail
 go_ret
 refine HFIN.out _ ?_ ?_
 ·refine Chg.drew_ ?_
  refine Chg.set1 ?_ _
  refine Chg.set1 ?_ _
  refine Chg.set1 ?_ _
  refine Chg.set1 ?_ _
  refine Chg.set1 ?_ _
  refine Chg.set1 ?_ _
  refine Chg.set1 ?_ _
  refine Chg.set1 ?_ _
  refine Chg.set1 ?_ _
  refine Chg.set1 ?_ _
  exact Chg.refl _ _
 ·have hbk : Bk (((((((((((w0).setCell ⟨e.p, 0, none⟩ (.bool true)).setCell ⟨e.p, 1, none⟩ (.int .u8 m0)).setCell ⟨e.p, 2, none⟩ (.int .u8 m1)).setCell ⟨e.p, 3, none⟩ (.int .u8 m2)).setCell ⟨e.p, 4, none⟩ (.int .u8 m3)).setCell ⟨e.p, 5, none⟩ (.int .u8 m4)).setCell ⟨e.p, 6, none⟩ (.int .u8 m5)).setCell ⟨e.p, 7, none⟩ (.int .i64 (laterP now 600))).setCell ⟨e.p, 8, none⟩ (.int .i64 0)).setCell ⟨e.p, 9, none⟩ (.slice none 0 0)) e.p 235 _ := ((((((((((HBE.out).set 0 (.bool true)).set 1 (.int .u8 m0)).set 2 (.int .u8 m1)).set 3 (.int .u8 m2)).set 4 (.int .u8 m3)).set 5 (.int .u8 m4)).set 6 (.int .u8 m5)).set 7 (.int .i64 (laterP now 600))).set 8 (.int .i64 0)).set 9 (.slice none 0 0)
  simp only [nbC, List.setIfInBounds_toArray, List.set_cons_zero, List.set_cons_succ] at hbk
  exact Bk.drew hbk
open Go.RowKit
variable {V : HV}
def dropT (T : List (Int × Nb)) (a : Int) : List (Int × Nb) := T.filter fun p => decide (p.1 ≠ a)
theorem absT_filter (S : List En) (a : Int) : absT (S.filter fun e => decide (e.a ≠ a)) = dropT (absT S) a := by
 unfold absT dropT
 rw [List.filter_map]; rfl
theorem filter_lt {S : List En} {e : En} (he : e ∈ S) : (S.filter fun x => decide (x.a ≠ e.a)).length < S.length := by
 rw [← List.countP_eq_length_filter]
 rcases Nat.lt_or_ge (S.countP fun x => decide (x.a ≠ e.a)) S.length with h | h
 ·exact h
 ·have := List.countP_eq_length.1 (Nat.le_antisymm List.countP_le_length h) e he
  simp at this
open Go.RowKit
variable {V : HV}
def zeroNb : Nb := ⟨false, 0, 0, 0, 0, 0, 0, 0, 0, []⟩
theorem updT_new {T : List (Int × Nb)} {a : Int} {n n' : Nb} (h : ∀ p ∈ T, p.1 ≠ a) : updT (T ++ [(a, n)]) a n' = T ++ [(a, n')] := by
 unfold updT
 rw [List.map_append]
 congr 1
 ·rw [List.map_congr_left (f := fun p : Int × Nb => if p.1 = a then (a, n') else p) (g := id) (fun p hp => if_neg (h p hp)), List.map_id]
 ·simp
set_option maxHeartbeats 4000000 in
set_option maxRecDepth 100000 in
theorem learn_not (a : Int) (ha : okA a) (m0 m1 m2 m3 m4 m5 now : Int) (hnow : -9223372036854775808 ≤ now ∧ now ≤ 9223372036854775807) (fresh : Bool) (w : World)
  (F : Nat → Prop) (g : Nat) (S : List En) (h : CacheAt V w F g S) (hna0 : ∀ e ∈ S, e.a ≠ a) (hfr : fresh = false) :
  Calls Tryz.prog 148 #[.pointer (some ⟨g, 8, none⟩), .int .u32 a, .agg #[.int .u8 m0, .int .u8 m1, .int .u8 m2, .int .u8 m3, .int .u8 m4, .int .u8 m5], .int .i64 now, .bool fresh] w (LearnPost V w F g [] (absT S)) := by
 subst hfr
 have hnd := h.nodup
 have HCA := Lib.hid h
 obtain ⟨mv0, h1, h2, h3, h4, h5, h6⟩ := h
 have HCM : Hid (CacheMv V w F g mv0 S) := Lib.hid ⟨h1, h2, h3, h4, h5, h6⟩
 have HF := Lib.hid h2
 have HFM := Lib.hid h3
 have HEN := Lib.hid h4
 have HAP := Lib.hid h5
 have HND := Lib.hid hnd
 obtain ⟨w0, hw0⟩ : ∃ w0, w.alloc (.cells #[.int .u8 m0, .int .u8 m1, .int .u8 m2, .int .u8 m3, .int .u8 m4, .int .u8 m5] 26) = w0 := ⟨_, rfl⟩
 have hB0 : Below w.heap.size w w0 := by rw [← hw0]; exact (Below.refl _ _).alloc (Nat.le_refl _) _
 have ht0 : Bk w0 w.heap.size 26 #[.int .u8 m0, .int .u8 m1, .int .u8 m2, .int .u8 m3, .int .u8 m4, .int .u8 m5] := by rw [← hw0]; exact Bk.new w _ _
 have HW0 := Lib.hid hw0
 have HM := Lib.hid h1
 have hg : g < w.heap.size := h1.1.lt
 have hz0 : w0.heap.size = w.heap.size + 1 := by rw [← hw0]; simp
 have HZ0 := Lib.hid hz0
 have HB0 := Lib.hid hB0
 have hm0 := h1.kept (hB0.block g hg) (fun b hb => hB0.block b (h1.2.2 b hb).lt)
 have HM0 := Lib.hid hm0
 have c0 := (World.cell?_alloc_lt w (.cells #[.int .u8 m0, .int .u8 m1, .int .u8 m2, .int .u8 m3, .int .u8 m4, .int .u8 m5] 26) ⟨g, 8, none⟩ hg).trans (show _ = some (Value.map _) from h1.1.cell 8)
 try simp only [List.getElem?_toArray, List.getElem?_cons_zero] at c0
 have HNA0 := Lib.hid hna0
 have hlook : (Instr.lookup mapT (.map mv0) (.int .u32 a) false).run Tryz.prog (w.alloc (.cells #[.int .u8 m0, .int .u8 m1, .int .u8 m2, .int .u8 m3, .int .u8 m4, .int .u8 m5] 26)) = .ok (.pointer none) (w.alloc (.cells #[.int .u8 m0, .int .u8 m1, .int .u8 m2, .int .u8 m3, .int .u8 m4, .int .u8 m5] 26)) := by
  have := hm0.look ha
  rw [getL_enE_none HNA0.out] at this
  rw [← HW0.out] at this
  exact this
 clear hna0 hw0 h1 h2 h3 h4 h5 h6 hnd hz0 hB0 hm0
 go_enter Tryz.func148, Tryz.ntmps148
 go_wp2_with fail
 go_ret
 rw [HW0.out]
 exact ⟨none, 0, 0, rfl, ⟨[], Of.none_ _ _ _, trivial, (fun b hb => by cases hb)⟩, S, (HCA.out.below HB0.out).mono (fun _ h => .inl h), rfl, Chg.of_below HB0.out⟩
open Go.RowKit
variable {V : HV}
def RoomOK (S S2 : List En) : Prop := (S.length ≤ 15 ∧ S2 = S) ∨ (16 ≤ S.length ∧ ∃ x, isLeast S x ∧ S2 = S.filter fun e => decide (e.a ≠ x.a))
theorem RoomOK.mem {S S2 : List En} (h : RoomOK S S2) {x : En} (hx : x ∈ S2) : x ∈ S := by
 rcases h with ⟨_, rfl⟩ | ⟨_, y, _, rfl⟩
 ·exact hx
 ·exact (List.mem_filter.1 hx).1
theorem RoomOK.len {S S2 : List En} (h : RoomOK S S2) (hl : S.length ≤ 16) : S2.length ≤ 15 := by
 rcases h with ⟨h, rfl⟩ | ⟨_, y, hy, rfl⟩
 ·exact h
 ·have := filter_lt hy.1; omega
def RoomAny (V : HV) (w : World) (F : Nat → Prop) (g : Nat) (mv : Option Nat) (S : List En) (e : Ending) (w' : World) : Prop :=
 e = .returned (.bool true) ∧ ∃ S2, RoomOK S S2 ∧ CacheMv V w' F g mv S2 ∧ Chg (fun x => mv = some x) w w'
theorem room_any (g : Nat) (mv : Option Nat) (S : List En) (w : World) (F : Nat → Prop) (h : CacheMv V w F g mv S) (hn : NoDup (S.map enE)) (hroom : S.length ≤ 15 ∨ ∃ x ∈ S, x.n.kn = true) :
  Calls Tryz.prog 211 #[.pointer (some ⟨g, 8, none⟩)] w (RoomAny V w F g mv S) := by
 have hh := h
 obtain ⟨h1, h2, h3, h4, h5, h6⟩ := h
 have key : ∀ e w', RoomPost V w g mv S e w' → RoomAny V w F g mv S e w' := by
  rintro e w' (⟨rfl, r2, r3, r4⟩ | ⟨rfl, r2, ⟨x, r3, r4⟩, r5⟩ | ⟨rfl, r2, r3, _⟩)
  ·exact ⟨rfl, S, .inl ⟨by omega, rfl⟩, hh.keep (fun b _ hl => r4.no.block b hl) (fun _ h => h), r4.mono (fun _ _ h => h.elim)⟩
  ·exact ⟨rfl, _, .inr ⟨r2, x, r3, rfl⟩, CacheAt.remove h1 h2 h3 h4 h5 h6 hn r4 r5, r5⟩
  ·exfalso
   rcases hroom with h | ⟨x, hx, hk⟩
   ·omega
   ·rw [r3 x hx] at hk; cases hk
 rcases Nat.lt_or_ge S.length 16 with h | h
 ·exact (room_small g mv S w h1 h).mono key
 ·exact (room_big g mv S w h1 (fun e he => (h4 e he).1) h).mono key
def SendRPost (V : HV) (w : World) (F : Nat → Prop) (g : Nat) (S : List En) (a now : Int) (l : List Int) (e : Ending) (w' : World) : Prop :=
 ∃ S2, RoomOK S S2 ∧ SendPost V w F g (toldC false noMac true false) (absT S2 ++ [(a, newNb now l)]) e w'
set_option maxHeartbeats 4000000 in
set_option maxRecDepth 100000 in
theorem send_room (a : Int) (ha : okA a) (A : Option Addr) (n c B : Nat) (l : List Int) (hn : l.length = n) (hmax : n ≤ 140737488355328) (hb : Bs l) (now : Int) (hnow : -9223372036854775808 ≤ now ∧ now ≤ 9223372036854775807) (w : World) (hr : RB w B A l) (hB : B ≤ w.heap.size)
  (F : Nat → Prop) (g : Nat) (S : List En) (h : CacheAt V w F g S) (hna0 : ∀ e ∈ S, e.a ≠ a) (hroom : S.length ≤ 15 ∨ ∃ x ∈ S, x.n.kn = true) :
  Calls Tryz.prog 234 #[.pointer (some ⟨g, 8, none⟩), .int .u32 a, .slice A n c, .int .i64 now] w (SendRPost V w F g S a now l) := by
 have HN := Lib.hid hn
 have hnd := h.nodup
 have h := h.cap
 have HCA := Lib.hid h
 obtain ⟨mv0, h1, h2, h3, h4, h5, h6⟩ := h
 have HF := Lib.hid h2
 have HFM := Lib.hid h3
 have HEN := Lib.hid h4
 have HAP := Lib.hid h5
 have HND := Lib.hid hnd
 have HL6 := Lib.hid h6
 obtain ⟨w0, hw0⟩ : ∃ w0, w.alloc (.cells #[.bool false, .int .u8 0, .int .u8 0, .int .u8 0, .int .u8 0, .int .u8 0, .int .u8 0, .bool false, .bool false] 427) = w0 := ⟨_, rfl⟩
 have hB0 : Below w.heap.size w w0 := by rw [← hw0]; exact (Below.refl _ _).alloc (Nat.le_refl _) _
 have ht0 : Bk w0 w.heap.size 427 #[.bool false, .int .u8 0, .int .u8 0, .int .u8 0, .int .u8 0, .int .u8 0, .int .u8 0, .bool false, .bool false] := by rw [← hw0]; exact Bk.new w _ _
 have hr0 : RB w0 B A l := Rw.below hr (hB0.mono hB)
 have HW0 := Lib.hid hw0
 have HM := Lib.hid h1
 have hg : g < w.heap.size := h1.1.lt
 have hz0 : w0.heap.size = w.heap.size + 1 := by rw [← hw0]; simp
 have HZ0 := Lib.hid hz0
 clear hw0 h1 h2 h3 h4 h5 hn hnd h6 hz0
 have HNA0 := Lib.hid hna0
 clear hna0
 go_enter Tryz.func234, Tryz.ntmps234
 go_wp2_with fail
 rw [HW0.out]
 refine (clone_any A n c B l HN.out hmax _ hr0 (by have := HZ0.out; omega)).mono ?_
 rintro e0 w1 ⟨Ao, no, co, rfl, hO1, hB1⟩
 have hz1 := hB1.size
 have hBw1 : Below w.heap.size w w1 := hB0.trans (hB1.mono hB0.size)
 have HBW1 := Lib.hid hBw1
 have ht1 := ht0.below hB1 ht0.lt
 have hm1 := HM.out.kept (hBw1.block g hg) (fun b hb => hBw1.block b (HM.out.2.2 b hb).lt)
 have HM1 := Lib.hid hm1
 have HT1 := Lib.hid ht1
 have HO1 := Lib.hid hO1
 have c1 : w1.cell? ⟨g, 8, none⟩ = some (.map mv0) := hm1.1.cell 8
 have hlook : (Instr.lookup mapT (.map mv0) (.int .u32 a) false).run Tryz.prog w1 = .ok (.pointer none) w1 := by
  have := hm1.look ha
  rw [getL_enE_none HNA0.out] at this
  exact this
 clear hm1 hBw1 ht0 ht1 hr0 hO1
 go_wp2_with fail
 have hcm1 : CacheMv V w1 (fun b => F b ∧ b < w.heap.size) g mv0 S :=
  (show CacheMv V w (fun b => F b ∧ b < w.heap.size) g mv0 S from ⟨HM.out, HF.out, HFM.out, HEN.out, HAP.out, HL6.out⟩).keep (fun b _ hl => HBW1.out.block b hl) (fun b h => h)
 refine (room_any g mv0 S _ _ hcm1 HND.out hroom).mono ?_
 rintro e1 w2 ⟨rfl, S2, hR, hcm2', hC2⟩
 have hmvF : ∀ x, mv0 = some x → F x ∧ x < w.heap.size := HFM.out
 have hrow2 : RowAt w2 (fun b => (F b ∧ b < w.heap.size) ∨ some b = blk Ao) (.slice Ao no co) l :=
  (show RowAt w1 (fun b => some b = blk Ao) (.slice Ao no co) l from ⟨Ao, no, co, rfl, Ow.mono HO1.out (Nat.zero_le _), fun b hb => hb.symm, hb, by rw [← Ow.length HO1.out, by8_length, HN.out]; exact hmax⟩).keep
   (fun b hb hl => hC2.block b hl (fun e => by have h1 := (hmvF b e).2; have h2 := (Ow.lt HO1.out b hb.symm).1; have := HZ0.out; omega)) (fun b h => .inr h)
 have hcm2 : CacheMv V w2 (fun b => (F b ∧ b < w.heap.size) ∨ some b = blk Ao) g mv0 S2 := hcm2'.keep (fun _ _ _ => rfl) (fun b h => .inl h)
 have HFT : Hid (¬ ((F w.heap.size ∧ w.heap.size < w.heap.size) ∨ some w.heap.size = blk Ao)) := Lib.hid (by
  rintro (⟨_, e⟩ | e)
  ·omega
  ·have := (Ow.lt HO1.out _ e.symm).1
   have := HZ0.out
   omega)
 have ht2 := HT1.out.chg hC2 (fun e => by have := (hmvF _ e).2; omega)
 have hna : ∀ x ∈ S2, x.a ≠ a := fun x hx => HNA0.out x (hR.mem hx)
 have hlen2 : S2.length ≤ 15 := hR.len HL6.out
 have HBW2 : Hid (Chg F w w2) := Lib.hid ((Chg.of_below HBW1.out).trans hC2 (fun x e => .inl (hmvF x e).1))
 have HRO := Lib.hid hR
 clear hcm2' hC2 hlook hR hmvF hcm1
 have hm2 := hcm2.1
 have z2 : w.heap.size < w2.heap.size := ht2.lt
 have hg2 : g < w2.heap.size := hm2.1.lt
 have HCM2 := Lib.hid hcm2
 have HNA := Lib.hid hna
 have HROW := Lib.hid hrow2
 have HLN2 := Lib.hid hlen2
 obtain ⟨w3, hw3⟩ : ∃ w3, (w2.alloc (.cells #[.slice Ao no co] 37)).alloc (.cells (nbC (newNb now l) (some ⟨w2.heap.size, 0, none⟩) 1 1) 235) = w3 := ⟨_, rfl⟩
 have hB3 : Below w2.heap.size w2 w3 := by rw [← hw3]; exact ((Below.refl _ _).alloc (Nat.le_refl _) _).alloc (by simp) _
 have hm3 := hm2.kept (hB3.block g hm2.1.lt) (fun b hb => hB3.block b (hm2.2.2 b hb).lt)
 have ht3 := ht2.below hB3 z2
 have HW3 : Hid ((w2.alloc (.cells #[.slice Ao no co] 37)).alloc (.cells #[.bool false, .int .u8 0, .int .u8 0, .int .u8 0, .int .u8 0, .int .u8 0, .int .u8 0, .int .i64 (laterP now 10), .int .i64 1, .slice (some ⟨w2.heap.size, 0, none⟩) 1 1] 235) = w3) := Lib.hid (by rw [← hw3]; rfl)
 have HWW := Lib.hid hw3
 have HM3 := Lib.hid hm3
 clear hw3 hcm2 hna hrow2 hlen2
 go_wp2_with fail
 refine (plus_any now 10 hnow (by omega) _).mono ?_
 rintro e2 w2' ⟨rfl, rfl⟩
 go_wp2_with fail
 rw [HW3.out]
 refine (alay_any a (w2.heap.size + 1) g mv0 _ _ ha HM3.out).mono ?_
 intro e3 w4 hL
 have HL4 := Lib.hid hL
 obtain ⟨rfl, b4, _, _, hC4⟩ := hL
 have hnt : ¬ (w.heap.size = g ∨ mv0 = some w.heap.size) := by
  rintro (e | e)
  ·omega
  ·exact HFT.out (HCM2.out.2.2.1 _ e)
 have ht4 := ht3.chg hC4 hnt
 have y0 := ht4.cell 0
 have y1 := ht4.cell 1
 have y2 := ht4.cell 2
 have y3 := ht4.cell 3
 have y4 := ht4.cell 4
 have y5 := ht4.cell 5
 have y6 := ht4.cell 6
 have y7 := ht4.cell 7
 have y8 := ht4.cell 8
 simp only [toldC, nbC, List.setIfInBounds_toArray, List.set_cons_succ, List.set_cons_zero, List.getElem?_toArray, List.getElem?_cons_zero, List.getElem?_cons_succ] at y0 y1 y2 y3 y4 y5 y6 y7 y8
 have x0 := ht4.frozen 0
 have x1 := ht4.frozen 1
 have x2 := ht4.frozen 2
 have x3 := ht4.frozen 3
 have x4 := ht4.frozen 4
 have x5 := ht4.frozen 5
 have x6 := ht4.frozen 6
 have x7 := ht4.frozen 7
 have x8 := ht4.frozen 8
 have hne9 : w.heap.size ≠ g := by omega
 clear hB3 hm3 ht3 ht4 hC4 hnt ht2 hm2
 go_wp2_with fail
 have fin : ∀ w5, Chg (fun b => b = w.heap.size) w4 w5 → ∃ S', CacheAt V w5 (fun b => F b ∨ w.heap.size ≤ b) g S' ∧ absT S' = (absT S2 ++ [(a, newNb now l)]) ∧ Chg F w w5 := fun w5 h5 => by
  have hfin := HCM2.out.send (t := w.heap.size) (e := .returned (.tuple #[])) HLN2.out HNA.out ha HROW.out (by rw [HWW.out]; exact HL4.out) z2 HFT.out h5
  refine ⟨_, hfin.1.mono ?_, by simp [absT], HBW2.out.trans hfin.2 ?_⟩
  ·rintro b ((hb | hb) | hb)
   ·exact .inl hb.1
   ·exact .inr (by have := (Ow.lt HO1.out b hb.symm).1; have := HZ0.out; omega)
   ·exact .inr (by omega)
  ·rintro b ((hb | hb) | hb)
   ·exact .inl hb.1
   ·exact .inr (by have := (Ow.lt HO1.out b hb.symm).1; have := HZ0.out; omega)
   ·exact .inr (by omega)
 have HFIN := Lib.hid fin
 clear fin
 refine bodyPost_ret (v := .agg #[.bool false, .int .u8 0, .int .u8 0, .int .u8 0, .int .u8 0, .int .u8 0, .int .u8 0, .bool true, .bool false]) (by simp [results, Tryz.results234, go_sem, *]) rfl ⟨S2, HRO.out, rfl, ?_⟩
 refine HFIN.out _ ?_
 refine Chg.set1 ?_ _
 refine Chg.set1 ?_ _
 refine Chg.set1 ?_ _
 refine Chg.set1 ?_ _
 refine Chg.set1 ?_ _
 refine Chg.set1 ?_ _
 refine Chg.set1 ?_ _
 refine Chg.set1 ?_ _
 refine Chg.set1 ?_ _
 exact Chg.refl _ _
end Go.Proofs.YtaeafkdfbcppgaaGreat
