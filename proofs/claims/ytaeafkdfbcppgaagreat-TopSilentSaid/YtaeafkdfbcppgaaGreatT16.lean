/- Proved: what Learn does where a neighbour has to go first; how many there are; the plain laws of Tick: who is asked, who is lost, who stays; a row of addresses grows; one address is in order. Conditions: as each law says. -/
import Derived.Test.YtaeafkdfbcppgaaGreatT13
set_option linter.unusedSectionVars false
set_option linter.unusedSimpArgs false
set_option linter.unusedVariables false
namespace Go.Proofs.YtaeafkdfbcppgaaGreat
open Go.RowKit
variable {V : HV}
def LearnRPost (V : HV) (w : World) (F : Nat → Prop) (g : Nat) (S : List En) (a : Int) (n : Nb) (e : Ending) (w' : World) : Prop :=
 ∃ S2, RoomOK S S2 ∧ LearnPost V w F g [] (absT S2 ++ [(a, n)]) e w'
set_option maxHeartbeats 4000000 in
set_option maxRecDepth 100000 in
theorem learn_room (a : Int) (ha : okA a) (m0 m1 m2 m3 m4 m5 now : Int) (hnow : -9223372036854775808 ≤ now ∧ now ≤ 9223372036854775807) (fresh : Bool) (w : World)
  (F : Nat → Prop) (g : Nat) (S : List En) (h : CacheAt V w F g S) (hna0 : ∀ e ∈ S, e.a ≠ a) (hroom : S.length ≤ 15 ∨ ∃ x ∈ S, x.n.kn = true) (hfr : fresh = true) :
  Calls Tryz.prog 148 #[.pointer (some ⟨g, 8, none⟩), .int .u32 a, .agg #[.int .u8 m0, .int .u8 m1, .int .u8 m2, .int .u8 m3, .int .u8 m4, .int .u8 m5], .int .i64 now, .bool fresh] w (LearnRPost V w F g S a (learnt m0 m1 m2 m3 m4 m5 now)) := by
 subst hfr
 have hnd := h.nodup
 have HCA := Lib.hid h
 obtain ⟨mv0, h1, h2, h3, h4, h5, h6⟩ := h
 have HCM : Hid (CacheMv V w F g mv0 S) := Lib.hid ⟨h1, h2, h3, h4, h5, h6⟩
 have HF := Lib.hid h2
 have HFM := Lib.hid h3
 have HEN := Lib.hid h4
 have HAP := Lib.hid h5
 have HND := Lib.hid hnd
 have HL6 := Lib.hid h6
 obtain ⟨w0, hw0⟩ : ∃ w0, w.alloc (.cells #[.int .u8 m0, .int .u8 m1, .int .u8 m2, .int .u8 m3, .int .u8 m4, .int .u8 m5] 26) = w0 := ⟨_, rfl⟩
 have hB0 : Below w.heap.size w w0 := by rw [← hw0]; exact (Below.refl _ _).alloc (Nat.le_refl _) _
 have ht0 : Bk w0 w.heap.size 26 #[.int .u8 m0, .int .u8 m1, .int .u8 m2, .int .u8 m3, .int .u8 m4, .int .u8 m5] := by rw [← hw0]; exact Bk.new w _ _
 have HW0 := Lib.hid hw0
 have HM := Lib.hid h1
 have hg : g < w.heap.size := h1.1.lt
 have hz0 : w0.heap.size = w.heap.size + 1 := by rw [← hw0]; simp
 have HZ0 := Lib.hid hz0
 have HB0 := Lib.hid hB0
 have hm0 := h1.kept (hB0.block g hg) (fun b hb => hB0.block b (h1.2.2 b hb).lt)
 have HM0 := Lib.hid hm0
 have c0 := (World.cell?_alloc_lt w (.cells #[.int .u8 m0, .int .u8 m1, .int .u8 m2, .int .u8 m3, .int .u8 m4, .int .u8 m5] 26) ⟨g, 8, none⟩ hg).trans (show _ = some (Value.map _) from h1.1.cell 8)
 try simp only [List.getElem?_toArray, List.getElem?_cons_zero] at c0
 have HNA0 := Lib.hid hna0
 have hlook : (Instr.lookup mapT (.map mv0) (.int .u32 a) false).run Tryz.prog (w.alloc (.cells #[.int .u8 m0, .int .u8 m1, .int .u8 m2, .int .u8 m3, .int .u8 m4, .int .u8 m5] 26)) = .ok (.pointer none) (w.alloc (.cells #[.int .u8 m0, .int .u8 m1, .int .u8 m2, .int .u8 m3, .int .u8 m4, .int .u8 m5] 26)) := by
  have := hm0.look ha
  rw [getL_enE_none HNA0.out] at this
  rw [← HW0.out] at this
  exact this
 clear hna0 hw0 h1 h2 h3 h4 h5 h6 hnd hz0 hB0 hm0
 go_enter Tryz.func148, Tryz.ntmps148
 go_wp2_with fail
 rw [HW0.out]
 have hcm0 : CacheMv V w0 F g mv0 S := (show CacheMv V w F g mv0 S from HCM.out).keep (fun b _ hl => HB0.out.block b hl) (fun _ h => h)
 refine (room_any g mv0 S _ F hcm0 HND.out hroom).mono ?_
 rintro e1 w1 ⟨rfl, S2, hR, hcm1, hC1⟩
 have hm1 := hcm1.1
 have ht1 := ht0.chg hC1 (fun e => by have := (HM.out.2.2 _ e).lt; omega)
 have HC1 : Hid (Chg F w w1) := Lib.hid ((Chg.of_below HB0.out).trans hC1 (fun x e => .inl (HFM.out x e)))
 have hna : ∀ x ∈ S2, x.a ≠ a := fun x hx => HNA0.out x (hR.mem hx)
 have hlen2 : S2.length ≤ 15 := hR.len HL6.out
 have HNA := Lib.hid hna
 have HLN := Lib.hid hlen2
 have HRO := Lib.hid hR
 clear hcm0 hR hna hlen2
 obtain ⟨w2, hw2⟩ : ∃ w2, w1.alloc (.cells (nbC zeroNb none 0 0) 235) = w2 := ⟨_, rfl⟩
 have hB2 : Below w1.heap.size w1 w2 := by rw [← hw2]; exact (Below.refl _ _).alloc (Nat.le_refl _) _
 have hp2 : Bk w2 w1.heap.size 235 (nbC zeroNb none 0 0) := by rw [← hw2]; exact Bk.new w1 _ _
 have ht2 := ht1.below hB2 ht1.lt
 have hm2 := hm1.kept (hB2.block g hm1.1.lt) (fun b hb => hB2.block b (hm1.2.2 b hb).lt)
 have HW2 : Hid (w1.alloc (.cells #[.bool false, .int .u8 0, .int .u8 0, .int .u8 0, .int .u8 0, .int .u8 0, .int .u8 0, .int .i64 0, .int .i64 0, .slice none 0 0] 235) = w2) := Lib.hid (by rw [← hw2]; rfl)
 have HM2 := Lib.hid hm2
 have HCM1 := Lib.hid hcm1
 have HB2 := Lib.hid hB2
 have z1 : w.heap.size < w1.heap.size := ht1.lt
 have hg1 : g < w1.heap.size := hm1.1.lt
 clear hw2 hB2 hm2 hcm1 hC1 hlook ht1 ht0 hm1
 go_wp2_with fail
 rw [HW2.out]
 refine (alay_any a w1.heap.size g mv0 _ _ ha HM2.out).mono ?_
 intro e3 w3 hL
 have HL3 := Lib.hid hL
 obtain ⟨rfl, b4, _, _, hC3⟩ := hL
 have hn3 : ∀ {p : Nat} {t : TypeId} {cs : Array Value}, Bk w2 p t cs → t ≠ 164 → ¬ (p = g ∨ mv0 = some p) := by
  rintro p t cs hb ht (rfl | hb2)
  ·exact Bk.ne_ hb HM2.out.1 ht rfl
  ·exact (HM2.out.2.2 p hb2).ne_bk hb rfl
 have hbe3 := hp2.chg hC3 (hn3 hp2 (by decide))
 have ht3 := ht2.chg hC3 (hn3 ht2 (by decide))
 have HBE := Lib.hid hbe3
 have HC3 := Lib.hid hC3
 have t0 := ht3.cell 0
 have t1 := ht3.cell 1
 have t2 := ht3.cell 2
 have t3 := ht3.cell 3
 have t4 := ht3.cell 4
 have t5 := ht3.cell 5
 simp only [toldC, nbC, List.setIfInBounds_toArray, List.set_cons_succ, List.set_cons_zero, List.getElem?_toArray, List.getElem?_cons_zero, List.getElem?_cons_succ] at t0 t1 t2 t3 t4 t5
 have y0 := hbe3.cell 0
 have y1 := hbe3.cell 1
 have y2 := hbe3.cell 2
 have y3 := hbe3.cell 3
 have y4 := hbe3.cell 4
 have y5 := hbe3.cell 5
 have y6 := hbe3.cell 6
 have y7 := hbe3.cell 7
 have y8 := hbe3.cell 8
 have y9 := hbe3.cell 9
 simp only [zeroNb, toldC, nbC, List.setIfInBounds_toArray, List.set_cons_succ, List.set_cons_zero, List.getElem?_toArray, List.getElem?_cons_zero, List.getElem?_cons_succ] at y0 y1 y2 y3 y4 y5 y6 y7 y8 y9
 have x0 := hbe3.frozen 0
 have x1 := hbe3.frozen 1
 have x2 := hbe3.frozen 2
 have x3 := hbe3.frozen 3
 have x4 := hbe3.frozen 4
 have x5 := hbe3.frozen 5
 have x6 := hbe3.frozen 6
 have x7 := hbe3.frozen 7
 have x8 := hbe3.frozen 8
 have x9 := hbe3.frozen 9
 have fin : ∀ W5, Chg (fun b => b = w1.heap.size) w3 W5 → Bk W5 w1.heap.size 235 (nbC (learnt m0 m1 m2 m3 m4 m5 now) none 0 0) → LearnRPost V w F g S a (learnt m0 m1 m2 m3 m4 m5 now) (.returned (.slice none 0 0)) W5 := fun W5 hC hB5 => by
  obtain ⟨⟨mv', r1⟩, r2⟩ := CacheAt.insert (nb := zeroNb) (A := none) (k := 0) (c := 0) HCM1.out.1 HCM1.out.2.1 HCM1.out.2.2.1 HCM1.out.2.2.2.1 HCM1.out.2.2.2.2.1 HLN.out HNA.out w1.heap.size HB2.out (Nat.le_refl _) hp2 ⟨[], Of.none_ _ _ _, trivial⟩ (fun b hb => by cases hb) (Nat.zero_le _) ha ⟨Int.le_refl _, by show (0 : Int) ≤ 3; omega⟩ HL3.out
  have hup := r1.update (e := ⟨a, w1.heap.size, none, 0, 0, zeroNb⟩) (by simp) (n' := learnt m0 m1 m2 m3 m4 m5 now) (A' := none) (k' := 0) (c' := 0) (hC.mono (fun _ _ h => .inl h)) hB5 ⟨[], Of.none_ _ _ _, trivial⟩ (fun b hb => by cases hb) (Nat.zero_le _) ⟨Int.le_refl _, by show (0 : Int) ≤ 3; omega⟩
  have hz1 := r2.size
  refine ⟨S2, HRO.out, none, 0, 0, rfl, ⟨[], Of.none_ _ _ _, trivial, (fun b hb => by cases hb)⟩, _, CacheAt.mono ⟨mv', hup⟩ (fun b hb => ?_), ?_, (HC1.out.trans r2 (fun x hx => .inl hx)).trans hC (fun x hx => by rw [hx]; exact .inr (by omega))⟩
  ·rcases hb with (hb | hb) | hb
   ·exact .inl hb
   ·exact .inr (by omega)
   ·exact .inr (by omega)
  ·rw [absT_putS]
   have h9 : absT (S2 ++ [⟨a, w1.heap.size, none, 0, 0, zeroNb⟩]) = absT S2 ++ [(a, zeroNb)] := by simp [absT]
   rw [h9]
   exact updT_new (fun p hp => by obtain ⟨x, hx, rfl⟩ := List.mem_map.1 hp; exact HNA.out x hx)
 have HFIN := Lib.hid fin
 clear fin hn3 hp2 ht2 hC3 ht3 hbe3
 go_wp2_with fail
 refine wp_region_still_tail 6 (by kernel_rfl) (by kernel_rfl) ?_
 change wpStill _ _ (World.drew _) (fun a' => wpList _ _ _ _ a' (World.drew _)) _ _
 simp only [List.take_succ_cons, List.take_zero, List.drop_succ_cons, List.drop_zero]
 still_step
 still_step
 still_step
 still_call ((plus_any now 600 hnow (by omega) _).mono fun _ _ h => ⟨h.1, h.2.symm⟩)
 still_step
 still_step
 refine wpStill_nil ?_
 go_wp2_with fail
 go_ret
 refine HFIN.out _ ?_ ?_
 ·refine Chg.drew_ ?_
  refine Chg.set1 ?_ _
  refine Chg.set1 ?_ _
  refine Chg.set1 ?_ _
  refine Chg.set1 ?_ _
  refine Chg.set1 ?_ _
  refine Chg.set1 ?_ _
  refine Chg.set1 ?_ _
  refine Chg.set1 ?_ _
  refine Chg.set1 ?_ _
  refine Chg.set1 ?_ _
  exact Chg.refl _ _
 ·have hbk : Bk (((((((((((w3).setCell ⟨w1.heap.size, 0, none⟩ (.bool true)).setCell ⟨w1.heap.size, 1, none⟩ (.int .u8 m0)).setCell ⟨w1.heap.size, 2, none⟩ (.int .u8 m1)).setCell ⟨w1.heap.size, 3, none⟩ (.int .u8 m2)).setCell ⟨w1.heap.size, 4, none⟩ (.int .u8 m3)).setCell ⟨w1.heap.size, 5, none⟩ (.int .u8 m4)).setCell ⟨w1.heap.size, 6, none⟩ (.int .u8 m5)).setCell ⟨w1.heap.size, 7, none⟩ (.int .i64 (laterP now 600))).setCell ⟨w1.heap.size, 8, none⟩ (.int .i64 0)).setCell ⟨w1.heap.size, 9, none⟩ (.slice none 0 0)) w1.heap.size 235 _ := ((((((((((HBE.out).set 0 (.bool true)).set 1 (.int .u8 m0)).set 2 (.int .u8 m1)).set 3 (.int .u8 m2)).set 4 (.int .u8 m3)).set 5 (.int .u8 m4)).set 6 (.int .u8 m5)).set 7 (.int .i64 (laterP now 600))).set 8 (.int .i64 0)).set 9 (.slice none 0 0)
  simp only [nbC, zeroNb, List.setIfInBounds_toArray, List.set_cons_zero, List.set_cons_succ] at hbk
  exact Bk.drew hbk
open Go.RowKit
def by32 (l : List Int) : List Value := l.map (Value.int .u32)
theorem by32_length (l : List Int) : (by32 l).length = l.length := by simp [by32]
theorem by32_append (l m : List Int) : by32 (l ++ m) = by32 l ++ by32 m := by simp [by32]
def OA (w : World) (base : Nat) (A : Option Addr) (n c : Nat) (l : List Int) : Prop := Ow 28 w base A n c (by32 l)
theorem OA.len {w : World} {base : Nat} {A : Option Addr} {n c : Nat} {l : List Int} (h : OA w base A n c l) : l.length = n := by rw [← by32_length]; exact Ow.length h
theorem info_u32 : (Tryz.prog.info? 28).map (fun i => (i.zero, i.size, i.bytes)) = some (some (.int .u32 0), 1, 4) := by kernel_rfl
section
variable {ops : Array Oper} {rest : List Oper} {o : Oper} {a : Act} {w : World} {Q : Exit → Act → World → Prop}
theorem ap32_one (hgd : o.guard = none) (s x : Operand)
  (ho : o.op = .call { callee := .builtin .append, args := #[s, x], argTypes := #[176, 176] })
  (base : Nat) {A : Option Addr} {n c : Nat} {l : List Int} (hs : a.eval s = .slice A n c) (hown : OA w base A n c l)
  (v : Int) (z : Nat) (hz : z = w.heap.size) {c2 : Nat} (hx : a.eval x = .slice (some ⟨z, 0, none⟩) 1 c2) (hsz : n ≤ 1000) (hbase : base ≤ w.heap.size)
  (h : ∀ A' c' w', OA w' base A' (n + 1) c' (l ++ [v]) → w.grownBy w' (blk A) → NewOr A A' w.heap.size → wpList Tryz.prog ops Q rest (a.put o.dst (.slice A' (n + 1) c')) w') :
  wpList Tryz.prog ops Q (o :: rest) a (w.alloc (.cells #[.int .u32 v] 28)) := by
 subst hz
 have hr : Rw (w.alloc (.cells #[.int .u32 v] 28)) (w.heap.size + 1) (some ⟨w.heap.size, 0, none⟩) [.int .u32 v] := rw_lit w 28 [.int .u32 v]
 exact wpList_append_rw hgd s x 176 ho base 28 (.int .u32 0) 4 Tryz.underlying176 info_u32 rfl hs (Ow.alloc hown _) hx hr rfl (by intro u hu; simp at hu; subst hu; rfl)
  (by unfold maxLen; omega) (by omega) (by rw [World.size_alloc]; omega)
  fun A' c' w' h1 h2 h3 => h A' c' w' (by unfold OA; rw [by32_append]; exact h1) ((World.grownBy_alloc w _ _).trans h2) (h3.imp id fun e g hg => by rw [e] at hg; injection hg with hg; rw [World.size_alloc] at hg; omega)
end
theorem filterMap_congr_ {α β : Type} {f g : α → Option β} : ∀ {l : List α}, (∀ x ∈ l, f x = g x) → l.filterMap f = l.filterMap g
 | [], _ => rfl
 | x :: r, h => by rw [List.filterMap_cons, List.filterMap_cons, h x (by simp), filterMap_congr_ (fun y hy => h y (by simp [hy]))]
theorem nodup_le : ∀ {l m : List Int}, l.Nodup → (∀ a ∈ l, a ∈ m) → l.length ≤ m.length
 | [], _, _, _ => Nat.zero_le _
 | x :: r, m, hn, hs => by
  have hx := hs x (by simp)
  have h1 := List.nodup_cons.1 hn
  have := nodup_le (l := r) (m := m.erase x) h1.2 fun a ha => (List.mem_erase_of_ne (by rintro rfl; exact h1.1 ha)).2 (hs a (by simp [ha]))
  rw [List.length_erase_of_mem hx] at this
  have := List.length_pos_of_mem hx
  simp only [List.length_cons]; omega
def stepN (now : Int) (n : Nb) : Nb := { n with tr := n.tr + 1, tk := laterP now 10 }
def stepE (now : Int) (e : En) : Option En := if now < e.n.tk then some e else if e.n.kn = true then none else if 3 ≤ e.n.tr then none else some { e with n := stepN now e.n }
def askB (now : Int) (e : En) : Prop := e.n.tk ≤ now ∧ e.n.kn = false ∧ e.n.tr < 3
def lostB (now : Int) (e : En) : Prop := e.n.tk ≤ now ∧ e.n.kn = false ∧ 3 ≤ e.n.tr
def curE (now : Int) (left : Int → Bool) (e : En) : Option En := if left e.a = true then some e else stepE now e
def curS (now : Int) (left : Int → Bool) (S : List En) : List En := S.filterMap (curE now left)
def AskIs (p : En → Prop) (left : Int → Bool) (S : List En) (l : List Int) : Prop := l.Nodup ∧ ∀ a, a ∈ l ↔ ∃ e ∈ S, e.a = a ∧ left e.a = false ∧ p e
theorem stepE_a {now : Int} {e e' : En} (h : stepE now e = some e') : e'.a = e.a ∧ e'.p = e.p ∧ e'.A = e.A := by
 unfold stepE at h
 split at h
 ·injection h with h; subst h; exact ⟨rfl, rfl, rfl⟩
 ·split at h
  ·cases h
  ·split at h
   ·cases h
   ·injection h with h; subst h; exact ⟨rfl, rfl, rfl⟩
theorem curE_a {now : Int} {left : Int → Bool} {e e' : En} (h : curE now left e = some e') : e'.a = e.a ∧ e'.p = e.p ∧ e'.A = e.A := by
 unfold curE at h
 split at h
 ·injection h with h; subst h; exact ⟨rfl, rfl, rfl⟩
 ·exact stepE_a h
theorem curS_start (now : Int) (S : List En) : curS now (fun _ => true) S = S := by
 unfold curS
 induction S with
 | nil => rfl
 | cons e r ih => rw [List.filterMap_cons]; simp [curE]; simpa using ih
theorem curS_has {now : Int} {left : Int → Bool} {S : List En} (hk : (S.map (·.a)).Nodup) {e : En} (he : e ∈ curS now left S) (hl : left e.a = true) : e ∈ S := by
 unfold curS at he
 obtain ⟨x, hx, hxe⟩ := List.mem_filterMap.1 he
 have ha := (curE_a hxe).1
 unfold curE at hxe
 rw [← ha, if_pos hl] at hxe
 injection hxe with hxe
 rw [← hxe]; exact hx
theorem keys_eq {S : List En} (hk : (S.map (·.a)).Nodup) {e x : En} (he : e ∈ S) (hx : x ∈ S) (h : e.a = x.a) : e = x := by
 induction S with
 | nil => cases he
 | cons y r ih =>
  simp only [List.map_cons, List.nodup_cons] at hk
  rcases List.mem_cons.1 he with h1 | h1
  ·rcases List.mem_cons.1 hx with h2 | h2
   ·rw [h1, h2]
   ·exact absurd (by rw [← h1, h]; exact List.mem_map.2 ⟨x, h2, rfl⟩) hk.1
  ·rcases List.mem_cons.1 hx with h2 | h2
   ·exact absurd (by rw [← h2, ← h]; exact List.mem_map.2 ⟨e, h1, rfl⟩) hk.1
   ·exact ih hk.2 h1 h2
def past (left : Int → Bool) (a : Int) : Int → Bool := fun y => left y && decide (y ≠ a)
theorem curE_past_ne {now : Int} {left : Int → Bool} {a : Int} {x : En} (h : x.a ≠ a) : curE now (past left a) x = curE now left x := by
 unfold curE past; simp [h]
theorem curE_past_eq {now : Int} {left : Int → Bool} {x : En} : curE now (past left x.a) x = stepE now x := by
 unfold curE past; simp
theorem curS_past {now : Int} {left : Int → Bool} {S : List En} (hk : (S.map (·.a)).Nodup) {e : En} (he : e ∈ S) (hl : left e.a = true) :
  curS now (past left e.a) S = (curS now left S).filterMap fun x => if x.a = e.a then stepE now e else some x := by
 unfold curS
 rw [List.filterMap_filterMap]
 refine filterMap_congr_ fun x hx => ?_
 by_cases h : x.a = e.a
 ·obtain rfl := keys_eq hk he hx h.symm
  rw [curE_past_eq]
  unfold curE
  rw [if_pos hl]
  simp
 ·rw [curE_past_ne h]
  cases hc : curE now left x with
  | none => rfl
  | some y =>
   have := (curE_a hc).1
   simp [this, h]
theorem curS_stay {now : Int} {left : Int → Bool} {S : List En} (hk : (S.map (·.a)).Nodup) {e : En} (he : e ∈ S) (hl : left e.a = true) (hs : stepE now e = some e) : curS now (past left e.a) S = curS now left S := by
 rw [curS_past hk he hl]
 have : ∀ x ∈ curS now left S, (if x.a = e.a then stepE now e else some x) = some x := fun x hx => by
  split
  ·rename_i h
   rw [hs]
   have hxS := curS_has hk hx (by rw [h]; exact hl)
   rw [keys_eq hk he hxS h.symm]
  ·rfl
 rw [filterMap_congr_ this]; simp
theorem curS_gone {now : Int} {left : Int → Bool} {S : List En} (hk : (S.map (·.a)).Nodup) {e : En} (he : e ∈ S) (hl : left e.a = true) (hs : stepE now e = none) : curS now (past left e.a) S = (curS now left S).filter fun x => decide (x.a ≠ e.a) := by
 rw [curS_past hk he hl, ← List.filterMap_eq_filter]
 refine filterMap_congr_ fun x _ => ?_
 by_cases h : x.a = e.a
 ·simp [h, hs, Option.guard]
 ·simp [h, Option.guard]
theorem curS_put {now : Int} {left : Int → Bool} {S : List En} (hk : (S.map (·.a)).Nodup) {e e' : En} (he : e ∈ S) (hl : left e.a = true) (hs : stepE now e = some e') : curS now (past left e.a) S = putS (curS now left S) e' := by
 rw [curS_past hk he hl]
 unfold putS
 rw [← List.filterMap_eq_map]
 refine filterMap_congr_ fun x _ => ?_
 have := (stepE_a hs).1
 by_cases h : x.a = e.a
 ·simp [h, hs, this]
 ·simp [h, this]
theorem AskIs.start (p : En → Prop) (S : List En) : AskIs p (fun _ => true) S [] := ⟨List.nodup_nil, fun a => by simp⟩
theorem AskIs.no {p : En → Prop} {left : Int → Bool} {S : List En} {l : List Int} (h : AskIs p left S l) (hk : (S.map (·.a)).Nodup) {e : En} (he : e ∈ S) (hl : left e.a = true) (hp : ¬ p e) : AskIs p (past left e.a) S l := by
 refine ⟨h.1, fun a => (h.2 a).trans ?_⟩
 constructor
 ·rintro ⟨x, hx, rfl, h1, h2⟩; exact ⟨x, hx, rfl, by unfold past; rw [h1]; rfl, h2⟩
 ·rintro ⟨x, hx, rfl, h1, h2⟩
  refine ⟨x, hx, rfl, ?_, h2⟩
  unfold past at h1
  by_cases hxe : x.a = e.a
  ·rw [keys_eq hk he hx hxe.symm] at hp; exact absurd h2 hp
  ·simpa [hxe] using h1
theorem AskIs.yes {p : En → Prop} {left : Int → Bool} {S : List En} {l : List Int} (h : AskIs p left S l) (hk : (S.map (·.a)).Nodup) {e : En} (he : e ∈ S) (hl : left e.a = true) (hp : p e) : AskIs p (past left e.a) S (l ++ [e.a]) := by
 have hno : e.a ∉ l := fun hm => by
  obtain ⟨x, hx, hxe, h1, h2⟩ := (h.2 e.a).1 hm
  rw [hxe, hl] at h1; cases h1
 refine ⟨List.nodup_append.2 ⟨h.1, by simp, fun a ha b hb => by simp at hb; subst hb; exact fun e0 => hno (e0 ▸ ha)⟩, fun a => ?_⟩
 rw [List.mem_append, h.2 a, List.mem_singleton]
 constructor
 ·rintro (⟨x, hx, rfl, h1, h2⟩ | rfl)
  ·exact ⟨x, hx, rfl, by unfold past; rw [h1]; rfl, h2⟩
  ·exact ⟨e, he, rfl, by unfold past; simp, hp⟩
 ·rintro ⟨x, hx, rfl, h1, h2⟩
  by_cases hxe : x.a = e.a
  ·exact .inr hxe
  ·exact .inl ⟨x, hx, rfl, by unfold past at h1; simpa [hxe] using h1, h2⟩
theorem AskIs.len {p : En → Prop} {left : Int → Bool} {S : List En} {l : List Int} (h : AskIs p left S l) : l.length ≤ S.length := by
 have hs : ∀ a ∈ l, a ∈ S.map (·.a) := fun a ha => by
  obtain ⟨e, he, rfl, _⟩ := (h.2 a).1 ha
  exact List.mem_map.2 ⟨e, he, rfl⟩
 have := nodup_le h.1 hs
 simpa using this
theorem AskIs.ok {p : En → Prop} {left : Int → Bool} {S : List En} {l : List Int} (h : AskIs p left S l) (hok : ∀ e ∈ S, okA e.a) : ∀ a ∈ l, okA a := fun a ha => by
 obtain ⟨e, he, rfl, _⟩ := (h.2 a).1 ha
 exact hok e he
def SortedAs (p : En → Prop) (S : List En) (l : List Int) : Prop := l.Pairwise (· < ·) ∧ ∀ a, a ∈ l ↔ ∃ e ∈ S, e.a = a ∧ p e
theorem AskIs.sorted {p : En → Prop} {left : Int → Bool} {S : List En} {l l' : List Int} (h : AskIs p left S l) (hl : ∀ e ∈ S, left e.a = false) (hp : l'.Perm l) (hs : l'.Pairwise (· ≤ ·)) : SortedAs p S l' := by
 have hn : l'.Nodup := hp.nodup_iff.2 h.1
 refine ⟨?_, fun a => ?_⟩
 ·exact (hs.and hn).imp fun {a b} hab => by have := hab.1; have := hab.2; omega
 ·rw [hp.mem_iff, h.2 a]
  constructor
  ·rintro ⟨e, he, h1, _, h3⟩; exact ⟨e, he, h1, h3⟩
  ·rintro ⟨e, he, h1, h3⟩; exact ⟨e, he, h1, hl e he, h3⟩
def SortPost (base : Nat) (A : Option Addr) (n c : Nat) (l : List Int) (w : World) (e : Ending) (w' : World) : Prop :=
 e = .returned (.tuple #[]) ∧ ∃ l', l'.Perm l ∧ l'.Pairwise (· ≤ ·) ∧ OA w' base A n c l' ∧ w.grownBy w' (blk A)
def SortsTo (N : Nat) : Prop := ∀ (A : Option Addr) (n c base : Nat) (l : List Int) (w : World), n ≤ N → OA w base A n c l → base ≤ w.heap.size → (∀ x ∈ l, okA x) → l.Nodup →
  Calls Tryz.prog 93 #[.slice A n c] w (SortPost base A n c l w)
end Go.Proofs.YtaeafkdfbcppgaaGreat
