/- Proved: the segment that segment.Decode reads, by its walk. Conditions: the bytes lie in memory. -/
import Derived.Test.YtifeomdmbjinoaaSegO
import Derived.Test.YtifeomdmbjinoaaRdS
import Derived.Test.YtifeomdmbjinoaaSegP
set_option linter.unusedVariables false
set_option linter.unusedSimpArgs false
namespace Go.Proofs.Ytifeomdmbjinoaa
open Go.RowKit
attribute [local go_sem] and_i64_63
def NoU8s (v : List Value) : Prop := ∀ u ∈ v, ∀ x : Int, u ≠ .int .u8 x
theorem NoU8.of {v : List Value} (h : NoU8s v) : NoU8 v.toArray := fun i x e => by
  rw [List.getElem?_toArray] at e
  exact h _ (List.mem_of_getElem? e) x rfl
theorem Rd.turned {w w' : World} {base g : Nat} {l : List Int} {er : Int} {gm : Nat} {T : TypeId} {cs : Array Value} (h : Rd w base g l er) (hm : Bk w gm T cs) (h1 : T ≠ 83) (h2 : T ≠ 66) (hu : NoU8 cs) (hg : w.grownBy w' (some gm)) : Rd w' base g l er := by
  obtain ⟨F, h0, hs, hF, A, n, c, hb, q2, q3, q4, q5, q6⟩ := h
  refine ⟨F, h0, hs, ?_, A, n, c, hb.grown hg (by intro e; injection e with e; exact Bk.ne_ hb hm (Ne.symm h1) e), q2, q3, q4, ?_, q6⟩
  · rcases hF with hF | ⟨e, r1, r2, r3, r4⟩
    · exact .inl hF
    · exact .inr ⟨e, r1, r2, r3, Bk.grown r4 hg (by intro e'; injection e' with e'; exact Bk.ne_ r4 hm (Ne.symm h2) e')⟩
  · intro hn
    obtain ⟨b, off, rfl, hb', hc⟩ := q5 hn
    have hne : b ≠ gm := by
      rintro rfl
      rw [by8_length] at hn
      have h0 := hc 0 _ (by8_get l 0 hn)
      rw [hm.cell] at h0
      exact hu _ _ h0
    exact ⟨b, off, rfl, Nat.lt_of_lt_of_le hb' hg.size, fun j u hu' => (World.cell?_of_block (hg.block b hb' (by intro e; injection e with e; exact hne e))).trans (hc j u hu')⟩
theorem raw_i (p : Int) (base g : Nat) (l : List Int) (k m : Nat) (hp : p = (m : Int)) (h : k + m ≤ l.length) (hl : l.length ≤ 1000000) (w : World) (hr : Rd w base g (l.drop k) 0) (hbase : base ≤ w.heap.size) :
    Calls Try.prog 45 #[.pointer (some ⟨g, 0, none⟩), .int .i64 p] w fun e w' => ∃ A n c, e = .returned (.slice A n c) ∧ OB 5 w' w.heap.size A n c ((l.drop k).take m) ∧ Rd w' base g (l.drop (k + m)) 0 ∧ w.grownBy w' (some g) := by
  subst hp
  exact raw_at base g l k m h hl w hr hbase
theorem raw_over (p : Int) (base g : Nat) (l : List Int) (hp : (l.length : Int) < p) (hl : l.length ≤ 1000000) (w : World) (hr : Rd w base g l 0) (hbase : base ≤ w.heap.size) :
    Calls Try.prog 45 #[.pointer (some ⟨g, 0, none⟩), .int .i64 p] w fun e w' => ∃ A n c, e = .returned (.slice A n c) ∧ Rd w' base g [] 2 ∧ w.grownBy w' (some g) :=
  (rraw_any base g l hl 0 p w hr hbase).mono fun e w' ⟨A, n, c, h1, h2, h3, h4⟩ => by
    have e1 : rdRest l 0 p = [] := by unfold rdRest; rw [if_neg (by omega)]
    have e2 : rdErr l 0 p = 2 := by unfold rdErr; rw [if_neg (by omega)]
    rw [e1, e2] at h3
    exact ⟨A, n, c, h1, h3, h4⟩
theorem Ow.setLow {E : TypeId} {w : World} {base : Nat} {A : Option Addr} {n c : Nat} {xs : List Value} {p : Addr} (h : Ow E w base A n c xs) (hp : p.block < base) (u : Value) : Ow E (w.setCell p u) base A n c xs :=
  Ow.setCell h (fun e => by have := (Ow.lt h _ e).1; omega) u
set_option maxHeartbeats 4000000 in
set_option maxRecDepth 100000 in
theorem decode_short (a b : Int) (A : Option Addr) (n c B : Nat) (l : List Int) (hn : l.length = n) (h20 : n < 20) (hb : Bs l) (w : World) (hr : RB w B A l) (hB : B ≤ w.heap.size) :
    Calls Try.prog 23 #[.int .u32 a, .int .u32 b, .slice A n c] w fun e w' => e = .returned (.tuple #[.agg #[.int .u32 0, .int .i64 0, .int .u32 0, .int .i64 0, .int .u32 0, .int .u32 0, .int .i64 0, .int .i64 0, .int .i64 0, .int .i64 0, .slice none 0 0], .int .i64 2]) ∧ Below w.heap.size w w' := by
  obtain ⟨w0, hw0⟩ : ∃ w0, w.alloc (.cells #[.int .u32 0, .int .i64 0, .int .u32 0, .int .i64 0, .int .u32 0, .int .u32 0, .int .i64 0, .int .i64 0, .int .i64 0, .int .i64 0, .slice none 0 0] 26) = w0 := ⟨_, rfl⟩
  have hB0 : Below w.heap.size w w0 := by rw [← hw0]; exact (Below.refl _ _).alloc (Nat.le_refl _) _
  have hg0 : Bk w0 w.heap.size 26 #[.int .u32 0, .int .i64 0, .int .u32 0, .int .i64 0, .int .u32 0, .int .u32 0, .int .i64 0, .int .i64 0, .int .i64 0, .int .i64 0, .slice none 0 0] := by rw [← hw0]; exact Bk.new w _ _
  have hr0 : RB w0 B A l := Rw.below hr (hB0.mono hB)
  have HW0 := Lib.hid hw0
  have HN := Lib.hid hn
  have z0 := hg0.lt
  clear hn hw0
  go_enter Try.func23, Try.ntmps23
  go_wp2_with fail
  rw [HW0.out]
  refine (newreader_any A n c B l HN.out (by omega) hb _ hr0 (by omega)).mono ?_
  rintro e w1 ⟨g, rfl, hR1, hB1⟩
  have hg1 := hg0.below hB1 z0
  have z1 := hB1.size
  have hge := hR1.ge
  have hBw1 : Below w.heap.size w w1 := hB0.trans (hB1.mono (Nat.le_of_lt z0))
  have S1 := RdS.start l
  obtain ⟨w2, hw2⟩ : ∃ w2, w1.alloc (.cells #[.int .u32 a, .int .i64 0, .int .u32 b, .int .i64 0, .int .u32 0, .int .u32 0, .int .i64 0, .int .i64 0, .int .i64 0, .int .i64 (-1), .slice none 0 0] 26) = w2 := ⟨_, rfl⟩
  have hm2 : Bk w2 w1.heap.size 26 #[.int .u32 a, .int .i64 0, .int .u32 b, .int .i64 0, .int .u32 0, .int .u32 0, .int .i64 0, .int .i64 0, .int .i64 0, .int .i64 (-1), .slice none 0 0] := by rw [← hw2]; exact Bk.new w1 _ _
  have hB2 : Below w1.heap.size w1 w2 := by rw [← hw2]; exact (Below.refl _ _).alloc (Nat.le_refl _) _
  have hR2 := hR1.below hB2
  have hg2 := hg1.below hB2 (by omega)
  have z2 := hB2.size
  have hBw2 : Below w.heap.size w w2 := hBw1.trans (hB2.mono (by omega))
  have HW2 := Lib.hid hw2
  obtain ⟨gm, hgm⟩ : ∃ gm, w1.heap.size = gm := ⟨_, rfl⟩
  rw [hgm] at hm2
  have HGM := Lib.hid hgm
  have hmg : w.heap.size < gm := by omega
  clear hw2 hgm
  go_wp2_with fail
  rw [HW2.out, HGM.out]
  refine (two_s _ g _ _ _ _ S1 _ hR2 (by have := hBw2.size; omega)).mono ?_
  rintro e w3 ⟨v3, r3, er3, rfl, b3a, b3b, S3, hR3, k3⟩
  have hg3 := hg2.grown k3 (by intro e; injection e with e; omega)
  have hm3 := hm2.grown k3 (by intro e; injection e with e; exact hR2.ne hm2 (by decide) e.symm)
  have hBw3 := hBw2.grown k3 (by have := hBw2.size; omega) (by intro i e; injection e with e; omega)
  have z3 := k3.size
  go_wp2_with fail
  refine (two_s _ g _ _ _ _ S3 _ hR3 (by have := hBw3.size; omega)).mono ?_
  rintro e w4 ⟨v4, r4, er4, rfl, b4a, b4b, S4, hR4, k4⟩
  have hg4 := hg3.grown k4 (by intro e; injection e with e; omega)
  have hm4 := hm3.grown k4 (by intro e; injection e with e; exact hR3.ne hm3 (by decide) e.symm)
  have hBw4 := hBw3.grown k4 (by have := hBw3.size; omega) (by intro i e; injection e with e; omega)
  have z4 := k4.size
  have f5 := hm4.frozen 1
  have c5 : w4.cell? ⟨gm, 1, none⟩ = some (.int .i64 0) := hm4.cell 1
  obtain ⟨w5, hw5⟩ : ∃ w5, w4.setCell ⟨gm, 1, none⟩ (.int .i64 v3) = w5 := ⟨_, rfl⟩
  have hR5 : Rd w5 w0.heap.size g r4 er4 := by rw [← hw5]; exact hR4.store hm4 (by decide) (by decide) (NoU8.of (by intro u hu x; simp only [List.mem_cons, List.not_mem_nil, or_false] at hu; rcases hu with rfl | rfl | rfl | rfl | rfl | rfl | rfl | rfl | rfl | rfl | rfl <;> simp)) 1 (.int .i64 v3)
  have hm5 : Bk w5 gm 26 #[.int .u32 a, .int .i64 v3, .int .u32 b, .int .i64 0, .int .u32 0, .int .u32 0, .int .i64 0, .int .i64 0, .int .i64 0, .int .i64 (-1), .slice none 0 0] := by rw [← hw5]; exact hm4.set 1 (.int .i64 v3)
  have hg5 : Bk w5 w.heap.size 26 #[.int .u32 0, .int .i64 0, .int .u32 0, .int .i64 0, .int .u32 0, .int .u32 0, .int .i64 0, .int .i64 0, .int .i64 0, .int .i64 0, .slice none 0 0] := by rw [← hw5]; exact hg4.far (p := ⟨gm, 1, none⟩) (show w.heap.size ≠ gm by omega) (.int .i64 v3)
  have hBw5 : Below w.heap.size w w5 := by rw [← hw5]; exact hBw4.setCell (p := ⟨gm, 1, none⟩) (show w.heap.size ≤ gm by omega) (.int .i64 v3)
  have z5 : w5.heap.size = w4.heap.size := by rw [← hw5]; simp [World.setCell]
  have HW5 := Lib.hid hw5
  clear hw5
  have f6 := hm4.frozen 3
  have c6 : w4.cell? ⟨gm, 3, none⟩ = some (.int .i64 0) := hm4.cell 3
  obtain ⟨w6, hw6⟩ : ∃ w6, w5.setCell ⟨gm, 3, none⟩ (.int .i64 v4) = w6 := ⟨_, rfl⟩
  have hR6 : Rd w6 w0.heap.size g r4 er4 := by rw [← hw6]; exact hR5.store hm5 (by decide) (by decide) (NoU8.of (by intro u hu x; simp only [List.mem_cons, List.not_mem_nil, or_false] at hu; rcases hu with rfl | rfl | rfl | rfl | rfl | rfl | rfl | rfl | rfl | rfl | rfl <;> simp)) 3 (.int .i64 v4)
  have hm6 : Bk w6 gm 26 #[.int .u32 a, .int .i64 v3, .int .u32 b, .int .i64 v4, .int .u32 0, .int .u32 0, .int .i64 0, .int .i64 0, .int .i64 0, .int .i64 (-1), .slice none 0 0] := by rw [← hw6]; exact hm5.set 3 (.int .i64 v4)
  have hg6 : Bk w6 w.heap.size 26 #[.int .u32 0, .int .i64 0, .int .u32 0, .int .i64 0, .int .u32 0, .int .u32 0, .int .i64 0, .int .i64 0, .int .i64 0, .int .i64 0, .slice none 0 0] := by rw [← hw6]; exact hg5.far (p := ⟨gm, 3, none⟩) (show w.heap.size ≠ gm by omega) (.int .i64 v4)
  have hBw6 : Below w.heap.size w w6 := by rw [← hw6]; exact hBw5.setCell (p := ⟨gm, 3, none⟩) (show w.heap.size ≤ gm by omega) (.int .i64 v4)
  have z6 : w6.heap.size = w5.heap.size := by rw [← hw6]; simp [World.setCell]
  have HW6 := Lib.hid hw6
  clear hw6
  go_wp2_with fail
  rw [HW5.out, HW6.out]
  refine (four_s _ g _ _ _ _ S4 _ hR6 (by have := hBw6.size; omega)).mono ?_
  rintro e w7 ⟨v7, r7, er7, rfl, b7a, b7b, S7, hR7, k7⟩
  have hg7 := hg6.grown k7 (by intro e; injection e with e; omega)
  have hm7 := hm6.grown k7 (by intro e; injection e with e; exact hR6.ne hm6 (by decide) e.symm)
  have hBw7 := hBw6.grown k7 (by have := hBw6.size; omega) (by intro i e; injection e with e; omega)
  have z7 := k7.size
  go_wp2_with fail
  refine (four_s _ g _ _ _ _ S7 _ hR7 (by have := hBw7.size; omega)).mono ?_
  rintro e w8 ⟨v8, r8, er8, rfl, b8a, b8b, S8, hR8, k8⟩
  have hg8 := hg7.grown k8 (by intro e; injection e with e; omega)
  have hm8 := hm7.grown k8 (by intro e; injection e with e; exact hR7.ne hm7 (by decide) e.symm)
  have hBw8 := hBw7.grown k8 (by have := hBw7.size; omega) (by intro i e; injection e with e; omega)
  have z8 := k8.size
  have f9 := hm8.frozen 4
  have c9 : w8.cell? ⟨gm, 4, none⟩ = some (.int .u32 0) := hm8.cell 4
  obtain ⟨w9, hw9⟩ : ∃ w9, w8.setCell ⟨gm, 4, none⟩ (.int .u32 v7) = w9 := ⟨_, rfl⟩
  have hR9 : Rd w9 w0.heap.size g r8 er8 := by rw [← hw9]; exact hR8.store hm8 (by decide) (by decide) (NoU8.of (by intro u hu x; simp only [List.mem_cons, List.not_mem_nil, or_false] at hu; rcases hu with rfl | rfl | rfl | rfl | rfl | rfl | rfl | rfl | rfl | rfl | rfl <;> simp)) 4 (.int .u32 v7)
  have hm9 : Bk w9 gm 26 #[.int .u32 a, .int .i64 v3, .int .u32 b, .int .i64 v4, .int .u32 v7, .int .u32 0, .int .i64 0, .int .i64 0, .int .i64 0, .int .i64 (-1), .slice none 0 0] := by rw [← hw9]; exact hm8.set 4 (.int .u32 v7)
  have hg9 : Bk w9 w.heap.size 26 #[.int .u32 0, .int .i64 0, .int .u32 0, .int .i64 0, .int .u32 0, .int .u32 0, .int .i64 0, .int .i64 0, .int .i64 0, .int .i64 0, .slice none 0 0] := by rw [← hw9]; exact hg8.far (p := ⟨gm, 4, none⟩) (show w.heap.size ≠ gm by omega) (.int .u32 v7)
  have hBw9 : Below w.heap.size w w9 := by rw [← hw9]; exact hBw8.setCell (p := ⟨gm, 4, none⟩) (show w.heap.size ≤ gm by omega) (.int .u32 v7)
  have z9 : w9.heap.size = w8.heap.size := by rw [← hw9]; simp [World.setCell]
  have HW9 := Lib.hid hw9
  clear hw9
  have f10 := hm8.frozen 5
  have c10 : w8.cell? ⟨gm, 5, none⟩ = some (.int .u32 0) := hm8.cell 5
  obtain ⟨w10, hw10⟩ : ∃ w10, w9.setCell ⟨gm, 5, none⟩ (.int .u32 v8) = w10 := ⟨_, rfl⟩
  have hR10 : Rd w10 w0.heap.size g r8 er8 := by rw [← hw10]; exact hR9.store hm9 (by decide) (by decide) (NoU8.of (by intro u hu x; simp only [List.mem_cons, List.not_mem_nil, or_false] at hu; rcases hu with rfl | rfl | rfl | rfl | rfl | rfl | rfl | rfl | rfl | rfl | rfl <;> simp)) 5 (.int .u32 v8)
  have hm10 : Bk w10 gm 26 #[.int .u32 a, .int .i64 v3, .int .u32 b, .int .i64 v4, .int .u32 v7, .int .u32 v8, .int .i64 0, .int .i64 0, .int .i64 0, .int .i64 (-1), .slice none 0 0] := by rw [← hw10]; exact hm9.set 5 (.int .u32 v8)
  have hg10 : Bk w10 w.heap.size 26 #[.int .u32 0, .int .i64 0, .int .u32 0, .int .i64 0, .int .u32 0, .int .u32 0, .int .i64 0, .int .i64 0, .int .i64 0, .int .i64 0, .slice none 0 0] := by rw [← hw10]; exact hg9.far (p := ⟨gm, 5, none⟩) (show w.heap.size ≠ gm by omega) (.int .u32 v8)
  have hBw10 : Below w.heap.size w w10 := by rw [← hw10]; exact hBw9.setCell (p := ⟨gm, 5, none⟩) (show w.heap.size ≤ gm by omega) (.int .u32 v8)
  have z10 : w10.heap.size = w9.heap.size := by rw [← hw10]; simp [World.setCell]
  have HW10 := Lib.hid hw10
  clear hw10
  go_wp2_with fail
  rw [HW9.out, HW10.out]
  refine (byte_s _ g _ _ _ _ S8 _ hR10 (by have := hBw10.size; omega)).mono ?_
  rintro e w11 ⟨v11, r11, er11, rfl, b11a, b11b, S11, hR11, k11⟩
  have hg11 := hg10.grown k11 (by intro e; injection e with e; omega)
  have hm11 := hm10.grown k11 (by intro e; injection e with e; exact hR10.ne hm10 (by decide) e.symm)
  have hBw11 := hBw10.grown k11 (by have := hBw10.size; omega) (by intro i e; injection e with e; omega)
  have z11 := k11.size
  go_wp2_with fail
  refine (byte_s _ g _ _ _ _ S11 _ hR11 (by have := hBw11.size; omega)).mono ?_
  rintro e w12 ⟨v12, r12, er12, rfl, b12a, b12b, S12, hR12, k12⟩
  have hg12 := hg11.grown k12 (by intro e; injection e with e; omega)
  have hm12 := hm11.grown k12 (by intro e; injection e with e; exact hR11.ne hm11 (by decide) e.symm)
  have hBw12 := hBw11.grown k12 (by have := hBw11.size; omega) (by intro i e; injection e with e; omega)
  have z12 := k12.size
  have f13 := hm12.frozen 6
  have c13 : w12.cell? ⟨gm, 6, none⟩ = some (.int .i64 0) := hm12.cell 6
  obtain ⟨w13, hw13⟩ : ∃ w13, w12.setCell ⟨gm, 6, none⟩ (.int .i64 (v12 % 64)) = w13 := ⟨_, rfl⟩
  have hR13 : Rd w13 w0.heap.size g r12 er12 := by rw [← hw13]; exact hR12.store hm12 (by decide) (by decide) (NoU8.of (by intro u hu x; simp only [List.mem_cons, List.not_mem_nil, or_false] at hu; rcases hu with rfl | rfl | rfl | rfl | rfl | rfl | rfl | rfl | rfl | rfl | rfl <;> simp)) 6 (.int .i64 (v12 % 64))
  have hm13 : Bk w13 gm 26 #[.int .u32 a, .int .i64 v3, .int .u32 b, .int .i64 v4, .int .u32 v7, .int .u32 v8, .int .i64 (v12 % 64), .int .i64 0, .int .i64 0, .int .i64 (-1), .slice none 0 0] := by rw [← hw13]; exact hm12.set 6 (.int .i64 (v12 % 64))
  have hg13 : Bk w13 w.heap.size 26 #[.int .u32 0, .int .i64 0, .int .u32 0, .int .i64 0, .int .u32 0, .int .u32 0, .int .i64 0, .int .i64 0, .int .i64 0, .int .i64 0, .slice none 0 0] := by rw [← hw13]; exact hg12.far (p := ⟨gm, 6, none⟩) (show w.heap.size ≠ gm by omega) (.int .i64 (v12 % 64))
  have hBw13 : Below w.heap.size w w13 := by rw [← hw13]; exact hBw12.setCell (p := ⟨gm, 6, none⟩) (show w.heap.size ≤ gm by omega) (.int .i64 (v12 % 64))
  have z13 : w13.heap.size = w12.heap.size := by rw [← hw13]; simp [World.setCell]
  have HW13 := Lib.hid hw13
  clear hw13
  go_wp2_with fail
  rw [HW13.out]
  refine (two_s _ g _ _ _ _ S12 _ hR13 (by have := hBw13.size; omega)).mono ?_
  rintro e w14 ⟨v14, r14, er14, rfl, b14a, b14b, S14, hR14, k14⟩
  have hg14 := hg13.grown k14 (by intro e; injection e with e; omega)
  have hm14 := hm13.grown k14 (by intro e; injection e with e; exact hR13.ne hm13 (by decide) e.symm)
  have hBw14 := hBw13.grown k14 (by have := hBw13.size; omega) (by intro i e; injection e with e; omega)
  have z14 := k14.size
  have f15 := hm14.frozen 7
  have c15 : w14.cell? ⟨gm, 7, none⟩ = some (.int .i64 0) := hm14.cell 7
  obtain ⟨w15, hw15⟩ : ∃ w15, w14.setCell ⟨gm, 7, none⟩ (.int .i64 v14) = w15 := ⟨_, rfl⟩
  have hR15 : Rd w15 w0.heap.size g r14 er14 := by rw [← hw15]; exact hR14.store hm14 (by decide) (by decide) (NoU8.of (by intro u hu x; simp only [List.mem_cons, List.not_mem_nil, or_false] at hu; rcases hu with rfl | rfl | rfl | rfl | rfl | rfl | rfl | rfl | rfl | rfl | rfl <;> simp)) 7 (.int .i64 v14)
  have hm15 : Bk w15 gm 26 #[.int .u32 a, .int .i64 v3, .int .u32 b, .int .i64 v4, .int .u32 v7, .int .u32 v8, .int .i64 (v12 % 64), .int .i64 v14, .int .i64 0, .int .i64 (-1), .slice none 0 0] := by rw [← hw15]; exact hm14.set 7 (.int .i64 v14)
  have hg15 : Bk w15 w.heap.size 26 #[.int .u32 0, .int .i64 0, .int .u32 0, .int .i64 0, .int .u32 0, .int .u32 0, .int .i64 0, .int .i64 0, .int .i64 0, .int .i64 0, .slice none 0 0] := by rw [← hw15]; exact hg14.far (p := ⟨gm, 7, none⟩) (show w.heap.size ≠ gm by omega) (.int .i64 v14)
  have hBw15 : Below w.heap.size w w15 := by rw [← hw15]; exact hBw14.setCell (p := ⟨gm, 7, none⟩) (show w.heap.size ≤ gm by omega) (.int .i64 v14)
  have z15 : w15.heap.size = w14.heap.size := by rw [← hw15]; simp [World.setCell]
  have HW15 := Lib.hid hw15
  clear hw15
  go_wp2_with fail
  rw [HW15.out]
  refine (four_s _ g _ _ _ _ S14 _ hR15 (by have := hBw15.size; omega)).mono ?_
  rintro e w16 ⟨v16, r16, er16, rfl, b16a, b16b, S16, hR16, k16⟩
  have hg16 := hg15.grown k16 (by intro e; injection e with e; omega)
  have hm16 := hm15.grown k16 (by intro e; injection e with e; exact hR15.ne hm15 (by decide) e.symm)
  have hBw16 := hBw15.grown k16 (by have := hBw15.size; omega) (by intro i e; injection e with e; omega)
  have z16 := k16.size
  obtain rfl := S16.over (by rw [HN.out]; omega)
  have HBW := Lib.hid hBw16
  go_wp2_with fail
  refine (rerr_any _ g _ _ _ hR16).mono ?_
  rintro e w' ⟨rfl, rfl⟩
  have y0 := hg16.cell 0
  have y1 := hg16.cell 1
  have y2 := hg16.cell 2
  have y3 := hg16.cell 3
  have y4 := hg16.cell 4
  have y5 := hg16.cell 5
  have y6 := hg16.cell 6
  have y7 := hg16.cell 7
  have y8 := hg16.cell 8
  have y9 := hg16.cell 9
  have y10 := hg16.cell 10
  have x0 := hg16.frozen 0
  have x1 := hg16.frozen 1
  have x2 := hg16.frozen 2
  have x3 := hg16.frozen 3
  have x4 := hg16.frozen 4
  have x5 := hg16.frozen 5
  have x6 := hg16.frozen 6
  have x7 := hg16.frozen 7
  have x8 := hg16.frozen 8
  have x9 := hg16.frozen 9
  have x10 := hg16.frozen 10
  simp only [List.setIfInBounds_toArray, List.set_cons_succ, List.set_cons_zero, List.getElem?_toArray, List.getElem?_cons_zero, List.getElem?_cons_succ] at y0 y1 y2 y3 y4 y5 y6 y7 y8 y9 y10
  go_wp2_with fail
  refine (rerr_any _ g _ _ _ hR16).mono ?_
  rintro e w' ⟨rfl, rfl⟩
  go_wp2_with fail
  refine bodyPost_ret (v := .tuple #[.agg #[.int .u32 0, .int .i64 0, .int .u32 0, .int .i64 0, .int .u32 0, .int .u32 0, .int .i64 0, .int .i64 0, .int .i64 0, .int .i64 0, .slice none 0 0], .int .i64 2]) (by simp [results, Try.results23, go_sem, *]) rfl ⟨rfl, ?_⟩
  exact Below.setCell (Below.setCell (Below.setCell (Below.setCell (Below.setCell (Below.setCell (Below.setCell (Below.setCell (Below.setCell (Below.setCell (Below.setCell (HBW.out) (Nat.le_refl _) _) (Nat.le_refl _) _) (Nat.le_refl _) _) (Nat.le_refl _) _) (Nat.le_refl _) _) (Nat.le_refl _) _) (Nat.le_refl _) _) (Nat.le_refl _) _) (Nat.le_refl _) _) (Nat.le_refl _) _) (Nat.le_refl _) _
theorem decode_long (a b : Int) (A : Option Addr) (n c : Nat) (hm : 65515 < n) (w : World) :
    Calls Try.prog 23 #[.int .u32 a, .int .u32 b, .slice A n c] w fun e w' => e = .returned (.tuple #[.agg #[.int .u32 0, .int .i64 0, .int .u32 0, .int .i64 0, .int .u32 0, .int .u32 0, .int .i64 0, .int .i64 0, .int .i64 0, .int .i64 0, .slice none 0 0], .int .i64 5]) ∧ Below w.heap.size w w' := by
  go_enter Try.func23, Try.ntmps23
  go_wp2
  exact bodyPost_ret (v := .tuple #[.agg #[.int .u32 0, .int .i64 0, .int .u32 0, .int .i64 0, .int .u32 0, .int .u32 0, .int .i64 0, .int .i64 0, .int .i64 0, .int .i64 0, .slice none 0 0], .int .i64 5]) (by simp [results, Try.results23, go_sem]) rfl ⟨rfl, (Below.refl _ _).alloc (Nat.le_refl _) _⟩
/-- A segment as its bytes have it, with these options. -/
def decS (a b : Int) (l : List Int) (m k : Int) : Sg := ⟨a, rd2 l 0, b, rd2 l 2, rd4 l 4, rd4 l 8, at8 l 13 % 64, rd2 l 14, m, k⟩
/-- How long the bytes say that the header is. -/
def hdN (l : List Int) : Nat := (at8 l 12).toNat / 16 * 4
def optsOf (l : List Int) : List Int := (l.drop 20).take (hdN l - 20)
def dErr (a b : Int) (l : List Int) : Int :=
  if 65515 < l.length then 5 else if l.length < 20 then 2 else if hdN l < 20 then 3 else if l.length < hdN l then 2 else if segSum a b l ≠ 0 then 4
  else if parse (optsOf l) 0 0 (-1) = none then 3 else 0
set_option maxHeartbeats 8000000 in
set_option maxRecDepth 100000 in
theorem decode_bad0 (a b : Int) (ha : U32 a) (hb' : U32 b) (A : Option Addr) (n c B : Nat) (l : List Int) (hn : l.length = n) (h20 : 20 ≤ n) (hmax : n ≤ 65515) (hb : Bs l) (w : World) (hr : RB w B A l) (hB : B ≤ w.heap.size) (hbad : hdN l < 20) :
    Calls Try.prog 23 #[.int .u32 a, .int .u32 b, .slice A n c] w fun e w' => e = .returned (.tuple #[.agg #[.int .u32 0, .int .i64 0, .int .u32 0, .int .i64 0, .int .u32 0, .int .u32 0, .int .i64 0, .int .i64 0, .int .i64 0, .int .i64 0, .slice none 0 0], .int .i64 3]) ∧ Below w.heap.size w w' := by
  have HBAD := Lib.hid hbad
  clear hbad
  obtain ⟨w0, hw0⟩ : ∃ w0, w.alloc (.cells #[.int .u32 0, .int .i64 0, .int .u32 0, .int .i64 0, .int .u32 0, .int .u32 0, .int .i64 0, .int .i64 0, .int .i64 0, .int .i64 0, .slice none 0 0] 26) = w0 := ⟨_, rfl⟩
  have hB0 : Below w.heap.size w w0 := by rw [← hw0]; exact (Below.refl _ _).alloc (Nat.le_refl _) _
  have hg0 : Bk w0 w.heap.size 26 #[.int .u32 0, .int .i64 0, .int .u32 0, .int .i64 0, .int .u32 0, .int .u32 0, .int .i64 0, .int .i64 0, .int .i64 0, .int .i64 0, .slice none 0 0] := by rw [← hw0]; exact Bk.new w _ _
  have hr0 : RB w0 B A l := Rw.below hr (hB0.mono hB)
  have HW0 := Lib.hid hw0
  have HN := Lib.hid hn
  have z0 := hg0.lt
  clear hn hw0
  go_enter Try.func23, Try.ntmps23
  go_wp2_with fail
  rw [HW0.out]
  refine (newreader_any A n c B l HN.out (by omega) hb _ hr0 (by omega)).mono ?_
  rintro e w1 ⟨g, rfl, hR1, hB1⟩
  have hg1 := hg0.below hB1 z0
  have z1 := hB1.size
  have hge := hR1.ge
  have hBw1 : Below w.heap.size w w1 := hB0.trans (hB1.mono (Nat.le_of_lt z0))
  rw [show l = l.drop 0 from rfl] at hR1
  obtain ⟨w2, hw2⟩ : ∃ w2, w1.alloc (.cells #[.int .u32 a, .int .i64 0, .int .u32 b, .int .i64 0, .int .u32 0, .int .u32 0, .int .i64 0, .int .i64 0, .int .i64 0, .int .i64 (-1), .slice none 0 0] 26) = w2 := ⟨_, rfl⟩
  have hm2 : Bk w2 w1.heap.size 26 #[.int .u32 a, .int .i64 0, .int .u32 b, .int .i64 0, .int .u32 0, .int .u32 0, .int .i64 0, .int .i64 0, .int .i64 0, .int .i64 (-1), .slice none 0 0] := by rw [← hw2]; exact Bk.new w1 _ _
  have hB2 : Below w1.heap.size w1 w2 := by rw [← hw2]; exact (Below.refl _ _).alloc (Nat.le_refl _) _
  have hR2 := hR1.below hB2
  have hg2 := hg1.below hB2 (by omega)
  have z2 := hB2.size
  have hBw2 : Below w.heap.size w w2 := hBw1.trans (hB2.mono (by omega))
  have HW2 := Lib.hid hw2
  obtain ⟨gm, hgm⟩ : ∃ gm, w1.heap.size = gm := ⟨_, rfl⟩
  rw [hgm] at hm2
  have HGM := Lib.hid hgm
  have hmg : w.heap.size < gm := by omega
  clear hw2 hgm
  go_wp2_with fail
  rw [HW2.out, HGM.out]
  refine (two_at _ g l 0 (by rw [HN.out]; omega) _ hR2 (by have := hBw2.size; omega)).mono ?_
  rintro e w3 ⟨rfl, hR3, k3⟩
  have b3 := rd2_bd hb 0
  obtain ⟨v3, hv3⟩ : ∃ v, rd2 l 0 = v := ⟨_, rfl⟩
  rw [hv3] at b3 ⊢
  have HV3 := Lib.hid hv3
  clear hv3
  have hg3 := hg2.grown k3 (by intro e; injection e with e; omega)
  have hm3 := hm2.grown k3 (by intro e; injection e with e; exact hR2.ne hm2 (by decide) e.symm)
  have hBw3 := hBw2.grown k3 (by have := hBw2.size; omega) (by intro i e; injection e with e; omega)
  have z3 := k3.size
  go_wp2_with fail
  refine (two_at _ g l 2 (by rw [HN.out]; omega) _ hR3 (by have := hBw3.size; omega)).mono ?_
  rintro e w4 ⟨rfl, hR4, k4⟩
  have b4 := rd2_bd hb 2
  obtain ⟨v4, hv4⟩ : ∃ v, rd2 l 2 = v := ⟨_, rfl⟩
  rw [hv4] at b4 ⊢
  have HV4 := Lib.hid hv4
  clear hv4
  have hg4 := hg3.grown k4 (by intro e; injection e with e; omega)
  have hm4 := hm3.grown k4 (by intro e; injection e with e; exact hR3.ne hm3 (by decide) e.symm)
  have hBw4 := hBw3.grown k4 (by have := hBw3.size; omega) (by intro i e; injection e with e; omega)
  have z4 := k4.size
  have f5 := hm4.frozen 1
  have c5 : w4.cell? ⟨gm, 1, none⟩ = some (.int .i64 0) := hm4.cell 1
  obtain ⟨w5, hw5⟩ : ∃ w5, w4.setCell ⟨gm, 1, none⟩ (.int .i64 v3) = w5 := ⟨_, rfl⟩
  have hR5 : Rd w5 w0.heap.size g (l.drop 4) 0 := by rw [← hw5]; exact hR4.store hm4 (by decide) (by decide) (NoU8.of (by intro u hu x; simp only [List.mem_cons, List.not_mem_nil, or_false] at hu; rcases hu with rfl | rfl | rfl | rfl | rfl | rfl | rfl | rfl | rfl | rfl | rfl <;> simp)) 1 (.int .i64 v3)
  have hm5 : Bk w5 gm 26 #[.int .u32 a, .int .i64 v3, .int .u32 b, .int .i64 0, .int .u32 0, .int .u32 0, .int .i64 0, .int .i64 0, .int .i64 0, .int .i64 (-1), .slice none 0 0] := by rw [← hw5]; exact hm4.set 1 (.int .i64 v3)
  have hg5 : Bk w5 w.heap.size 26 #[.int .u32 0, .int .i64 0, .int .u32 0, .int .i64 0, .int .u32 0, .int .u32 0, .int .i64 0, .int .i64 0, .int .i64 0, .int .i64 0, .slice none 0 0] := by rw [← hw5]; exact hg4.far (p := ⟨gm, 1, none⟩) (show w.heap.size ≠ gm by omega) (.int .i64 v3)
  have hBw5 : Below w.heap.size w w5 := by rw [← hw5]; exact hBw4.setCell (p := ⟨gm, 1, none⟩) (show w.heap.size ≤ gm by omega) (.int .i64 v3)
  have z5 : w5.heap.size = w4.heap.size := by rw [← hw5]; simp [World.setCell]
  have HW5 := Lib.hid hw5
  clear hw5
  have f6 := hm4.frozen 3
  have c6 : w4.cell? ⟨gm, 3, none⟩ = some (.int .i64 0) := hm4.cell 3
  obtain ⟨w6, hw6⟩ : ∃ w6, w5.setCell ⟨gm, 3, none⟩ (.int .i64 v4) = w6 := ⟨_, rfl⟩
  have hR6 : Rd w6 w0.heap.size g (l.drop 4) 0 := by rw [← hw6]; exact hR5.store hm5 (by decide) (by decide) (NoU8.of (by intro u hu x; simp only [List.mem_cons, List.not_mem_nil, or_false] at hu; rcases hu with rfl | rfl | rfl | rfl | rfl | rfl | rfl | rfl | rfl | rfl | rfl <;> simp)) 3 (.int .i64 v4)
  have hm6 : Bk w6 gm 26 #[.int .u32 a, .int .i64 v3, .int .u32 b, .int .i64 v4, .int .u32 0, .int .u32 0, .int .i64 0, .int .i64 0, .int .i64 0, .int .i64 (-1), .slice none 0 0] := by rw [← hw6]; exact hm5.set 3 (.int .i64 v4)
  have hg6 : Bk w6 w.heap.size 26 #[.int .u32 0, .int .i64 0, .int .u32 0, .int .i64 0, .int .u32 0, .int .u32 0, .int .i64 0, .int .i64 0, .int .i64 0, .int .i64 0, .slice none 0 0] := by rw [← hw6]; exact hg5.far (p := ⟨gm, 3, none⟩) (show w.heap.size ≠ gm by omega) (.int .i64 v4)
  have hBw6 : Below w.heap.size w w6 := by rw [← hw6]; exact hBw5.setCell (p := ⟨gm, 3, none⟩) (show w.heap.size ≤ gm by omega) (.int .i64 v4)
  have z6 : w6.heap.size = w5.heap.size := by rw [← hw6]; simp [World.setCell]
  have HW6 := Lib.hid hw6
  clear hw6
  go_wp2_with fail
  rw [HW5.out, HW6.out]
  refine (four_at _ g l 4 (by rw [HN.out]; omega) _ hR6 (by have := hBw6.size; omega)).mono ?_
  rintro e w7 ⟨rfl, hR7, k7⟩
  have b7 := rd4_bd hb 4
  obtain ⟨v7, hv7⟩ : ∃ v, rd4 l 4 = v := ⟨_, rfl⟩
  rw [hv7] at b7 ⊢
  have HV7 := Lib.hid hv7
  clear hv7
  have hg7 := hg6.grown k7 (by intro e; injection e with e; omega)
  have hm7 := hm6.grown k7 (by intro e; injection e with e; exact hR6.ne hm6 (by decide) e.symm)
  have hBw7 := hBw6.grown k7 (by have := hBw6.size; omega) (by intro i e; injection e with e; omega)
  have z7 := k7.size
  go_wp2_with fail
  refine (four_at _ g l 8 (by rw [HN.out]; omega) _ hR7 (by have := hBw7.size; omega)).mono ?_
  rintro e w8 ⟨rfl, hR8, k8⟩
  have b8 := rd4_bd hb 8
  obtain ⟨v8, hv8⟩ : ∃ v, rd4 l 8 = v := ⟨_, rfl⟩
  rw [hv8] at b8 ⊢
  have HV8 := Lib.hid hv8
  clear hv8
  have hg8 := hg7.grown k8 (by intro e; injection e with e; omega)
  have hm8 := hm7.grown k8 (by intro e; injection e with e; exact hR7.ne hm7 (by decide) e.symm)
  have hBw8 := hBw7.grown k8 (by have := hBw7.size; omega) (by intro i e; injection e with e; omega)
  have z8 := k8.size
  have f9 := hm8.frozen 4
  have c9 : w8.cell? ⟨gm, 4, none⟩ = some (.int .u32 0) := hm8.cell 4
  obtain ⟨w9, hw9⟩ : ∃ w9, w8.setCell ⟨gm, 4, none⟩ (.int .u32 v7) = w9 := ⟨_, rfl⟩
  have hR9 : Rd w9 w0.heap.size g (l.drop 12) 0 := by rw [← hw9]; exact hR8.store hm8 (by decide) (by decide) (NoU8.of (by intro u hu x; simp only [List.mem_cons, List.not_mem_nil, or_false] at hu; rcases hu with rfl | rfl | rfl | rfl | rfl | rfl | rfl | rfl | rfl | rfl | rfl <;> simp)) 4 (.int .u32 v7)
  have hm9 : Bk w9 gm 26 #[.int .u32 a, .int .i64 v3, .int .u32 b, .int .i64 v4, .int .u32 v7, .int .u32 0, .int .i64 0, .int .i64 0, .int .i64 0, .int .i64 (-1), .slice none 0 0] := by rw [← hw9]; exact hm8.set 4 (.int .u32 v7)
  have hg9 : Bk w9 w.heap.size 26 #[.int .u32 0, .int .i64 0, .int .u32 0, .int .i64 0, .int .u32 0, .int .u32 0, .int .i64 0, .int .i64 0, .int .i64 0, .int .i64 0, .slice none 0 0] := by rw [← hw9]; exact hg8.far (p := ⟨gm, 4, none⟩) (show w.heap.size ≠ gm by omega) (.int .u32 v7)
  have hBw9 : Below w.heap.size w w9 := by rw [← hw9]; exact hBw8.setCell (p := ⟨gm, 4, none⟩) (show w.heap.size ≤ gm by omega) (.int .u32 v7)
  have z9 : w9.heap.size = w8.heap.size := by rw [← hw9]; simp [World.setCell]
  have HW9 := Lib.hid hw9
  clear hw9
  have f10 := hm8.frozen 5
  have c10 : w8.cell? ⟨gm, 5, none⟩ = some (.int .u32 0) := hm8.cell 5
  obtain ⟨w10, hw10⟩ : ∃ w10, w9.setCell ⟨gm, 5, none⟩ (.int .u32 v8) = w10 := ⟨_, rfl⟩
  have hR10 : Rd w10 w0.heap.size g (l.drop 12) 0 := by rw [← hw10]; exact hR9.store hm9 (by decide) (by decide) (NoU8.of (by intro u hu x; simp only [List.mem_cons, List.not_mem_nil, or_false] at hu; rcases hu with rfl | rfl | rfl | rfl | rfl | rfl | rfl | rfl | rfl | rfl | rfl <;> simp)) 5 (.int .u32 v8)
  have hm10 : Bk w10 gm 26 #[.int .u32 a, .int .i64 v3, .int .u32 b, .int .i64 v4, .int .u32 v7, .int .u32 v8, .int .i64 0, .int .i64 0, .int .i64 0, .int .i64 (-1), .slice none 0 0] := by rw [← hw10]; exact hm9.set 5 (.int .u32 v8)
  have hg10 : Bk w10 w.heap.size 26 #[.int .u32 0, .int .i64 0, .int .u32 0, .int .i64 0, .int .u32 0, .int .u32 0, .int .i64 0, .int .i64 0, .int .i64 0, .int .i64 0, .slice none 0 0] := by rw [← hw10]; exact hg9.far (p := ⟨gm, 5, none⟩) (show w.heap.size ≠ gm by omega) (.int .u32 v8)
  have hBw10 : Below w.heap.size w w10 := by rw [← hw10]; exact hBw9.setCell (p := ⟨gm, 5, none⟩) (show w.heap.size ≤ gm by omega) (.int .u32 v8)
  have z10 : w10.heap.size = w9.heap.size := by rw [← hw10]; simp [World.setCell]
  have HW10 := Lib.hid hw10
  clear hw10
  go_wp2_with fail
  rw [HW9.out, HW10.out]
  refine (byte_at _ g l 12 (by rw [HN.out]; omega) _ hR10 (by have := hBw10.size; omega)).mono ?_
  rintro e w11 ⟨rfl, hR11, k11⟩
  have b11 := at8_bd hb 12
  obtain ⟨v11, hv11⟩ : ∃ v, at8 l 12 = v := ⟨_, rfl⟩
  rw [hv11] at b11 ⊢
  have HV11 := Lib.hid hv11
  clear hv11
  have hg11 := hg10.grown k11 (by intro e; injection e with e; omega)
  have hm11 := hm10.grown k11 (by intro e; injection e with e; exact hR10.ne hm10 (by decide) e.symm)
  have hBw11 := hBw10.grown k11 (by have := hBw10.size; omega) (by intro i e; injection e with e; omega)
  have z11 := k11.size
  go_wp2_with fail
  refine (byte_at _ g l 13 (by rw [HN.out]; omega) _ hR11 (by have := hBw11.size; omega)).mono ?_
  rintro e w12 ⟨rfl, hR12, k12⟩
  have b12 := at8_bd hb 13
  obtain ⟨v12, hv12⟩ : ∃ v, at8 l 13 = v := ⟨_, rfl⟩
  rw [hv12] at b12 ⊢
  have HV12 := Lib.hid hv12
  clear hv12
  have hg12 := hg11.grown k12 (by intro e; injection e with e; omega)
  have hm12 := hm11.grown k12 (by intro e; injection e with e; exact hR11.ne hm11 (by decide) e.symm)
  have hBw12 := hBw11.grown k12 (by have := hBw11.size; omega) (by intro i e; injection e with e; omega)
  have z12 := k12.size
  have f13 := hm12.frozen 6
  have c13 : w12.cell? ⟨gm, 6, none⟩ = some (.int .i64 0) := hm12.cell 6
  obtain ⟨w13, hw13⟩ : ∃ w13, w12.setCell ⟨gm, 6, none⟩ (.int .i64 (v12 % 64)) = w13 := ⟨_, rfl⟩
  have hR13 : Rd w13 w0.heap.size g (l.drop 14) 0 := by rw [← hw13]; exact hR12.store hm12 (by decide) (by decide) (NoU8.of (by intro u hu x; simp only [List.mem_cons, List.not_mem_nil, or_false] at hu; rcases hu with rfl | rfl | rfl | rfl | rfl | rfl | rfl | rfl | rfl | rfl | rfl <;> simp)) 6 (.int .i64 (v12 % 64))
  have hm13 : Bk w13 gm 26 #[.int .u32 a, .int .i64 v3, .int .u32 b, .int .i64 v4, .int .u32 v7, .int .u32 v8, .int .i64 (v12 % 64), .int .i64 0, .int .i64 0, .int .i64 (-1), .slice none 0 0] := by rw [← hw13]; exact hm12.set 6 (.int .i64 (v12 % 64))
  have hg13 : Bk w13 w.heap.size 26 #[.int .u32 0, .int .i64 0, .int .u32 0, .int .i64 0, .int .u32 0, .int .u32 0, .int .i64 0, .int .i64 0, .int .i64 0, .int .i64 0, .slice none 0 0] := by rw [← hw13]; exact hg12.far (p := ⟨gm, 6, none⟩) (show w.heap.size ≠ gm by omega) (.int .i64 (v12 % 64))
  have hBw13 : Below w.heap.size w w13 := by rw [← hw13]; exact hBw12.setCell (p := ⟨gm, 6, none⟩) (show w.heap.size ≤ gm by omega) (.int .i64 (v12 % 64))
  have z13 : w13.heap.size = w12.heap.size := by rw [← hw13]; simp [World.setCell]
  have HW13 := Lib.hid hw13
  clear hw13
  go_wp2_with fail
  rw [HW13.out]
  refine (two_at _ g l 14 (by rw [HN.out]; omega) _ hR13 (by have := hBw13.size; omega)).mono ?_
  rintro e w14 ⟨rfl, hR14, k14⟩
  have b14 := rd2_bd hb 14
  obtain ⟨v14, hv14⟩ : ∃ v, rd2 l 14 = v := ⟨_, rfl⟩
  rw [hv14] at b14 ⊢
  have HV14 := Lib.hid hv14
  clear hv14
  have hg14 := hg13.grown k14 (by intro e; injection e with e; omega)
  have hm14 := hm13.grown k14 (by intro e; injection e with e; exact hR13.ne hm13 (by decide) e.symm)
  have hBw14 := hBw13.grown k14 (by have := hBw13.size; omega) (by intro i e; injection e with e; omega)
  have z14 := k14.size
  have f15 := hm14.frozen 7
  have c15 : w14.cell? ⟨gm, 7, none⟩ = some (.int .i64 0) := hm14.cell 7
  obtain ⟨w15, hw15⟩ : ∃ w15, w14.setCell ⟨gm, 7, none⟩ (.int .i64 v14) = w15 := ⟨_, rfl⟩
  have hR15 : Rd w15 w0.heap.size g (l.drop 16) 0 := by rw [← hw15]; exact hR14.store hm14 (by decide) (by decide) (NoU8.of (by intro u hu x; simp only [List.mem_cons, List.not_mem_nil, or_false] at hu; rcases hu with rfl | rfl | rfl | rfl | rfl | rfl | rfl | rfl | rfl | rfl | rfl <;> simp)) 7 (.int .i64 v14)
  have hm15 : Bk w15 gm 26 #[.int .u32 a, .int .i64 v3, .int .u32 b, .int .i64 v4, .int .u32 v7, .int .u32 v8, .int .i64 (v12 % 64), .int .i64 v14, .int .i64 0, .int .i64 (-1), .slice none 0 0] := by rw [← hw15]; exact hm14.set 7 (.int .i64 v14)
  have hg15 : Bk w15 w.heap.size 26 #[.int .u32 0, .int .i64 0, .int .u32 0, .int .i64 0, .int .u32 0, .int .u32 0, .int .i64 0, .int .i64 0, .int .i64 0, .int .i64 0, .slice none 0 0] := by rw [← hw15]; exact hg14.far (p := ⟨gm, 7, none⟩) (show w.heap.size ≠ gm by omega) (.int .i64 v14)
  have hBw15 : Below w.heap.size w w15 := by rw [← hw15]; exact hBw14.setCell (p := ⟨gm, 7, none⟩) (show w.heap.size ≤ gm by omega) (.int .i64 v14)
  have z15 : w15.heap.size = w14.heap.size := by rw [← hw15]; simp [World.setCell]
  have HW15 := Lib.hid hw15
  clear hw15
  go_wp2_with fail
  rw [HW15.out]
  refine (four_at _ g l 16 (by rw [HN.out]; omega) _ hR15 (by have := hBw15.size; omega)).mono ?_
  rintro e w16 ⟨rfl, hR16, k16⟩
  have b16 := rd4_bd hb 16
  obtain ⟨v16, hv16⟩ : ∃ v, rd4 l 16 = v := ⟨_, rfl⟩
  rw [hv16] at b16 ⊢
  have HV16 := Lib.hid hv16
  clear hv16
  have hg16 := hg15.grown k16 (by intro e; injection e with e; omega)
  have hm16 := hm15.grown k16 (by intro e; injection e with e; exact hR15.ne hm15 (by decide) e.symm)
  have hBw16 := hBw15.grown k16 (by have := hBw15.size; omega) (by intro i e; injection e with e; omega)
  have z16 := k16.size
  have HBW := Lib.hid hBw16
  go_wp2_with fail
  refine (rerr_any _ g _ _ _ hR16).mono ?_
  rintro e w' ⟨rfl, rfl⟩
  have hh : hdN l = v11.toNat / 16 * 4 := by unfold hdN; rw [HV11.out]
  have hbad := HBAD.out
  have hneg : v11 / 16 * 4 - 20 < 0 := by omega
  clear hh hbad
  have y0 := hg16.cell 0
  have y1 := hg16.cell 1
  have y2 := hg16.cell 2
  have y3 := hg16.cell 3
  have y4 := hg16.cell 4
  have y5 := hg16.cell 5
  have y6 := hg16.cell 6
  have y7 := hg16.cell 7
  have y8 := hg16.cell 8
  have y9 := hg16.cell 9
  have y10 := hg16.cell 10
  have x0 := hg16.frozen 0
  have x1 := hg16.frozen 1
  have x2 := hg16.frozen 2
  have x3 := hg16.frozen 3
  have x4 := hg16.frozen 4
  have x5 := hg16.frozen 5
  have x6 := hg16.frozen 6
  have x7 := hg16.frozen 7
  have x8 := hg16.frozen 8
  have x9 := hg16.frozen 9
  have x10 := hg16.frozen 10
  simp only [List.setIfInBounds_toArray, List.set_cons_succ, List.set_cons_zero, List.getElem?_toArray, List.getElem?_cons_zero, List.getElem?_cons_succ] at y0 y1 y2 y3 y4 y5 y6 y7 y8 y9 y10
  go_wp2_with fail
  refine bodyPost_ret (v := .tuple #[.agg #[.int .u32 0, .int .i64 0, .int .u32 0, .int .i64 0, .int .u32 0, .int .u32 0, .int .i64 0, .int .i64 0, .int .i64 0, .int .i64 0, .slice none 0 0], .int .i64 3]) (by simp [results, Try.results23, go_sem, *]) rfl ⟨rfl, ?_⟩
  exact Below.setCell (Below.setCell (Below.setCell (Below.setCell (Below.setCell (Below.setCell (Below.setCell (Below.setCell (Below.setCell (Below.setCell (Below.setCell (HBW.out) (Nat.le_refl _) _) (Nat.le_refl _) _) (Nat.le_refl _) _) (Nat.le_refl _) _) (Nat.le_refl _) _) (Nat.le_refl _) _) (Nat.le_refl _) _) (Nat.le_refl _) _) (Nat.le_refl _) _) (Nat.le_refl _) _) (Nat.le_refl _) _
set_option maxHeartbeats 8000000 in
set_option maxRecDepth 100000 in
theorem decode_bad1 (a b : Int) (ha : U32 a) (hb' : U32 b) (A : Option Addr) (n c B : Nat) (l : List Int) (hn : l.length = n) (h20 : 20 ≤ n) (hmax : n ≤ 65515) (hb : Bs l) (w : World) (hr : RB w B A l) (hB : B ≤ w.heap.size) (hbad : 20 ≤ hdN l ∧ n < hdN l) :
    Calls Try.prog 23 #[.int .u32 a, .int .u32 b, .slice A n c] w fun e w' => e = .returned (.tuple #[.agg #[.int .u32 0, .int .i64 0, .int .u32 0, .int .i64 0, .int .u32 0, .int .u32 0, .int .i64 0, .int .i64 0, .int .i64 0, .int .i64 0, .slice none 0 0], .int .i64 2]) ∧ Below w.heap.size w w' := by
  have HBAD := Lib.hid hbad
  clear hbad
  obtain ⟨w0, hw0⟩ : ∃ w0, w.alloc (.cells #[.int .u32 0, .int .i64 0, .int .u32 0, .int .i64 0, .int .u32 0, .int .u32 0, .int .i64 0, .int .i64 0, .int .i64 0, .int .i64 0, .slice none 0 0] 26) = w0 := ⟨_, rfl⟩
  have hB0 : Below w.heap.size w w0 := by rw [← hw0]; exact (Below.refl _ _).alloc (Nat.le_refl _) _
  have hg0 : Bk w0 w.heap.size 26 #[.int .u32 0, .int .i64 0, .int .u32 0, .int .i64 0, .int .u32 0, .int .u32 0, .int .i64 0, .int .i64 0, .int .i64 0, .int .i64 0, .slice none 0 0] := by rw [← hw0]; exact Bk.new w _ _
  have hr0 : RB w0 B A l := Rw.below hr (hB0.mono hB)
  have HW0 := Lib.hid hw0
  have HN := Lib.hid hn
  have z0 := hg0.lt
  clear hn hw0
  go_enter Try.func23, Try.ntmps23
  go_wp2_with fail
  rw [HW0.out]
  refine (newreader_any A n c B l HN.out (by omega) hb _ hr0 (by omega)).mono ?_
  rintro e w1 ⟨g, rfl, hR1, hB1⟩
  have hg1 := hg0.below hB1 z0
  have z1 := hB1.size
  have hge := hR1.ge
  have hBw1 : Below w.heap.size w w1 := hB0.trans (hB1.mono (Nat.le_of_lt z0))
  rw [show l = l.drop 0 from rfl] at hR1
  obtain ⟨w2, hw2⟩ : ∃ w2, w1.alloc (.cells #[.int .u32 a, .int .i64 0, .int .u32 b, .int .i64 0, .int .u32 0, .int .u32 0, .int .i64 0, .int .i64 0, .int .i64 0, .int .i64 (-1), .slice none 0 0] 26) = w2 := ⟨_, rfl⟩
  have hm2 : Bk w2 w1.heap.size 26 #[.int .u32 a, .int .i64 0, .int .u32 b, .int .i64 0, .int .u32 0, .int .u32 0, .int .i64 0, .int .i64 0, .int .i64 0, .int .i64 (-1), .slice none 0 0] := by rw [← hw2]; exact Bk.new w1 _ _
  have hB2 : Below w1.heap.size w1 w2 := by rw [← hw2]; exact (Below.refl _ _).alloc (Nat.le_refl _) _
  have hR2 := hR1.below hB2
  have hg2 := hg1.below hB2 (by omega)
  have z2 := hB2.size
  have hBw2 : Below w.heap.size w w2 := hBw1.trans (hB2.mono (by omega))
  have HW2 := Lib.hid hw2
  obtain ⟨gm, hgm⟩ : ∃ gm, w1.heap.size = gm := ⟨_, rfl⟩
  rw [hgm] at hm2
  have HGM := Lib.hid hgm
  have hmg : w.heap.size < gm := by omega
  clear hw2 hgm
  go_wp2_with fail
  rw [HW2.out, HGM.out]
  refine (two_at _ g l 0 (by rw [HN.out]; omega) _ hR2 (by have := hBw2.size; omega)).mono ?_
  rintro e w3 ⟨rfl, hR3, k3⟩
  have b3 := rd2_bd hb 0
  obtain ⟨v3, hv3⟩ : ∃ v, rd2 l 0 = v := ⟨_, rfl⟩
  rw [hv3] at b3 ⊢
  have HV3 := Lib.hid hv3
  clear hv3
  have hg3 := hg2.grown k3 (by intro e; injection e with e; omega)
  have hm3 := hm2.grown k3 (by intro e; injection e with e; exact hR2.ne hm2 (by decide) e.symm)
  have hBw3 := hBw2.grown k3 (by have := hBw2.size; omega) (by intro i e; injection e with e; omega)
  have z3 := k3.size
  go_wp2_with fail
  refine (two_at _ g l 2 (by rw [HN.out]; omega) _ hR3 (by have := hBw3.size; omega)).mono ?_
  rintro e w4 ⟨rfl, hR4, k4⟩
  have b4 := rd2_bd hb 2
  obtain ⟨v4, hv4⟩ : ∃ v, rd2 l 2 = v := ⟨_, rfl⟩
  rw [hv4] at b4 ⊢
  have HV4 := Lib.hid hv4
  clear hv4
  have hg4 := hg3.grown k4 (by intro e; injection e with e; omega)
  have hm4 := hm3.grown k4 (by intro e; injection e with e; exact hR3.ne hm3 (by decide) e.symm)
  have hBw4 := hBw3.grown k4 (by have := hBw3.size; omega) (by intro i e; injection e with e; omega)
  have z4 := k4.size
  have f5 := hm4.frozen 1
  have c5 : w4.cell? ⟨gm, 1, none⟩ = some (.int .i64 0) := hm4.cell 1
  obtain ⟨w5, hw5⟩ : ∃ w5, w4.setCell ⟨gm, 1, none⟩ (.int .i64 v3) = w5 := ⟨_, rfl⟩
  have hR5 : Rd w5 w0.heap.size g (l.drop 4) 0 := by rw [← hw5]; exact hR4.store hm4 (by decide) (by decide) (NoU8.of (by intro u hu x; simp only [List.mem_cons, List.not_mem_nil, or_false] at hu; rcases hu with rfl | rfl | rfl | rfl | rfl | rfl | rfl | rfl | rfl | rfl | rfl <;> simp)) 1 (.int .i64 v3)
  have hm5 : Bk w5 gm 26 #[.int .u32 a, .int .i64 v3, .int .u32 b, .int .i64 0, .int .u32 0, .int .u32 0, .int .i64 0, .int .i64 0, .int .i64 0, .int .i64 (-1), .slice none 0 0] := by rw [← hw5]; exact hm4.set 1 (.int .i64 v3)
  have hg5 : Bk w5 w.heap.size 26 #[.int .u32 0, .int .i64 0, .int .u32 0, .int .i64 0, .int .u32 0, .int .u32 0, .int .i64 0, .int .i64 0, .int .i64 0, .int .i64 0, .slice none 0 0] := by rw [← hw5]; exact hg4.far (p := ⟨gm, 1, none⟩) (show w.heap.size ≠ gm by omega) (.int .i64 v3)
  have hBw5 : Below w.heap.size w w5 := by rw [← hw5]; exact hBw4.setCell (p := ⟨gm, 1, none⟩) (show w.heap.size ≤ gm by omega) (.int .i64 v3)
  have z5 : w5.heap.size = w4.heap.size := by rw [← hw5]; simp [World.setCell]
  have HW5 := Lib.hid hw5
  clear hw5
  have f6 := hm4.frozen 3
  have c6 : w4.cell? ⟨gm, 3, none⟩ = some (.int .i64 0) := hm4.cell 3
  obtain ⟨w6, hw6⟩ : ∃ w6, w5.setCell ⟨gm, 3, none⟩ (.int .i64 v4) = w6 := ⟨_, rfl⟩
  have hR6 : Rd w6 w0.heap.size g (l.drop 4) 0 := by rw [← hw6]; exact hR5.store hm5 (by decide) (by decide) (NoU8.of (by intro u hu x; simp only [List.mem_cons, List.not_mem_nil, or_false] at hu; rcases hu with rfl | rfl | rfl | rfl | rfl | rfl | rfl | rfl | rfl | rfl | rfl <;> simp)) 3 (.int .i64 v4)
  have hm6 : Bk w6 gm 26 #[.int .u32 a, .int .i64 v3, .int .u32 b, .int .i64 v4, .int .u32 0, .int .u32 0, .int .i64 0, .int .i64 0, .int .i64 0, .int .i64 (-1), .slice none 0 0] := by rw [← hw6]; exact hm5.set 3 (.int .i64 v4)
  have hg6 : Bk w6 w.heap.size 26 #[.int .u32 0, .int .i64 0, .int .u32 0, .int .i64 0, .int .u32 0, .int .u32 0, .int .i64 0, .int .i64 0, .int .i64 0, .int .i64 0, .slice none 0 0] := by rw [← hw6]; exact hg5.far (p := ⟨gm, 3, none⟩) (show w.heap.size ≠ gm by omega) (.int .i64 v4)
  have hBw6 : Below w.heap.size w w6 := by rw [← hw6]; exact hBw5.setCell (p := ⟨gm, 3, none⟩) (show w.heap.size ≤ gm by omega) (.int .i64 v4)
  have z6 : w6.heap.size = w5.heap.size := by rw [← hw6]; simp [World.setCell]
  have HW6 := Lib.hid hw6
  clear hw6
  go_wp2_with fail
  rw [HW5.out, HW6.out]
  refine (four_at _ g l 4 (by rw [HN.out]; omega) _ hR6 (by have := hBw6.size; omega)).mono ?_
  rintro e w7 ⟨rfl, hR7, k7⟩
  have b7 := rd4_bd hb 4
  obtain ⟨v7, hv7⟩ : ∃ v, rd4 l 4 = v := ⟨_, rfl⟩
  rw [hv7] at b7 ⊢
  have HV7 := Lib.hid hv7
  clear hv7
  have hg7 := hg6.grown k7 (by intro e; injection e with e; omega)
  have hm7 := hm6.grown k7 (by intro e; injection e with e; exact hR6.ne hm6 (by decide) e.symm)
  have hBw7 := hBw6.grown k7 (by have := hBw6.size; omega) (by intro i e; injection e with e; omega)
  have z7 := k7.size
  go_wp2_with fail
  refine (four_at _ g l 8 (by rw [HN.out]; omega) _ hR7 (by have := hBw7.size; omega)).mono ?_
  rintro e w8 ⟨rfl, hR8, k8⟩
  have b8 := rd4_bd hb 8
  obtain ⟨v8, hv8⟩ : ∃ v, rd4 l 8 = v := ⟨_, rfl⟩
  rw [hv8] at b8 ⊢
  have HV8 := Lib.hid hv8
  clear hv8
  have hg8 := hg7.grown k8 (by intro e; injection e with e; omega)
  have hm8 := hm7.grown k8 (by intro e; injection e with e; exact hR7.ne hm7 (by decide) e.symm)
  have hBw8 := hBw7.grown k8 (by have := hBw7.size; omega) (by intro i e; injection e with e; omega)
  have z8 := k8.size
  have f9 := hm8.frozen 4
  have c9 : w8.cell? ⟨gm, 4, none⟩ = some (.int .u32 0) := hm8.cell 4
  obtain ⟨w9, hw9⟩ : ∃ w9, w8.setCell ⟨gm, 4, none⟩ (.int .u32 v7) = w9 := ⟨_, rfl⟩
  have hR9 : Rd w9 w0.heap.size g (l.drop 12) 0 := by rw [← hw9]; exact hR8.store hm8 (by decide) (by decide) (NoU8.of (by intro u hu x; simp only [List.mem_cons, List.not_mem_nil, or_false] at hu; rcases hu with rfl | rfl | rfl | rfl | rfl | rfl | rfl | rfl | rfl | rfl | rfl <;> simp)) 4 (.int .u32 v7)
  have hm9 : Bk w9 gm 26 #[.int .u32 a, .int .i64 v3, .int .u32 b, .int .i64 v4, .int .u32 v7, .int .u32 0, .int .i64 0, .int .i64 0, .int .i64 0, .int .i64 (-1), .slice none 0 0] := by rw [← hw9]; exact hm8.set 4 (.int .u32 v7)
  have hg9 : Bk w9 w.heap.size 26 #[.int .u32 0, .int .i64 0, .int .u32 0, .int .i64 0, .int .u32 0, .int .u32 0, .int .i64 0, .int .i64 0, .int .i64 0, .int .i64 0, .slice none 0 0] := by rw [← hw9]; exact hg8.far (p := ⟨gm, 4, none⟩) (show w.heap.size ≠ gm by omega) (.int .u32 v7)
  have hBw9 : Below w.heap.size w w9 := by rw [← hw9]; exact hBw8.setCell (p := ⟨gm, 4, none⟩) (show w.heap.size ≤ gm by omega) (.int .u32 v7)
  have z9 : w9.heap.size = w8.heap.size := by rw [← hw9]; simp [World.setCell]
  have HW9 := Lib.hid hw9
  clear hw9
  have f10 := hm8.frozen 5
  have c10 : w8.cell? ⟨gm, 5, none⟩ = some (.int .u32 0) := hm8.cell 5
  obtain ⟨w10, hw10⟩ : ∃ w10, w9.setCell ⟨gm, 5, none⟩ (.int .u32 v8) = w10 := ⟨_, rfl⟩
  have hR10 : Rd w10 w0.heap.size g (l.drop 12) 0 := by rw [← hw10]; exact hR9.store hm9 (by decide) (by decide) (NoU8.of (by intro u hu x; simp only [List.mem_cons, List.not_mem_nil, or_false] at hu; rcases hu with rfl | rfl | rfl | rfl | rfl | rfl | rfl | rfl | rfl | rfl | rfl <;> simp)) 5 (.int .u32 v8)
  have hm10 : Bk w10 gm 26 #[.int .u32 a, .int .i64 v3, .int .u32 b, .int .i64 v4, .int .u32 v7, .int .u32 v8, .int .i64 0, .int .i64 0, .int .i64 0, .int .i64 (-1), .slice none 0 0] := by rw [← hw10]; exact hm9.set 5 (.int .u32 v8)
  have hg10 : Bk w10 w.heap.size 26 #[.int .u32 0, .int .i64 0, .int .u32 0, .int .i64 0, .int .u32 0, .int .u32 0, .int .i64 0, .int .i64 0, .int .i64 0, .int .i64 0, .slice none 0 0] := by rw [← hw10]; exact hg9.far (p := ⟨gm, 5, none⟩) (show w.heap.size ≠ gm by omega) (.int .u32 v8)
  have hBw10 : Below w.heap.size w w10 := by rw [← hw10]; exact hBw9.setCell (p := ⟨gm, 5, none⟩) (show w.heap.size ≤ gm by omega) (.int .u32 v8)
  have z10 : w10.heap.size = w9.heap.size := by rw [← hw10]; simp [World.setCell]
  have HW10 := Lib.hid hw10
  clear hw10
  go_wp2_with fail
  rw [HW9.out, HW10.out]
  refine (byte_at _ g l 12 (by rw [HN.out]; omega) _ hR10 (by have := hBw10.size; omega)).mono ?_
  rintro e w11 ⟨rfl, hR11, k11⟩
  have b11 := at8_bd hb 12
  obtain ⟨v11, hv11⟩ : ∃ v, at8 l 12 = v := ⟨_, rfl⟩
  rw [hv11] at b11 ⊢
  have HV11 := Lib.hid hv11
  clear hv11
  have hg11 := hg10.grown k11 (by intro e; injection e with e; omega)
  have hm11 := hm10.grown k11 (by intro e; injection e with e; exact hR10.ne hm10 (by decide) e.symm)
  have hBw11 := hBw10.grown k11 (by have := hBw10.size; omega) (by intro i e; injection e with e; omega)
  have z11 := k11.size
  go_wp2_with fail
  refine (byte_at _ g l 13 (by rw [HN.out]; omega) _ hR11 (by have := hBw11.size; omega)).mono ?_
  rintro e w12 ⟨rfl, hR12, k12⟩
  have b12 := at8_bd hb 13
  obtain ⟨v12, hv12⟩ : ∃ v, at8 l 13 = v := ⟨_, rfl⟩
  rw [hv12] at b12 ⊢
  have HV12 := Lib.hid hv12
  clear hv12
  have hg12 := hg11.grown k12 (by intro e; injection e with e; omega)
  have hm12 := hm11.grown k12 (by intro e; injection e with e; exact hR11.ne hm11 (by decide) e.symm)
  have hBw12 := hBw11.grown k12 (by have := hBw11.size; omega) (by intro i e; injection e with e; omega)
  have z12 := k12.size
  have f13 := hm12.frozen 6
  have c13 : w12.cell? ⟨gm, 6, none⟩ = some (.int .i64 0) := hm12.cell 6
  obtain ⟨w13, hw13⟩ : ∃ w13, w12.setCell ⟨gm, 6, none⟩ (.int .i64 (v12 % 64)) = w13 := ⟨_, rfl⟩
  have hR13 : Rd w13 w0.heap.size g (l.drop 14) 0 := by rw [← hw13]; exact hR12.store hm12 (by decide) (by decide) (NoU8.of (by intro u hu x; simp only [List.mem_cons, List.not_mem_nil, or_false] at hu; rcases hu with rfl | rfl | rfl | rfl | rfl | rfl | rfl | rfl | rfl | rfl | rfl <;> simp)) 6 (.int .i64 (v12 % 64))
  have hm13 : Bk w13 gm 26 #[.int .u32 a, .int .i64 v3, .int .u32 b, .int .i64 v4, .int .u32 v7, .int .u32 v8, .int .i64 (v12 % 64), .int .i64 0, .int .i64 0, .int .i64 (-1), .slice none 0 0] := by rw [← hw13]; exact hm12.set 6 (.int .i64 (v12 % 64))
  have hg13 : Bk w13 w.heap.size 26 #[.int .u32 0, .int .i64 0, .int .u32 0, .int .i64 0, .int .u32 0, .int .u32 0, .int .i64 0, .int .i64 0, .int .i64 0, .int .i64 0, .slice none 0 0] := by rw [← hw13]; exact hg12.far (p := ⟨gm, 6, none⟩) (show w.heap.size ≠ gm by omega) (.int .i64 (v12 % 64))
  have hBw13 : Below w.heap.size w w13 := by rw [← hw13]; exact hBw12.setCell (p := ⟨gm, 6, none⟩) (show w.heap.size ≤ gm by omega) (.int .i64 (v12 % 64))
  have z13 : w13.heap.size = w12.heap.size := by rw [← hw13]; simp [World.setCell]
  have HW13 := Lib.hid hw13
  clear hw13
  go_wp2_with fail
  rw [HW13.out]
  refine (two_at _ g l 14 (by rw [HN.out]; omega) _ hR13 (by have := hBw13.size; omega)).mono ?_
  rintro e w14 ⟨rfl, hR14, k14⟩
  have b14 := rd2_bd hb 14
  obtain ⟨v14, hv14⟩ : ∃ v, rd2 l 14 = v := ⟨_, rfl⟩
  rw [hv14] at b14 ⊢
  have HV14 := Lib.hid hv14
  clear hv14
  have hg14 := hg13.grown k14 (by intro e; injection e with e; omega)
  have hm14 := hm13.grown k14 (by intro e; injection e with e; exact hR13.ne hm13 (by decide) e.symm)
  have hBw14 := hBw13.grown k14 (by have := hBw13.size; omega) (by intro i e; injection e with e; omega)
  have z14 := k14.size
  have f15 := hm14.frozen 7
  have c15 : w14.cell? ⟨gm, 7, none⟩ = some (.int .i64 0) := hm14.cell 7
  obtain ⟨w15, hw15⟩ : ∃ w15, w14.setCell ⟨gm, 7, none⟩ (.int .i64 v14) = w15 := ⟨_, rfl⟩
  have hR15 : Rd w15 w0.heap.size g (l.drop 16) 0 := by rw [← hw15]; exact hR14.store hm14 (by decide) (by decide) (NoU8.of (by intro u hu x; simp only [List.mem_cons, List.not_mem_nil, or_false] at hu; rcases hu with rfl | rfl | rfl | rfl | rfl | rfl | rfl | rfl | rfl | rfl | rfl <;> simp)) 7 (.int .i64 v14)
  have hm15 : Bk w15 gm 26 #[.int .u32 a, .int .i64 v3, .int .u32 b, .int .i64 v4, .int .u32 v7, .int .u32 v8, .int .i64 (v12 % 64), .int .i64 v14, .int .i64 0, .int .i64 (-1), .slice none 0 0] := by rw [← hw15]; exact hm14.set 7 (.int .i64 v14)
  have hg15 : Bk w15 w.heap.size 26 #[.int .u32 0, .int .i64 0, .int .u32 0, .int .i64 0, .int .u32 0, .int .u32 0, .int .i64 0, .int .i64 0, .int .i64 0, .int .i64 0, .slice none 0 0] := by rw [← hw15]; exact hg14.far (p := ⟨gm, 7, none⟩) (show w.heap.size ≠ gm by omega) (.int .i64 v14)
  have hBw15 : Below w.heap.size w w15 := by rw [← hw15]; exact hBw14.setCell (p := ⟨gm, 7, none⟩) (show w.heap.size ≤ gm by omega) (.int .i64 v14)
  have z15 : w15.heap.size = w14.heap.size := by rw [← hw15]; simp [World.setCell]
  have HW15 := Lib.hid hw15
  clear hw15
  go_wp2_with fail
  rw [HW15.out]
  refine (four_at _ g l 16 (by rw [HN.out]; omega) _ hR15 (by have := hBw15.size; omega)).mono ?_
  rintro e w16 ⟨rfl, hR16, k16⟩
  have b16 := rd4_bd hb 16
  obtain ⟨v16, hv16⟩ : ∃ v, rd4 l 16 = v := ⟨_, rfl⟩
  rw [hv16] at b16 ⊢
  have HV16 := Lib.hid hv16
  clear hv16
  have hg16 := hg15.grown k16 (by intro e; injection e with e; omega)
  have hm16 := hm15.grown k16 (by intro e; injection e with e; exact hR15.ne hm15 (by decide) e.symm)
  have hBw16 := hBw15.grown k16 (by have := hBw15.size; omega) (by intro i e; injection e with e; omega)
  have z16 := k16.size
  have HBW := Lib.hid hBw16
  go_wp2_with fail
  refine (rerr_any _ g _ _ _ hR16).mono ?_
  rintro e w' ⟨rfl, rfl⟩
  have hh : hdN l = v11.toNat / 16 * 4 := by unfold hdN; rw [HV11.out]
  have hbad := HBAD.out
  have hpos : 0 ≤ v11 / 16 * 4 - 20 := by have := hbad.1; omega
  have hov : ((l.drop 20).length : Int) < v11 / 16 * 4 - 20 := by rw [List.length_drop, HN.out]; have := hbad.2; omega
  clear hbad
  go_wp2_with fail
  refine (raw_over _ _ g (l.drop 20) hov (by rw [List.length_drop, HN.out]; omega) _ hR16 (by have := hBw16.size; omega)).mono ?_
  rintro e w30 ⟨A30, n30, c30, rfl, hR30, k30⟩
  have hg30 := hg16.grown k30 (by intro e; injection e with e; omega)
  have hBw30 := hBw16.grown k30 (by have := hBw16.size; omega) (by intro i e; injection e with e; omega)
  have HBW30 := Lib.hid hBw30
  go_wp2_with fail
  refine (rerr_any _ g _ _ _ hR30).mono ?_
  rintro e w' ⟨rfl, rfl⟩
  clear hh hov
  have y0 := hg30.cell 0
  have y1 := hg30.cell 1
  have y2 := hg30.cell 2
  have y3 := hg30.cell 3
  have y4 := hg30.cell 4
  have y5 := hg30.cell 5
  have y6 := hg30.cell 6
  have y7 := hg30.cell 7
  have y8 := hg30.cell 8
  have y9 := hg30.cell 9
  have y10 := hg30.cell 10
  have x0 := hg30.frozen 0
  have x1 := hg30.frozen 1
  have x2 := hg30.frozen 2
  have x3 := hg30.frozen 3
  have x4 := hg30.frozen 4
  have x5 := hg30.frozen 5
  have x6 := hg30.frozen 6
  have x7 := hg30.frozen 7
  have x8 := hg30.frozen 8
  have x9 := hg30.frozen 9
  have x10 := hg30.frozen 10
  simp only [List.setIfInBounds_toArray, List.set_cons_succ, List.set_cons_zero, List.getElem?_toArray, List.getElem?_cons_zero, List.getElem?_cons_succ] at y0 y1 y2 y3 y4 y5 y6 y7 y8 y9 y10
  go_wp2_with fail
  refine (rerr_any _ g _ _ _ hR30).mono ?_
  rintro e w' ⟨rfl, rfl⟩
  go_wp2_with fail
  refine bodyPost_ret (v := .tuple #[.agg #[.int .u32 0, .int .i64 0, .int .u32 0, .int .i64 0, .int .u32 0, .int .u32 0, .int .i64 0, .int .i64 0, .int .i64 0, .int .i64 0, .slice none 0 0], .int .i64 2]) (by simp [results, Try.results23, go_sem, *]) rfl ⟨rfl, ?_⟩
  exact Below.setCell (Below.setCell (Below.setCell (Below.setCell (Below.setCell (Below.setCell (Below.setCell (Below.setCell (Below.setCell (Below.setCell (Below.setCell (HBW30.out) (Nat.le_refl _) _) (Nat.le_refl _) _) (Nat.le_refl _) _) (Nat.le_refl _) _) (Nat.le_refl _) _) (Nat.le_refl _) _) (Nat.le_refl _) _) (Nat.le_refl _) _) (Nat.le_refl _) _) (Nat.le_refl _) _) (Nat.le_refl _) _
set_option maxHeartbeats 8000000 in
set_option maxRecDepth 100000 in
theorem decode_bad2 (a b : Int) (ha : U32 a) (hb' : U32 b) (A : Option Addr) (n c B : Nat) (l : List Int) (hn : l.length = n) (h20 : 20 ≤ n) (hmax : n ≤ 65515) (hb : Bs l) (w : World) (hr : RB w B A l) (hB : B ≤ w.heap.size) (hbad : 20 ≤ hdN l ∧ hdN l ≤ n ∧ segSum a b l ≠ 0) :
    Calls Try.prog 23 #[.int .u32 a, .int .u32 b, .slice A n c] w fun e w' => e = .returned (.tuple #[.agg #[.int .u32 0, .int .i64 0, .int .u32 0, .int .i64 0, .int .u32 0, .int .u32 0, .int .i64 0, .int .i64 0, .int .i64 0, .int .i64 0, .slice none 0 0], .int .i64 4]) ∧ Below w.heap.size w w' := by
  have HBAD := Lib.hid hbad
  clear hbad
  obtain ⟨w0, hw0⟩ : ∃ w0, w.alloc (.cells #[.int .u32 0, .int .i64 0, .int .u32 0, .int .i64 0, .int .u32 0, .int .u32 0, .int .i64 0, .int .i64 0, .int .i64 0, .int .i64 0, .slice none 0 0] 26) = w0 := ⟨_, rfl⟩
  have hB0 : Below w.heap.size w w0 := by rw [← hw0]; exact (Below.refl _ _).alloc (Nat.le_refl _) _
  have hg0 : Bk w0 w.heap.size 26 #[.int .u32 0, .int .i64 0, .int .u32 0, .int .i64 0, .int .u32 0, .int .u32 0, .int .i64 0, .int .i64 0, .int .i64 0, .int .i64 0, .slice none 0 0] := by rw [← hw0]; exact Bk.new w _ _
  have hr0 : RB w0 B A l := Rw.below hr (hB0.mono hB)
  have HW0 := Lib.hid hw0
  have HN := Lib.hid hn
  have z0 := hg0.lt
  clear hn hw0
  go_enter Try.func23, Try.ntmps23
  go_wp2_with fail
  rw [HW0.out]
  refine (newreader_any A n c B l HN.out (by omega) hb _ hr0 (by omega)).mono ?_
  rintro e w1 ⟨g, rfl, hR1, hB1⟩
  have hg1 := hg0.below hB1 z0
  have z1 := hB1.size
  have hge := hR1.ge
  have hBw1 : Below w.heap.size w w1 := hB0.trans (hB1.mono (Nat.le_of_lt z0))
  rw [show l = l.drop 0 from rfl] at hR1
  obtain ⟨w2, hw2⟩ : ∃ w2, w1.alloc (.cells #[.int .u32 a, .int .i64 0, .int .u32 b, .int .i64 0, .int .u32 0, .int .u32 0, .int .i64 0, .int .i64 0, .int .i64 0, .int .i64 (-1), .slice none 0 0] 26) = w2 := ⟨_, rfl⟩
  have hm2 : Bk w2 w1.heap.size 26 #[.int .u32 a, .int .i64 0, .int .u32 b, .int .i64 0, .int .u32 0, .int .u32 0, .int .i64 0, .int .i64 0, .int .i64 0, .int .i64 (-1), .slice none 0 0] := by rw [← hw2]; exact Bk.new w1 _ _
  have hB2 : Below w1.heap.size w1 w2 := by rw [← hw2]; exact (Below.refl _ _).alloc (Nat.le_refl _) _
  have hR2 := hR1.below hB2
  have hg2 := hg1.below hB2 (by omega)
  have z2 := hB2.size
  have hBw2 : Below w.heap.size w w2 := hBw1.trans (hB2.mono (by omega))
  have HW2 := Lib.hid hw2
  obtain ⟨gm, hgm⟩ : ∃ gm, w1.heap.size = gm := ⟨_, rfl⟩
  rw [hgm] at hm2
  have HGM := Lib.hid hgm
  have hmg : w.heap.size < gm := by omega
  clear hw2 hgm
  go_wp2_with fail
  rw [HW2.out, HGM.out]
  refine (two_at _ g l 0 (by rw [HN.out]; omega) _ hR2 (by have := hBw2.size; omega)).mono ?_
  rintro e w3 ⟨rfl, hR3, k3⟩
  have b3 := rd2_bd hb 0
  obtain ⟨v3, hv3⟩ : ∃ v, rd2 l 0 = v := ⟨_, rfl⟩
  rw [hv3] at b3 ⊢
  have HV3 := Lib.hid hv3
  clear hv3
  have hg3 := hg2.grown k3 (by intro e; injection e with e; omega)
  have hm3 := hm2.grown k3 (by intro e; injection e with e; exact hR2.ne hm2 (by decide) e.symm)
  have hBw3 := hBw2.grown k3 (by have := hBw2.size; omega) (by intro i e; injection e with e; omega)
  have z3 := k3.size
  go_wp2_with fail
  refine (two_at _ g l 2 (by rw [HN.out]; omega) _ hR3 (by have := hBw3.size; omega)).mono ?_
  rintro e w4 ⟨rfl, hR4, k4⟩
  have b4 := rd2_bd hb 2
  obtain ⟨v4, hv4⟩ : ∃ v, rd2 l 2 = v := ⟨_, rfl⟩
  rw [hv4] at b4 ⊢
  have HV4 := Lib.hid hv4
  clear hv4
  have hg4 := hg3.grown k4 (by intro e; injection e with e; omega)
  have hm4 := hm3.grown k4 (by intro e; injection e with e; exact hR3.ne hm3 (by decide) e.symm)
  have hBw4 := hBw3.grown k4 (by have := hBw3.size; omega) (by intro i e; injection e with e; omega)
  have z4 := k4.size
  have f5 := hm4.frozen 1
  have c5 : w4.cell? ⟨gm, 1, none⟩ = some (.int .i64 0) := hm4.cell 1
  obtain ⟨w5, hw5⟩ : ∃ w5, w4.setCell ⟨gm, 1, none⟩ (.int .i64 v3) = w5 := ⟨_, rfl⟩
  have hR5 : Rd w5 w0.heap.size g (l.drop 4) 0 := by rw [← hw5]; exact hR4.store hm4 (by decide) (by decide) (NoU8.of (by intro u hu x; simp only [List.mem_cons, List.not_mem_nil, or_false] at hu; rcases hu with rfl | rfl | rfl | rfl | rfl | rfl | rfl | rfl | rfl | rfl | rfl <;> simp)) 1 (.int .i64 v3)
  have hm5 : Bk w5 gm 26 #[.int .u32 a, .int .i64 v3, .int .u32 b, .int .i64 0, .int .u32 0, .int .u32 0, .int .i64 0, .int .i64 0, .int .i64 0, .int .i64 (-1), .slice none 0 0] := by rw [← hw5]; exact hm4.set 1 (.int .i64 v3)
  have hg5 : Bk w5 w.heap.size 26 #[.int .u32 0, .int .i64 0, .int .u32 0, .int .i64 0, .int .u32 0, .int .u32 0, .int .i64 0, .int .i64 0, .int .i64 0, .int .i64 0, .slice none 0 0] := by rw [← hw5]; exact hg4.far (p := ⟨gm, 1, none⟩) (show w.heap.size ≠ gm by omega) (.int .i64 v3)
  have hBw5 : Below w.heap.size w w5 := by rw [← hw5]; exact hBw4.setCell (p := ⟨gm, 1, none⟩) (show w.heap.size ≤ gm by omega) (.int .i64 v3)
  have z5 : w5.heap.size = w4.heap.size := by rw [← hw5]; simp [World.setCell]
  have HW5 := Lib.hid hw5
  clear hw5
  have f6 := hm4.frozen 3
  have c6 : w4.cell? ⟨gm, 3, none⟩ = some (.int .i64 0) := hm4.cell 3
  obtain ⟨w6, hw6⟩ : ∃ w6, w5.setCell ⟨gm, 3, none⟩ (.int .i64 v4) = w6 := ⟨_, rfl⟩
  have hR6 : Rd w6 w0.heap.size g (l.drop 4) 0 := by rw [← hw6]; exact hR5.store hm5 (by decide) (by decide) (NoU8.of (by intro u hu x; simp only [List.mem_cons, List.not_mem_nil, or_false] at hu; rcases hu with rfl | rfl | rfl | rfl | rfl | rfl | rfl | rfl | rfl | rfl | rfl <;> simp)) 3 (.int .i64 v4)
  have hm6 : Bk w6 gm 26 #[.int .u32 a, .int .i64 v3, .int .u32 b, .int .i64 v4, .int .u32 0, .int .u32 0, .int .i64 0, .int .i64 0, .int .i64 0, .int .i64 (-1), .slice none 0 0] := by rw [← hw6]; exact hm5.set 3 (.int .i64 v4)
  have hg6 : Bk w6 w.heap.size 26 #[.int .u32 0, .int .i64 0, .int .u32 0, .int .i64 0, .int .u32 0, .int .u32 0, .int .i64 0, .int .i64 0, .int .i64 0, .int .i64 0, .slice none 0 0] := by rw [← hw6]; exact hg5.far (p := ⟨gm, 3, none⟩) (show w.heap.size ≠ gm by omega) (.int .i64 v4)
  have hBw6 : Below w.heap.size w w6 := by rw [← hw6]; exact hBw5.setCell (p := ⟨gm, 3, none⟩) (show w.heap.size ≤ gm by omega) (.int .i64 v4)
  have z6 : w6.heap.size = w5.heap.size := by rw [← hw6]; simp [World.setCell]
  have HW6 := Lib.hid hw6
  clear hw6
  go_wp2_with fail
  rw [HW5.out, HW6.out]
  refine (four_at _ g l 4 (by rw [HN.out]; omega) _ hR6 (by have := hBw6.size; omega)).mono ?_
  rintro e w7 ⟨rfl, hR7, k7⟩
  have b7 := rd4_bd hb 4
  obtain ⟨v7, hv7⟩ : ∃ v, rd4 l 4 = v := ⟨_, rfl⟩
  rw [hv7] at b7 ⊢
  have HV7 := Lib.hid hv7
  clear hv7
  have hg7 := hg6.grown k7 (by intro e; injection e with e; omega)
  have hm7 := hm6.grown k7 (by intro e; injection e with e; exact hR6.ne hm6 (by decide) e.symm)
  have hBw7 := hBw6.grown k7 (by have := hBw6.size; omega) (by intro i e; injection e with e; omega)
  have z7 := k7.size
  go_wp2_with fail
  refine (four_at _ g l 8 (by rw [HN.out]; omega) _ hR7 (by have := hBw7.size; omega)).mono ?_
  rintro e w8 ⟨rfl, hR8, k8⟩
  have b8 := rd4_bd hb 8
  obtain ⟨v8, hv8⟩ : ∃ v, rd4 l 8 = v := ⟨_, rfl⟩
  rw [hv8] at b8 ⊢
  have HV8 := Lib.hid hv8
  clear hv8
  have hg8 := hg7.grown k8 (by intro e; injection e with e; omega)
  have hm8 := hm7.grown k8 (by intro e; injection e with e; exact hR7.ne hm7 (by decide) e.symm)
  have hBw8 := hBw7.grown k8 (by have := hBw7.size; omega) (by intro i e; injection e with e; omega)
  have z8 := k8.size
  have f9 := hm8.frozen 4
  have c9 : w8.cell? ⟨gm, 4, none⟩ = some (.int .u32 0) := hm8.cell 4
  obtain ⟨w9, hw9⟩ : ∃ w9, w8.setCell ⟨gm, 4, none⟩ (.int .u32 v7) = w9 := ⟨_, rfl⟩
  have hR9 : Rd w9 w0.heap.size g (l.drop 12) 0 := by rw [← hw9]; exact hR8.store hm8 (by decide) (by decide) (NoU8.of (by intro u hu x; simp only [List.mem_cons, List.not_mem_nil, or_false] at hu; rcases hu with rfl | rfl | rfl | rfl | rfl | rfl | rfl | rfl | rfl | rfl | rfl <;> simp)) 4 (.int .u32 v7)
  have hm9 : Bk w9 gm 26 #[.int .u32 a, .int .i64 v3, .int .u32 b, .int .i64 v4, .int .u32 v7, .int .u32 0, .int .i64 0, .int .i64 0, .int .i64 0, .int .i64 (-1), .slice none 0 0] := by rw [← hw9]; exact hm8.set 4 (.int .u32 v7)
  have hg9 : Bk w9 w.heap.size 26 #[.int .u32 0, .int .i64 0, .int .u32 0, .int .i64 0, .int .u32 0, .int .u32 0, .int .i64 0, .int .i64 0, .int .i64 0, .int .i64 0, .slice none 0 0] := by rw [← hw9]; exact hg8.far (p := ⟨gm, 4, none⟩) (show w.heap.size ≠ gm by omega) (.int .u32 v7)
  have hBw9 : Below w.heap.size w w9 := by rw [← hw9]; exact hBw8.setCell (p := ⟨gm, 4, none⟩) (show w.heap.size ≤ gm by omega) (.int .u32 v7)
  have z9 : w9.heap.size = w8.heap.size := by rw [← hw9]; simp [World.setCell]
  have HW9 := Lib.hid hw9
  clear hw9
  have f10 := hm8.frozen 5
  have c10 : w8.cell? ⟨gm, 5, none⟩ = some (.int .u32 0) := hm8.cell 5
  obtain ⟨w10, hw10⟩ : ∃ w10, w9.setCell ⟨gm, 5, none⟩ (.int .u32 v8) = w10 := ⟨_, rfl⟩
  have hR10 : Rd w10 w0.heap.size g (l.drop 12) 0 := by rw [← hw10]; exact hR9.store hm9 (by decide) (by decide) (NoU8.of (by intro u hu x; simp only [List.mem_cons, List.not_mem_nil, or_false] at hu; rcases hu with rfl | rfl | rfl | rfl | rfl | rfl | rfl | rfl | rfl | rfl | rfl <;> simp)) 5 (.int .u32 v8)
  have hm10 : Bk w10 gm 26 #[.int .u32 a, .int .i64 v3, .int .u32 b, .int .i64 v4, .int .u32 v7, .int .u32 v8, .int .i64 0, .int .i64 0, .int .i64 0, .int .i64 (-1), .slice none 0 0] := by rw [← hw10]; exact hm9.set 5 (.int .u32 v8)
  have hg10 : Bk w10 w.heap.size 26 #[.int .u32 0, .int .i64 0, .int .u32 0, .int .i64 0, .int .u32 0, .int .u32 0, .int .i64 0, .int .i64 0, .int .i64 0, .int .i64 0, .slice none 0 0] := by rw [← hw10]; exact hg9.far (p := ⟨gm, 5, none⟩) (show w.heap.size ≠ gm by omega) (.int .u32 v8)
  have hBw10 : Below w.heap.size w w10 := by rw [← hw10]; exact hBw9.setCell (p := ⟨gm, 5, none⟩) (show w.heap.size ≤ gm by omega) (.int .u32 v8)
  have z10 : w10.heap.size = w9.heap.size := by rw [← hw10]; simp [World.setCell]
  have HW10 := Lib.hid hw10
  clear hw10
  go_wp2_with fail
  rw [HW9.out, HW10.out]
  refine (byte_at _ g l 12 (by rw [HN.out]; omega) _ hR10 (by have := hBw10.size; omega)).mono ?_
  rintro e w11 ⟨rfl, hR11, k11⟩
  have b11 := at8_bd hb 12
  obtain ⟨v11, hv11⟩ : ∃ v, at8 l 12 = v := ⟨_, rfl⟩
  rw [hv11] at b11 ⊢
  have HV11 := Lib.hid hv11
  clear hv11
  have hg11 := hg10.grown k11 (by intro e; injection e with e; omega)
  have hm11 := hm10.grown k11 (by intro e; injection e with e; exact hR10.ne hm10 (by decide) e.symm)
  have hBw11 := hBw10.grown k11 (by have := hBw10.size; omega) (by intro i e; injection e with e; omega)
  have z11 := k11.size
  go_wp2_with fail
  refine (byte_at _ g l 13 (by rw [HN.out]; omega) _ hR11 (by have := hBw11.size; omega)).mono ?_
  rintro e w12 ⟨rfl, hR12, k12⟩
  have b12 := at8_bd hb 13
  obtain ⟨v12, hv12⟩ : ∃ v, at8 l 13 = v := ⟨_, rfl⟩
  rw [hv12] at b12 ⊢
  have HV12 := Lib.hid hv12
  clear hv12
  have hg12 := hg11.grown k12 (by intro e; injection e with e; omega)
  have hm12 := hm11.grown k12 (by intro e; injection e with e; exact hR11.ne hm11 (by decide) e.symm)
  have hBw12 := hBw11.grown k12 (by have := hBw11.size; omega) (by intro i e; injection e with e; omega)
  have z12 := k12.size
  have f13 := hm12.frozen 6
  have c13 : w12.cell? ⟨gm, 6, none⟩ = some (.int .i64 0) := hm12.cell 6
  obtain ⟨w13, hw13⟩ : ∃ w13, w12.setCell ⟨gm, 6, none⟩ (.int .i64 (v12 % 64)) = w13 := ⟨_, rfl⟩
  have hR13 : Rd w13 w0.heap.size g (l.drop 14) 0 := by rw [← hw13]; exact hR12.store hm12 (by decide) (by decide) (NoU8.of (by intro u hu x; simp only [List.mem_cons, List.not_mem_nil, or_false] at hu; rcases hu with rfl | rfl | rfl | rfl | rfl | rfl | rfl | rfl | rfl | rfl | rfl <;> simp)) 6 (.int .i64 (v12 % 64))
  have hm13 : Bk w13 gm 26 #[.int .u32 a, .int .i64 v3, .int .u32 b, .int .i64 v4, .int .u32 v7, .int .u32 v8, .int .i64 (v12 % 64), .int .i64 0, .int .i64 0, .int .i64 (-1), .slice none 0 0] := by rw [← hw13]; exact hm12.set 6 (.int .i64 (v12 % 64))
  have hg13 : Bk w13 w.heap.size 26 #[.int .u32 0, .int .i64 0, .int .u32 0, .int .i64 0, .int .u32 0, .int .u32 0, .int .i64 0, .int .i64 0, .int .i64 0, .int .i64 0, .slice none 0 0] := by rw [← hw13]; exact hg12.far (p := ⟨gm, 6, none⟩) (show w.heap.size ≠ gm by omega) (.int .i64 (v12 % 64))
  have hBw13 : Below w.heap.size w w13 := by rw [← hw13]; exact hBw12.setCell (p := ⟨gm, 6, none⟩) (show w.heap.size ≤ gm by omega) (.int .i64 (v12 % 64))
  have z13 : w13.heap.size = w12.heap.size := by rw [← hw13]; simp [World.setCell]
  have HW13 := Lib.hid hw13
  clear hw13
  go_wp2_with fail
  rw [HW13.out]
  refine (two_at _ g l 14 (by rw [HN.out]; omega) _ hR13 (by have := hBw13.size; omega)).mono ?_
  rintro e w14 ⟨rfl, hR14, k14⟩
  have b14 := rd2_bd hb 14
  obtain ⟨v14, hv14⟩ : ∃ v, rd2 l 14 = v := ⟨_, rfl⟩
  rw [hv14] at b14 ⊢
  have HV14 := Lib.hid hv14
  clear hv14
  have hg14 := hg13.grown k14 (by intro e; injection e with e; omega)
  have hm14 := hm13.grown k14 (by intro e; injection e with e; exact hR13.ne hm13 (by decide) e.symm)
  have hBw14 := hBw13.grown k14 (by have := hBw13.size; omega) (by intro i e; injection e with e; omega)
  have z14 := k14.size
  have f15 := hm14.frozen 7
  have c15 : w14.cell? ⟨gm, 7, none⟩ = some (.int .i64 0) := hm14.cell 7
  obtain ⟨w15, hw15⟩ : ∃ w15, w14.setCell ⟨gm, 7, none⟩ (.int .i64 v14) = w15 := ⟨_, rfl⟩
  have hR15 : Rd w15 w0.heap.size g (l.drop 16) 0 := by rw [← hw15]; exact hR14.store hm14 (by decide) (by decide) (NoU8.of (by intro u hu x; simp only [List.mem_cons, List.not_mem_nil, or_false] at hu; rcases hu with rfl | rfl | rfl | rfl | rfl | rfl | rfl | rfl | rfl | rfl | rfl <;> simp)) 7 (.int .i64 v14)
  have hm15 : Bk w15 gm 26 #[.int .u32 a, .int .i64 v3, .int .u32 b, .int .i64 v4, .int .u32 v7, .int .u32 v8, .int .i64 (v12 % 64), .int .i64 v14, .int .i64 0, .int .i64 (-1), .slice none 0 0] := by rw [← hw15]; exact hm14.set 7 (.int .i64 v14)
  have hg15 : Bk w15 w.heap.size 26 #[.int .u32 0, .int .i64 0, .int .u32 0, .int .i64 0, .int .u32 0, .int .u32 0, .int .i64 0, .int .i64 0, .int .i64 0, .int .i64 0, .slice none 0 0] := by rw [← hw15]; exact hg14.far (p := ⟨gm, 7, none⟩) (show w.heap.size ≠ gm by omega) (.int .i64 v14)
  have hBw15 : Below w.heap.size w w15 := by rw [← hw15]; exact hBw14.setCell (p := ⟨gm, 7, none⟩) (show w.heap.size ≤ gm by omega) (.int .i64 v14)
  have z15 : w15.heap.size = w14.heap.size := by rw [← hw15]; simp [World.setCell]
  have HW15 := Lib.hid hw15
  clear hw15
  go_wp2_with fail
  rw [HW15.out]
  refine (four_at _ g l 16 (by rw [HN.out]; omega) _ hR15 (by have := hBw15.size; omega)).mono ?_
  rintro e w16 ⟨rfl, hR16, k16⟩
  have b16 := rd4_bd hb 16
  obtain ⟨v16, hv16⟩ : ∃ v, rd4 l 16 = v := ⟨_, rfl⟩
  rw [hv16] at b16 ⊢
  have HV16 := Lib.hid hv16
  clear hv16
  have hg16 := hg15.grown k16 (by intro e; injection e with e; omega)
  have hm16 := hm15.grown k16 (by intro e; injection e with e; exact hR15.ne hm15 (by decide) e.symm)
  have hBw16 := hBw15.grown k16 (by have := hBw15.size; omega) (by intro i e; injection e with e; omega)
  have z16 := k16.size
  have HBW := Lib.hid hBw16
  go_wp2_with fail
  refine (rerr_any _ g _ _ _ hR16).mono ?_
  rintro e w' ⟨rfl, rfl⟩
  have hh : hdN l = v11.toNat / 16 * 4 := by unfold hdN; rw [HV11.out]
  have hbad := HBAD.out
  have hpos : 0 ≤ v11 / 16 * 4 - 20 := by have := hbad.1; omega
  obtain ⟨mm, hmm⟩ : ∃ mm : Nat, v11 / 16 * 4 - 20 = (mm : Int) := ⟨(v11 / 16 * 4 - 20).toNat, by omega⟩
  have hmn : mm = hdN l - 20 := by omega
  have hmle : 20 + mm ≤ n := by have := hbad.2.1; omega
  have HMN := Lib.hid hmn
  have HMM := Lib.hid hmm
  clear hbad hh hmn hmm
  go_wp2_with fail
  refine (raw_i _ _ g l 20 mm HMM.out (by rw [HN.out]; omega) (by rw [HN.out]; omega) _ hR16 (by have := hBw16.size; omega)).mono ?_
  rintro e w30 ⟨A30, n30, c30, rfl, hO30, hR30, k30⟩
  have hg30 := hg16.grown k30 (by intro e; injection e with e; omega)
  have hm30 := hm16.grown k30 (by intro e; injection e with e; exact hR16.ne hm16 (by decide) e.symm)
  have hBw30 := hBw16.grown k30 (by have := hBw16.size; omega) (by intro i e; injection e with e; omega)
  have z30 := hBw30.size
  have hl30 := hO30.length
  rw [List.length_take, List.length_drop, HN.out] at hl30
  have hn30 : n30 = mm := by omega
  subst hn30
  clear hl30
  go_wp2_with fail
  refine (rerr_any _ g _ _ _ hR30).mono ?_
  rintro e w' ⟨rfl, rfl⟩
  go_wp2_with fail
  refine (segsum_any a b ha hb' A n c B l HN.out (by omega) hb _ (Rw.below hr (hBw30.mono hB)) (by omega)).mono ?_
  rintro e w31 ⟨rfl, hB31⟩
  have hg31 := hg30.below hB31 hg30.lt
  have hBw31 := hBw30.trans (hB31.mono (by omega))
  have z31 := hBw31.size
  have hO31 : OB _ _ _ _ _ _ _ := Ow.stays hO30 hB31
  have HBW31 := Lib.hid hBw31
  have hne : (segSum a b l != 0) = true := by have := HBAD.out.2.2; simpa using this
  have y0 := hg31.cell 0
  have y1 := hg31.cell 1
  have y2 := hg31.cell 2
  have y3 := hg31.cell 3
  have y4 := hg31.cell 4
  have y5 := hg31.cell 5
  have y6 := hg31.cell 6
  have y7 := hg31.cell 7
  have y8 := hg31.cell 8
  have y9 := hg31.cell 9
  have y10 := hg31.cell 10
  have x0 := hg31.frozen 0
  have x1 := hg31.frozen 1
  have x2 := hg31.frozen 2
  have x3 := hg31.frozen 3
  have x4 := hg31.frozen 4
  have x5 := hg31.frozen 5
  have x6 := hg31.frozen 6
  have x7 := hg31.frozen 7
  have x8 := hg31.frozen 8
  have x9 := hg31.frozen 9
  have x10 := hg31.frozen 10
  simp only [List.setIfInBounds_toArray, List.set_cons_succ, List.set_cons_zero, List.getElem?_toArray, List.getElem?_cons_zero, List.getElem?_cons_succ] at y0 y1 y2 y3 y4 y5 y6 y7 y8 y9 y10
  go_wp2_with fail
  refine bodyPost_ret (v := .tuple #[.agg #[.int .u32 0, .int .i64 0, .int .u32 0, .int .i64 0, .int .u32 0, .int .u32 0, .int .i64 0, .int .i64 0, .int .i64 0, .int .i64 0, .slice none 0 0], .int .i64 4]) (by simp [results, Try.results23, go_sem, *]) rfl ⟨rfl, ?_⟩
  exact Below.setCell (Below.setCell (Below.setCell (Below.setCell (Below.setCell (Below.setCell (Below.setCell (Below.setCell (Below.setCell (Below.setCell (Below.setCell (HBW31.out) (Nat.le_refl _) _) (Nat.le_refl _) _) (Nat.le_refl _) _) (Nat.le_refl _) _) (Nat.le_refl _) _) (Nat.le_refl _) _) (Nat.le_refl _) _) (Nat.le_refl _) _) (Nat.le_refl _) _) (Nat.le_refl _) _) (Nat.le_refl _) _
set_option maxHeartbeats 8000000 in
set_option maxRecDepth 100000 in
theorem decode_bad3 (a b : Int) (ha : U32 a) (hb' : U32 b) (A : Option Addr) (n c B : Nat) (l : List Int) (hn : l.length = n) (h20 : 20 ≤ n) (hmax : n ≤ 65515) (hb : Bs l) (w : World) (hr : RB w B A l) (hB : B ≤ w.heap.size) (hbad : 20 ≤ hdN l ∧ hdN l ≤ n ∧ segSum a b l = 0 ∧ parse (optsOf l) 0 0 (-1) = none) :
    Calls Try.prog 23 #[.int .u32 a, .int .u32 b, .slice A n c] w fun e w' => e = .returned (.tuple #[.agg #[.int .u32 0, .int .i64 0, .int .u32 0, .int .i64 0, .int .u32 0, .int .u32 0, .int .i64 0, .int .i64 0, .int .i64 0, .int .i64 0, .slice none 0 0], .int .i64 3]) ∧ Below w.heap.size w w' := by
  have HBAD := Lib.hid hbad
  clear hbad
  obtain ⟨w0, hw0⟩ : ∃ w0, w.alloc (.cells #[.int .u32 0, .int .i64 0, .int .u32 0, .int .i64 0, .int .u32 0, .int .u32 0, .int .i64 0, .int .i64 0, .int .i64 0, .int .i64 0, .slice none 0 0] 26) = w0 := ⟨_, rfl⟩
  have hB0 : Below w.heap.size w w0 := by rw [← hw0]; exact (Below.refl _ _).alloc (Nat.le_refl _) _
  have hg0 : Bk w0 w.heap.size 26 #[.int .u32 0, .int .i64 0, .int .u32 0, .int .i64 0, .int .u32 0, .int .u32 0, .int .i64 0, .int .i64 0, .int .i64 0, .int .i64 0, .slice none 0 0] := by rw [← hw0]; exact Bk.new w _ _
  have hr0 : RB w0 B A l := Rw.below hr (hB0.mono hB)
  have HW0 := Lib.hid hw0
  have HN := Lib.hid hn
  have z0 := hg0.lt
  clear hn hw0
  go_enter Try.func23, Try.ntmps23
  go_wp2_with fail
  rw [HW0.out]
  refine (newreader_any A n c B l HN.out (by omega) hb _ hr0 (by omega)).mono ?_
  rintro e w1 ⟨g, rfl, hR1, hB1⟩
  have hg1 := hg0.below hB1 z0
  have z1 := hB1.size
  have hge := hR1.ge
  have hBw1 : Below w.heap.size w w1 := hB0.trans (hB1.mono (Nat.le_of_lt z0))
  rw [show l = l.drop 0 from rfl] at hR1
  obtain ⟨w2, hw2⟩ : ∃ w2, w1.alloc (.cells #[.int .u32 a, .int .i64 0, .int .u32 b, .int .i64 0, .int .u32 0, .int .u32 0, .int .i64 0, .int .i64 0, .int .i64 0, .int .i64 (-1), .slice none 0 0] 26) = w2 := ⟨_, rfl⟩
  have hm2 : Bk w2 w1.heap.size 26 #[.int .u32 a, .int .i64 0, .int .u32 b, .int .i64 0, .int .u32 0, .int .u32 0, .int .i64 0, .int .i64 0, .int .i64 0, .int .i64 (-1), .slice none 0 0] := by rw [← hw2]; exact Bk.new w1 _ _
  have hB2 : Below w1.heap.size w1 w2 := by rw [← hw2]; exact (Below.refl _ _).alloc (Nat.le_refl _) _
  have hR2 := hR1.below hB2
  have hg2 := hg1.below hB2 (by omega)
  have z2 := hB2.size
  have hBw2 : Below w.heap.size w w2 := hBw1.trans (hB2.mono (by omega))
  have HW2 := Lib.hid hw2
  obtain ⟨gm, hgm⟩ : ∃ gm, w1.heap.size = gm := ⟨_, rfl⟩
  rw [hgm] at hm2
  have HGM := Lib.hid hgm
  have hmg : w.heap.size < gm := by omega
  clear hw2 hgm
  go_wp2_with fail
  rw [HW2.out, HGM.out]
  refine (two_at _ g l 0 (by rw [HN.out]; omega) _ hR2 (by have := hBw2.size; omega)).mono ?_
  rintro e w3 ⟨rfl, hR3, k3⟩
  have b3 := rd2_bd hb 0
  obtain ⟨v3, hv3⟩ : ∃ v, rd2 l 0 = v := ⟨_, rfl⟩
  rw [hv3] at b3 ⊢
  have HV3 := Lib.hid hv3
  clear hv3
  have hg3 := hg2.grown k3 (by intro e; injection e with e; omega)
  have hm3 := hm2.grown k3 (by intro e; injection e with e; exact hR2.ne hm2 (by decide) e.symm)
  have hBw3 := hBw2.grown k3 (by have := hBw2.size; omega) (by intro i e; injection e with e; omega)
  have z3 := k3.size
  go_wp2_with fail
  refine (two_at _ g l 2 (by rw [HN.out]; omega) _ hR3 (by have := hBw3.size; omega)).mono ?_
  rintro e w4 ⟨rfl, hR4, k4⟩
  have b4 := rd2_bd hb 2
  obtain ⟨v4, hv4⟩ : ∃ v, rd2 l 2 = v := ⟨_, rfl⟩
  rw [hv4] at b4 ⊢
  have HV4 := Lib.hid hv4
  clear hv4
  have hg4 := hg3.grown k4 (by intro e; injection e with e; omega)
  have hm4 := hm3.grown k4 (by intro e; injection e with e; exact hR3.ne hm3 (by decide) e.symm)
  have hBw4 := hBw3.grown k4 (by have := hBw3.size; omega) (by intro i e; injection e with e; omega)
  have z4 := k4.size
  have f5 := hm4.frozen 1
  have c5 : w4.cell? ⟨gm, 1, none⟩ = some (.int .i64 0) := hm4.cell 1
  obtain ⟨w5, hw5⟩ : ∃ w5, w4.setCell ⟨gm, 1, none⟩ (.int .i64 v3) = w5 := ⟨_, rfl⟩
  have hR5 : Rd w5 w0.heap.size g (l.drop 4) 0 := by rw [← hw5]; exact hR4.store hm4 (by decide) (by decide) (NoU8.of (by intro u hu x; simp only [List.mem_cons, List.not_mem_nil, or_false] at hu; rcases hu with rfl | rfl | rfl | rfl | rfl | rfl | rfl | rfl | rfl | rfl | rfl <;> simp)) 1 (.int .i64 v3)
  have hm5 : Bk w5 gm 26 #[.int .u32 a, .int .i64 v3, .int .u32 b, .int .i64 0, .int .u32 0, .int .u32 0, .int .i64 0, .int .i64 0, .int .i64 0, .int .i64 (-1), .slice none 0 0] := by rw [← hw5]; exact hm4.set 1 (.int .i64 v3)
  have hg5 : Bk w5 w.heap.size 26 #[.int .u32 0, .int .i64 0, .int .u32 0, .int .i64 0, .int .u32 0, .int .u32 0, .int .i64 0, .int .i64 0, .int .i64 0, .int .i64 0, .slice none 0 0] := by rw [← hw5]; exact hg4.far (p := ⟨gm, 1, none⟩) (show w.heap.size ≠ gm by omega) (.int .i64 v3)
  have hBw5 : Below w.heap.size w w5 := by rw [← hw5]; exact hBw4.setCell (p := ⟨gm, 1, none⟩) (show w.heap.size ≤ gm by omega) (.int .i64 v3)
  have z5 : w5.heap.size = w4.heap.size := by rw [← hw5]; simp [World.setCell]
  have HW5 := Lib.hid hw5
  clear hw5
  have f6 := hm4.frozen 3
  have c6 : w4.cell? ⟨gm, 3, none⟩ = some (.int .i64 0) := hm4.cell 3
  obtain ⟨w6, hw6⟩ : ∃ w6, w5.setCell ⟨gm, 3, none⟩ (.int .i64 v4) = w6 := ⟨_, rfl⟩
  have hR6 : Rd w6 w0.heap.size g (l.drop 4) 0 := by rw [← hw6]; exact hR5.store hm5 (by decide) (by decide) (NoU8.of (by intro u hu x; simp only [List.mem_cons, List.not_mem_nil, or_false] at hu; rcases hu with rfl | rfl | rfl | rfl | rfl | rfl | rfl | rfl | rfl | rfl | rfl <;> simp)) 3 (.int .i64 v4)
  have hm6 : Bk w6 gm 26 #[.int .u32 a, .int .i64 v3, .int .u32 b, .int .i64 v4, .int .u32 0, .int .u32 0, .int .i64 0, .int .i64 0, .int .i64 0, .int .i64 (-1), .slice none 0 0] := by rw [← hw6]; exact hm5.set 3 (.int .i64 v4)
  have hg6 : Bk w6 w.heap.size 26 #[.int .u32 0, .int .i64 0, .int .u32 0, .int .i64 0, .int .u32 0, .int .u32 0, .int .i64 0, .int .i64 0, .int .i64 0, .int .i64 0, .slice none 0 0] := by rw [← hw6]; exact hg5.far (p := ⟨gm, 3, none⟩) (show w.heap.size ≠ gm by omega) (.int .i64 v4)
  have hBw6 : Below w.heap.size w w6 := by rw [← hw6]; exact hBw5.setCell (p := ⟨gm, 3, none⟩) (show w.heap.size ≤ gm by omega) (.int .i64 v4)
  have z6 : w6.heap.size = w5.heap.size := by rw [← hw6]; simp [World.setCell]
  have HW6 := Lib.hid hw6
  clear hw6
  go_wp2_with fail
  rw [HW5.out, HW6.out]
  refine (four_at _ g l 4 (by rw [HN.out]; omega) _ hR6 (by have := hBw6.size; omega)).mono ?_
  rintro e w7 ⟨rfl, hR7, k7⟩
  have b7 := rd4_bd hb 4
  obtain ⟨v7, hv7⟩ : ∃ v, rd4 l 4 = v := ⟨_, rfl⟩
  rw [hv7] at b7 ⊢
  have HV7 := Lib.hid hv7
  clear hv7
  have hg7 := hg6.grown k7 (by intro e; injection e with e; omega)
  have hm7 := hm6.grown k7 (by intro e; injection e with e; exact hR6.ne hm6 (by decide) e.symm)
  have hBw7 := hBw6.grown k7 (by have := hBw6.size; omega) (by intro i e; injection e with e; omega)
  have z7 := k7.size
  go_wp2_with fail
  refine (four_at _ g l 8 (by rw [HN.out]; omega) _ hR7 (by have := hBw7.size; omega)).mono ?_
  rintro e w8 ⟨rfl, hR8, k8⟩
  have b8 := rd4_bd hb 8
  obtain ⟨v8, hv8⟩ : ∃ v, rd4 l 8 = v := ⟨_, rfl⟩
  rw [hv8] at b8 ⊢
  have HV8 := Lib.hid hv8
  clear hv8
  have hg8 := hg7.grown k8 (by intro e; injection e with e; omega)
  have hm8 := hm7.grown k8 (by intro e; injection e with e; exact hR7.ne hm7 (by decide) e.symm)
  have hBw8 := hBw7.grown k8 (by have := hBw7.size; omega) (by intro i e; injection e with e; omega)
  have z8 := k8.size
  have f9 := hm8.frozen 4
  have c9 : w8.cell? ⟨gm, 4, none⟩ = some (.int .u32 0) := hm8.cell 4
  obtain ⟨w9, hw9⟩ : ∃ w9, w8.setCell ⟨gm, 4, none⟩ (.int .u32 v7) = w9 := ⟨_, rfl⟩
  have hR9 : Rd w9 w0.heap.size g (l.drop 12) 0 := by rw [← hw9]; exact hR8.store hm8 (by decide) (by decide) (NoU8.of (by intro u hu x; simp only [List.mem_cons, List.not_mem_nil, or_false] at hu; rcases hu with rfl | rfl | rfl | rfl | rfl | rfl | rfl | rfl | rfl | rfl | rfl <;> simp)) 4 (.int .u32 v7)
  have hm9 : Bk w9 gm 26 #[.int .u32 a, .int .i64 v3, .int .u32 b, .int .i64 v4, .int .u32 v7, .int .u32 0, .int .i64 0, .int .i64 0, .int .i64 0, .int .i64 (-1), .slice none 0 0] := by rw [← hw9]; exact hm8.set 4 (.int .u32 v7)
  have hg9 : Bk w9 w.heap.size 26 #[.int .u32 0, .int .i64 0, .int .u32 0, .int .i64 0, .int .u32 0, .int .u32 0, .int .i64 0, .int .i64 0, .int .i64 0, .int .i64 0, .slice none 0 0] := by rw [← hw9]; exact hg8.far (p := ⟨gm, 4, none⟩) (show w.heap.size ≠ gm by omega) (.int .u32 v7)
  have hBw9 : Below w.heap.size w w9 := by rw [← hw9]; exact hBw8.setCell (p := ⟨gm, 4, none⟩) (show w.heap.size ≤ gm by omega) (.int .u32 v7)
  have z9 : w9.heap.size = w8.heap.size := by rw [← hw9]; simp [World.setCell]
  have HW9 := Lib.hid hw9
  clear hw9
  have f10 := hm8.frozen 5
  have c10 : w8.cell? ⟨gm, 5, none⟩ = some (.int .u32 0) := hm8.cell 5
  obtain ⟨w10, hw10⟩ : ∃ w10, w9.setCell ⟨gm, 5, none⟩ (.int .u32 v8) = w10 := ⟨_, rfl⟩
  have hR10 : Rd w10 w0.heap.size g (l.drop 12) 0 := by rw [← hw10]; exact hR9.store hm9 (by decide) (by decide) (NoU8.of (by intro u hu x; simp only [List.mem_cons, List.not_mem_nil, or_false] at hu; rcases hu with rfl | rfl | rfl | rfl | rfl | rfl | rfl | rfl | rfl | rfl | rfl <;> simp)) 5 (.int .u32 v8)
  have hm10 : Bk w10 gm 26 #[.int .u32 a, .int .i64 v3, .int .u32 b, .int .i64 v4, .int .u32 v7, .int .u32 v8, .int .i64 0, .int .i64 0, .int .i64 0, .int .i64 (-1), .slice none 0 0] := by rw [← hw10]; exact hm9.set 5 (.int .u32 v8)
  have hg10 : Bk w10 w.heap.size 26 #[.int .u32 0, .int .i64 0, .int .u32 0, .int .i64 0, .int .u32 0, .int .u32 0, .int .i64 0, .int .i64 0, .int .i64 0, .int .i64 0, .slice none 0 0] := by rw [← hw10]; exact hg9.far (p := ⟨gm, 5, none⟩) (show w.heap.size ≠ gm by omega) (.int .u32 v8)
  have hBw10 : Below w.heap.size w w10 := by rw [← hw10]; exact hBw9.setCell (p := ⟨gm, 5, none⟩) (show w.heap.size ≤ gm by omega) (.int .u32 v8)
  have z10 : w10.heap.size = w9.heap.size := by rw [← hw10]; simp [World.setCell]
  have HW10 := Lib.hid hw10
  clear hw10
  go_wp2_with fail
  rw [HW9.out, HW10.out]
  refine (byte_at _ g l 12 (by rw [HN.out]; omega) _ hR10 (by have := hBw10.size; omega)).mono ?_
  rintro e w11 ⟨rfl, hR11, k11⟩
  have b11 := at8_bd hb 12
  obtain ⟨v11, hv11⟩ : ∃ v, at8 l 12 = v := ⟨_, rfl⟩
  rw [hv11] at b11 ⊢
  have HV11 := Lib.hid hv11
  clear hv11
  have hg11 := hg10.grown k11 (by intro e; injection e with e; omega)
  have hm11 := hm10.grown k11 (by intro e; injection e with e; exact hR10.ne hm10 (by decide) e.symm)
  have hBw11 := hBw10.grown k11 (by have := hBw10.size; omega) (by intro i e; injection e with e; omega)
  have z11 := k11.size
  go_wp2_with fail
  refine (byte_at _ g l 13 (by rw [HN.out]; omega) _ hR11 (by have := hBw11.size; omega)).mono ?_
  rintro e w12 ⟨rfl, hR12, k12⟩
  have b12 := at8_bd hb 13
  obtain ⟨v12, hv12⟩ : ∃ v, at8 l 13 = v := ⟨_, rfl⟩
  rw [hv12] at b12 ⊢
  have HV12 := Lib.hid hv12
  clear hv12
  have hg12 := hg11.grown k12 (by intro e; injection e with e; omega)
  have hm12 := hm11.grown k12 (by intro e; injection e with e; exact hR11.ne hm11 (by decide) e.symm)
  have hBw12 := hBw11.grown k12 (by have := hBw11.size; omega) (by intro i e; injection e with e; omega)
  have z12 := k12.size
  have f13 := hm12.frozen 6
  have c13 : w12.cell? ⟨gm, 6, none⟩ = some (.int .i64 0) := hm12.cell 6
  obtain ⟨w13, hw13⟩ : ∃ w13, w12.setCell ⟨gm, 6, none⟩ (.int .i64 (v12 % 64)) = w13 := ⟨_, rfl⟩
  have hR13 : Rd w13 w0.heap.size g (l.drop 14) 0 := by rw [← hw13]; exact hR12.store hm12 (by decide) (by decide) (NoU8.of (by intro u hu x; simp only [List.mem_cons, List.not_mem_nil, or_false] at hu; rcases hu with rfl | rfl | rfl | rfl | rfl | rfl | rfl | rfl | rfl | rfl | rfl <;> simp)) 6 (.int .i64 (v12 % 64))
  have hm13 : Bk w13 gm 26 #[.int .u32 a, .int .i64 v3, .int .u32 b, .int .i64 v4, .int .u32 v7, .int .u32 v8, .int .i64 (v12 % 64), .int .i64 0, .int .i64 0, .int .i64 (-1), .slice none 0 0] := by rw [← hw13]; exact hm12.set 6 (.int .i64 (v12 % 64))
  have hg13 : Bk w13 w.heap.size 26 #[.int .u32 0, .int .i64 0, .int .u32 0, .int .i64 0, .int .u32 0, .int .u32 0, .int .i64 0, .int .i64 0, .int .i64 0, .int .i64 0, .slice none 0 0] := by rw [← hw13]; exact hg12.far (p := ⟨gm, 6, none⟩) (show w.heap.size ≠ gm by omega) (.int .i64 (v12 % 64))
  have hBw13 : Below w.heap.size w w13 := by rw [← hw13]; exact hBw12.setCell (p := ⟨gm, 6, none⟩) (show w.heap.size ≤ gm by omega) (.int .i64 (v12 % 64))
  have z13 : w13.heap.size = w12.heap.size := by rw [← hw13]; simp [World.setCell]
  have HW13 := Lib.hid hw13
  clear hw13
  go_wp2_with fail
  rw [HW13.out]
  refine (two_at _ g l 14 (by rw [HN.out]; omega) _ hR13 (by have := hBw13.size; omega)).mono ?_
  rintro e w14 ⟨rfl, hR14, k14⟩
  have b14 := rd2_bd hb 14
  obtain ⟨v14, hv14⟩ : ∃ v, rd2 l 14 = v := ⟨_, rfl⟩
  rw [hv14] at b14 ⊢
  have HV14 := Lib.hid hv14
  clear hv14
  have hg14 := hg13.grown k14 (by intro e; injection e with e; omega)
  have hm14 := hm13.grown k14 (by intro e; injection e with e; exact hR13.ne hm13 (by decide) e.symm)
  have hBw14 := hBw13.grown k14 (by have := hBw13.size; omega) (by intro i e; injection e with e; omega)
  have z14 := k14.size
  have f15 := hm14.frozen 7
  have c15 : w14.cell? ⟨gm, 7, none⟩ = some (.int .i64 0) := hm14.cell 7
  obtain ⟨w15, hw15⟩ : ∃ w15, w14.setCell ⟨gm, 7, none⟩ (.int .i64 v14) = w15 := ⟨_, rfl⟩
  have hR15 : Rd w15 w0.heap.size g (l.drop 16) 0 := by rw [← hw15]; exact hR14.store hm14 (by decide) (by decide) (NoU8.of (by intro u hu x; simp only [List.mem_cons, List.not_mem_nil, or_false] at hu; rcases hu with rfl | rfl | rfl | rfl | rfl | rfl | rfl | rfl | rfl | rfl | rfl <;> simp)) 7 (.int .i64 v14)
  have hm15 : Bk w15 gm 26 #[.int .u32 a, .int .i64 v3, .int .u32 b, .int .i64 v4, .int .u32 v7, .int .u32 v8, .int .i64 (v12 % 64), .int .i64 v14, .int .i64 0, .int .i64 (-1), .slice none 0 0] := by rw [← hw15]; exact hm14.set 7 (.int .i64 v14)
  have hg15 : Bk w15 w.heap.size 26 #[.int .u32 0, .int .i64 0, .int .u32 0, .int .i64 0, .int .u32 0, .int .u32 0, .int .i64 0, .int .i64 0, .int .i64 0, .int .i64 0, .slice none 0 0] := by rw [← hw15]; exact hg14.far (p := ⟨gm, 7, none⟩) (show w.heap.size ≠ gm by omega) (.int .i64 v14)
  have hBw15 : Below w.heap.size w w15 := by rw [← hw15]; exact hBw14.setCell (p := ⟨gm, 7, none⟩) (show w.heap.size ≤ gm by omega) (.int .i64 v14)
  have z15 : w15.heap.size = w14.heap.size := by rw [← hw15]; simp [World.setCell]
  have HW15 := Lib.hid hw15
  clear hw15
  go_wp2_with fail
  rw [HW15.out]
  refine (four_at _ g l 16 (by rw [HN.out]; omega) _ hR15 (by have := hBw15.size; omega)).mono ?_
  rintro e w16 ⟨rfl, hR16, k16⟩
  have b16 := rd4_bd hb 16
  obtain ⟨v16, hv16⟩ : ∃ v, rd4 l 16 = v := ⟨_, rfl⟩
  rw [hv16] at b16 ⊢
  have HV16 := Lib.hid hv16
  clear hv16
  have hg16 := hg15.grown k16 (by intro e; injection e with e; omega)
  have hm16 := hm15.grown k16 (by intro e; injection e with e; exact hR15.ne hm15 (by decide) e.symm)
  have hBw16 := hBw15.grown k16 (by have := hBw15.size; omega) (by intro i e; injection e with e; omega)
  have z16 := k16.size
  have HBW := Lib.hid hBw16
  go_wp2_with fail
  refine (rerr_any _ g _ _ _ hR16).mono ?_
  rintro e w' ⟨rfl, rfl⟩
  have hh : hdN l = v11.toNat / 16 * 4 := by unfold hdN; rw [HV11.out]
  have hbad := HBAD.out
  have hpos : 0 ≤ v11 / 16 * 4 - 20 := by have := hbad.1; omega
  obtain ⟨mm, hmm⟩ : ∃ mm : Nat, v11 / 16 * 4 - 20 = (mm : Int) := ⟨(v11 / 16 * 4 - 20).toNat, by omega⟩
  have hmn : mm = hdN l - 20 := by omega
  have hmle : 20 + mm ≤ n := by have := hbad.2.1; omega
  have HMN := Lib.hid hmn
  have HMM := Lib.hid hmm
  clear hbad hh hmn hmm
  go_wp2_with fail
  refine (raw_i _ _ g l 20 mm HMM.out (by rw [HN.out]; omega) (by rw [HN.out]; omega) _ hR16 (by have := hBw16.size; omega)).mono ?_
  rintro e w30 ⟨A30, n30, c30, rfl, hO30, hR30, k30⟩
  have hg30 := hg16.grown k30 (by intro e; injection e with e; omega)
  have hm30 := hm16.grown k30 (by intro e; injection e with e; exact hR16.ne hm16 (by decide) e.symm)
  have hBw30 := hBw16.grown k30 (by have := hBw16.size; omega) (by intro i e; injection e with e; omega)
  have z30 := hBw30.size
  have hl30 := hO30.length
  rw [List.length_take, List.length_drop, HN.out] at hl30
  have hn30 : n30 = mm := by omega
  subst hn30
  clear hl30
  go_wp2_with fail
  refine (rerr_any _ g _ _ _ hR30).mono ?_
  rintro e w' ⟨rfl, rfl⟩
  go_wp2_with fail
  refine (segsum_any a b ha hb' A n c B l HN.out (by omega) hb _ (Rw.below hr (hBw30.mono hB)) (by omega)).mono ?_
  rintro e w31 ⟨rfl, hB31⟩
  have hg31 := hg30.below hB31 hg30.lt
  have hBw31 := hBw30.trans (hB31.mono (by omega))
  have z31 := hBw31.size
  have hO31 : OB _ _ _ _ _ _ _ := Ow.stays hO30 hB31
  have HBW31 := Lib.hid hBw31
  have hz0 := Lib.hid HBAD.out.2.2.1
  rw [hz0.out]
  have hm31 := hm30.below hB31 hm30.lt
  have hopt : (l.drop 20).take n30 = optsOf l := by unfold optsOf; rw [← HMN.out]
  rw [hopt] at hO31
  have HP := Lib.hid HBAD.out.2.2.2
  clear hopt
  go_wp2_with fail
  refine (read_any gm ⟨a, v3, b, v4, v7, v8, v12 % 64, v14, 0, -1⟩ none 0 0 A30 n30 c30 _ (optsOf l) hO31.length (Ow.cap hO31) (by omega) ((hb.drop 20).take _) _ hO31.rb (Nat.le_refl _) (fun e => hm31.ow_ne hO31 (by decide) e.symm) hm31).mono ?_
  intro e w32 hP
  rcases hP with ⟨m, k, h1, _⟩ | ⟨_, rfl, hG⟩
  · have := HP.out.symm.trans h1
    cases this
  have hg32 := hg31.grown hG (by intro e; injection e with e; omega)
  have hBw32 := hBw31.grown hG (by omega) (by intro i e; injection e with e; omega)
  have HBW32 := Lib.hid hBw32
  have y0 := hg32.cell 0
  have y1 := hg32.cell 1
  have y2 := hg32.cell 2
  have y3 := hg32.cell 3
  have y4 := hg32.cell 4
  have y5 := hg32.cell 5
  have y6 := hg32.cell 6
  have y7 := hg32.cell 7
  have y8 := hg32.cell 8
  have y9 := hg32.cell 9
  have y10 := hg32.cell 10
  have x0 := hg32.frozen 0
  have x1 := hg32.frozen 1
  have x2 := hg32.frozen 2
  have x3 := hg32.frozen 3
  have x4 := hg32.frozen 4
  have x5 := hg32.frozen 5
  have x6 := hg32.frozen 6
  have x7 := hg32.frozen 7
  have x8 := hg32.frozen 8
  have x9 := hg32.frozen 9
  have x10 := hg32.frozen 10
  simp only [List.setIfInBounds_toArray, List.set_cons_succ, List.set_cons_zero, List.getElem?_toArray, List.getElem?_cons_zero, List.getElem?_cons_succ] at y0 y1 y2 y3 y4 y5 y6 y7 y8 y9 y10
  go_wp2_with fail
  refine bodyPost_ret (v := .tuple #[.agg #[.int .u32 0, .int .i64 0, .int .u32 0, .int .i64 0, .int .u32 0, .int .u32 0, .int .i64 0, .int .i64 0, .int .i64 0, .int .i64 0, .slice none 0 0], .int .i64 3]) (by simp [results, Try.results23, go_sem, *]) rfl ⟨rfl, ?_⟩
  exact Below.setCell (Below.setCell (Below.setCell (Below.setCell (Below.setCell (Below.setCell (Below.setCell (Below.setCell (Below.setCell (Below.setCell (Below.setCell (HBW32.out) (Nat.le_refl _) _) (Nat.le_refl _) _) (Nat.le_refl _) _) (Nat.le_refl _) _) (Nat.le_refl _) _) (Nat.le_refl _) _) (Nat.le_refl _) _) (Nat.le_refl _) _) (Nat.le_refl _) _) (Nat.le_refl _) _) (Nat.le_refl _) _
set_option maxHeartbeats 8000000 in
set_option maxRecDepth 100000 in
theorem decode_good (a b : Int) (ha : U32 a) (hb' : U32 b) (A : Option Addr) (n c B : Nat) (l : List Int) (hn : l.length = n) (h20 : 20 ≤ n) (hmax : n ≤ 65515) (hb : Bs l) (w : World) (hr : RB w B A l) (hB : B ≤ w.heap.size) (m k : Int) (hbad : 20 ≤ hdN l ∧ hdN l ≤ n ∧ segSum a b l = 0 ∧ parse (optsOf l) 0 0 (-1) = some (m, k)) :
    Calls Try.prog 23 #[.int .u32 a, .int .u32 b, .slice A n c] w fun e w' => ∃ A' n' c', e = .returned (.tuple #[.agg #[.int .u32 a, .int .i64 (rd2 l 0), .int .u32 b, .int .i64 (rd2 l 2), .int .u32 (rd4 l 4), .int .u32 (rd4 l 8), .int .i64 (at8 l 13 % 64), .int .i64 (rd2 l 14), .int .i64 m, .int .i64 k, .slice A' n' c'], .int .i64 0]) ∧
      OB 5 w' w.heap.size A' n' c' (l.drop (hdN l)) ∧ Below w.heap.size w w' := by
  have HBAD := Lib.hid hbad
  clear hbad
  obtain ⟨w0, hw0⟩ : ∃ w0, w.alloc (.cells #[.int .u32 0, .int .i64 0, .int .u32 0, .int .i64 0, .int .u32 0, .int .u32 0, .int .i64 0, .int .i64 0, .int .i64 0, .int .i64 0, .slice none 0 0] 26) = w0 := ⟨_, rfl⟩
  have hB0 : Below w.heap.size w w0 := by rw [← hw0]; exact (Below.refl _ _).alloc (Nat.le_refl _) _
  have hg0 : Bk w0 w.heap.size 26 #[.int .u32 0, .int .i64 0, .int .u32 0, .int .i64 0, .int .u32 0, .int .u32 0, .int .i64 0, .int .i64 0, .int .i64 0, .int .i64 0, .slice none 0 0] := by rw [← hw0]; exact Bk.new w _ _
  have hr0 : RB w0 B A l := Rw.below hr (hB0.mono hB)
  have HW0 := Lib.hid hw0
  have HN := Lib.hid hn
  have z0 := hg0.lt
  clear hn hw0
  go_enter Try.func23, Try.ntmps23
  go_wp2_with fail
  rw [HW0.out]
  refine (newreader_any A n c B l HN.out (by omega) hb _ hr0 (by omega)).mono ?_
  rintro e w1 ⟨g, rfl, hR1, hB1⟩
  have hg1 := hg0.below hB1 z0
  have z1 := hB1.size
  have hge := hR1.ge
  have hBw1 : Below w.heap.size w w1 := hB0.trans (hB1.mono (Nat.le_of_lt z0))
  rw [show l = l.drop 0 from rfl] at hR1
  obtain ⟨w2, hw2⟩ : ∃ w2, w1.alloc (.cells #[.int .u32 a, .int .i64 0, .int .u32 b, .int .i64 0, .int .u32 0, .int .u32 0, .int .i64 0, .int .i64 0, .int .i64 0, .int .i64 (-1), .slice none 0 0] 26) = w2 := ⟨_, rfl⟩
  have hm2 : Bk w2 w1.heap.size 26 #[.int .u32 a, .int .i64 0, .int .u32 b, .int .i64 0, .int .u32 0, .int .u32 0, .int .i64 0, .int .i64 0, .int .i64 0, .int .i64 (-1), .slice none 0 0] := by rw [← hw2]; exact Bk.new w1 _ _
  have hB2 : Below w1.heap.size w1 w2 := by rw [← hw2]; exact (Below.refl _ _).alloc (Nat.le_refl _) _
  have hR2 := hR1.below hB2
  have hg2 := hg1.below hB2 (by omega)
  have z2 := hB2.size
  have hBw2 : Below w.heap.size w w2 := hBw1.trans (hB2.mono (by omega))
  have HW2 := Lib.hid hw2
  obtain ⟨gm, hgm⟩ : ∃ gm, w1.heap.size = gm := ⟨_, rfl⟩
  rw [hgm] at hm2
  have HGM := Lib.hid hgm
  have hmg : w.heap.size < gm := by omega
  clear hw2 hgm
  go_wp2_with fail
  rw [HW2.out, HGM.out]
  refine (two_at _ g l 0 (by rw [HN.out]; omega) _ hR2 (by have := hBw2.size; omega)).mono ?_
  rintro e w3 ⟨rfl, hR3, k3⟩
  have b3 := rd2_bd hb 0
  obtain ⟨v3, hv3⟩ : ∃ v, rd2 l 0 = v := ⟨_, rfl⟩
  rw [hv3] at b3 ⊢
  have HV3 := Lib.hid hv3
  clear hv3
  have hg3 := hg2.grown k3 (by intro e; injection e with e; omega)
  have hm3 := hm2.grown k3 (by intro e; injection e with e; exact hR2.ne hm2 (by decide) e.symm)
  have hBw3 := hBw2.grown k3 (by have := hBw2.size; omega) (by intro i e; injection e with e; omega)
  have z3 := k3.size
  go_wp2_with fail
  refine (two_at _ g l 2 (by rw [HN.out]; omega) _ hR3 (by have := hBw3.size; omega)).mono ?_
  rintro e w4 ⟨rfl, hR4, k4⟩
  have b4 := rd2_bd hb 2
  obtain ⟨v4, hv4⟩ : ∃ v, rd2 l 2 = v := ⟨_, rfl⟩
  rw [hv4] at b4 ⊢
  have HV4 := Lib.hid hv4
  clear hv4
  have hg4 := hg3.grown k4 (by intro e; injection e with e; omega)
  have hm4 := hm3.grown k4 (by intro e; injection e with e; exact hR3.ne hm3 (by decide) e.symm)
  have hBw4 := hBw3.grown k4 (by have := hBw3.size; omega) (by intro i e; injection e with e; omega)
  have z4 := k4.size
  have f5 := hm4.frozen 1
  have c5 : w4.cell? ⟨gm, 1, none⟩ = some (.int .i64 0) := hm4.cell 1
  obtain ⟨w5, hw5⟩ : ∃ w5, w4.setCell ⟨gm, 1, none⟩ (.int .i64 v3) = w5 := ⟨_, rfl⟩
  have hR5 : Rd w5 w0.heap.size g (l.drop 4) 0 := by rw [← hw5]; exact hR4.store hm4 (by decide) (by decide) (NoU8.of (by intro u hu x; simp only [List.mem_cons, List.not_mem_nil, or_false] at hu; rcases hu with rfl | rfl | rfl | rfl | rfl | rfl | rfl | rfl | rfl | rfl | rfl <;> simp)) 1 (.int .i64 v3)
  have hm5 : Bk w5 gm 26 #[.int .u32 a, .int .i64 v3, .int .u32 b, .int .i64 0, .int .u32 0, .int .u32 0, .int .i64 0, .int .i64 0, .int .i64 0, .int .i64 (-1), .slice none 0 0] := by rw [← hw5]; exact hm4.set 1 (.int .i64 v3)
  have hg5 : Bk w5 w.heap.size 26 #[.int .u32 0, .int .i64 0, .int .u32 0, .int .i64 0, .int .u32 0, .int .u32 0, .int .i64 0, .int .i64 0, .int .i64 0, .int .i64 0, .slice none 0 0] := by rw [← hw5]; exact hg4.far (p := ⟨gm, 1, none⟩) (show w.heap.size ≠ gm by omega) (.int .i64 v3)
  have hBw5 : Below w.heap.size w w5 := by rw [← hw5]; exact hBw4.setCell (p := ⟨gm, 1, none⟩) (show w.heap.size ≤ gm by omega) (.int .i64 v3)
  have z5 : w5.heap.size = w4.heap.size := by rw [← hw5]; simp [World.setCell]
  have HW5 := Lib.hid hw5
  clear hw5
  have f6 := hm4.frozen 3
  have c6 : w4.cell? ⟨gm, 3, none⟩ = some (.int .i64 0) := hm4.cell 3
  obtain ⟨w6, hw6⟩ : ∃ w6, w5.setCell ⟨gm, 3, none⟩ (.int .i64 v4) = w6 := ⟨_, rfl⟩
  have hR6 : Rd w6 w0.heap.size g (l.drop 4) 0 := by rw [← hw6]; exact hR5.store hm5 (by decide) (by decide) (NoU8.of (by intro u hu x; simp only [List.mem_cons, List.not_mem_nil, or_false] at hu; rcases hu with rfl | rfl | rfl | rfl | rfl | rfl | rfl | rfl | rfl | rfl | rfl <;> simp)) 3 (.int .i64 v4)
  have hm6 : Bk w6 gm 26 #[.int .u32 a, .int .i64 v3, .int .u32 b, .int .i64 v4, .int .u32 0, .int .u32 0, .int .i64 0, .int .i64 0, .int .i64 0, .int .i64 (-1), .slice none 0 0] := by rw [← hw6]; exact hm5.set 3 (.int .i64 v4)
  have hg6 : Bk w6 w.heap.size 26 #[.int .u32 0, .int .i64 0, .int .u32 0, .int .i64 0, .int .u32 0, .int .u32 0, .int .i64 0, .int .i64 0, .int .i64 0, .int .i64 0, .slice none 0 0] := by rw [← hw6]; exact hg5.far (p := ⟨gm, 3, none⟩) (show w.heap.size ≠ gm by omega) (.int .i64 v4)
  have hBw6 : Below w.heap.size w w6 := by rw [← hw6]; exact hBw5.setCell (p := ⟨gm, 3, none⟩) (show w.heap.size ≤ gm by omega) (.int .i64 v4)
  have z6 : w6.heap.size = w5.heap.size := by rw [← hw6]; simp [World.setCell]
  have HW6 := Lib.hid hw6
  clear hw6
  go_wp2_with fail
  rw [HW5.out, HW6.out]
  refine (four_at _ g l 4 (by rw [HN.out]; omega) _ hR6 (by have := hBw6.size; omega)).mono ?_
  rintro e w7 ⟨rfl, hR7, k7⟩
  have b7 := rd4_bd hb 4
  obtain ⟨v7, hv7⟩ : ∃ v, rd4 l 4 = v := ⟨_, rfl⟩
  rw [hv7] at b7 ⊢
  have HV7 := Lib.hid hv7
  clear hv7
  have hg7 := hg6.grown k7 (by intro e; injection e with e; omega)
  have hm7 := hm6.grown k7 (by intro e; injection e with e; exact hR6.ne hm6 (by decide) e.symm)
  have hBw7 := hBw6.grown k7 (by have := hBw6.size; omega) (by intro i e; injection e with e; omega)
  have z7 := k7.size
  go_wp2_with fail
  refine (four_at _ g l 8 (by rw [HN.out]; omega) _ hR7 (by have := hBw7.size; omega)).mono ?_
  rintro e w8 ⟨rfl, hR8, k8⟩
  have b8 := rd4_bd hb 8
  obtain ⟨v8, hv8⟩ : ∃ v, rd4 l 8 = v := ⟨_, rfl⟩
  rw [hv8] at b8 ⊢
  have HV8 := Lib.hid hv8
  clear hv8
  have hg8 := hg7.grown k8 (by intro e; injection e with e; omega)
  have hm8 := hm7.grown k8 (by intro e; injection e with e; exact hR7.ne hm7 (by decide) e.symm)
  have hBw8 := hBw7.grown k8 (by have := hBw7.size; omega) (by intro i e; injection e with e; omega)
  have z8 := k8.size
  have f9 := hm8.frozen 4
  have c9 : w8.cell? ⟨gm, 4, none⟩ = some (.int .u32 0) := hm8.cell 4
  obtain ⟨w9, hw9⟩ : ∃ w9, w8.setCell ⟨gm, 4, none⟩ (.int .u32 v7) = w9 := ⟨_, rfl⟩
  have hR9 : Rd w9 w0.heap.size g (l.drop 12) 0 := by rw [← hw9]; exact hR8.store hm8 (by decide) (by decide) (NoU8.of (by intro u hu x; simp only [List.mem_cons, List.not_mem_nil, or_false] at hu; rcases hu with rfl | rfl | rfl | rfl | rfl | rfl | rfl | rfl | rfl | rfl | rfl <;> simp)) 4 (.int .u32 v7)
  have hm9 : Bk w9 gm 26 #[.int .u32 a, .int .i64 v3, .int .u32 b, .int .i64 v4, .int .u32 v7, .int .u32 0, .int .i64 0, .int .i64 0, .int .i64 0, .int .i64 (-1), .slice none 0 0] := by rw [← hw9]; exact hm8.set 4 (.int .u32 v7)
  have hg9 : Bk w9 w.heap.size 26 #[.int .u32 0, .int .i64 0, .int .u32 0, .int .i64 0, .int .u32 0, .int .u32 0, .int .i64 0, .int .i64 0, .int .i64 0, .int .i64 0, .slice none 0 0] := by rw [← hw9]; exact hg8.far (p := ⟨gm, 4, none⟩) (show w.heap.size ≠ gm by omega) (.int .u32 v7)
  have hBw9 : Below w.heap.size w w9 := by rw [← hw9]; exact hBw8.setCell (p := ⟨gm, 4, none⟩) (show w.heap.size ≤ gm by omega) (.int .u32 v7)
  have z9 : w9.heap.size = w8.heap.size := by rw [← hw9]; simp [World.setCell]
  have HW9 := Lib.hid hw9
  clear hw9
  have f10 := hm8.frozen 5
  have c10 : w8.cell? ⟨gm, 5, none⟩ = some (.int .u32 0) := hm8.cell 5
  obtain ⟨w10, hw10⟩ : ∃ w10, w9.setCell ⟨gm, 5, none⟩ (.int .u32 v8) = w10 := ⟨_, rfl⟩
  have hR10 : Rd w10 w0.heap.size g (l.drop 12) 0 := by rw [← hw10]; exact hR9.store hm9 (by decide) (by decide) (NoU8.of (by intro u hu x; simp only [List.mem_cons, List.not_mem_nil, or_false] at hu; rcases hu with rfl | rfl | rfl | rfl | rfl | rfl | rfl | rfl | rfl | rfl | rfl <;> simp)) 5 (.int .u32 v8)
  have hm10 : Bk w10 gm 26 #[.int .u32 a, .int .i64 v3, .int .u32 b, .int .i64 v4, .int .u32 v7, .int .u32 v8, .int .i64 0, .int .i64 0, .int .i64 0, .int .i64 (-1), .slice none 0 0] := by rw [← hw10]; exact hm9.set 5 (.int .u32 v8)
  have hg10 : Bk w10 w.heap.size 26 #[.int .u32 0, .int .i64 0, .int .u32 0, .int .i64 0, .int .u32 0, .int .u32 0, .int .i64 0, .int .i64 0, .int .i64 0, .int .i64 0, .slice none 0 0] := by rw [← hw10]; exact hg9.far (p := ⟨gm, 5, none⟩) (show w.heap.size ≠ gm by omega) (.int .u32 v8)
  have hBw10 : Below w.heap.size w w10 := by rw [← hw10]; exact hBw9.setCell (p := ⟨gm, 5, none⟩) (show w.heap.size ≤ gm by omega) (.int .u32 v8)
  have z10 : w10.heap.size = w9.heap.size := by rw [← hw10]; simp [World.setCell]
  have HW10 := Lib.hid hw10
  clear hw10
  go_wp2_with fail
  rw [HW9.out, HW10.out]
  refine (byte_at _ g l 12 (by rw [HN.out]; omega) _ hR10 (by have := hBw10.size; omega)).mono ?_
  rintro e w11 ⟨rfl, hR11, k11⟩
  have b11 := at8_bd hb 12
  obtain ⟨v11, hv11⟩ : ∃ v, at8 l 12 = v := ⟨_, rfl⟩
  rw [hv11] at b11 ⊢
  have HV11 := Lib.hid hv11
  clear hv11
  have hg11 := hg10.grown k11 (by intro e; injection e with e; omega)
  have hm11 := hm10.grown k11 (by intro e; injection e with e; exact hR10.ne hm10 (by decide) e.symm)
  have hBw11 := hBw10.grown k11 (by have := hBw10.size; omega) (by intro i e; injection e with e; omega)
  have z11 := k11.size
  go_wp2_with fail
  refine (byte_at _ g l 13 (by rw [HN.out]; omega) _ hR11 (by have := hBw11.size; omega)).mono ?_
  rintro e w12 ⟨rfl, hR12, k12⟩
  have b12 := at8_bd hb 13
  obtain ⟨v12, hv12⟩ : ∃ v, at8 l 13 = v := ⟨_, rfl⟩
  rw [hv12] at b12 ⊢
  have HV12 := Lib.hid hv12
  clear hv12
  have hg12 := hg11.grown k12 (by intro e; injection e with e; omega)
  have hm12 := hm11.grown k12 (by intro e; injection e with e; exact hR11.ne hm11 (by decide) e.symm)
  have hBw12 := hBw11.grown k12 (by have := hBw11.size; omega) (by intro i e; injection e with e; omega)
  have z12 := k12.size
  have f13 := hm12.frozen 6
  have c13 : w12.cell? ⟨gm, 6, none⟩ = some (.int .i64 0) := hm12.cell 6
  obtain ⟨w13, hw13⟩ : ∃ w13, w12.setCell ⟨gm, 6, none⟩ (.int .i64 (v12 % 64)) = w13 := ⟨_, rfl⟩
  have hR13 : Rd w13 w0.heap.size g (l.drop 14) 0 := by rw [← hw13]; exact hR12.store hm12 (by decide) (by decide) (NoU8.of (by intro u hu x; simp only [List.mem_cons, List.not_mem_nil, or_false] at hu; rcases hu with rfl | rfl | rfl | rfl | rfl | rfl | rfl | rfl | rfl | rfl | rfl <;> simp)) 6 (.int .i64 (v12 % 64))
  have hm13 : Bk w13 gm 26 #[.int .u32 a, .int .i64 v3, .int .u32 b, .int .i64 v4, .int .u32 v7, .int .u32 v8, .int .i64 (v12 % 64), .int .i64 0, .int .i64 0, .int .i64 (-1), .slice none 0 0] := by rw [← hw13]; exact hm12.set 6 (.int .i64 (v12 % 64))
  have hg13 : Bk w13 w.heap.size 26 #[.int .u32 0, .int .i64 0, .int .u32 0, .int .i64 0, .int .u32 0, .int .u32 0, .int .i64 0, .int .i64 0, .int .i64 0, .int .i64 0, .slice none 0 0] := by rw [← hw13]; exact hg12.far (p := ⟨gm, 6, none⟩) (show w.heap.size ≠ gm by omega) (.int .i64 (v12 % 64))
  have hBw13 : Below w.heap.size w w13 := by rw [← hw13]; exact hBw12.setCell (p := ⟨gm, 6, none⟩) (show w.heap.size ≤ gm by omega) (.int .i64 (v12 % 64))
  have z13 : w13.heap.size = w12.heap.size := by rw [← hw13]; simp [World.setCell]
  have HW13 := Lib.hid hw13
  clear hw13
  go_wp2_with fail
  rw [HW13.out]
  refine (two_at _ g l 14 (by rw [HN.out]; omega) _ hR13 (by have := hBw13.size; omega)).mono ?_
  rintro e w14 ⟨rfl, hR14, k14⟩
  have b14 := rd2_bd hb 14
  obtain ⟨v14, hv14⟩ : ∃ v, rd2 l 14 = v := ⟨_, rfl⟩
  rw [hv14] at b14 ⊢
  have HV14 := Lib.hid hv14
  clear hv14
  have hg14 := hg13.grown k14 (by intro e; injection e with e; omega)
  have hm14 := hm13.grown k14 (by intro e; injection e with e; exact hR13.ne hm13 (by decide) e.symm)
  have hBw14 := hBw13.grown k14 (by have := hBw13.size; omega) (by intro i e; injection e with e; omega)
  have z14 := k14.size
  have f15 := hm14.frozen 7
  have c15 : w14.cell? ⟨gm, 7, none⟩ = some (.int .i64 0) := hm14.cell 7
  obtain ⟨w15, hw15⟩ : ∃ w15, w14.setCell ⟨gm, 7, none⟩ (.int .i64 v14) = w15 := ⟨_, rfl⟩
  have hR15 : Rd w15 w0.heap.size g (l.drop 16) 0 := by rw [← hw15]; exact hR14.store hm14 (by decide) (by decide) (NoU8.of (by intro u hu x; simp only [List.mem_cons, List.not_mem_nil, or_false] at hu; rcases hu with rfl | rfl | rfl | rfl | rfl | rfl | rfl | rfl | rfl | rfl | rfl <;> simp)) 7 (.int .i64 v14)
  have hm15 : Bk w15 gm 26 #[.int .u32 a, .int .i64 v3, .int .u32 b, .int .i64 v4, .int .u32 v7, .int .u32 v8, .int .i64 (v12 % 64), .int .i64 v14, .int .i64 0, .int .i64 (-1), .slice none 0 0] := by rw [← hw15]; exact hm14.set 7 (.int .i64 v14)
  have hg15 : Bk w15 w.heap.size 26 #[.int .u32 0, .int .i64 0, .int .u32 0, .int .i64 0, .int .u32 0, .int .u32 0, .int .i64 0, .int .i64 0, .int .i64 0, .int .i64 0, .slice none 0 0] := by rw [← hw15]; exact hg14.far (p := ⟨gm, 7, none⟩) (show w.heap.size ≠ gm by omega) (.int .i64 v14)
  have hBw15 : Below w.heap.size w w15 := by rw [← hw15]; exact hBw14.setCell (p := ⟨gm, 7, none⟩) (show w.heap.size ≤ gm by omega) (.int .i64 v14)
  have z15 : w15.heap.size = w14.heap.size := by rw [← hw15]; simp [World.setCell]
  have HW15 := Lib.hid hw15
  clear hw15
  go_wp2_with fail
  rw [HW15.out]
  refine (four_at _ g l 16 (by rw [HN.out]; omega) _ hR15 (by have := hBw15.size; omega)).mono ?_
  rintro e w16 ⟨rfl, hR16, k16⟩
  have b16 := rd4_bd hb 16
  obtain ⟨v16, hv16⟩ : ∃ v, rd4 l 16 = v := ⟨_, rfl⟩
  rw [hv16] at b16 ⊢
  have HV16 := Lib.hid hv16
  clear hv16
  have hg16 := hg15.grown k16 (by intro e; injection e with e; omega)
  have hm16 := hm15.grown k16 (by intro e; injection e with e; exact hR15.ne hm15 (by decide) e.symm)
  have hBw16 := hBw15.grown k16 (by have := hBw15.size; omega) (by intro i e; injection e with e; omega)
  have z16 := k16.size
  have HBW := Lib.hid hBw16
  go_wp2_with fail
  refine (rerr_any _ g _ _ _ hR16).mono ?_
  rintro e w' ⟨rfl, rfl⟩
  have hh : hdN l = v11.toNat / 16 * 4 := by unfold hdN; rw [HV11.out]
  have hbad := HBAD.out
  have hpos : 0 ≤ v11 / 16 * 4 - 20 := by have := hbad.1; omega
  obtain ⟨mm, hmm⟩ : ∃ mm : Nat, v11 / 16 * 4 - 20 = (mm : Int) := ⟨(v11 / 16 * 4 - 20).toNat, by omega⟩
  have hmn : mm = hdN l - 20 := by omega
  have hmle : 20 + mm ≤ n := by have := hbad.2.1; omega
  have HMN := Lib.hid hmn
  have HMM := Lib.hid hmm
  clear hbad hh hmn hmm
  go_wp2_with fail
  refine (raw_i _ _ g l 20 mm HMM.out (by rw [HN.out]; omega) (by rw [HN.out]; omega) _ hR16 (by have := hBw16.size; omega)).mono ?_
  rintro e w30 ⟨A30, n30, c30, rfl, hO30, hR30, k30⟩
  have hg30 := hg16.grown k30 (by intro e; injection e with e; omega)
  have hm30 := hm16.grown k30 (by intro e; injection e with e; exact hR16.ne hm16 (by decide) e.symm)
  have hBw30 := hBw16.grown k30 (by have := hBw16.size; omega) (by intro i e; injection e with e; omega)
  have z30 := hBw30.size
  have hl30 := hO30.length
  rw [List.length_take, List.length_drop, HN.out] at hl30
  have hn30 : n30 = mm := by omega
  subst hn30
  clear hl30
  go_wp2_with fail
  refine (rerr_any _ g _ _ _ hR30).mono ?_
  rintro e w' ⟨rfl, rfl⟩
  go_wp2_with fail
  refine (segsum_any a b ha hb' A n c B l HN.out (by omega) hb _ (Rw.below hr (hBw30.mono hB)) (by omega)).mono ?_
  rintro e w31 ⟨rfl, hB31⟩
  have hg31 := hg30.below hB31 hg30.lt
  have hBw31 := hBw30.trans (hB31.mono (by omega))
  have z31 := hBw31.size
  have hO31 : OB _ _ _ _ _ _ _ := Ow.stays hO30 hB31
  have HBW31 := Lib.hid hBw31
  have hz0 := Lib.hid HBAD.out.2.2.1
  rw [hz0.out]
  have hm31 := hm30.below hB31 hm30.lt
  have hopt : (l.drop 20).take n30 = optsOf l := by unfold optsOf; rw [← HMN.out]
  rw [hopt] at hO31
  have HP := Lib.hid HBAD.out.2.2.2
  clear hopt
  go_wp2_with fail
  refine (read_any gm ⟨a, v3, b, v4, v7, v8, v12 % 64, v14, 0, -1⟩ none 0 0 A30 n30 c30 _ (optsOf l) hO31.length (Ow.cap hO31) (by omega) ((hb.drop 20).take _) _ hO31.rb (Nat.le_refl _) (fun e => hm31.ow_ne hO31 (by decide) e.symm) hm31).mono ?_
  intro e w32 hP
  rcases hP with ⟨m', k', h1, rfl, hm32, hG⟩ | ⟨h1, _⟩
  case inr => exact absurd (HP.out.symm.trans h1) (by simp)
  have hmk := HP.out.symm.trans h1
  injection hmk with hmk
  injection hmk with hmk1 hmk2
  subst hmk1
  subst hmk2
  clear h1
  have hg32 := hg31.grown hG (by intro e; injection e with e; omega)
  have hBw32 := hBw31.grown hG (by omega) (by intro i e; injection e with e; omega)
  have hR31 := hR30.below hB31
  have hR32 := hR31.turned hm31 (by decide) (by decide) (NoU8.of (by intro u hu x; simp only [List.mem_cons, List.not_mem_nil, or_false] at hu; rcases hu with rfl | rfl | rfl | rfl | rfl | rfl | rfl | rfl | rfl | rfl | rfl <;> simp)) hG
  have z32 := hBw32.size
  have hlen2 : Hid ((l.drop (20 + n30)).length = n - (20 + n30)) := Lib.hid (by rw [List.length_drop, HN.out])
  go_wp2_with fail
  refine (rleft_any _ g _ _ _ hR32).mono ?_
  rintro e w' ⟨rfl, rfl⟩
  rw [hlen2.out]
  go_wp2_with fail
  refine (raw_i _ _ g l (20 + n30) (n - (20 + n30)) rfl (by rw [HN.out]; omega) (by rw [HN.out]; omega) _ hR32 (by have := hG.size; have := hB31.size; have := k30.size; omega)).mono ?_
  rintro e w33 ⟨A33, n33, c33, rfl, hO33, hR33, k33⟩
  have hg33 := hg32.grown k33 (by intro e; injection e with e; omega)
  have hm33 := hm32.grown k33 (by intro e; injection e with e; exact hR32.ne hm32 (by decide) e.symm)
  have hBw33 := hBw32.grown k33 (by omega) (by intro i e; injection e with e; omega)
  have hHD : Hid (20 + n30 = hdN l) := Lib.hid (by have := HMN.out; have := HBAD.out.1; omega)
  have hO33' : OB 5 w33 w32.heap.size A33 n33 c33 (l.drop (hdN l)) := by
    rw [List.take_of_length_le (by rw [hlen2.out]; exact Nat.le_refl _), hHD.out] at hO33
    exact hO33
  have HO33 := Lib.hid hO33'
  have HBW33 := Lib.hid hBw33
  have KX := Lib.hid (hm33.set 10 (.slice A33 n33 c33))
  have f10 := hm33.frozen 10
  have c10 : w33.cell? ⟨gm, 10, none⟩ = some (.slice none 0 0) := hm33.cell 10
  have z33 := hBw33.size
  have z34 := k33.size
  have hw32 : w.heap.size < w32.heap.size := by have := hG.size; have := hB31.size; have := k30.size; omega
  clear hO33 hO33'
  have u0 := KX.out.cell 0
  have u1 := KX.out.cell 1
  have u2 := KX.out.cell 2
  have u3 := KX.out.cell 3
  have u4 := KX.out.cell 4
  have u5 := KX.out.cell 5
  have u6 := KX.out.cell 6
  have u7 := KX.out.cell 7
  have u8 := KX.out.cell 8
  have u9 := KX.out.cell 9
  have u10 := KX.out.cell 10
  simp only [List.setIfInBounds_toArray, List.set_cons_succ, List.set_cons_zero, List.getElem?_toArray, List.getElem?_cons_zero, List.getElem?_cons_succ] at u0 u1 u2 u3 u4 u5 u6 u7 u8 u9 u10
  have y0 := hg33.cell 0
  have y1 := hg33.cell 1
  have y2 := hg33.cell 2
  have y3 := hg33.cell 3
  have y4 := hg33.cell 4
  have y5 := hg33.cell 5
  have y6 := hg33.cell 6
  have y7 := hg33.cell 7
  have y8 := hg33.cell 8
  have y9 := hg33.cell 9
  have y10 := hg33.cell 10
  have x0 := hg33.frozen 0
  have x1 := hg33.frozen 1
  have x2 := hg33.frozen 2
  have x3 := hg33.frozen 3
  have x4 := hg33.frozen 4
  have x5 := hg33.frozen 5
  have x6 := hg33.frozen 6
  have x7 := hg33.frozen 7
  have x8 := hg33.frozen 8
  have x9 := hg33.frozen 9
  have x10 := hg33.frozen 10
  simp only [List.setIfInBounds_toArray, List.set_cons_succ, List.set_cons_zero, List.getElem?_toArray, List.getElem?_cons_zero, List.getElem?_cons_succ] at y0 y1 y2 y3 y4 y5 y6 y7 y8 y9 y10
  have hne1 : w.heap.size ≠ gm := by omega
  have hne2 : gm ≠ w.heap.size := by omega
  go_wp2_with fail
  refine bodyPost_ret (v := .tuple #[.agg #[.int .u32 a, .int .i64 v3, .int .u32 b, .int .i64 v4, .int .u32 v7, .int .u32 v8, .int .i64 (v12 % 64), .int .i64 v14, .int .i64 m, .int .i64 k, .slice A33 n33 c33], .int .i64 0]) (by simp [results, Try.results23, go_sem, *]) rfl ⟨A33, n33, c33, by rw [HV3.out, HV4.out, HV7.out, HV8.out, HV12.out, HV14.out], ?_, ?_⟩
  · exact Ow.mono (Ow.setLow (Ow.setLow (Ow.setLow (Ow.setLow (Ow.setLow (Ow.setLow (Ow.setLow (Ow.setLow (Ow.setLow (Ow.setLow (Ow.setLow (Ow.setLow HO33.out (show gm < w32.heap.size by have := hm32.lt; omega) (.slice A33 n33 c33)) hw32 _) hw32 _) hw32 _) hw32 _) hw32 _) hw32 _) hw32 _) hw32 _) hw32 _) hw32 _) hw32 _) (by omega)
  · exact Below.setCell (Below.setCell (Below.setCell (Below.setCell (Below.setCell (Below.setCell (Below.setCell (Below.setCell (Below.setCell (Below.setCell (Below.setCell (HBW33.out.setCell (p := ⟨gm, 10, none⟩) (show w.heap.size ≤ gm by omega) (.slice A33 n33 c33)) (Nat.le_refl _) _) (Nat.le_refl _) _) (Nat.le_refl _) _) (Nat.le_refl _) _) (Nat.le_refl _) _) (Nat.le_refl _) _) (Nat.le_refl _) _) (Nat.le_refl _) _) (Nat.le_refl _) _) (Nat.le_refl _) _) (Nat.le_refl _) _
end Go.Proofs.Ytifeomdmbjinoaa
