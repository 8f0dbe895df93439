/- Proved: the reference's Decode of a segment in all its cases. Conditions: bytes from 0 to 255. -/
import Derived.Test.YtifeomdmbjinoaaSegDA
import Derived.Test.YtifeomdmbjinoaaSegOR
import Derived.Test.YtifeomdmbjinoaaSegR
import Derived.Test.YtifeomdmbjinoaaInv
import Derived.Test.YtifeomdmbjinoaaOff
set_option linter.unusedVariables false
set_option linter.unusedSimpArgs false
namespace Go.Proofs.Ytifeomdmbjinoaa
open Go.RowKit

theorem rdecode_long (a b : Int) (A : Option Addr) (n c : Nat) (hm : 65515 < n) (w : World) :
    Calls Try.prog 24 #[.int .u32 a, .int .u32 b, .slice A n c] w fun e w' => e = .returned (.tuple #[.agg #[.int .u32 zeroS.fr, .int .i64 zeroS.fp, .int .u32 zeroS.to, .int .i64 zeroS.tp, .int .u32 zeroS.seq, .int .u32 zeroS.ack, .int .i64 zeroS.fl, .int .i64 zeroS.win, .int .i64 zeroS.mss, .int .i64 zeroS.sc, .slice none 0 0], .int .i64 5]) ∧ Below w.heap.size w w' := by
  go_enter Try.func24, Try.ntmps24
  go_wp2
  exact bodyPost_ret (v := .tuple #[.agg #[.int .u32 zeroS.fr, .int .i64 zeroS.fp, .int .u32 zeroS.to, .int .i64 zeroS.tp, .int .u32 zeroS.seq, .int .u32 zeroS.ack, .int .i64 zeroS.fl, .int .i64 zeroS.win, .int .i64 zeroS.mss, .int .i64 zeroS.sc, .slice none 0 0], .int .i64 5]) (by simp [results, Try.results24, go_sem, zeroS]) rfl ⟨rfl, (Below.refl _ _).alloc (Nat.le_refl _) _⟩
theorem rdecode_short (a b : Int) (A : Option Addr) (n c : Nat) (hm : n < 20) (w : World) :
    Calls Try.prog 24 #[.int .u32 a, .int .u32 b, .slice A n c] w fun e w' => e = .returned (.tuple #[.agg #[.int .u32 zeroS.fr, .int .i64 zeroS.fp, .int .u32 zeroS.to, .int .i64 zeroS.tp, .int .u32 zeroS.seq, .int .u32 zeroS.ack, .int .i64 zeroS.fl, .int .i64 zeroS.win, .int .i64 zeroS.mss, .int .i64 zeroS.sc, .slice none 0 0], .int .i64 2]) ∧ Below w.heap.size w w' := by
  have h1 : ¬ (65515 : Int) < n := by omega
  go_enter Try.func24, Try.ntmps24
  go_wp2
  exact bodyPost_ret (v := .tuple #[.agg #[.int .u32 zeroS.fr, .int .i64 zeroS.fp, .int .u32 zeroS.to, .int .i64 zeroS.tp, .int .u32 zeroS.seq, .int .u32 zeroS.ack, .int .i64 zeroS.fl, .int .i64 zeroS.win, .int .i64 zeroS.mss, .int .i64 zeroS.sc, .slice none 0 0], .int .i64 2]) (by simp [results, Try.results24, go_sem, zeroS]) rfl ⟨rfl, (Below.refl _ _).alloc (Nat.le_refl _) _⟩
set_option maxHeartbeats 4000000 in
set_option maxRecDepth 100000 in
/-- The ways that end ahead of the sum. -/
theorem rdecode_head (a b : Int) (A : Option Addr) (n c B : Nat) (l : List Int) (hn : l.length = n) (h20 : 20 ≤ n) (hmax : n ≤ 65515) (hb : Bs l) (w : World) (hr : RB w B A l) (hB : B ≤ w.heap.size) (er : Int) (hbad : (hdN l < 20 ∧ er = 3) ∨ ((20 ≤ hdN l ∧ n < hdN l) ∧ er = 2)) :
    Calls Try.prog 24 #[.int .u32 a, .int .u32 b, .slice A n c] w fun e w' => e = .returned (.tuple #[.agg #[.int .u32 zeroS.fr, .int .i64 zeroS.fp, .int .u32 zeroS.to, .int .i64 zeroS.tp, .int .u32 zeroS.seq, .int .u32 zeroS.ack, .int .i64 zeroS.fl, .int .i64 zeroS.win, .int .i64 zeroS.mss, .int .i64 zeroS.sc, .slice none 0 0], .int .i64 er]) ∧ Below w.heap.size w w' := by
  obtain ⟨bA, off, rfl, hbB, e12⟩ := RB.at_ hr (k := 12) (by rw [hn]; omega)
  have b12 := hb.at_ 12
  change w.cell? ⟨bA, off + 12, none⟩ = some (.int .u8 (at8 l 12)) at e12
  change 0 ≤ at8 l 12 ∧ at8 l 12 < 256 at b12
  obtain ⟨x, hx⟩ : ∃ x : Nat, at8 l 12 = (x : Int) := ⟨(at8 l 12).toNat, by omega⟩
  have hh : hdN l = x / 16 * 4 := by unfold hdN; rw [hx]; rfl
  rw [hx] at e12 b12
  rw [hh] at hbad
  have HH := Lib.hid hh
  have e12a := (World.cell?_alloc_lt w (.cells #[.int .u32 zeroS.fr, .int .i64 zeroS.fp, .int .u32 zeroS.to, .int .i64 zeroS.tp, .int .u32 zeroS.seq, .int .u32 zeroS.ack, .int .i64 zeroS.fl, .int .i64 zeroS.win, .int .i64 zeroS.mss, .int .i64 zeroS.sc, .slice none 0 0] 26) ⟨bA, off + 12, none⟩ (show bA < w.heap.size by omega)).trans e12
  simp only [zeroS] at e12a
  clear hx hh hn e12
  have h1 : ¬ (65515 : Int) < n := by omega
  have h2 : ¬ (n : Int) < 20 := by omega
  rcases hbad with ⟨h3, rfl⟩ | ⟨⟨h3, h4⟩, rfl⟩
  · have t3 : (x : Int) / 16 * 4 < 20 := by omega
    go_enter Try.func24, Try.ntmps24
    go_wp2
    exact bodyPost_ret (v := .tuple #[.agg #[.int .u32 zeroS.fr, .int .i64 zeroS.fp, .int .u32 zeroS.to, .int .i64 zeroS.tp, .int .u32 zeroS.seq, .int .u32 zeroS.ack, .int .i64 zeroS.fl, .int .i64 zeroS.win, .int .i64 zeroS.mss, .int .i64 zeroS.sc, .slice none 0 0], .int .i64 3]) (by simp [results, Try.results24, go_sem, zeroS]) rfl ⟨rfl, (Below.refl _ _).alloc (Nat.le_refl _) _⟩
  · have t3 : ¬ (x : Int) / 16 * 4 < 20 := by omega
    have t4 : (n : Int) < (x : Int) / 16 * 4 := by omega
    go_enter Try.func24, Try.ntmps24
    go_wp2
    exact bodyPost_ret (v := .tuple #[.agg #[.int .u32 zeroS.fr, .int .i64 zeroS.fp, .int .u32 zeroS.to, .int .i64 zeroS.tp, .int .u32 zeroS.seq, .int .u32 zeroS.ack, .int .i64 zeroS.fl, .int .i64 zeroS.win, .int .i64 zeroS.mss, .int .i64 zeroS.sc, .slice none 0 0], .int .i64 2]) (by simp [results, Try.results24, go_sem, zeroS]) rfl ⟨rfl, (Below.refl _ _).alloc (Nat.le_refl _) _⟩
set_option maxHeartbeats 4000000 in
set_option maxRecDepth 100000 in
theorem rdecode_sum (a b : Int) (ha : U32 a) (hb' : U32 b) (A : Option Addr) (n c B : Nat) (l : List Int) (hn : l.length = n) (h20 : 20 ≤ n) (hmax : n ≤ 65515) (hb : Bs l) (w : World) (hr : RB w B A l) (hB : B ≤ w.heap.size)
    (hbad : 20 ≤ hdN l ∧ hdN l ≤ n ∧ segSum a b l ≠ 0) :
    Calls Try.prog 24 #[.int .u32 a, .int .u32 b, .slice A n c] w fun e w' => e = .returned (.tuple #[.agg #[.int .u32 zeroS.fr, .int .i64 zeroS.fp, .int .u32 zeroS.to, .int .i64 zeroS.tp, .int .u32 zeroS.seq, .int .u32 zeroS.ack, .int .i64 zeroS.fl, .int .i64 zeroS.win, .int .i64 zeroS.mss, .int .i64 zeroS.sc, .slice none 0 0], .int .i64 4]) ∧ Below w.heap.size w w' := by
  obtain ⟨bA, off, rfl, hbB, e12⟩ := RB.at_ hr (k := 12) (by rw [hn]; omega)
  have b12 := hb.at_ 12
  change w.cell? ⟨bA, off + 12, none⟩ = some (.int .u8 (at8 l 12)) at e12
  change 0 ≤ at8 l 12 ∧ at8 l 12 < 256 at b12
  obtain ⟨x, hx⟩ : ∃ x : Nat, at8 l 12 = (x : Int) := ⟨(at8 l 12).toNat, by omega⟩
  have hh : hdN l = x / 16 * 4 := by unfold hdN; rw [hx]; rfl
  rw [hx] at e12 b12
  obtain ⟨h3, h4, hbad⟩ := hbad
  rw [hh] at h3 h4
  have h1 : ¬ (65515 : Int) < n := by omega
  have h2 : ¬ (n : Int) < 20 := by omega
  have t3 : ¬ (x : Int) / 16 * 4 < 20 := by omega
  have t4 : ¬ (n : Int) < (x : Int) / 16 * 4 := by omega
  have HBAD := Lib.hid hbad
  have HH := Lib.hid hh
  have HN := Lib.hid hn
  obtain ⟨w0, hw0⟩ : ∃ w0, w.alloc (.cells #[.int .u32 0, .int .i64 0, .int .u32 0, .int .i64 0, .int .u32 0, .int .u32 0, .int .i64 0, .int .i64 0, .int .i64 0, .int .i64 0, .slice none 0 0] 26) = w0 := ⟨_, rfl⟩
  have hB0 : Below w.heap.size w w0 := by rw [← hw0]; exact (Below.refl _ _).alloc (Nat.le_refl _) _
  have hg0 : Bk w0 w.heap.size 26 #[.int .u32 0, .int .i64 0, .int .u32 0, .int .i64 0, .int .u32 0, .int .u32 0, .int .i64 0, .int .i64 0, .int .i64 0, .int .i64 0, .slice none 0 0] := by rw [← hw0]; exact Bk.new w _ _
  have hr0 : RB w0 B (some ⟨bA, off, none⟩) l := Rw.below hr (hB0.mono hB)
  have z0 := hg0.lt
  have e12a := (World.cell?_alloc_lt w (.cells #[.int .u32 zeroS.fr, .int .i64 zeroS.fp, .int .u32 zeroS.to, .int .i64 zeroS.tp, .int .u32 zeroS.seq, .int .u32 zeroS.ack, .int .i64 zeroS.fl, .int .i64 zeroS.win, .int .i64 zeroS.mss, .int .i64 zeroS.sc, .slice none 0 0] 26) ⟨bA, off + 12, none⟩ (show bA < w.heap.size by omega)).trans e12
  simp only [zeroS] at e12a
  have HW0 := Lib.hid hw0
  clear hbad hx hh hn hw0 hB0 e12
  obtain ⟨sm, hsm⟩ : ∃ sm, segSum a b l = sm := ⟨_, rfl⟩
  have t5 : (sm != 0) = true := by have := HBAD.out; rw [hsm] at this; simpa using this
  have HSM := Lib.hid hsm
  clear hsm
  go_enter Try.func24, Try.ntmps24
  go_wp2_with fail
  rw [HW0.out]
  clear e12a
  refine (summed_any a b ha hb' _ n c B l HN.out (by omega) hb _ hr0 (by omega)).mono ?_
  rintro e w1 ⟨rfl, hB1⟩
  rw [HSM.out]
  have hg1 := hg0.below hB1 z0
  have HBW := Lib.hid ((show Below w.heap.size w w0 by rw [← HW0.out]; exact (Below.refl _ _).alloc (Nat.le_refl _) _).trans (hB1.mono (Nat.le_of_lt z0)))
  have y0 := hg1.cell 0
  have y1 := hg1.cell 1
  have y2 := hg1.cell 2
  have y3 := hg1.cell 3
  have y4 := hg1.cell 4
  have y5 := hg1.cell 5
  have y6 := hg1.cell 6
  have y7 := hg1.cell 7
  have y8 := hg1.cell 8
  have y9 := hg1.cell 9
  have y10 := hg1.cell 10
  have x0 := hg1.frozen 0
  have x1 := hg1.frozen 1
  have x2 := hg1.frozen 2
  have x3 := hg1.frozen 3
  have x4 := hg1.frozen 4
  have x5 := hg1.frozen 5
  have x6 := hg1.frozen 6
  have x7 := hg1.frozen 7
  have x8 := hg1.frozen 8
  have x9 := hg1.frozen 9
  have x10 := hg1.frozen 10
  simp only [List.setIfInBounds_toArray, List.set_cons_succ, List.set_cons_zero, List.getElem?_toArray, List.getElem?_cons_zero, List.getElem?_cons_succ] at y0 y1 y2 y3 y4 y5 y6 y7 y8 y9 y10
  go_wp2_with fail
  refine bodyPost_ret (v := .tuple #[.agg #[.int .u32 zeroS.fr, .int .i64 zeroS.fp, .int .u32 zeroS.to, .int .i64 zeroS.tp, .int .u32 zeroS.seq, .int .u32 zeroS.ack, .int .i64 zeroS.fl, .int .i64 zeroS.win, .int .i64 zeroS.mss, .int .i64 zeroS.sc, .slice none 0 0], .int .i64 4]) (by simp [results, Try.results24, go_sem, zeroS, *]) rfl ⟨rfl, ?_⟩
  exact Below.setCell (Below.setCell (Below.setCell (Below.setCell (Below.setCell (Below.setCell (Below.setCell (Below.setCell (Below.setCell (Below.setCell (Below.setCell (HBW.out) (Nat.le_refl _) _) (Nat.le_refl _) _) (Nat.le_refl _) _) (Nat.le_refl _) _) (Nat.le_refl _) _) (Nat.le_refl _) _) (Nat.le_refl _) _) (Nat.le_refl _) _) (Nat.le_refl _) _) (Nat.le_refl _) _) (Nat.le_refl _) _
set_option maxHeartbeats 4000000 in
set_option maxRecDepth 100000 in
theorem rdecode_opts (a b : Int) (ha : U32 a) (hb' : U32 b) (A : Option Addr) (n c B : Nat) (l : List Int) (hn : l.length = n) (h20 : 20 ≤ n) (hmax : n ≤ 65515) (hc : n ≤ c) (hb : Bs l) (w : World) (hr : RB w B A l) (hB : B ≤ w.heap.size)
    (hbad : 20 ≤ hdN l ∧ hdN l ≤ n ∧ segSum a b l = 0 ∧ parse (optsOf l) 0 0 (-1) = none) :
    Calls Try.prog 24 #[.int .u32 a, .int .u32 b, .slice A n c] w fun e w' => e = .returned (.tuple #[.agg #[.int .u32 zeroS.fr, .int .i64 zeroS.fp, .int .u32 zeroS.to, .int .i64 zeroS.tp, .int .u32 zeroS.seq, .int .u32 zeroS.ack, .int .i64 zeroS.fl, .int .i64 zeroS.win, .int .i64 zeroS.mss, .int .i64 zeroS.sc, .slice none 0 0], .int .i64 3]) ∧ Below w.heap.size w w' := by
  obtain ⟨bA, off, rfl, hbB, e12⟩ := RB.at_ hr (k := 12) (by rw [hn]; omega)
  have b12 := hb.at_ 12
  change w.cell? ⟨bA, off + 12, none⟩ = some (.int .u8 (at8 l 12)) at e12
  change 0 ≤ at8 l 12 ∧ at8 l 12 < 256 at b12
  obtain ⟨x, hx⟩ : ∃ x : Nat, at8 l 12 = (x : Int) := ⟨(at8 l 12).toNat, by omega⟩
  have hh : hdN l = x / 16 * 4 := by unfold hdN; rw [hx]; rfl
  rw [hx] at e12 b12
  obtain ⟨h3, h4, hbad⟩ := hbad
  rw [hh] at h3 h4
  have h1 : ¬ (65515 : Int) < n := by omega
  have h2 : ¬ (n : Int) < 20 := by omega
  have t3 : ¬ (x : Int) / 16 * 4 < 20 := by omega
  have t4 : ¬ (n : Int) < (x : Int) / 16 * 4 := by omega
  have HBAD := Lib.hid hbad
  have HH := Lib.hid hh
  have HN := Lib.hid hn
  obtain ⟨w0, hw0⟩ : ∃ w0, w.alloc (.cells #[.int .u32 0, .int .i64 0, .int .u32 0, .int .i64 0, .int .u32 0, .int .u32 0, .int .i64 0, .int .i64 0, .int .i64 0, .int .i64 0, .slice none 0 0] 26) = w0 := ⟨_, rfl⟩
  have hB0 : Below w.heap.size w w0 := by rw [← hw0]; exact (Below.refl _ _).alloc (Nat.le_refl _) _
  have hg0 : Bk w0 w.heap.size 26 #[.int .u32 0, .int .i64 0, .int .u32 0, .int .i64 0, .int .u32 0, .int .u32 0, .int .i64 0, .int .i64 0, .int .i64 0, .int .i64 0, .slice none 0 0] := by rw [← hw0]; exact Bk.new w _ _
  have hr0 : RB w0 B (some ⟨bA, off, none⟩) l := Rw.below hr (hB0.mono hB)
  have z0 := hg0.lt
  have e12a := (World.cell?_alloc_lt w (.cells #[.int .u32 zeroS.fr, .int .i64 zeroS.fp, .int .u32 zeroS.to, .int .i64 zeroS.tp, .int .u32 zeroS.seq, .int .u32 zeroS.ack, .int .i64 zeroS.fl, .int .i64 zeroS.win, .int .i64 zeroS.mss, .int .i64 zeroS.sc, .slice none 0 0] 26) ⟨bA, off + 12, none⟩ (show bA < w.heap.size by omega)).trans e12
  simp only [zeroS] at e12a
  have HW0 := Lib.hid hw0
  clear hbad hx hh hn hw0 hB0 e12
  obtain ⟨sm, hsm⟩ : ∃ sm, segSum a b l = sm := ⟨_, rfl⟩
  have t5 : (sm != 0) = false := by have := HBAD.out.1; rw [hsm] at this; simpa using this
  have HSM := Lib.hid hsm
  clear hsm
  obtain ⟨A', hA'⟩ : ∃ A', (if c = 20 then some (⟨bA, off, none⟩ : Addr) else some ⟨bA, off + 20, none⟩) = A' := ⟨_, rfl⟩
  have hro : ∀ w1, RB w1 B (some ⟨bA, off, none⟩) l → RB w1 B A' (optsOf l) := fun w1 h => by
    have h5 := (h.cut c 20 (by rw [HN.out]; exact hc)).take (hdN l - 20)
    rw [← hA']
    exact h5
  have hol : (optsOf l).length = x / 16 * 4 - 20 := by unfold optsOf; rw [List.length_take, List.length_drop, HN.out, HH.out]; omega
  have HRO := Lib.hid hro
  have HOL := Lib.hid hol
  clear hro hol
  go_enter Try.func24, Try.ntmps24
  go_wp2_with fail
  rw [HW0.out]
  clear e12a
  refine (summed_any a b ha hb' _ n c B l HN.out (by omega) hb _ hr0 (by omega)).mono ?_
  rintro e w1 ⟨rfl, hB1⟩
  rw [HSM.out]
  have hg1 := hg0.below hB1 z0
  have hr1 : RB w1 B (some ⟨bA, off, none⟩) l := Rw.below hr0 (hB1.mono (by omega))
  have HBW := Lib.hid ((show Below w.heap.size w w0 by rw [← HW0.out]; exact (Below.refl _ _).alloc (Nat.le_refl _) _).trans (hB1.mono (Nat.le_of_lt z0)))
  have HR1 := Lib.hid hr1
  clear hr1
  go_wp2_with fail
  refine (options_any' A' _ _ B (optsOf l) HOL.out (by omega) ((hb.drop _).take _) _ (HRO.out _ HR1.out)).mono ?_
  rintro e w2 h2
  unfold OptPost at h2
  rw [HBAD.out.2] at h2
  rcases h2 with ⟨m, k, q, h2, _⟩ | ⟨q, _, rfl, rfl⟩
  · cases h2
  have y0 := hg1.cell 0
  have y1 := hg1.cell 1
  have y2 := hg1.cell 2
  have y3 := hg1.cell 3
  have y4 := hg1.cell 4
  have y5 := hg1.cell 5
  have y6 := hg1.cell 6
  have y7 := hg1.cell 7
  have y8 := hg1.cell 8
  have y9 := hg1.cell 9
  have y10 := hg1.cell 10
  have x0 := hg1.frozen 0
  have x1 := hg1.frozen 1
  have x2 := hg1.frozen 2
  have x3 := hg1.frozen 3
  have x4 := hg1.frozen 4
  have x5 := hg1.frozen 5
  have x6 := hg1.frozen 6
  have x7 := hg1.frozen 7
  have x8 := hg1.frozen 8
  have x9 := hg1.frozen 9
  have x10 := hg1.frozen 10
  simp only [List.setIfInBounds_toArray, List.set_cons_succ, List.set_cons_zero, List.getElem?_toArray, List.getElem?_cons_zero, List.getElem?_cons_succ] at y0 y1 y2 y3 y4 y5 y6 y7 y8 y9 y10
  go_wp2_with fail
  refine bodyPost_ret (v := .tuple #[.agg #[.int .u32 zeroS.fr, .int .i64 zeroS.fp, .int .u32 zeroS.to, .int .i64 zeroS.tp, .int .u32 zeroS.seq, .int .u32 zeroS.ack, .int .i64 zeroS.fl, .int .i64 zeroS.win, .int .i64 zeroS.mss, .int .i64 zeroS.sc, .slice none 0 0], .int .i64 3]) (by simp [results, Try.results24, go_sem, zeroS, *]) rfl ⟨rfl, ?_⟩
  exact Below.setCell (Below.setCell (Below.setCell (Below.setCell (Below.setCell (Below.setCell (Below.setCell (Below.setCell (Below.setCell (Below.setCell (Below.setCell (bel_drewN HBW.out q) (Nat.le_refl _) _) (Nat.le_refl _) _) (Nat.le_refl _) _) (Nat.le_refl _) _) (Nat.le_refl _) _) (Nat.le_refl _) _) (Nat.le_refl _) _) (Nat.le_refl _) _) (Nat.le_refl _) _) (Nat.le_refl _) _) (Nat.le_refl _) _
/-- What each operation of region 15 yields, but for the memory that is made. -/
def rdC (a b : Int) (bA off n c : Nat) (A2 : Option Addr) (l : List Int) (m k : Int) (x : Nat) : Nat → Value
  | 0 => .int .u32 a
  | 1 => .slice (some (⟨bA, off, none⟩ : Addr)) n c
  | 2 => .int .i64 (rd2 l 0)
  | 3 => .int .u32 b
  | 4 => .slice (some (⟨bA, off, none⟩ : Addr)) n c
  | 5 => .int .i64 (rd2 l 2)
  | 6 => .slice (some (⟨bA, off, none⟩ : Addr)) n c
  | 7 => .int .u32 (rd4 l 4)
  | 8 => .slice (some (⟨bA, off, none⟩ : Addr)) n c
  | 9 => .int .u32 (rd4 l 8)
  | 10 => .slice (some (⟨bA, off, none⟩ : Addr)) n c
  | 11 => .pointer (some ⟨bA, off + 13, none⟩)
  | 12 => .int .u8 (at8 l 13)
  | 13 => .int .u8 (at8 l 13 % 64)
  | 14 => .int .i64 (at8 l 13 % 64)
  | 15 => .slice (some (⟨bA, off, none⟩ : Addr)) n c
  | 16 => .int .i64 (rd2 l 14)
  | 17 => .int .i64 m
  | 18 => .int .i64 k
  | 20 => .slice (some (⟨bA, off, none⟩ : Addr)) n c
  | 21 => .int .i64 (x / 16 * 4 : Nat)
  | 22 => .slice A2 (n - x / 16 * 4) (c - x / 16 * 4)
  | 26 => .int .i64 0
  | _ => undef
def rdPlain (j : Nat) : Bool := !(j == 19 || j == 23 || j == 24 || j == 25)
def rdA (a b : Int) (l : List Int) (m k : Int) (A1 : Option Addr) (n1 c1 : Nat) : Array Value := #[.int .u32 a, .int .i64 (rd2 l 0), .int .u32 b, .int .i64 (rd2 l 2), .int .u32 (rd4 l 4), .int .u32 (rd4 l 8), .int .i64 (at8 l 13 % 64), .int .i64 (rd2 l 14), .int .i64 m, .int .i64 k, .slice A1 n1 c1]
/-- The invariant: what is known of those that have come up, and of the world. -/
def rdR (a b : Int) (bA off n c : Nat) (A2 : Option Addr) (l : List Int) (m k : Int) (x : Nat) (g B : Nat) (wE : World) (L : Nat → Bool) (v : Nat → Value) (w : World) : Prop :=
  ∃ A0 c0 A1 c1, (∀ j, L j = true → rdPlain j = true → v j = rdC a b bA off n c A2 l m k x j) ∧ Below g wE w ∧ g < w.heap.size ∧
    (L 19 = true → v 19 = .slice A0 0 c0 ∧ (L 23 = false → OB 5 w g A0 0 c0 [])) ∧
    (L 23 = true → v 23 = .slice A1 (n - x / 16 * 4) c1 ∧ OB 5 w g A1 (n - x / 16 * 4) c1 (l.drop (x / 16 * 4))) ∧
    (L 24 = true → v 24 = .agg (rdA a b l m k A1 (n - x / 16 * 4) c1) ∧ L 23 = true) ∧
    (L 25 = false → ∃ cs, cs.size = 11 ∧ Bk w g 26 cs) ∧ (L 25 = true → Bk w g 26 (rdA a b l m k A1 (n - x / 16 * 4) c1) ∧ L 24 = true)
theorem rdR_plain {a b : Int} {bA off n c : Nat} {A2 : Option Addr} {l : List Int} {m k : Int} {x g B : Nat} {wE : World} {L : Nat → Bool} {v : Nat → Value} {w : World} (h : rdR a b bA off n c A2 l m k x g B wE L v w) :
    ∀ j, L j = true → rdPlain j = true → v j = rdC a b bA off n c A2 l m k x j := by
  obtain ⟨A0, c0, A1, c1, h1, _⟩ := h
  exact h1
theorem rdR.below {a b : Int} {bA off n c : Nat} {A2 : Option Addr} {l : List Int} {m k : Int} {x g B : Nat} {wE : World} {L : Nat → Bool} {v : Nat → Value} {w : World} (h : rdR a b bA off n c A2 l m k x g B wE L v w) : Below g wE w := by
  obtain ⟨A0, c0, A1, c1, _, h1, _⟩ := h
  exact h1
/-- One more of the plain ones. -/
theorem rdR_step {a b : Int} {bA off n c : Nat} {A2 : Option Addr} {l : List Int} {m k : Int} {x g B : Nat} {wE : World} {L : Nat → Bool} {v : Nat → Value} {w w' : World} (h : rdR a b bA off n c A2 l m k x g B wE L v w)
    {i : Nat} {u : Value} (hp : rdPlain i = true) (hu : u = rdC a b bA off n c A2 l m k x i) (hw : ∃ j, w' = w.drewN j) : rdR a b bA off n c A2 l m k x g B wE (upd L i true) (upd v i u) w' := by
  obtain ⟨j, rfl⟩ := hw
  obtain ⟨A0, c0, A1, c1, h1, h2, h3, h4, h5, h6, h7, h8⟩ := h
  have n19 : 19 ≠ i := by rintro rfl; cases hp
  have n23 : 23 ≠ i := by rintro rfl; cases hp
  have n24 : 24 ≠ i := by rintro rfl; cases hp
  have n25 : 25 ≠ i := by rintro rfl; cases hp
  refine ⟨A0, c0, A1, c1, fun y hy hpy => ?_, bel_drewN h2 j, h3, ?_, ?_, ?_, ?_, ?_⟩
  · by_cases e : y = i
    · subst e; rw [upd_same]; exact hu
    · rw [upd_ne _ _ e]; rw [upd_ne _ _ e] at hy; exact h1 y hy hpy
  · rw [upd_ne _ _ n19, upd_ne _ _ n19, upd_ne _ _ n23]; exact h4
  · rw [upd_ne _ _ n23, upd_ne _ _ n23]; exact h5
  · rw [upd_ne _ _ n24, upd_ne _ _ n24, upd_ne _ _ n23]; exact h6
  · rw [upd_ne _ _ n25]; exact h7
  · rw [upd_ne _ _ n25, upd_ne _ _ n24]; exact h8
set_option maxHeartbeats 20000000 in
set_option maxRecDepth 100000 in
theorem rdecode_good (a b : Int) (ha : U32 a) (hb' : U32 b) (A : Option Addr) (n c B : Nat) (l : List Int) (hn : l.length = n) (h20 : 20 ≤ n) (hmax : n ≤ 65515) (hc : n ≤ c) (hb : Bs l) (w : World) (hr : RB w B A l) (hB : B ≤ w.heap.size)
    (m k : Int) (hbad : 20 ≤ hdN l ∧ hdN l ≤ n ∧ segSum a b l = 0 ∧ parse (optsOf l) 0 0 (-1) = some (m, k)) :
    Calls Try.prog 24 #[.int .u32 a, .int .u32 b, .slice A n c] w fun e w' => ∃ A' n' c', e = .returned (.tuple #[.agg #[.int .u32 (decS a b l m k).fr, .int .i64 (decS a b l m k).fp, .int .u32 (decS a b l m k).to, .int .i64 (decS a b l m k).tp, .int .u32 (decS a b l m k).seq, .int .u32 (decS a b l m k).ack, .int .i64 (decS a b l m k).fl, .int .i64 (decS a b l m k).win, .int .i64 (decS a b l m k).mss, .int .i64 (decS a b l m k).sc, .slice A' n' c'], .int .i64 0]) ∧
      OB 5 w' w.heap.size A' n' c' (l.drop (hdN l)) ∧ Below w.heap.size w w' := by
  obtain ⟨bA, off, rfl, hbB, e12⟩ := RB.at_ hr (k := 12) (by rw [hn]; omega)
  have b12 := hb.at_ 12
  change w.cell? ⟨bA, off + 12, none⟩ = some (.int .u8 (at8 l 12)) at e12
  change 0 ≤ at8 l 12 ∧ at8 l 12 < 256 at b12
  obtain ⟨x, hx⟩ : ∃ x : Nat, at8 l 12 = (x : Int) := ⟨(at8 l 12).toNat, by omega⟩
  have hh : hdN l = x / 16 * 4 := by unfold hdN; rw [hx]; rfl
  rw [hx] at e12 b12
  obtain ⟨h3, h4, hbad⟩ := hbad
  rw [hh] at h3 h4
  have h1 : ¬ (65515 : Int) < n := by omega
  have h2 : ¬ (n : Int) < 20 := by omega
  have t3 : ¬ (x : Int) / 16 * 4 < 20 := by omega
  have t4 : ¬ (n : Int) < (x : Int) / 16 * 4 := by omega
  have HBAD := Lib.hid hbad
  have HH := Lib.hid hh
  have HN := Lib.hid hn
  obtain ⟨w0, hw0⟩ : ∃ w0, w.alloc (.cells #[.int .u32 0, .int .i64 0, .int .u32 0, .int .i64 0, .int .u32 0, .int .u32 0, .int .i64 0, .int .i64 0, .int .i64 0, .int .i64 0, .slice none 0 0] 26) = w0 := ⟨_, rfl⟩
  have hB0 : Below w.heap.size w w0 := by rw [← hw0]; exact (Below.refl _ _).alloc (Nat.le_refl _) _
  have hg0 : Bk w0 w.heap.size 26 #[.int .u32 0, .int .i64 0, .int .u32 0, .int .i64 0, .int .u32 0, .int .u32 0, .int .i64 0, .int .i64 0, .int .i64 0, .int .i64 0, .slice none 0 0] := by rw [← hw0]; exact Bk.new w _ _
  have hr0 : RB w0 B (some ⟨bA, off, none⟩) l := Rw.below hr (hB0.mono hB)
  have z0 := hg0.lt
  have e12a := (World.cell?_alloc_lt w (.cells #[.int .u32 zeroS.fr, .int .i64 zeroS.fp, .int .u32 zeroS.to, .int .i64 zeroS.tp, .int .u32 zeroS.seq, .int .u32 zeroS.ack, .int .i64 zeroS.fl, .int .i64 zeroS.win, .int .i64 zeroS.mss, .int .i64 zeroS.sc, .slice none 0 0] 26) ⟨bA, off + 12, none⟩ (show bA < w.heap.size by omega)).trans e12
  simp only [zeroS] at e12a
  have HW0 := Lib.hid hw0
  clear hbad hx hh hn hw0 hB0 e12
  obtain ⟨sm, hsm⟩ : ∃ sm, segSum a b l = sm := ⟨_, rfl⟩
  have t5 : (sm != 0) = false := by have := HBAD.out.1; rw [hsm] at this; simpa using this
  have HSM := Lib.hid hsm
  clear hsm
  obtain ⟨A', hA'⟩ : ∃ A', (if c = 20 then some (⟨bA, off, none⟩ : Addr) else some ⟨bA, off + 20, none⟩) = A' := ⟨_, rfl⟩
  have hro : ∀ w1, RB w1 B (some ⟨bA, off, none⟩) l → RB w1 B A' (optsOf l) := fun w1 h => by
    have h5 := (h.cut c 20 (by rw [HN.out]; exact hc)).take (hdN l - 20)
    rw [← hA']
    exact h5
  have hol : (optsOf l).length = x / 16 * 4 - 20 := by unfold optsOf; rw [List.length_take, List.length_drop, HN.out, HH.out]; omega
  have HRO := Lib.hid hro
  have HOL := Lib.hid hol
  clear hro hol
  go_enter Try.func24, Try.ntmps24
  go_wp2_with fail
  rw [HW0.out]
  clear e12a
  refine (summed_any a b ha hb' _ n c B l HN.out (by omega) hb _ hr0 (by omega)).mono ?_
  rintro e w1 ⟨rfl, hB1⟩
  rw [HSM.out]
  have hg1 := hg0.below hB1 z0
  have hr1 : RB w1 B (some ⟨bA, off, none⟩) l := Rw.below hr0 (hB1.mono (by omega))
  have HBW := Lib.hid ((show Below w.heap.size w w0 by rw [← HW0.out]; exact (Below.refl _ _).alloc (Nat.le_refl _) _).trans (hB1.mono (Nat.le_of_lt z0)))
  have HR1 := Lib.hid hr1
  clear hr1
  go_wp2_with fail
  refine (options_any' A' _ _ B (optsOf l) HOL.out (by omega) ((hb.drop _).take _) _ (HRO.out _ HR1.out)).mono ?_
  rintro e w2 h2
  unfold OptPost at h2
  rw [HBAD.out.2] at h2
  rcases h2 with ⟨m', k', q, h2, rfl, rfl⟩ | ⟨q, h2, _⟩
  case inr => cases h2
  injection h2 with h2
  injection h2 with e1 e2
  subst e1; subst e2
  obtain ⟨A2, hA2⟩ : ∃ A2, (if c = x / 16 * 4 then some (⟨bA, off, none⟩ : Addr) else some ⟨bA, off + x / 16 * 4, none⟩) = A2 := ⟨_, rfl⟩
  have HA2 := Lib.hid hA2
  clear hA2
  go_wp2_with fail
  have b13 := hb.at_ 13
  change 0 ≤ at8 l 13 ∧ at8 l 13 < 256 at b13
  have hlen := HN.out
  have hhd := HH.out
  have hro2 : ∀ w3, Below w.heap.size w w3 → RB w3 B (some ⟨bA, off, none⟩) l := fun w3 h3 => Rw.below hr (h3.mono hB)
  have hcut : ∀ w3, Below w.heap.size w w3 → RB w3 B A2 (l.drop (x / 16 * 4)) := fun w3 h3 => by
    have h5 := (hro2 w3 h3).cut c (x / 16 * 4) (by omega)
    rw [Option.map_some, add_eq] at h5
    rw [← HA2.out]; exact h5
  have hld : (l.drop (x / 16 * 4)).length = n - x / 16 * 4 := by rw [List.length_drop]; omega
  refine wp_region_inv [some 51, some 52, some 53, some 54, some 55, some 56, some 57, some 58, some 59, some 60, some 61, some 62, some 63, some 64, some 65, some 66, some 67, some 68, some 69, some 70, some 71, some 72, some 73, some 74, some 75, none, some 7] (rdR a b bA off n c A2 l m k x w.heap.size B w) (by kernel_rfl) rfl (by kernel_rfl) (by kernel_rfl) (by kernel_rfl) (by kernel_rfl) ?_ ?_ ?_
  · exact ⟨none, 0, none, 0, (fun _ h => by cases h), bel_drewN HBW.out (q + 1), hg1.lt, (fun h => by cases h), (fun h => by cases h), (fun h => by cases h), fun _ => ⟨_, rfl, hg1⟩, (fun h => by cases h)⟩
  · refine ⟨?_, ?_, ?_, ?_, ?_, ?_, ?_, ?_, ?_, ?_, ?_, ?_, ?_, ?_, ?_, ?_, ?_, ?_, ?_, ?_, ?_, ?_, ?_, ?_, ?_, ?_, ?_, trivial⟩
    · intro L v w3 f hL hdep hF hR K hK
      have e0 := (hF.1 0 (by decide)).trans rfl
      unfold Oper.wp
      simp only [execOp, e0]
      exact hK _ _ (rdR_step hR rfl rfl ⟨0, rfl⟩)
    · intro L v w3 f hL hdep hF hR K hK
      have e0 := (hF.1 2 (by decide)).trans rfl
      unfold Oper.wp
      simp only [execOp, e0]
      exact hK _ _ (rdR_step hR rfl rfl ⟨0, rfl⟩)
    · intro L v w3 f hL hdep hF hR K hK
      simp [Region.binds] at hdep
      have e1 : f.eval (.tmp 52) = _ := ((hF.2 1 52 rfl hdep).trans (rdR_plain hR 1 hdep rfl)).trans (show rdC a b bA off n c A2 l m k x 1 = .slice (some (⟨bA, off, none⟩ : Addr)) n c from rfl)
      have ec : f.eval (.const (.int .i64 0)) = .int .i64 0 := rfl
      unfold Oper.wp
      simp only [execOp, resolve, List.map_toArray, List.map_cons, List.map_nil, e1, ec]
      refine (get2_any _ n c B l 0 hlen (by omega) (by omega) hb _ (hro2 _ hR.below)).mono ?_
      rintro e w4 ⟨rfl, hw4⟩
      exact hK _ _ (rdR_step hR rfl rfl hw4)
    · intro L v w3 f hL hdep hF hR K hK
      have e0 := (hF.1 1 (by decide)).trans rfl
      unfold Oper.wp
      simp only [execOp, e0]
      exact hK _ _ (rdR_step hR rfl rfl ⟨0, rfl⟩)
    · intro L v w3 f hL hdep hF hR K hK
      have e0 := (hF.1 2 (by decide)).trans rfl
      unfold Oper.wp
      simp only [execOp, e0]
      exact hK _ _ (rdR_step hR rfl rfl ⟨0, rfl⟩)
    · intro L v w3 f hL hdep hF hR K hK
      simp [Region.binds] at hdep
      have e4 : f.eval (.tmp 55) = _ := ((hF.2 4 55 rfl hdep.1).trans (rdR_plain hR 4 hdep.1 rfl)).trans (show rdC a b bA off n c A2 l m k x 4 = .slice (some (⟨bA, off, none⟩ : Addr)) n c from rfl)
      have ec : f.eval (.const (.int .i64 2)) = .int .i64 2 := rfl
      unfold Oper.wp
      simp only [execOp, resolve, List.map_toArray, List.map_cons, List.map_nil, e4, ec]
      refine (get2_any _ n c B l 2 hlen (by omega) (by omega) hb _ (hro2 _ hR.below)).mono ?_
      rintro e w4 ⟨rfl, hw4⟩
      exact hK _ _ (rdR_step hR rfl rfl hw4)
    · intro L v w3 f hL hdep hF hR K hK
      have e0 := (hF.1 2 (by decide)).trans rfl
      unfold Oper.wp
      simp only [execOp, e0]
      exact hK _ _ (rdR_step hR rfl rfl ⟨0, rfl⟩)
    · intro L v w3 f hL hdep hF hR K hK
      simp [Region.binds] at hdep
      have e6 : f.eval (.tmp 57) = _ := ((hF.2 6 57 rfl hdep.1).trans (rdR_plain hR 6 hdep.1 rfl)).trans (show rdC a b bA off n c A2 l m k x 6 = .slice (some (⟨bA, off, none⟩ : Addr)) n c from rfl)
      have ec : f.eval (.const (.int .i64 4)) = .int .i64 4 := rfl
      unfold Oper.wp
      simp only [execOp, resolve, List.map_toArray, List.map_cons, List.map_nil, e6, ec]
      refine (get4_any _ n c B l 4 hlen (by omega) (by omega) hb _ (hro2 _ hR.below)).mono ?_
      rintro e w4 ⟨rfl, hw4⟩
      exact hK _ _ (rdR_step hR rfl rfl hw4)
    · intro L v w3 f hL hdep hF hR K hK
      have e0 := (hF.1 2 (by decide)).trans rfl
      unfold Oper.wp
      simp only [execOp, e0]
      exact hK _ _ (rdR_step hR rfl rfl ⟨0, rfl⟩)
    · intro L v w3 f hL hdep hF hR K hK
      simp [Region.binds] at hdep
      have e8 : f.eval (.tmp 59) = _ := ((hF.2 8 59 rfl hdep.1).trans (rdR_plain hR 8 hdep.1 rfl)).trans (show rdC a b bA off n c A2 l m k x 8 = .slice (some (⟨bA, off, none⟩ : Addr)) n c from rfl)
      have ec : f.eval (.const (.int .i64 8)) = .int .i64 8 := rfl
      unfold Oper.wp
      simp only [execOp, resolve, List.map_toArray, List.map_cons, List.map_nil, e8, ec]
      refine (get4_any _ n c B l 8 hlen (by omega) (by omega) hb _ (hro2 _ hR.below)).mono ?_
      rintro e w4 ⟨rfl, hw4⟩
      exact hK _ _ (rdR_step hR rfl rfl hw4)
    · intro L v w3 f hL hdep hF hR K hK
      have e0 := (hF.1 2 (by decide)).trans rfl
      unfold Oper.wp
      simp only [execOp, e0]
      exact hK _ _ (rdR_step hR rfl rfl ⟨0, rfl⟩)
    · intro L v w3 f hL hdep hF hR K hK
      simp [Region.binds] at hdep
      have e10 : f.eval (.tmp 61) = _ := ((hF.2 10 61 rfl hdep).trans (rdR_plain hR 10 hdep rfl)).trans (show rdC a b bA off n c A2 l m k x 10 = .slice (some (⟨bA, off, none⟩ : Addr)) n c from rfl)
      have g10 : f.tmps[61]?.getD undef = .slice (some (⟨bA, off, none⟩ : Addr)) n c := by have := e10; simpa [Act.eval] using this
      clear e10
      have h13 : (13 : Int) < n := by omega
      unfold Oper.wp
      go_simp
      exact hK _ _ (rdR_step hR rfl rfl ⟨0, rfl⟩)
    · intro L v w3 f hL hdep hF hR K hK
      simp [Region.binds] at hdep
      have e11 : f.eval (.tmp 62) = _ := ((hF.2 11 62 rfl hdep).trans (rdR_plain hR 11 hdep rfl)).trans (show rdC a b bA off n c A2 l m k x 11 = .pointer (some ⟨bA, off + 13, none⟩) from rfl)
      have g11 : f.tmps[62]?.getD undef = .pointer (some ⟨bA, off + 13, none⟩) := by have := e11; simpa [Act.eval] using this
      clear e11
      have hc13 : w3.cell? ⟨bA, off + 13, none⟩ = some (.int .u8 (at8 l 13)) := by
        obtain ⟨b', off', eb, _, e⟩ := (hro2 _ hR.below).at_ (k := 13) (by omega)
        injection eb with eb; injection eb with eb1 eb2; subst eb1; subst eb2
        exact e
      unfold Oper.wp
      go_simp
      exact hK _ _ (rdR_step hR rfl rfl ⟨0, rfl⟩)
    · intro L v w3 f hL hdep hF hR K hK
      simp [Region.binds] at hdep
      have b13 : (0 : Int) ≤ at8 l 13 := b13.1
      have e12 : f.eval (.tmp 63) = _ := ((hF.2 12 63 rfl hdep).trans (rdR_plain hR 12 hdep rfl)).trans (show rdC a b bA off n c A2 l m k x 12 = .int .u8 (at8 l 13) from rfl)
      have g12 : f.tmps[63]?.getD undef = .int .u8 (at8 l 13) := by have := e12; simpa [Act.eval] using this
      clear e12
      unfold Oper.wp
      go_simp
      exact hK _ _ (rdR_step hR rfl (by rw [Int.tmod_eq_emod_of_nonneg b13]; rfl) ⟨0, rfl⟩)
    · intro L v w3 f hL hdep hF hR K hK
      simp [Region.binds] at hdep
      have b13m : 0 ≤ at8 l 13 % 64 := by omega
      have b13n : at8 l 13 % 64 < 64 := by omega
      have e13 : f.eval (.tmp 64) = _ := ((hF.2 13 64 rfl hdep).trans (rdR_plain hR 13 hdep rfl)).trans (show rdC a b bA off n c A2 l m k x 13 = .int .u8 (at8 l 13 % 64) from rfl)
      have g13 : f.tmps[64]?.getD undef = .int .u8 (at8 l 13 % 64) := by have := e13; simpa [Act.eval] using this
      clear e13
      unfold Oper.wp
      go_simp
      exact hK _ _ (rdR_step hR rfl (by rw [IntWalk.i64_in _ (by omega)]; rfl) ⟨0, rfl⟩)
    · intro L v w3 f hL hdep hF hR K hK
      have e0 := (hF.1 2 (by decide)).trans rfl
      unfold Oper.wp
      simp only [execOp, e0]
      exact hK _ _ (rdR_step hR rfl rfl ⟨0, rfl⟩)
    · intro L v w3 f hL hdep hF hR K hK
      simp [Region.binds] at hdep
      have e15 : f.eval (.tmp 66) = _ := ((hF.2 15 66 rfl hdep.1).trans (rdR_plain hR 15 hdep.1 rfl)).trans (show rdC a b bA off n c A2 l m k x 15 = .slice (some (⟨bA, off, none⟩ : Addr)) n c from rfl)
      have ec : f.eval (.const (.int .i64 14)) = .int .i64 14 := rfl
      unfold Oper.wp
      simp only [execOp, resolve, List.map_toArray, List.map_cons, List.map_nil, e15, ec]
      refine (get2_any _ n c B l 14 hlen (by omega) (by omega) hb _ (hro2 _ hR.below)).mono ?_
      rintro e w4 ⟨rfl, hw4⟩
      exact hK _ _ (rdR_step hR rfl rfl hw4)
    · intro L v w3 f hL hdep hF hR K hK
      have e0 := (hF.1 9 (by decide)).trans rfl
      unfold Oper.wp
      simp only [execOp, e0]
      exact hK _ _ (rdR_step hR rfl rfl ⟨0, rfl⟩)
    · intro L v w3 f hL hdep hF hR K hK
      have e0 := (hF.1 10 (by decide)).trans rfl
      unfold Oper.wp
      simp only [execOp, e0]
      exact hK _ _ (rdR_step hR rfl rfl ⟨0, rfl⟩)
    · intro L v w3 f hL hdep hF hR K hK
      clear hdep
      obtain ⟨A0, c0, A1, c1, q1, q2, q3, q4, q5, q6, q7, q8⟩ := hR
      unfold Oper.wp
      go_simp
      refine hK _ _ ⟨some ⟨w3.heap.size, 0, none⟩, 0, A1, c1, fun y hy hpy => ?_, q2.alloc (Nat.le_of_lt q3) _, by simp; omega, ?_, ?_, ?_, ?_, ?_⟩
      · have ny : y ≠ 19 := by rintro rfl; cases hpy
        rw [upd_ne _ _ ny]; rw [upd_ne _ _ ny] at hy; exact q1 y hy hpy
      · exact fun _ => ⟨upd_same _ _ _, fun _ => ow_lit w3 5 w.heap.size [] (Nat.le_of_lt q3) (Nat.zero_le _)⟩
      · intro h; have := q5 h; exact ⟨this.1, Ow.alloc this.2 _⟩
      · exact q6
      · intro h; obtain ⟨cs, h1, h2⟩ := q7 h; exact ⟨cs, h1, h2.alloc _⟩
      · intro h; have := q8 h; exact ⟨this.1.alloc _, this.2⟩
    · intro L v w3 f hL hdep hF hR K hK
      have e0 := (hF.1 2 (by decide)).trans rfl
      unfold Oper.wp
      simp only [execOp, e0]
      exact hK _ _ (rdR_step hR rfl rfl ⟨0, rfl⟩)
    · intro L v w3 f hL hdep hF hR K hK
      have e0 := (hF.1 8 (by decide)).trans rfl
      unfold Oper.wp
      simp only [execOp, e0]
      exact hK _ _ (rdR_step hR rfl rfl ⟨0, rfl⟩)
    · intro L v w3 f hL hdep hF hR K hK
      simp [Region.binds] at hdep
      have e20 : f.eval (.tmp 71) = _ := ((hF.2 20 71 rfl hdep.1).trans (rdR_plain hR 20 hdep.1 rfl)).trans (show rdC a b bA off n c A2 l m k x 20 = .slice (some (⟨bA, off, none⟩ : Addr)) n c from rfl)
      have g20 : f.tmps[71]?.getD undef = .slice (some (⟨bA, off, none⟩ : Addr)) n c := by have := e20; simpa [Act.eval] using this
      clear e20
      have e21 : f.eval (.tmp 72) = _ := ((hF.2 21 72 rfl hdep.2).trans (rdR_plain hR 21 hdep.2 rfl)).trans (show rdC a b bA off n c A2 l m k x 21 = .int .i64 (x / 16 * 4 : Nat) from rfl)
      have g21 : f.tmps[72]?.getD undef = .int .i64 (x / 16 * 4 : Nat) := by have := e21; simpa [Act.eval] using this
      clear e21
      have h22 : x / 16 * 4 ≤ n := h4
      have h22a : (0 : Int) ≤ (x : Int) / 16 * 4 := by omega
      have h22b : ((x : Int) / 16 * 4).toNat = x / 16 * 4 := by omega
      have h22c : (x : Int) / 16 * 4 ≤ n := by omega
      unfold Oper.wp
      go_simp
      rw [HA2.out]
      exact hK _ _ (rdR_step hR rfl rfl ⟨0, rfl⟩)
    · intro L v w3 f hL hdep hF hR K hK
      simp [Region.binds] at hdep
      obtain ⟨d19, d22, d16⟩ := hdep
      have e22 : f.eval (.tmp 73) = _ := ((hF.2 22 73 rfl d22).trans (rdR_plain hR 22 d22 rfl)).trans (show rdC a b bA off n c A2 l m k x 22 = .slice A2 (n - x / 16 * 4) (c - x / 16 * 4) from rfl)
      obtain ⟨A0, c0, A1, c1, q1, q2, q3, q4, q5, q6, q7, q8⟩ := hR
      obtain ⟨r19, r19o⟩ := q4 d19
      have e19 : f.eval (.tmp 70) = _ := (hF.2 19 70 rfl d19).trans r19
      have hO := r19o hL
      refine wp_append_rw (.tmp 70) (.tmp 73) 24 rfl w.heap.size 5 (.int .u8 0) 1 Try.underlying24 info_u8 rfl e19 hO e22 (hcut _ q2) (by rw [by8_length]; exact hld) (by8_one _) (by unfold maxLen; omega) (by omega) (Nat.le_of_lt q3) ?_
      intro A' c' w4 hO4 hG hA
      rw [Nat.zero_add] at hO4
      rw [Nat.zero_add]
      refine hK _ _ ⟨A0, c0, A', c', fun y hy hpy => ?_, q2.grown hG (Nat.le_of_lt q3) (fun i hi => (Ow.lt hO i hi).1), Nat.lt_of_lt_of_le q3 hG.size, ?_, ?_, ?_, ?_, ?_⟩
      · have ny : y ≠ 23 := by rintro rfl; cases hpy
        rw [upd_ne _ _ ny]; rw [upd_ne _ _ ny] at hy; exact q1 y hy hpy
      · exact fun h => ⟨(q4 h).1, fun h2 => by rw [upd_same] at h2; cases h2⟩
      · exact fun _ => ⟨upd_same _ _ _, hO4⟩
      · intro h; have := (q6 h).2; rw [hL] at this; cases this
      · intro h; obtain ⟨cs, h1, h2⟩ := q7 h; exact ⟨cs, h1, h2.grown hG (h2.ow_ne hO (by decide))⟩
      · intro h; have := (q6 (q8 h).2).2; rw [hL] at this; cases this
    · intro L v w3 f hL hdep hF hR K hK
      simp [Region.binds] at hdep
      obtain ⟨d0, d2, d3, d5, d7, d9, d14, d16, d17, d18, d23⟩ := hdep
      have e0 : f.eval (.tmp 51) = _ := ((hF.2 0 51 rfl d0).trans (rdR_plain hR 0 d0 rfl)).trans (show rdC a b bA off n c A2 l m k x 0 = .int .u32 a from rfl)
      have e2 : f.eval (.tmp 53) = _ := ((hF.2 2 53 rfl d2).trans (rdR_plain hR 2 d2 rfl)).trans (show rdC a b bA off n c A2 l m k x 2 = .int .i64 (rd2 l 0) from rfl)
      have e3 : f.eval (.tmp 54) = _ := ((hF.2 3 54 rfl d3).trans (rdR_plain hR 3 d3 rfl)).trans (show rdC a b bA off n c A2 l m k x 3 = .int .u32 b from rfl)
      have e5 : f.eval (.tmp 56) = _ := ((hF.2 5 56 rfl d5).trans (rdR_plain hR 5 d5 rfl)).trans (show rdC a b bA off n c A2 l m k x 5 = .int .i64 (rd2 l 2) from rfl)
      have e7 : f.eval (.tmp 58) = _ := ((hF.2 7 58 rfl d7).trans (rdR_plain hR 7 d7 rfl)).trans (show rdC a b bA off n c A2 l m k x 7 = .int .u32 (rd4 l 4) from rfl)
      have e9 : f.eval (.tmp 60) = _ := ((hF.2 9 60 rfl d9).trans (rdR_plain hR 9 d9 rfl)).trans (show rdC a b bA off n c A2 l m k x 9 = .int .u32 (rd4 l 8) from rfl)
      have e14 : f.eval (.tmp 65) = _ := ((hF.2 14 65 rfl d14).trans (rdR_plain hR 14 d14 rfl)).trans (show rdC a b bA off n c A2 l m k x 14 = .int .i64 (at8 l 13 % 64) from rfl)
      have e16 : f.eval (.tmp 67) = _ := ((hF.2 16 67 rfl d16).trans (rdR_plain hR 16 d16 rfl)).trans (show rdC a b bA off n c A2 l m k x 16 = .int .i64 (rd2 l 14) from rfl)
      have e17 : f.eval (.tmp 68) = _ := ((hF.2 17 68 rfl d17).trans (rdR_plain hR 17 d17 rfl)).trans (show rdC a b bA off n c A2 l m k x 17 = .int .i64 m from rfl)
      have e18 : f.eval (.tmp 69) = _ := ((hF.2 18 69 rfl d18).trans (rdR_plain hR 18 d18 rfl)).trans (show rdC a b bA off n c A2 l m k x 18 = .int .i64 k from rfl)
      obtain ⟨A0, c0, A1, c1, q1, q2, q3, q4, q5, q6, q7, q8⟩ := hR
      have e23 : f.eval (.tmp 74) = _ := (hF.2 23 74 rfl d23).trans (q5 d23).1
      unfold Oper.wp
      simp only [execOp, resolve, List.map_toArray, List.map_cons, List.map_nil, e0, e2, e3, e5, e7, e9, e14, e16, e17, e18, e23]
      go_simp
      refine hK _ _ ⟨A0, c0, A1, c1, fun y hy hpy => ?_, q2, q3, q4, q5, fun _ => ⟨upd_same _ _ _, d23⟩, q7, fun h => ⟨(q8 h).1, upd_same _ _ _⟩⟩
      have ny : y ≠ 24 := by rintro rfl; cases hpy
      rw [upd_ne _ _ ny]; rw [upd_ne _ _ ny] at hy; exact q1 y hy hpy
    · intro L v w3 f hL hdep hF hR K hK
      simp [Region.binds] at hdep
      have d24 := hdep.1
      obtain ⟨A0, c0, A1, c1, q1, q2, q3, q4, q5, q6, q7, q8⟩ := hR
      obtain ⟨r24, r23⟩ := q6 d24
      have e24 : f.eval (.tmp 75) = _ := (hF.2 24 75 rfl d24).trans r24
      have e6 : f.eval (.tmp 6) = .pointer (some ⟨w.heap.size, 0, none⟩) := (hF.1 6 (by decide)).trans rfl
      obtain ⟨cs, hcs, hbk⟩ := q7 hL
      have hG := grownBy_setCells w3 w.heap.size 0 (rdA a b l m k A1 (n - x / 16 * 4) c1).toList
      refine wp_store_mid 26 (.tmp 6) (.tmp 75) rfl w.heap.size 0 (rdA a b l m k A1 (n - x / 16 * 4) c1) e6 e24 (hbk.there (by rw [hcs]; exact Nat.le_refl _)) (by kernel_rfl) (by simp [rdA, Value.oneCell']) ?_
      refine hK _ _ ⟨A0, c0, A1, c1, fun y hy hpy => ?_, q2.grown hG (Nat.le_of_lt q3) (fun i hi => by injection hi with hi; omega), Nat.lt_of_lt_of_le q3 hG.size, ?_, ?_, q6, ?_, ?_⟩
      · have ny : y ≠ 25 := by rintro rfl; cases hpy
        rw [upd_ne _ _ ny]; rw [upd_ne _ _ ny] at hy; exact q1 y hy hpy
      · exact fun h => ⟨(q4 h).1, fun h2 => by have : L 23 = false := h2; rw [r23] at this; cases this⟩
      · intro h; have := q5 h; exact ⟨this.1, Ow.kept this.2 hG (.inr fun e => hbk.ow_ne this.2 (by decide) e.symm)⟩
      · intro h; rw [upd_same] at h; cases h
      · exact fun _ => ⟨hbk.setAll _ (by rw [hcs]; rfl), d24⟩
    · intro L v w3 f hL hdep hF hR K hK
      unfold Oper.wp
      simp only [execOp]
      exact hK _ _ (rdR_step hR rfl rfl ⟨0, rfl⟩)
  · intro v w3 L hall hR
    obtain ⟨A0, c0, A1, c1, q1, q2, q3, q4, q5, q6, q7, q8⟩ := hR
    have p0 : v 0 = _ := (q1 0 (hall 0 (by decide)) rfl).trans (show rdC a b bA off n c A2 l m k x 0 = .int .u32 a from rfl)
    have p1 : v 1 = _ := (q1 1 (hall 1 (by decide)) rfl).trans (show rdC a b bA off n c A2 l m k x 1 = .slice (some (⟨bA, off, none⟩ : Addr)) n c from rfl)
    have p2 : v 2 = _ := (q1 2 (hall 2 (by decide)) rfl).trans (show rdC a b bA off n c A2 l m k x 2 = .int .i64 (rd2 l 0) from rfl)
    have p3 : v 3 = _ := (q1 3 (hall 3 (by decide)) rfl).trans (show rdC a b bA off n c A2 l m k x 3 = .int .u32 b from rfl)
    have p4 : v 4 = _ := (q1 4 (hall 4 (by decide)) rfl).trans (show rdC a b bA off n c A2 l m k x 4 = .slice (some (⟨bA, off, none⟩ : Addr)) n c from rfl)
    have p5 : v 5 = _ := (q1 5 (hall 5 (by decide)) rfl).trans (show rdC a b bA off n c A2 l m k x 5 = .int .i64 (rd2 l 2) from rfl)
    have p6 : v 6 = _ := (q1 6 (hall 6 (by decide)) rfl).trans (show rdC a b bA off n c A2 l m k x 6 = .slice (some (⟨bA, off, none⟩ : Addr)) n c from rfl)
    have p7 : v 7 = _ := (q1 7 (hall 7 (by decide)) rfl).trans (show rdC a b bA off n c A2 l m k x 7 = .int .u32 (rd4 l 4) from rfl)
    have p8 : v 8 = _ := (q1 8 (hall 8 (by decide)) rfl).trans (show rdC a b bA off n c A2 l m k x 8 = .slice (some (⟨bA, off, none⟩ : Addr)) n c from rfl)
    have p9 : v 9 = _ := (q1 9 (hall 9 (by decide)) rfl).trans (show rdC a b bA off n c A2 l m k x 9 = .int .u32 (rd4 l 8) from rfl)
    have p10 : v 10 = _ := (q1 10 (hall 10 (by decide)) rfl).trans (show rdC a b bA off n c A2 l m k x 10 = .slice (some (⟨bA, off, none⟩ : Addr)) n c from rfl)
    have p11 : v 11 = _ := (q1 11 (hall 11 (by decide)) rfl).trans (show rdC a b bA off n c A2 l m k x 11 = .pointer (some ⟨bA, off + 13, none⟩) from rfl)
    have p12 : v 12 = _ := (q1 12 (hall 12 (by decide)) rfl).trans (show rdC a b bA off n c A2 l m k x 12 = .int .u8 (at8 l 13) from rfl)
    have p13 : v 13 = _ := (q1 13 (hall 13 (by decide)) rfl).trans (show rdC a b bA off n c A2 l m k x 13 = .int .u8 (at8 l 13 % 64) from rfl)
    have p14 : v 14 = _ := (q1 14 (hall 14 (by decide)) rfl).trans (show rdC a b bA off n c A2 l m k x 14 = .int .i64 (at8 l 13 % 64) from rfl)
    have p15 : v 15 = _ := (q1 15 (hall 15 (by decide)) rfl).trans (show rdC a b bA off n c A2 l m k x 15 = .slice (some (⟨bA, off, none⟩ : Addr)) n c from rfl)
    have p16 : v 16 = _ := (q1 16 (hall 16 (by decide)) rfl).trans (show rdC a b bA off n c A2 l m k x 16 = .int .i64 (rd2 l 14) from rfl)
    have p17 : v 17 = _ := (q1 17 (hall 17 (by decide)) rfl).trans (show rdC a b bA off n c A2 l m k x 17 = .int .i64 m from rfl)
    have p18 : v 18 = _ := (q1 18 (hall 18 (by decide)) rfl).trans (show rdC a b bA off n c A2 l m k x 18 = .int .i64 k from rfl)
    have p20 : v 20 = _ := (q1 20 (hall 20 (by decide)) rfl).trans (show rdC a b bA off n c A2 l m k x 20 = .slice (some (⟨bA, off, none⟩ : Addr)) n c from rfl)
    have p21 : v 21 = _ := (q1 21 (hall 21 (by decide)) rfl).trans (show rdC a b bA off n c A2 l m k x 21 = .int .i64 (x / 16 * 4 : Nat) from rfl)
    have p22 : v 22 = _ := (q1 22 (hall 22 (by decide)) rfl).trans (show rdC a b bA off n c A2 l m k x 22 = .slice A2 (n - x / 16 * 4) (c - x / 16 * 4) from rfl)
    have p26 : v 26 = _ := (q1 26 (hall 26 (by decide)) rfl).trans (show rdC a b bA off n c A2 l m k x 26 = .int .i64 0 from rfl)
    have p19 := (q4 (hall 19 (by decide))).1
    obtain ⟨p23, hO⟩ := q5 (hall 23 (by decide))
    have p24 := (q6 (hall 24 (by decide))).1
    have hbk := (q8 (hall 25 (by decide))).1
    simp only [frL, if_true, Act.put, List.setIfInBounds_toArray, List.set_cons_zero, List.set_cons_succ, p0, p1, p2, p3, p4, p5, p6, p7, p8, p9, p10, p11, p12, p13, p14, p15, p16, p17, p18, p19, p20, p21, p22, p23, p24, p26]
    clear p0 p1 p2 p3 p4 p5 p6 p7 p8 p9 p10 p11 p12 p13 p14 p15 p16 p17 p18 p19 p20 p21 p22 p23 p24 p26 q1 q4 q5 q6 q7 q8
    have HO := Lib.hid hO
    have HB := Lib.hid q2
    clear hO q2
    have y0 := hbk.cell 0
    have y1 := hbk.cell 1
    have y2 := hbk.cell 2
    have y3 := hbk.cell 3
    have y4 := hbk.cell 4
    have y5 := hbk.cell 5
    have y6 := hbk.cell 6
    have y7 := hbk.cell 7
    have y8 := hbk.cell 8
    have y9 := hbk.cell 9
    have y10 := hbk.cell 10
    simp only [rdA, List.getElem?_toArray, List.getElem?_cons_zero, List.getElem?_cons_succ] at y0 y1 y2 y3 y4 y5 y6 y7 y8 y9 y10
    go_wp2_with fail
    refine bodyPost_ret (v := .tuple #[.agg #[.int .u32 (decS a b l m k).fr, .int .i64 (decS a b l m k).fp, .int .u32 (decS a b l m k).to, .int .i64 (decS a b l m k).tp, .int .u32 (decS a b l m k).seq, .int .u32 (decS a b l m k).ack, .int .i64 (decS a b l m k).fl, .int .i64 (decS a b l m k).win, .int .i64 (decS a b l m k).mss, .int .i64 (decS a b l m k).sc, .slice A1 (n - x / 16 * 4) c1], .int .i64 0]) (by simp [results, Try.results24, go_sem, decS, *]) rfl ⟨A1, _, c1, rfl, ?_, HB.out⟩
    rw [HH.out]
    exact HO.out
/-- All the ways. -/
theorem rdecode_any (a b : Int) (ha : U32 a) (hb' : U32 b) (A : Option Addr) (n c B : Nat) (l : List Int) (hn : l.length = n) (hc : n ≤ c) (hb : Bs l) (w : World) (hr : RB w B A l) (hB : B ≤ w.heap.size) :
    Calls Try.prog 24 #[.int .u32 a, .int .u32 b, .slice A n c] w fun e w' => ∃ A' n' c', e = .returned (.tuple #[.agg #[.int .u32 (decOf a b l).fr, .int .i64 (decOf a b l).fp, .int .u32 (decOf a b l).to, .int .i64 (decOf a b l).tp, .int .u32 (decOf a b l).seq, .int .u32 (decOf a b l).ack, .int .i64 (decOf a b l).fl, .int .i64 (decOf a b l).win, .int .i64 (decOf a b l).mss, .int .i64 (decOf a b l).sc, .slice A' n' c'], .int .i64 (dErr a b l)]) ∧
      OB 5 w' w.heap.size A' n' c' (decD a b l) ∧ Below w.heap.size w w' := by
  have bad : ∀ er : Int, er ≠ 0 → dErr a b l = er → Calls Try.prog 24 #[.int .u32 a, .int .u32 b, .slice A n c] w (fun e w' => e = .returned (.tuple #[.agg #[.int .u32 zeroS.fr, .int .i64 zeroS.fp, .int .u32 zeroS.to, .int .i64 zeroS.tp, .int .u32 zeroS.seq, .int .u32 zeroS.ack, .int .i64 zeroS.fl, .int .i64 zeroS.win, .int .i64 zeroS.mss, .int .i64 zeroS.sc, .slice none 0 0], .int .i64 er]) ∧ Below w.heap.size w w') →
      Calls Try.prog 24 #[.int .u32 a, .int .u32 b, .slice A n c] w fun e w' => ∃ A' n' c', e = .returned (.tuple #[.agg #[.int .u32 (decOf a b l).fr, .int .i64 (decOf a b l).fp, .int .u32 (decOf a b l).to, .int .i64 (decOf a b l).tp, .int .u32 (decOf a b l).seq, .int .u32 (decOf a b l).ack, .int .i64 (decOf a b l).fl, .int .i64 (decOf a b l).win, .int .i64 (decOf a b l).mss, .int .i64 (decOf a b l).sc, .slice A' n' c'], .int .i64 (dErr a b l)]) ∧ OB 5 w' w.heap.size A' n' c' (decD a b l) ∧ Below w.heap.size w w' := fun er h0 he h => by
    have e1 : decOf a b l = zeroS := if_neg (by rw [he]; exact h0)
    have e2 : decD a b l = [] := if_neg (by rw [he]; exact h0)
    rw [e1, e2, he]
    exact h.mono fun e w' ⟨h1, h2⟩ => ⟨none, 0, 0, h1, Ow.none_ _ _ _, h2⟩
  rcases dErr_cases a b l with ⟨h, e⟩ | ⟨h, e⟩ | ⟨h20, hmax, ⟨h, e⟩ | ⟨h, e⟩ | ⟨h, e⟩ | ⟨h, e⟩ | ⟨m, k, h, e, hmk⟩⟩
  · exact bad 5 (by omega) e (rdecode_long a b A n c (by omega) w)
  · exact bad 2 (by omega) e (rdecode_short a b A n c (by omega) w)
  · exact bad 3 (by omega) e (rdecode_head a b A n c B l hn (by omega) (by omega) hb w hr hB 3 (.inl ⟨h, rfl⟩))
  · exact bad 2 (by omega) e (rdecode_head a b A n c B l hn (by omega) (by omega) hb w hr hB 2 (.inr ⟨by rw [← hn]; exact h, rfl⟩))
  · exact bad 4 (by omega) e (rdecode_sum a b ha hb' A n c B l hn (by omega) (by omega) hb w hr hB (by rw [← hn]; exact h))
  · exact bad 3 (by omega) e (rdecode_opts a b ha hb' A n c B l hn (by omega) (by omega) hc hb w hr hB (by rw [← hn]; exact h))
  · have e1 : decOf a b l = decS a b l m k := by unfold decOf; rw [if_pos e, hmk]
    have e2 : decD a b l = l.drop (hdN l) := if_pos e
    rw [e1, e2, e]
    exact rdecode_good a b ha hb' A n c B l hn (by omega) (by omega) hc hb w hr hB m k (by rw [← hn]; exact h)
end Go.Proofs.Ytifeomdmbjinoaa
