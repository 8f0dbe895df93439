/- Proved: the message that icmp.Decode reads, and its reference, each by its walk. Conditions: the bytes lie in memory. -/
import Derived.Test.YtlnodkfngomlmaaRef
import Derived.Test.YtlnodkfngomlmaaRdSt
import Derived.Deep.RegionHeld3
import Derived.Deep.RegionLaw
set_option linter.unusedVariables false
namespace Go.Proofs.Ytlnodkfngomlmaa
open Go.RowKit

theorem RB.drew {w : World} {B : Nat} {A : Option Addr} {l : List Int} (h : RB w B A l) : RB w.drew B A l := h
theorem cell4 {w : World} {b g o : Nat} (h : b ≠ g) (v0 v1 v2 v3 : Value) : ((((w.setCell ⟨g, 0, none⟩ v0).setCell ⟨g, 1, none⟩ v1).setCell ⟨g, 2, none⟩ v2).setCell ⟨g, 3, none⟩ v3).cell? ⟨b, o, none⟩ = w.cell? ⟨b, o, none⟩ := by
  have e : ∀ (x : World) (i : Nat) (v : Value), (x.setCell ⟨g, i, none⟩ v).cell? ⟨b, o, none⟩ = x.cell? ⟨b, o, none⟩ := fun x i v => World.cell?_setCell_other x ⟨g, i, none⟩ ⟨b, o, none⟩ v (by intro q; injection q with q; exact h (by first | exact q | exact q.symm))
  rw [e, e, e, e]
theorem Ow.setLow {E : TypeId} {w : World} {base : Nat} {A : Option Addr} {n c : Nat} {xs : List Value} {p : Addr} (h : Ow E w base A n c xs) (hp : p.block < base) (u : Value) : Ow E (w.setCell p u) base A n c xs :=
  Ow.setCell h (fun e => by have := (Ow.lt h _ e).1; omega) u
def decErr (l : List Int) : Int := if l.length < 8 then 2 else if partC l = 65535 then 0 else 4
set_option maxHeartbeats 1000000 in
theorem decode_ok (A : Option Addr) (n c B : Nat) (l : List Int) (hn : l.length = n) (h8 : 8 ≤ n) (hmax : n ≤ 1000000) (hb : Bs l) (hs : partC l = 65535) (w : World) (hr : RB w B A l) (hB : B ≤ w.heap.size) :
    Calls Try.prog 24 #[.slice A n c] w fun e w' => ∃ A' n' c', e = .returned (.tuple #[.agg #[.int .i64 (at8 l 0), .int .i64 (at8 l 1), .int .u32 (rd4 l 4), .slice A' n' c'], .int .i64 0]) ∧
      OB 5 w' w.heap.size A' n' c' (l.drop 8) ∧ Below w.heap.size w w' := by
  have HN := Lib.hid hn
  have HS := Lib.hid hs
  obtain ⟨w0, hw0⟩ : ∃ w0, w.alloc (.cells #[.int .i64 0, .int .i64 0, .int .u32 0, .slice none 0 0] 25) = w0 := ⟨_, rfl⟩
  have hB0 : Below w.heap.size w w0 := by rw [← hw0]; exact (Below.refl _ _).alloc (Nat.le_refl _) _
  have hg0 : Bk w0 w.heap.size 25 #[.int .i64 0, .int .i64 0, .int .u32 0, .slice none 0 0] := by rw [← hw0]; exact Bk.new w _ _
  have hr0 : RB w0 B A l := Rw.below hr (hB0.mono hB)
  have HW0 := Lib.hid hw0
  have z0 := hg0.lt
  clear hn hs hw0
  go_enter Try.func24, Try.ntmps24
  go_wp2_with fail
  rw [HW0.out]
  refine (sum_any A n c B l HN.out (by omega) hb _ hr0).mono ?_
  rintro e w' ⟨rfl, rfl⟩
  rw [HS.out]
  go_wp2_with fail
  refine (newreader_any A n c B l HN.out hmax hb _ hr0 (by omega)).mono ?_
  rintro e w1 ⟨g, rfl, hR1, hB1⟩
  have hg1 := hg0.below hB1 z0
  have z1 := hB1.size
  have hge := hR1.ge
  rw [show l = l.drop 0 from rfl] at hR1
  go_wp2_with fail
  refine (byte_at _ g l 0 (by rw [HN.out]; omega) _ hR1 z1).mono ?_
  rintro e w2 ⟨rfl, hR2, k2⟩
  have hg2 := hg1.grown k2 (by intro e; injection e with e; omega)
  have z2 := k2.size
  go_wp2_with fail
  refine (byte_at _ g l 1 (by rw [HN.out]; omega) _ hR2 (by omega)).mono ?_
  rintro e w3 ⟨rfl, hR3, k3⟩
  have hg3 := hg2.grown k3 (by intro e; injection e with e; omega)
  have z3 := k3.size
  obtain ⟨w4, hw4⟩ : ∃ w4, w3.alloc (.cells #[.int .i64 (at8 l 0), .int .i64 (at8 l 1), .int .u32 0, .slice none 0 0] 25) = w4 := ⟨_, rfl⟩
  have hm4 : Bk w4 w3.heap.size 25 #[.int .i64 (at8 l 0), .int .i64 (at8 l 1), .int .u32 0, .slice none 0 0] := by rw [← hw4]; exact Bk.new w3 _ _
  have hB4 : Below w3.heap.size w3 w4 := by rw [← hw4]; exact (Below.refl _ _).alloc (Nat.le_refl _) _
  have hR4 := hR3.below hB4
  have hg4 := hg3.below hB4 (by omega)
  have z4 := hB4.size
  have HW4 := Lib.hid hw4
  obtain ⟨gm, hgm⟩ : ∃ gm, w3.heap.size = gm := ⟨_, rfl⟩
  rw [hgm] at hm4
  have HGM := Lib.hid hgm
  have hmg : w.heap.size < gm := by omega
  clear hw4 hgm
  go_wp2_with fail
  rw [HW4.out, HGM.out]
  refine (two_at _ g l 2 (by rw [HN.out]; omega) _ hR4 (by omega)).mono ?_
  rintro e w5 ⟨rfl, hR5, k5⟩
  have hg5 := hg4.grown k5 (by intro e; injection e with e; omega)
  have hm5 := hm4.grown k5 (by intro e; injection e with e; exact hR4.ne hm4 (by decide) e.symm)
  have z5 := k5.size
  go_wp2_with fail
  refine (four_at _ g l 4 (by rw [HN.out]; omega) _ hR5 (by omega)).mono ?_
  rintro e w6 ⟨rfl, hR6, k6⟩
  have hg6 := hg5.grown k6 (by intro e; injection e with e; omega)
  have hm6 := hm5.grown k6 (by intro e; injection e with e; exact hR5.ne hm5 (by decide) e.symm)
  have z6 := k6.size
  have f2 := hm6.frozen 2
  have c2 := hm6.cell 2
  have hu : NoU8 #[.int .i64 (at8 l 0), .int .i64 (at8 l 1), .int .u32 0, .slice none 0 0] := by
    intro i x
    match i with
    | 0 | 1 | 2 | 3 => simp
    | i + 4 => simp
  have hR7 := hR6.store hm6 (by decide) (by decide) hu 2 (.int .u32 (rd4 l 4))
  have hm7 := hm6.set 2 (.int .u32 (rd4 l 4))
  have hg7 := hg6.far (p := ⟨gm, 2, none⟩) (show w.heap.size ≠ gm by omega) (.int .u32 (rd4 l 4))
  simp only [List.getElem?_toArray, List.getElem?_cons_zero, List.getElem?_cons_succ] at c2
  go_wp2_with fail
  refine (rleft_any _ g (l.drop 8) 0 _ hR7).mono ?_
  rintro e w' ⟨rfl, rfl⟩
  rw [List.length_drop, HN.out]
  go_wp2_with fail
  refine (raw_at _ g l 8 (n - 8) (by rw [HN.out]; omega) (by rw [HN.out]; omega) _ hR7 (by simp; omega)).mono ?_
  rintro e w8 ⟨A8, n8, c8, rfl, hO8, hR8, k8⟩
  have hg8 := hg7.grown k8 (by intro e; injection e with e; omega)
  have hm8 := hm7.grown k8 (by intro e; injection e with e; exact hR7.ne hm7 (by decide) e.symm)
  have z8 := k8.size
  have f3 := hm8.frozen 3
  have c0 := hm8.cell 0
  have c1 := hm8.cell 1
  have c2 := hm8.cell 2
  have c3 := hm8.cell 3
  have d0 := hg8.cell 0
  have d1 := hg8.cell 1
  have d2 := hg8.cell 2
  have d3 := hg8.cell 3
  have e0 := hg8.frozen 0
  have e1 := hg8.frozen 1
  have e2 := hg8.frozen 2
  have e3 := hg8.frozen 3
  have hne : w.heap.size ≠ gm := by omega
  have hne2 : gm ≠ w.heap.size := by omega
  simp only [List.setIfInBounds_toArray, List.set_cons_succ, List.set_cons_zero, List.getElem?_toArray, List.getElem?_cons_zero, List.getElem?_cons_succ] at c0 c1 c2 c3 d0 d1 d2 d3
  have HR := HN.out
  have hBw : Below w.heap.size w w8 := by
    have q1 := hB0.trans (hB1.mono (Nat.le_of_lt z0))
    have q2 := q1.grown k2 (by omega) (by intro i e; injection e with e; omega)
    have q3 := q2.grown k3 (by omega) (by intro i e; injection e with e; omega)
    have q4 := q3.trans (hB4.mono (by omega))
    have q5 := q4.grown k5 (by omega) (by intro i e; injection e with e; omega)
    have q6 := q5.grown k6 (by omega) (by intro i e; injection e with e; omega)
    have q7 := q6.setCell (p := ⟨gm, 2, none⟩) (show w.heap.size ≤ gm by omega) (.int .u32 (rd4 l 4))
    exact q7.grown k8 (by simp; omega) (by intro i e; injection e with e; omega)
  have zz : gm < (w6.setCell ⟨gm, 2, none⟩ (.int .u32 (rd4 l 4))).heap.size := hm7.lt
  have HO : Hid ((l.drop 8).take (n - 8) = l.drop 8) := Lib.hid (List.take_of_length_le (by rw [List.length_drop, HR]; exact Nat.le_refl _))
  rw [HO.out] at hO8
  have hBW := Lib.hid hBw
  clear HR hBw
  go_wp2_with fail
  refine bodyPost_ret (v := .tuple #[.agg #[.int .i64 (at8 l 0), .int .i64 (at8 l 1), .int .u32 (rd4 l 4), .slice A8 n8 c8], .int .i64 0]) (by simp [results, Try.results24, go_sem, *]) rfl ⟨A8, n8, c8, rfl, ?_, ?_⟩
  · exact Ow.mono (Ow.setLow (Ow.setLow (Ow.setLow (Ow.setLow (Ow.setLow hO8 zz _) (by show w.heap.size < _; omega) _) (by show w.heap.size < _; omega) _) (by show w.heap.size < _; omega) _) (by show w.heap.size < _; omega) _) (by omega)
  · exact ((((hBW.out.setCell (show w.heap.size ≤ gm by omega) _).setCell (Nat.le_refl _) _).setCell (Nat.le_refl _) _).setCell (Nat.le_refl _) _).setCell (Nat.le_refl _) _

theorem decode_short (A : Option Addr) (n c : Nat) (h8 : n < 8) (w : World) :
    Calls Try.prog 24 #[.slice A n c] w fun e w' => e = .returned (.tuple #[.agg #[.int .i64 0, .int .i64 0, .int .u32 0, .slice none 0 0], .int .i64 2]) ∧ Below w.heap.size w w' := by
  go_enter Try.func24, Try.ntmps24
  go_wp2
  exact bodyPost_ret (v := .tuple #[.agg #[.int .i64 0, .int .i64 0, .int .u32 0, .slice none 0 0], .int .i64 2]) (by simp [results, Try.results24, go_sem]) rfl ⟨rfl, (Below.refl _ _).alloc (Nat.le_refl _) _⟩
theorem decode_sum (A : Option Addr) (n c B : Nat) (l : List Int) (hn : l.length = n) (h8 : 8 ≤ n) (hmax : n ≤ 1000000) (hb : Bs l) (hs : partC l ≠ 65535) (w : World) (hr : RB w B A l) (hB : B ≤ w.heap.size) :
    Calls Try.prog 24 #[.slice A n c] w fun e w' => e = .returned (.tuple #[.agg #[.int .i64 0, .int .i64 0, .int .u32 0, .slice none 0 0], .int .i64 4]) ∧ Below w.heap.size w w' := by
  have HN := Lib.hid hn
  have hB0 : Below w.heap.size w (w.alloc (.cells #[.int .i64 0, .int .i64 0, .int .u32 0, .slice none 0 0] 25)) := (Below.refl _ _).alloc (Nat.le_refl _) _
  have hr0 : RB (w.alloc (.cells #[.int .i64 0, .int .i64 0, .int .u32 0, .slice none 0 0] 25)) B A l := Rw.below hr (hB0.mono hB)
  have hp := partC_bd l hb
  obtain ⟨q, hq⟩ : ∃ q, partC l = q := ⟨_, rfl⟩
  rw [hq] at hp hs
  have HQ := Lib.hid hq
  have hs2 : (65535 - q != 0) = true := by simp; omega
  clear hn hq hs
  go_enter Try.func24, Try.ntmps24
  go_wp2_with fail
  refine (sum_any A n c B l HN.out (by omega) hb _ hr0).mono ?_
  rintro e w' ⟨rfl, rfl⟩
  rw [HQ.out]
  go_wp2
  exact bodyPost_ret (v := .tuple #[.agg #[.int .i64 0, .int .i64 0, .int .u32 0, .slice none 0 0], .int .i64 4]) (by simp [results, Try.results24, go_sem]) rfl ⟨rfl, hB0⟩

theorem rdecode_short (A : Option Addr) (n c : Nat) (h8 : n < 8) (w : World) :
    Calls Try.prog 25 #[.slice A n c] w fun e w' => e = .returned (.tuple #[.agg #[.int .i64 0, .int .i64 0, .int .u32 0, .slice none 0 0], .int .i64 2]) ∧ Below w.heap.size w w' := by
  go_enter Try.func25, Try.ntmps25
  go_wp2
  exact bodyPost_ret (v := .tuple #[.agg #[.int .i64 0, .int .i64 0, .int .u32 0, .slice none 0 0], .int .i64 2]) (by simp [results, Try.results25, go_sem]) rfl ⟨rfl, (Below.refl _ _).alloc (Nat.le_refl _) _⟩
theorem rdecode_sum (A : Option Addr) (n c B : Nat) (l : List Int) (hn : l.length = n) (h8 : 8 ≤ n) (hmax : n ≤ 1000000) (hb : Bs l) (hs : partC l ≠ 65535) (w : World) (hr : RB w B A l) (hB : B ≤ w.heap.size) :
    Calls Try.prog 25 #[.slice A n c] w fun e w' => e = .returned (.tuple #[.agg #[.int .i64 0, .int .i64 0, .int .u32 0, .slice none 0 0], .int .i64 4]) ∧ Below w.heap.size w w' := by
  have HN := Lib.hid hn
  have hB0 : Below w.heap.size w (w.alloc (.cells #[.int .i64 0, .int .i64 0, .int .u32 0, .slice none 0 0] 25)) := (Below.refl _ _).alloc (Nat.le_refl _) _
  have hr0 : RB (w.alloc (.cells #[.int .i64 0, .int .i64 0, .int .u32 0, .slice none 0 0] 25)) B A l := Rw.below hr (hB0.mono hB)
  have hp := partC_bd l hb
  obtain ⟨q, hq⟩ : ∃ q, partC l = q := ⟨_, rfl⟩
  rw [hq] at hp hs
  have HQ := Lib.hid hq
  have hs2 : (65535 - q != 0) = true := by simp; omega
  clear hn hq hs
  go_enter Try.func25, Try.ntmps25
  go_wp2_with fail
  refine (rsum_any A n c B l HN.out (by omega) hb _ hr0).mono ?_
  rintro e w' ⟨rfl, rfl⟩
  rw [HQ.out]
  go_wp2
  exact bodyPost_ret (v := .tuple #[.agg #[.int .i64 0, .int .i64 0, .int .u32 0, .slice none 0 0], .int .i64 4]) (by simp [results, Try.results25, go_sem]) rfl ⟨rfl, hB0⟩
end Go.Proofs.Ytlnodkfngomlmaa
