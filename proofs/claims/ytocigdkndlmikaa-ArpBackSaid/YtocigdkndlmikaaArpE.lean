/- Proved: what a packet of neighbours is written as, by the program and by its reference. Conditions: the packet is one that came in. -/
import Derived.Test.YtocigdkndlmikaaArpV
import Derived.Test.YtocigdkndlmikaaBytes
import Derived.Test.YtocigdkndlmikaaWriter
import Derived.Test.YtocigdkndlmikaaSpoil
import Derived.Deep.RegionHeld3
set_option linter.unusedVariables false
set_option linter.unusedSimpArgs false
namespace Go.Proofs.Ytocigdkndlmikaa
open Go.RowKit

def AC (op m0 m1 m2 m3 m4 m5 fr t0 t1 t2 t3 t4 t5 to_ : Int) : Array Value :=
  #[.int .i64 op, .int .u8 m0, .int .u8 m1, .int .u8 m2, .int .u8 m3, .int .u8 m4, .int .u8 m5, .int .u32 fr, .int .u8 t0, .int .u8 t1, .int .u8 t2, .int .u8 t3, .int .u8 t4, .int .u8 t5, .int .u32 to_]
def arpB (op : Int) (m : List Int) (fr : Int) (t : List Int) (to_ : Int) : List Int := [0, 1, 8, 0, 6, 4] ++ be 2 op ++ m ++ be 4 fr ++ t ++ be 4 to_

theorem bel_cell {B b o : Nat} {u : Value} {w w2 : World} (h : Below B w w2) (hb : b < B) (hc : w.cell? ⟨b, o, none⟩ = some u) : w2.cell? ⟨b, o, none⟩ = some u := (h.cell (p := ⟨b, o, none⟩) hb).trans hc
theorem Bk.rb_ {w : World} {g : Nat} {t : TypeId} {cs : Array Value} (h : Bk w g t cs) (off : Nat) (l : List Int) (hl : ∀ j, j < l.length → cs[off + j]? = some (.int .u8 (l[j]?.getD 0))) : RB w (g + 1) (some ⟨g, off, none⟩) l := fun _ =>
  ⟨g, off, rfl, Nat.lt_succ_self _, fun j u hu => by
    have hj : j < l.length := by
      rcases Nat.lt_or_ge j l.length with h1 | h1
      · exact h1
      · rw [List.getElem?_eq_none (by rw [by8_length]; exact h1)] at hu; cases hu
    rw [by8_get l j hj] at hu
    rw [h.cell, hl j hj]; exact hu⟩
theorem begins_any (w : World) : Calls Try.prog 31 #[] w fun e w' => e = .returned (.agg #[.int .u8 0, .int .u8 1, .int .u8 8, .int .u8 0, .int .u8 6, .int .u8 4]) ∧ Below w.heap.size w w' := by
  go_enter Try.func31, Try.ntmps31
  go_wp2
  exact bodyPost_ret (v := .agg #[.int .u8 0, .int .u8 1, .int .u8 8, .int .u8 0, .int .u8 6, .int .u8 4]) (by simp [results, Try.results31, go_sem]) rfl ⟨rfl, (Below.refl _ _).alloc (Nat.le_refl _) _⟩

set_option maxRecDepth 100000 in
theorem encode_arg (op m0 m1 m2 m3 m4 m5 fr t0 t1 t2 t3 t4 t5 to_ : Int) (h1 : op ≠ 1) (h2 : op ≠ 2) (w : World) :
    Calls Try.prog 17 #[.agg (AC op m0 m1 m2 m3 m4 m5 fr t0 t1 t2 t3 t4 t5 to_)] w fun e w' => e = .returned (.tuple #[.slice none 0 0, .int .i64 1]) ∧ Below w.heap.size w w' := by
  have e1 : (op != 1) = true := by simpa using h1
  have e2 : (op != 2) = true := by simpa using h2
  unfold AC
  clear h1 h2
  go_enter Try.func17, Try.ntmps17
  go_wp2
  go_ret2
  exact ⟨rfl, (Below.refl _ _).alloc (Nat.le_refl _) _⟩
set_option maxRecDepth 100000 in
theorem rencode_arg (op m0 m1 m2 m3 m4 m5 fr t0 t1 t2 t3 t4 t5 to_ : Int) (h1 : op ≠ 1) (h2 : op ≠ 2) (w : World) :
    Calls Try.prog 18 #[.agg (AC op m0 m1 m2 m3 m4 m5 fr t0 t1 t2 t3 t4 t5 to_)] w fun e w' => e = .returned (.tuple #[.slice none 0 0, .int .i64 1]) ∧ Below w.heap.size w w' := by
  have e1 : (op != 1) = true := by simpa using h1
  have e2 : (op != 2) = true := by simpa using h2
  unfold AC
  clear h1 h2
  go_enter Try.func18, Try.ntmps18
  go_wp2
  go_ret2
  exact ⟨rfl, (Below.refl _ _).alloc (Nat.le_refl _) _⟩
set_option maxHeartbeats 4000000 in
set_option maxRecDepth 100000 in
theorem encode_ok (op m0 m1 m2 m3 m4 m5 fr t0 t1 t2 t3 t4 t5 to_ : Int) (hop : op = 1 ∨ op = 2) (hf : okA fr) (ht : okA to_) (w : World) :
    Calls Try.prog 17 #[.agg (AC op m0 m1 m2 m3 m4 m5 fr t0 t1 t2 t3 t4 t5 to_)] w fun e w' => ∃ A n c, e = .returned (.tuple #[.slice A n c, .int .i64 0]) ∧ OB 5 w' w.heap.size A n c (arpB op [m0, m1, m2, m3, m4, m5] fr [t0, t1, t2, t3, t4, t5] to_) ∧ Below w.heap.size w w' := by
  obtain ⟨f0, f1⟩ := hf
  obtain ⟨g0, g1⟩ := ht
  obtain ⟨W, hW⟩ : ∃ W, (w.alloc (.cells (AC op m0 m1 m2 m3 m4 m5 fr t0 t1 t2 t3 t4 t5 to_) 43)).alloc (.cells #[.slice none 0 0] 78) = W := ⟨_, rfl⟩
  have hm : Bk W w.heap.size 43 (AC op m0 m1 m2 m3 m4 m5 fr t0 t1 t2 t3 t4 t5 to_) := by rw [← hW]; exact (Bk.new w _ _).alloc _
  have hW0 : WrAt W (w.heap.size + 1) (w.heap.size + 1) [] := by
    have := wr_new (w.alloc (.cells (AC op m0 m1 m2 m3 m4 m5 fr t0 t1 t2 t3 t4 t5 to_) 43))
    rw [World.size_alloc] at this
    rw [← hW]; exact this
  have hB : Below w.heap.size w W := by rw [← hW]; exact ((Below.refl _ _).alloc (Nat.le_refl _) _).alloc (by simp) _
  have hz : W.heap.size = w.heap.size + 1 + 1 := by rw [← hW]; simp
  have HW : Hid ((w.alloc (.cells #[.int .i64 op, .int .u8 m0, .int .u8 m1, .int .u8 m2, .int .u8 m3, .int .u8 m4, .int .u8 m5, .int .u32 fr, .int .u8 t0, .int .u8 t1, .int .u8 t2, .int .u8 t3, .int .u8 t4, .int .u8 t5, .int .u32 to_] 43)).alloc (.cells #[.slice none 0 0] 78) = W) := Lib.hid hW
  have HZ := Lib.hid hz
  have tn : ((op != 1) && (op != 2)) = false := by rcases hop with rfl | rfl <;> decide
  have HB := Lib.hid hB
  clear hW hz hB
  unfold AC
  rcases hop with rfl | rfl
  all_goals
    go_enter Try.func17, Try.ntmps17
    go_wp2_with fail
    rw [HW.out]
    refine (begins_any _).mono ?_
    rintro e W1 ⟨rfl, hB1⟩
    have hz1 := hB1.size
    have hm1 := hm.below hB1 hm.lt
    have hW1 := hW0.below hB1
    have hBw1 := HB.out.trans (hB1.mono HB.out.size)
    obtain ⟨W2, hW2⟩ : ∃ W2, W1.alloc (.cells #[.int .u8 0, .int .u8 1, .int .u8 8, .int .u8 0, .int .u8 6, .int .u8 4] 25) = W2 := ⟨_, rfl⟩
    have hB2 : Below W1.heap.size W1 W2 := by rw [← hW2]; exact (Below.refl _ _).alloc (Nat.le_refl _) _
    have hm2 := hm1.below hB2 hm1.lt
    have hWr2 := hW1.below hB2
    have hBw2 := hBw1.trans (hB2.mono hBw1.size)
    have hr2 : RB W2 (W1.heap.size + 1) (some ⟨W1.heap.size, 0, none⟩) [0, 1, 8, 0, 6, 4] := by rw [← hW2]; exact rw_lit W1 25 (by8 [0, 1, 8, 0, 6, 4])
    have HW2 := Lib.hid hW2
    have hz2 := hBw2.size
    have hzz2 := hB2.size
    have HZZ := HZ.out
    clear hW2
    go_wp2_with fail
    rw [HW2.out]
    refine (raw_any _ 6 6 _ [0, 1, 8, 0, 6, 4] rfl (by omega) (w.heap.size + 1) (w.heap.size + 1) _ (by simp) _ hr2 hWr2 (by omega)).mono ?_
    rintro e W3 ⟨rfl, hW3, hK3⟩
    have hB3 : Below (w.heap.size + 1) W2 W3 := hK3.below (by omega) hWr2.wf
    have hm3 := hm2.below hB3 (by omega)
    have hz3 := hB3.size
    have k0 := hm3.cell 0
    have hr2' := hr2
    clear hr2' hr2
    simp only [AC, List.getElem?_toArray, List.getElem?_cons_zero] at k0
    go_wp2_with fail
    refine (two_any _ (w.heap.size + 1) (w.heap.size + 1) _ (by simp [be_length]) _ hW3 (by omega)).mono ?_
    rintro e W4 ⟨rfl, hW4, hK4⟩
    have hB4 : Below (w.heap.size + 1) W3 W4 := hK4.below (by omega) hW3.wf
    have hm4 := hm3.below hB4 (by omega)
    have hz4 := hB4.size
    clear k0
    have r4 : RB W4 (w.heap.size + 1) (some ⟨w.heap.size, 1, none⟩) [m0, m1, m2, m3, m4, m5] := hm4.rb_ 1 _ (by intro j hj; simp only [List.length_cons, List.length_nil] at hj; rcases j with _ | _ | _ | _ | _ | _ | j <;> first | rfl | omega)
    go_wp2_with fail
    refine (raw_any _ 6 6 _ [m0, m1, m2, m3, m4, m5] rfl (by omega) (w.heap.size + 1) (w.heap.size + 1) _ (by simp [be_length]) _ r4 hW4 (by omega)).mono ?_
    rintro e W5 ⟨rfl, hW5, hK5⟩
    have hB5 : Below (w.heap.size + 1) W4 W5 := hK5.below (by omega) hW4.wf
    have hm5 := hm4.below hB5 (by omega)
    have hz5 := hB5.size
    clear r4
    have k7 := hm5.cell 7
    simp only [AC, List.getElem?_toArray, List.getElem?_cons_zero, List.getElem?_cons_succ] at k7
    go_wp2_with fail
    refine (four_any fr f0 f1 (w.heap.size + 1) (w.heap.size + 1) _ (by simp [be_length]) _ hW5 (by omega)).mono ?_
    rintro e W6 ⟨rfl, hW6, hK6⟩
    have hB6 : Below (w.heap.size + 1) W5 W6 := hK6.below (by omega) hW5.wf
    have hm6 := hm5.below hB6 (by omega)
    have hz6 := hB6.size
    clear k7
    have r6 : RB W6 (w.heap.size + 1) (some ⟨w.heap.size, 8, none⟩) [t0, t1, t2, t3, t4, t5] := hm6.rb_ 8 _ (by intro j hj; simp only [List.length_cons, List.length_nil] at hj; rcases j with _ | _ | _ | _ | _ | _ | j <;> first | rfl | omega)
    go_wp2_with fail
    refine (raw_any _ 6 6 _ [t0, t1, t2, t3, t4, t5] rfl (by omega) (w.heap.size + 1) (w.heap.size + 1) _ (by simp [be_length]) _ r6 hW6 (by omega)).mono ?_
    rintro e W7 ⟨rfl, hW7, hK7⟩
    have hB7 : Below (w.heap.size + 1) W6 W7 := hK7.below (by omega) hW6.wf
    have hm7 := hm6.below hB7 (by omega)
    have hz7 := hB7.size
    clear r6
    have k14 := hm7.cell 14
    simp only [AC, List.getElem?_toArray, List.getElem?_cons_zero, List.getElem?_cons_succ] at k14
    go_wp2_with fail
    refine (four_any to_ g0 g1 (w.heap.size + 1) (w.heap.size + 1) _ (by simp [be_length]) _ hW7 (by omega)).mono ?_
    rintro e W8 ⟨rfl, hW8, hK8⟩
    have hB8 : Below (w.heap.size + 1) W7 W8 := hK8.below (by omega) hW7.wf
    have hm8 := hm7.below hB8 (by omega)
    have hz8 := hB8.size
    clear k14
    go_wp2_with fail
    refine (bytes_any (w.heap.size + 1) (w.heap.size + 1) _ (by simp [be_length]) _ hW8).mono ?_
    rintro e W9 ⟨A', n', c', rfl, hO, hB9⟩
    have hBB := ((((hB3.trans hB4).trans hB5).trans hB6).trans hB7).trans hB8
    have HBB := Lib.hid ((hBw2.trans (hBB.mono (by omega))).trans (hB9.mono (by omega)))
    go_wp2
    go_ret2
    exact ⟨A', n', c', rfl, Ow.mono hO (by omega), HBB.out⟩
theorem rfour_ob (v : Int) (h0 : 0 ≤ v) (h1 : v ≤ 4294967295) (w : World) :
    Calls Try.prog 36 #[.int .u32 v] w fun e w' => e = .returned (.slice (some ⟨w.heap.size, 0, none⟩) 4 4) ∧ RB w' w'.heap.size (some ⟨w.heap.size, 0, none⟩) (be 4 v) ∧ Below w.heap.size w w' :=
  (rfour_any v h0 h1 w).mono fun e w' ⟨h1, h2⟩ => by
    subst h2
    refine ⟨h1, ?_, (Below.refl _ _).alloc (Nat.le_refl _) _⟩
    have := rw_lit w 5 (by8 (be 4 v))
    rw [World.size_alloc]; exact this
set_option maxHeartbeats 4000000 in
set_option maxRecDepth 100000 in
theorem rencode_ok (op m0 m1 m2 m3 m4 m5 fr t0 t1 t2 t3 t4 t5 to_ : Int) (hop : op = 1 ∨ op = 2) (hf : okA fr) (ht : okA to_) (w : World) :
    Calls Try.prog 18 #[.agg (AC op m0 m1 m2 m3 m4 m5 fr t0 t1 t2 t3 t4 t5 to_)] w fun e w' => ∃ A n c, e = .returned (.tuple #[.slice A n c, .int .i64 0]) ∧ OB 5 w' w.heap.size A n c (arpB op [m0, m1, m2, m3, m4, m5] fr [t0, t1, t2, t3, t4, t5] to_) ∧ Below w.heap.size w w' := by
  obtain ⟨f0, f1⟩ := hf
  obtain ⟨g0, g1⟩ := ht
  obtain ⟨W, hW⟩ : ∃ W, (w.alloc (.cells (AC op m0 m1 m2 m3 m4 m5 fr t0 t1 t2 t3 t4 t5 to_) 43)).alloc (.cells #[.int .u8 0, .int .u8 1, .int .u8 8, .int .u8 0, .int .u8 6, .int .u8 4, .int .u8 0, .int .u8 op] 5) = W := ⟨_, rfl⟩
  have hm : Bk W w.heap.size 43 (AC op m0 m1 m2 m3 m4 m5 fr t0 t1 t2 t3 t4 t5 to_) := by rw [← hW]; exact (Bk.new w _ _).alloc _
  have hB : Below w.heap.size w W := by rw [← hW]; exact ((Below.refl _ _).alloc (Nat.le_refl _) _).alloc (by simp) _
  have hz : W.heap.size = w.heap.size + 1 + 1 := by rw [← hW]; simp
  have hO0 : OB 5 W (w.heap.size + 1) (some ⟨w.heap.size + 1, 0, none⟩) 8 8 [0, 1, 8, 0, 6, 4, 0, op] := by
    rw [← hW]
    have := ob_lit (w.alloc (.cells (AC op m0 m1 m2 m3 m4 m5 fr t0 t1 t2 t3 t4 t5 to_) 43)) (w.heap.size + 1) [0, 1, 8, 0, 6, 4, 0, op] (by simp) (by simp)
    simpa [by8] using this
  have HW : Hid ((w.alloc (.cells #[.int .i64 op, .int .u8 m0, .int .u8 m1, .int .u8 m2, .int .u8 m3, .int .u8 m4, .int .u8 m5, .int .u32 fr, .int .u8 t0, .int .u8 t1, .int .u8 t2, .int .u8 t3, .int .u8 t4, .int .u8 t5, .int .u32 to_] 43)).alloc (.cells #[.int .u8 0, .int .u8 1, .int .u8 8, .int .u8 0, .int .u8 6, .int .u8 4, .int .u8 0, .int .u8 op] 5) = W) := Lib.hid hW
  have HZ := Lib.hid hz
  have HB := Lib.hid hB
  have hzd : w.heap.size + 1 ≤ W.drew.heap.size := by show w.heap.size + 1 ≤ W.heap.size; omega
  have hzl : w.heap.size < W.drew.heap.size := by omega
  have k7 := hm.cell 7
  have k14 := hm.cell 14
  simp only [AC, List.getElem?_toArray, List.getElem?_cons_zero, List.getElem?_cons_succ] at k7 k14
  have q1 : RB W (w.heap.size + 1) (some ⟨w.heap.size, 1, none⟩) [m0, m1, m2, m3, m4, m5] := hm.rb_ 1 _ (by intro j hj; simp only [List.length_cons, List.length_nil] at hj; rcases j with _ | _ | _ | _ | _ | _ | j <;> first | rfl | omega)
  have q2 : RB W (w.heap.size + 1) (some ⟨w.heap.size, 8, none⟩) [t0, t1, t2, t3, t4, t5] := hm.rb_ 8 _ (by intro j hj; simp only [List.length_cons, List.length_nil] at hj; rcases j with _ | _ | _ | _ | _ | _ | j <;> first | rfl | omega)
  have hop8 : (op != 1 && op != 2) = false := by rcases hop with rfl | rfl <;> decide
  have h14 : 8 + 6 ≤ 140737488355328 := by decide
  have hl1 : w.heap.size < w.heap.size + 1 := Nat.lt_succ_self _
  have k7d : W.drew.cell? ⟨w.heap.size, 7, none⟩ = some (.int .u32 fr) := k7
  have k14d : W.drew.cell? ⟨w.heap.size, 14, none⟩ = some (.int .u32 to_) := k14
  clear hW hz hB hm
  unfold AC
  rcases hop with rfl | rfl
  all_goals
    go_enter Try.func18, Try.ntmps18
    go_wp2_with fail
    rw [HW.out]
    go_region_held3 (fun w' => w'.cell? ⟨w.heap.size, 7, none⟩ = some (.int .u32 fr) ∧ w'.cell? ⟨w.heap.size, 14, none⟩ = some (.int .u32 to_))
      (first | (with_reducible exact ⟨by assumption, by assumption⟩) | go_keep)
      (first
        | (refine st8 rfl (.tmp 17) (.tmp 19) rfl (w.heap.size + 1) rfl (Ow.drew hO0) rfl (Rw.drew q1) rfl h14 hzd ?_; intro A2 c2 w2 hO2 hB2 hg2 hA2 hz2 hc2; have k27 := bel_cell hB2 hl1 k7d; have k214 := bel_cell hB2 hl1 k14d)
        | (go_at_call 36; refine (rfour_ob fr f0 f1 _).mono ?_; rintro e w3 ⟨rfl, hr3, hB3⟩; have hz3 := hB3.size; have k37 := bel_cell hB3 (by omega) k27; have k314 := bel_cell hB3 (by omega) k214)
        | (refine st8 rfl (.tmp 20) (.tmp 23) rfl (w.heap.size + 1) rfl (Ow.stays hO2 hB3) rfl hr3 rfl (by omega) (by omega) ?_; intro A4 c4 w4 hO4 hB4 hg4 hA4 hz4 hc4; have k47 := bel_cell hB4 (by omega) k37; have k414 := bel_cell hB4 (by omega) k314))
    have hz2' : w.heap.size + 1 ≤ w2.heap.size := Nat.le_trans hzd hz2
    have hz3' : w.heap.size + 1 ≤ w3.heap.size := Nat.le_trans hz2' hB3.size
    have hzd4 : w.heap.size + 1 ≤ w4.drew.heap.size := Nat.le_trans hz3' hz4
    have q4 : RB w4 (w.heap.size + 1) (some ⟨w.heap.size, 8, none⟩) [t0, t1, t2, t3, t4, t5] := Rw.below (Rw.below (Rw.below (Rw.drew q2) hB2) (hB3.mono hz2')) hB4
    have k414d : w4.drew.cell? ⟨w.heap.size, 14, none⟩ = some (.int .u32 to_) := k414
    have h24 : 8 + 6 + 4 + 6 ≤ 140737488355328 := by decide
    have HB4 := Lib.hid (HB.out.trans ((((Below.drew (Below.refl _ _)).trans ((hB2.trans (hB3.mono hz2')).trans hB4) : Below (w.heap.size + 1) W w4)).mono (Nat.le_succ _)))
    go_wp2_with fail
    go_region_held3 (fun w' => w'.cell? ⟨w.heap.size, 14, none⟩ = some (.int .u32 to_))
      (first | (with_reducible assumption) | go_keep)
      (first
        | (refine st8 rfl (.tmp 25) (.tmp 27) rfl (w.heap.size + 1) rfl (Ow.drew hO4) rfl (Rw.drew q4) rfl h24 hzd4 ?_; intro A5 c5 w5 hO5 hB5 hg5 hA5 hz5 hc5; have k514 := bel_cell hB5 hl1 k414d)
        | (go_at_call 36; refine (rfour_ob to_ g0 g1 _).mono ?_; rintro e w6 ⟨rfl, hr6, hB6⟩; have hz6 := hB6.size; have k614 := bel_cell hB6 (by omega) k514)
        | (refine st8 rfl (.tmp 28) (.tmp 31) rfl (w.heap.size + 1) rfl (Ow.stays hO5 hB6) rfl hr6 rfl (by omega) (by omega) ?_; intro A7 c7 w7 hO7 hB7 hg7 hA7 hz7 hc7; have k714 := bel_cell hB7 (by omega) k614))
    have hz5' : w.heap.size + 1 ≤ w5.heap.size := Nat.le_trans hzd4 hz5
    have HB7 := Lib.hid (HB4.out.trans (((Below.drew (Below.refl _ _)).trans ((hB5.trans (hB6.mono hz5')).trans hB7) : Below (w.heap.size + 1) w4 w7).mono (Nat.le_succ _)))
    have HO7 := Lib.hid hO7
    clear hO7 hB7 hB6 hB5
    go_wp2
    go_ret2
    exact ⟨A7, _, c7, rfl, Ow.mono HO7.out (Nat.le_succ _), HB7.out⟩
end Go.Proofs.Ytocigdkndlmikaa
