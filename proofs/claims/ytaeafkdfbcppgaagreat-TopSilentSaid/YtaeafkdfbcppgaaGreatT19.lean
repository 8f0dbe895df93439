/- Proved: whether two hardware addresses are alike; whether frames to an address are taken; what a packet of neighbours is written as, by the program and by its reference; bytes are alike or not, and a copy into cells of a block; rows of one address or none are sorted as they are; Send and Learn of a cache th. Conditions: as each law says. -/
import Derived.BigRegion
import Derived.ChangeKeysEq
import Derived.Deep.DeepCutAuto
import Derived.Deep.Strs
import Derived.Laws.BytesArg
import Derived.Test.YtaeafkdfbcppgaaGreatT17
set_option linter.unusedSectionVars false
set_option linter.unusedSimpArgs false
set_option linter.unusedVariables false
namespace Go.Proofs.YtaeafkdfbcppgaaGreat
open Go Go.RowKit
abbrev Mac6 := Int × Int × Int × Int × Int × Int
def mac6 (m : Mac6) : Array Value := #[.int .u8 m.1, .int .u8 m.2.1, .int .u8 m.2.2.1, .int .u8 m.2.2.2.1, .int .u8 m.2.2.2.2.1, .int .u8 m.2.2.2.2.2]
def macE (a b : Mac6) : Bool := a.1 == b.1 && (a.2.1 == b.2.1 && (a.2.2.1 == b.2.2.1 && (a.2.2.2.1 == b.2.2.2.1 && (a.2.2.2.2.1 == b.2.2.2.2.1 && a.2.2.2.2.2 == b.2.2.2.2.2))))
set_option maxRecDepth 100000 in
theorem eqIn_macs (d : Nat) (a b : Mac6) (w : World) : (Op.equalIn (d + 2) 26 (.agg (mac6 a)) (.agg (mac6 b))).run Tryz.prog w = .ok (macE a b) w := by
 obtain ⟨i, hi, _, _, _⟩ := info_parts info_u8
 obtain ⟨a0, a1, a2, a3, a4, a5⟩ := a
 obtain ⟨b0, b1, b2, b3, b4, b5⟩ := b
 unfold mac6 macE
 rw [run_equalIn_array w (d + 1) _ _ Tryz.underlying26 hi, show Tryz.prog.cellsOf 5 = 1 from by kernel_rfl, show List.range 6 = [0, 1, 2, 3, 4, 5] from rfl]
 simp only [Op.eqItems]
 cases h0 : (a0 == b0)
 ·go_simp
 cases h1 : (a1 == b1)
 ·go_simp
 cases h2 : (a2 == b2)
 ·go_simp
 cases h3 : (a3 == b3)
 ·go_simp
 cases h4 : (a4 == b4)
 ·go_simp
 cases h5 : (a5 == b5)
 ·go_simp
 ·go_simp
set_option maxRecDepth 100000 in
theorem eql_macs (a b : Mac6) (w : World) : (binOp .eql 26 (.agg (mac6 a)) (.agg (mac6 b))).run Tryz.prog w = .ok (.bool (macE a b)) w := by
 have h := eqIn_macs 9998 a b w
 generalize macE a b = q at *
 unfold mac6 at *
 go_simp
set_option maxRecDepth 100000 in
theorem ofgroup_all (w : World) : Calls Tryz.prog 147 #[.int .u32 3758096385] w fun e w' => e = .returned (.agg #[.int .u8 1, .int .u8 0, .int .u8 94, .int .u8 0, .int .u8 0, .int .u8 1]) ∧ Below w.heap.size w w' := by
 go_enter Tryz.func147, Tryz.ntmps147
 go_wp2
 exact bodyPost_ret (v := .agg (mac6 (1, 0, 94, 0, 0, 1))) (by simp [results, Tryz.results147, go_sem]; rfl) rfl ⟨rfl, (Below.refl _ _).alloc (Nat.le_refl _) _⟩
def takes (me to_ : Mac6) : Bool := macE to_ me || macE to_ (255, 255, 255, 255, 255, 255) || macE to_ (1, 0, 94, 0, 0, 1)
set_option maxHeartbeats 1000000 in
set_option maxRecDepth 100000 in
theorem takes_any (me to_ : Mac6) (gb go gc : Nat) (w : World) (hl : gb < w.heap.size) (hg : w.cell? ⟨gb, go, none⟩ = some (.int .u32 3758096385)) :
  Calls Tryz.prog 87 #[.agg (mac6 me), .slice (some ⟨gb, go, none⟩) 1 gc, .agg (mac6 to_)] w fun e w' => e = .returned (.bool (takes me to_)) ∧ Below w.heap.size w w' := by
 obtain ⟨W, hW⟩ : ∃ W, (w.alloc (.cells (mac6 me) 26)).alloc (.cells (mac6 to_) 26) = W := ⟨_, rfl⟩
 have hbW : Below w.heap.size w W := by rw [← hW]; exact ((Below.refl _ _).alloc (Nat.le_refl _) _).alloc (by simp) _
 have h1 : Bk W w.heap.size 26 (mac6 me) := by rw [← hW]; exact (Bk.new w _ _).alloc _
 have h2 : Bk W (w.heap.size + 1) 26 (mac6 to_) := by
  rw [← hW]
  have := Bk.new (w.alloc (.cells (mac6 me) 26)) 26 (mac6 to_)
  rwa [World.size_alloc] at this
 have hgW : W.cell? ⟨gb, go, none⟩ = some (.int .u32 3758096385) := bel_cell_ hbW hl hg
 have HW : Hid ((w.alloc (.cells #[.int .u8 me.1, .int .u8 me.2.1, .int .u8 me.2.2.1, .int .u8 me.2.2.2.1, .int .u8 me.2.2.2.2.1, .int .u8 me.2.2.2.2.2] 26)).alloc (.cells #[.int .u8 to_.1, .int .u8 to_.2.1, .int .u8 to_.2.2.1, .int .u8 to_.2.2.2.1, .int .u8 to_.2.2.2.2.1, .int .u8 to_.2.2.2.2.2] 26) = W) := Lib.hid hW
 have a0 : W.cell? ⟨w.heap.size, 0, none⟩ = some (.int .u8 me.1) := h1.cell 0
 have a1 : W.cell? ⟨w.heap.size, 1, none⟩ = some (.int .u8 me.2.1) := h1.cell 1
 have a2 : W.cell? ⟨w.heap.size, 2, none⟩ = some (.int .u8 me.2.2.1) := h1.cell 2
 have a3 : W.cell? ⟨w.heap.size, 3, none⟩ = some (.int .u8 me.2.2.2.1) := h1.cell 3
 have a4 : W.cell? ⟨w.heap.size, 4, none⟩ = some (.int .u8 me.2.2.2.2.1) := h1.cell 4
 have a5 : W.cell? ⟨w.heap.size, 5, none⟩ = some (.int .u8 me.2.2.2.2.2) := h1.cell 5
 have b0 : W.cell? ⟨w.heap.size + 1, 0, none⟩ = some (.int .u8 to_.1) := h2.cell 0
 have b1 : W.cell? ⟨w.heap.size + 1, 1, none⟩ = some (.int .u8 to_.2.1) := h2.cell 1
 have b2 : W.cell? ⟨w.heap.size + 1, 2, none⟩ = some (.int .u8 to_.2.2.1) := h2.cell 2
 have b3 : W.cell? ⟨w.heap.size + 1, 3, none⟩ = some (.int .u8 to_.2.2.2.1) := h2.cell 3
 have b4 : W.cell? ⟨w.heap.size + 1, 4, none⟩ = some (.int .u8 to_.2.2.2.2.1) := h2.cell 4
 have b5 : W.cell? ⟨w.heap.size + 1, 5, none⟩ = some (.int .u8 to_.2.2.2.2.2) := h2.cell 5
 have q1 := fun w => eql_macs to_ me w
 have q2 := fun w => eql_macs to_ (255, 255, 255, 255, 255, 255) w
 have q3 := fun w => eql_macs to_ (1, 0, 94, 0, 0, 1) w
 unfold mac6 at q1 q2 q3
 simp only at q2 q3
 have HT : takes me to_ = (macE to_ me || macE to_ (255, 255, 255, 255, 255, 255) || macE to_ (1, 0, 94, 0, 0, 1)) := rfl
 rw [HT]
 have HBW := Lib.hid hbW
 have hL : w.heap.size + 1 < W.drew.heap.size := h2.lt
 clear hW hbW h1 h2 hg HT
 unfold mac6
 generalize macE to_ me = e1 at *
 generalize macE to_ (255, 255, 255, 255, 255, 255) = e2 at *
 generalize macE to_ (1, 0, 94, 0, 0, 1) = e3 at *
 cases e1
 ·cases e2
  ·cases e3
   all_goals
    go_enter Tryz.func87, Tryz.ntmps87
    go_upto_region 1 with (fail)
    rw [HW.out]
    go_wp2
    refine wp_loop_rounds 2 ?_; rw [rounds_succ]
    go_upto_region 6 with (fail)
    have HOF := Lib.hid (ofgroup_all W.drew)
    have HL := Lib.hid hL
    have b0' : W.drew.cell? ⟨w.heap.size + 1, 0, none⟩ = some (.int .u8 to_.1) := b0
    have b1' : W.drew.cell? ⟨w.heap.size + 1, 1, none⟩ = some (.int .u8 to_.2.1) := b1
    have b2' : W.drew.cell? ⟨w.heap.size + 1, 2, none⟩ = some (.int .u8 to_.2.2.1) := b2
    have b3' : W.drew.cell? ⟨w.heap.size + 1, 3, none⟩ = some (.int .u8 to_.2.2.2.1) := b3
    have b4' : W.drew.cell? ⟨w.heap.size + 1, 4, none⟩ = some (.int .u8 to_.2.2.2.2.1) := b4
    have b5' : W.drew.cell? ⟨w.heap.size + 1, 5, none⟩ = some (.int .u8 to_.2.2.2.2.2) := b5
    go_region_held3 (fun w' => w'.cell? ⟨w.heap.size + 1, 0, none⟩ = some (.int .u8 to_.1) ∧ w'.cell? ⟨w.heap.size + 1, 1, none⟩ = some (.int .u8 to_.2.1) ∧ w'.cell? ⟨w.heap.size + 1, 2, none⟩ = some (.int .u8 to_.2.2.1) ∧ w'.cell? ⟨w.heap.size + 1, 3, none⟩ = some (.int .u8 to_.2.2.2.1) ∧ w'.cell? ⟨w.heap.size + 1, 4, none⟩ = some (.int .u8 to_.2.2.2.2.1) ∧ w'.cell? ⟨w.heap.size + 1, 5, none⟩ = some (.int .u8 to_.2.2.2.2.2))
     (first | (with_reducible exact ⟨by assumption, by assumption, by assumption, by assumption, by assumption, by assumption⟩) | go_keep)
     (first
      | (go_at_call 147; refine HOF.out.mono ?_; rintro e9 w9 ⟨rfl, hb9⟩; have p0 := bel_cell_ hb9 HL.out b0'; have p1 := bel_cell_ hb9 HL.out b1'; have p2 := bel_cell_ hb9 HL.out b2'; have p3 := bel_cell_ hb9 HL.out b3'; have p4 := bel_cell_ hb9 HL.out b4'; have p5 := bel_cell_ hb9 HL.out b5'))
    have HB9 : Hid (Below w.heap.size w w9) := Lib.hid (HBW.out.trans ((bel_undr_ hb9).mono HBW.out.size))
    clear hb9 p0 p1 p2 p3 p4 p5
    go_wp2
    first
     | (go_ret; exact ⟨rfl, HB9.out⟩)
     | (rw [rounds_succ]; go_wp2; go_ret; exact ⟨rfl, HB9.out⟩)
  ·go_enter Tryz.func87, Tryz.ntmps87
   go_upto_region 1 with (fail)
   rw [HW.out]
   go_wp2
   go_ret
   exact ⟨rfl, HBW.out⟩
 ·go_enter Tryz.func87, Tryz.ntmps87
  go_upto_region 1 with (fail)
  rw [HW.out]
  go_wp2
  go_ret
  exact ⟨rfl, HBW.out⟩
open Go.RowKit
def AC (op m0 m1 m2 m3 m4 m5 fr t0 t1 t2 t3 t4 t5 to_ : Int) : Array Value :=
 #[.int .i64 op, .int .u8 m0, .int .u8 m1, .int .u8 m2, .int .u8 m3, .int .u8 m4, .int .u8 m5, .int .u32 fr, .int .u8 t0, .int .u8 t1, .int .u8 t2, .int .u8 t3, .int .u8 t4, .int .u8 t5, .int .u32 to_]
def arpB (op : Int) (m : List Int) (fr : Int) (t : List Int) (to_ : Int) : List Int := [0, 1, 8, 0, 6, 4] ++ be 2 op ++ m ++ be 4 fr ++ t ++ be 4 to_
theorem begins_any (w : World) : Calls Tryz.prog 68 #[] w fun e w' => e = .returned (.agg #[.int .u8 0, .int .u8 1, .int .u8 8, .int .u8 0, .int .u8 6, .int .u8 4]) ∧ Below w.heap.size w w' := by
 go_enter Tryz.func68, Tryz.ntmps68
 go_wp2
 exact bodyPost_ret (v := .agg #[.int .u8 0, .int .u8 1, .int .u8 8, .int .u8 0, .int .u8 6, .int .u8 4]) (by simp [results, Tryz.results68, go_sem]) rfl ⟨rfl, (Below.refl _ _).alloc (Nat.le_refl _) _⟩
set_option maxHeartbeats 4000000 in
set_option maxRecDepth 100000 in
theorem arpencode_ok (op m0 m1 m2 m3 m4 m5 fr t0 t1 t2 t3 t4 t5 to_ : Int) (hop : op = 1 ∨ op = 2) (hf : okA fr) (ht : okA to_) (w : World) :
  Calls Tryz.prog 94 #[.agg (AC op m0 m1 m2 m3 m4 m5 fr t0 t1 t2 t3 t4 t5 to_)] w fun e w' => ∃ A n c, e = .returned (.tuple #[.slice A n c, .int .i64 0]) ∧ OB 5 w' w.heap.size A n c (arpB op [m0, m1, m2, m3, m4, m5] fr [t0, t1, t2, t3, t4, t5] to_) ∧ Below w.heap.size w w' := by
 obtain ⟨f0, f1⟩ := hf
 obtain ⟨g0, g1⟩ := ht
 obtain ⟨W, hW⟩ : ∃ W, (w.alloc (.cells (AC op m0 m1 m2 m3 m4 m5 fr t0 t1 t2 t3 t4 t5 to_) 93)).alloc (.cells #[.slice none 0 0] 290) = W := ⟨_, rfl⟩
 have hm : Bk W w.heap.size 93 (AC op m0 m1 m2 m3 m4 m5 fr t0 t1 t2 t3 t4 t5 to_) := by rw [← hW]; exact (Bk.new w _ _).alloc _
 have hW0 : WrAt W (w.heap.size + 1) (w.heap.size + 1) [] := by
  have := wr_new (w.alloc (.cells (AC op m0 m1 m2 m3 m4 m5 fr t0 t1 t2 t3 t4 t5 to_) 93))
  rw [World.size_alloc] at this
  rw [← hW]; exact this
 have hB : Below w.heap.size w W := by rw [← hW]; exact ((Below.refl _ _).alloc (Nat.le_refl _) _).alloc (by simp) _
 have hz : W.heap.size = w.heap.size + 1 + 1 := by rw [← hW]; simp
 have HW : Hid ((w.alloc (.cells #[.int .i64 op, .int .u8 m0, .int .u8 m1, .int .u8 m2, .int .u8 m3, .int .u8 m4, .int .u8 m5, .int .u32 fr, .int .u8 t0, .int .u8 t1, .int .u8 t2, .int .u8 t3, .int .u8 t4, .int .u8 t5, .int .u32 to_] 93)).alloc (.cells #[.slice none 0 0] 290) = W) := Lib.hid hW
 have HZ := Lib.hid hz
 have tn : ((op != 1) && (op != 2)) = false := by rcases hop with rfl | rfl <;> decide
 have HB := Lib.hid hB
 clear hW hz hB
 unfold AC
 rcases hop with rfl | rfl
 all_goals
  go_enter Tryz.func94, Tryz.ntmps94
  go_wp2_with fail
  rw [HW.out]
  refine (begins_any _).mono ?_
  rintro e W1 ⟨rfl, hB1⟩
  have hz1 := hB1.size
  have hm1 := hm.below hB1 hm.lt
  have hW1 := hW0.below hB1
  have hBw1 := HB.out.trans (hB1.mono HB.out.size)
  obtain ⟨W2, hW2⟩ : ∃ W2, W1.alloc (.cells #[.int .u8 0, .int .u8 1, .int .u8 8, .int .u8 0, .int .u8 6, .int .u8 4] 25) = W2 := ⟨_, rfl⟩
  have hB2 : Below W1.heap.size W1 W2 := by rw [← hW2]; exact (Below.refl _ _).alloc (Nat.le_refl _) _
  have hm2 := hm1.below hB2 hm1.lt
  have hWr2 := hW1.below hB2
  have hBw2 := hBw1.trans (hB2.mono hBw1.size)
  have hr2 : RB W2 (W1.heap.size + 1) (some ⟨W1.heap.size, 0, none⟩) [0, 1, 8, 0, 6, 4] := by rw [← hW2]; exact rw_lit W1 25 (by8 [0, 1, 8, 0, 6, 4])
  have HW2 := Lib.hid hW2
  have hz2 := hBw2.size
  have hzz2 := hB2.size
  have HZZ := HZ.out
  clear hW2
  go_wp2_with fail
  rw [HW2.out]
  refine (raw_any _ 6 6 _ [0, 1, 8, 0, 6, 4] rfl (by omega) (w.heap.size + 1) (w.heap.size + 1) _ (by simp) _ hr2 hWr2 (by omega)).mono ?_
  rintro e W3 ⟨rfl, hW3, hK3⟩
  have hB3 : Below (w.heap.size + 1) W2 W3 := hK3.below (by omega) hWr2.wf
  have hm3 := hm2.below hB3 (by omega)
  have hz3 := hB3.size
  have k0 := hm3.cell 0
  have hr2' := hr2
  clear hr2' hr2
  simp only [AC, List.getElem?_toArray, List.getElem?_cons_zero] at k0
  go_wp2_with fail
  refine (two_any _ (w.heap.size + 1) (w.heap.size + 1) _ (by simp [be_length]) _ hW3 (by omega)).mono ?_
  rintro e W4 ⟨rfl, hW4, hK4⟩
  have hB4 : Below (w.heap.size + 1) W3 W4 := hK4.below (by omega) hW3.wf
  have hm4 := hm3.below hB4 (by omega)
  have hz4 := hB4.size
  clear k0
  have r4 : RB W4 (w.heap.size + 1) (some ⟨w.heap.size, 1, none⟩) [m0, m1, m2, m3, m4, m5] := hm4.rb_ 1 _ (by intro j hj; simp only [List.length_cons, List.length_nil] at hj; rcases j with _ | _ | _ | _ | _ | _ | j <;> first | rfl | omega)
  go_wp2_with fail
  refine (raw_any _ 6 6 _ [m0, m1, m2, m3, m4, m5] rfl (by omega) (w.heap.size + 1) (w.heap.size + 1) _ (by simp [be_length]) _ r4 hW4 (by omega)).mono ?_
  rintro e W5 ⟨rfl, hW5, hK5⟩
  have hB5 : Below (w.heap.size + 1) W4 W5 := hK5.below (by omega) hW4.wf
  have hm5 := hm4.below hB5 (by omega)
  have hz5 := hB5.size
  clear r4
  have k7 := hm5.cell 7
  simp only [AC, List.getElem?_toArray, List.getElem?_cons_zero, List.getElem?_cons_succ] at k7
  go_wp2_with fail
  refine (four_any fr f0 f1 (w.heap.size + 1) (w.heap.size + 1) _ (by simp [be_length]) _ hW5 (by omega)).mono ?_
  rintro e W6 ⟨rfl, hW6, hK6⟩
  have hB6 : Below (w.heap.size + 1) W5 W6 := hK6.below (by omega) hW5.wf
  have hm6 := hm5.below hB6 (by omega)
  have hz6 := hB6.size
  clear k7
  have r6 : RB W6 (w.heap.size + 1) (some ⟨w.heap.size, 8, none⟩) [t0, t1, t2, t3, t4, t5] := hm6.rb_ 8 _ (by intro j hj; simp only [List.length_cons, List.length_nil] at hj; rcases j with _ | _ | _ | _ | _ | _ | j <;> first | rfl | omega)
  go_wp2_with fail
  refine (raw_any _ 6 6 _ [t0, t1, t2, t3, t4, t5] rfl (by omega) (w.heap.size + 1) (w.heap.size + 1) _ (by simp [be_length]) _ r6 hW6 (by omega)).mono ?_
  rintro e W7 ⟨rfl, hW7, hK7⟩
  have hB7 : Below (w.heap.size + 1) W6 W7 := hK7.below (by omega) hW6.wf
  have hm7 := hm6.below hB7 (by omega)
  have hz7 := hB7.size
  clear r6
  have k14 := hm7.cell 14
  simp only [AC, List.getElem?_toArray, List.getElem?_cons_zero, List.getElem?_cons_succ] at k14
  go_wp2_with fail
  refine (four_any to_ g0 g1 (w.heap.size + 1) (w.heap.size + 1) _ (by simp [be_length]) _ hW7 (by omega)).mono ?_
  rintro e W8 ⟨rfl, hW8, hK8⟩
  have hB8 : Below (w.heap.size + 1) W7 W8 := hK8.below (by omega) hW7.wf
  have hm8 := hm7.below hB8 (by omega)
  have hz8 := hB8.size
  clear k14
  go_wp2_with fail
  refine (bytes_any (w.heap.size + 1) (w.heap.size + 1) _ (by simp [be_length]) _ hW8).mono ?_
  rintro e W9 ⟨A', n', c', rfl, hO, hB9⟩
  have hBB := ((((hB3.trans hB4).trans hB5).trans hB6).trans hB7).trans hB8
  have HBB := Lib.hid ((hBw2.trans (hBB.mono (by omega))).trans (hB9.mono (by omega)))
  go_wp2
  go_ret2
  exact ⟨A', n', c', rfl, Ow.mono hO (by omega), HBB.out⟩
open Go.RowKit
theorem u8_inj {x y : Int} (hx : 0 ≤ x ∧ x < 256) (hy : 0 ≤ y ∧ y < 256) (h : UInt8.ofNat x.toNat = UInt8.ofNat y.toNat) : x = y := by
 have := congrArg UInt8.toNat h
 simp only [UInt8.toNat_ofNat'] at this
 omega
theorem map_u8_inj : ∀ {l m : List Int}, Bs l → Bs m → (l.map fun n => UInt8.ofNat n.toNat) = (m.map fun n => UInt8.ofNat n.toNat) → l = m
 | [], [], _, _, _ => rfl
 | x :: l, y :: m, hl, hm, h => by
  simp only [List.map_cons, List.cons.injEq] at h
  rw [u8_inj (hl x (by simp)) (hm y (by simp)) h.1, map_u8_inj (fun z hz => hl z (by simp [hz])) (fun z hz => hm z (by simp [hz])) h.2]
 | [], _ :: _, _, _, h => by simp at h
 | _ :: _, [], _, _, h => by simp at h
theorem str_inj {l m : List Int} (hl : Bs l) (hm : Bs m) : (strOfNums l = strOfNums m) ↔ l = m :=
 ⟨fun h => map_u8_inj hl hm (by have := congrArg (fun s : ByteArray => s.data.toList) h; simpa only [strOfNums_data] using this), fun h => by rw [h]⟩
set_option maxRecDepth 100000 in
theorem equal_any (A1 A2 : Option Addr) (n c1 c2 B1 B2 : Nat) (l1 l2 : List Int) (h0 : 0 < n) (h1 : l1.length = n) (h2 : l2.length = n) (hb1 : Bs l1) (hb2 : Bs l2) (w : World) (r1 : RB w B1 A1 l1) (r2 : RB w B2 A2 l2) :
  Calls Tryz.prog 69 #[.slice A1 n c1, .slice A2 n c2] w fun e w' => e = .returned (.bool (decide (l1 = l2))) ∧ w = w' := by
 obtain ⟨b1, o1, rfl, _, _⟩ := r1.at_ (k := 0) (by omega)
 obtain ⟨b2, o2, rfl, _, _⟩ := r2.at_ (k := 0) (by omega)
 have e1 := run_convert_bytes_arg (P := Tryz.prog) w 37 5 Tryz.underlying37 Tryz.underlying5 b1 o1 n c1 l1 h1 (fun i hi => by
  obtain ⟨b, o, e, _, h⟩ := r1.at_ (k := i) (by omega); injection e with e; injection e with ea eb; subst ea; subst eb; simpa [List.getD] using h) 9 Tryz.underlying9
 have e2 := run_convert_bytes_arg (P := Tryz.prog) w 37 5 Tryz.underlying37 Tryz.underlying5 b2 o2 n c2 l2 h2 (fun i hi => by
  obtain ⟨b, o, e, _, h⟩ := r2.at_ (k := i) (by omega); injection e with e; injection e with ea eb; subst ea; subst eb; simpa [List.getD] using h) 9 Tryz.underlying9
 have HI := Lib.hid (str_inj hb1 hb2)
 clear h1 h2 r1 r2
 go_enter Tryz.func69, Tryz.ntmps69
 go_wp2
 go_ret
 refine ⟨?_, rfl⟩
 rw [ByteArray.toList_eq, ByteArray.toList_eq, strOfNums_data, strOfNums_data]
 show Ending.returned (.bool ((l1.map fun n => UInt8.ofNat n.toNat) == (l2.map fun n => UInt8.ofNat n.toNat))) = _
 by_cases h : l1 = l2
 ·rw [h]; simp
 ·rw [decide_eq_false h, beq_eq_false_iff_ne.2 (fun e => h (map_u8_inj hb1 hb2 e))]
section
variable {ops : Array Oper} {o : Oper} {a : Act} {w : World} {K : Act → World → Prop} {Q : Exit → Act → World → Prop} {E : Prop}
set_option maxRecDepth 100000 in
theorem cp8 (hgd : o.guard = none) (d s : Operand) (dT : TypeId) (hu : Tryz.prog.underlying dT = some (.slice 5))
  (ho : o.op = .call { callee := .builtin .copy, args := #[d, s], argTypes := #[dT, 37] })
  {g off n dc : Nat} {t : TypeId} {cs : Array Value} (hd : a.eval d = .slice (some ⟨g, off, none⟩) n dc) (hg : Bk w g t cs)
  {A : Option Addr} {m c B : Nat} {l : List Int} (hs : a.eval s = .slice A m c) (hr : RB w B A l) (hm : l.length = m) (hn : m = n) (h0 : 0 < n) (hfit : off + n ≤ cs.size)
  (h : ∀ w', Bk w' g t (splice cs.toList off (by8 l)).toArray → w.grownBy w' (some g) → K (a.put o.dst (goInt n)) w') :
  if Region.wanted o (yielded ops a.tmps) = true then Oper.wp Tryz.prog o a w K Q else E := by
 have hw : Region.wanted o (yielded ops a.tmps) = true := by simp [Region.wanted, hgd]
 rw [if_pos hw]
 obtain ⟨b, o2, rfl, _, _⟩ := hr.at_ (k := 0) (by omega)
 have hl : (by8 l).length = n := by rw [by8_length]; omega
 have hrun := run_copy_row (P := Tryz.prog) w dT 37 o.type 5 g off n dc ⟨b, o2, none⟩ m c cs t (by8 l) hu (by kernel_rfl) hg (by rw [hl, hn]; simp) (fun j v hj => by
  have hj' : j < l.length := by
   rcases Nat.lt_or_ge j l.length with h1 | h1
   ·exact h1
   ·rw [List.getElem?_eq_none (by rw [by8_length]; exact h1)] at hj; cases hj
  obtain ⟨b', o', e, _, h3⟩ := Rw.at_ hr hj
  injection e with e; injection e with e1 e2; subst e1; subst e2
  rw [add_eq]; exact h3) (by rw [hl]; exact hfit) (by8_one l)
 unfold Oper.wp
 simp [execOp, ho, resolve, invoke, builtin, hd, hs, hrun, Result.andThen]
 have h9 := h (w.setRow g (splice cs.toList off (by8 l)).toArray) (setRow_heap w g _ _ t _ hg) (grownBy_setRow w g _)
 rw [← hl] at h9
 exact h9
end
theorem six_at (l : List Int) (k : Nat) (h : k + 6 ≤ l.length) : (l.drop k).take 6 = [at8 l k, at8 l (k + 1), at8 l (k + 2), at8 l (k + 3), at8 l (k + 4), at8 l (k + 5)] := by
 rw [drop_at8 l k (by omega), drop_at8 l (k + 1) (by omega), drop_at8 l (k + 1 + 1) (by omega), drop_at8 l (k + 1 + 1 + 1) (by omega), drop_at8 l (k + 1 + 1 + 1 + 1) (by omega), drop_at8 l (k + 1 + 1 + 1 + 1 + 1) (by omega)]
 rfl
def arpC (l : List Int) : Array Value := #[.int .i64 (rd2 l 6), .int .u8 (at8 l 8), .int .u8 (at8 l 9), .int .u8 (at8 l 10), .int .u8 (at8 l 11), .int .u8 (at8 l 12), .int .u8 (at8 l 13), .int .u32 (rd4 l 14),
 .int .u8 (at8 l 18), .int .u8 (at8 l 19), .int .u8 (at8 l 20), .int .u8 (at8 l 21), .int .u8 (at8 l 22), .int .u8 (at8 l 23), .int .u32 (rd4 l 24)]
def zeroC : Array Value := #[.int .i64 0, .int .u8 0, .int .u8 0, .int .u8 0, .int .u8 0, .int .u8 0, .int .u8 0, .int .u32 0, .int .u8 0, .int .u8 0, .int .u8 0, .int .u8 0, .int .u8 0, .int .u8 0, .int .u32 0]
def headA : List Int := [0, 1, 8, 0, 6, 4]
def goodA (l : List Int) : Prop := l.take 6 = headA ∧ (rd2 l 6 = 1 ∨ rd2 l 6 = 2)
open Go.RowKit
set_option maxRecDepth 100000 in
theorem ins1 (A : Option Addr) (n c : Nat) (hn : n ≤ 1) (w : World) : Calls Tryz.prog 216 #[.slice A n c, .int .i64 0, .int .i64 n] w fun e w' => e = .returned (.tuple #[]) ∧ w = w' := by
 have h : ¬ (1 : Int) < n := by omega
 go_enter Tryz.func216, Tryz.ntmps216
 go_wp2
 go_loop [6] (fun i => i = .int .i64 1) (fun _ => 0)
 case atStart => rfl
 case round =>
  subst hrel
  go_wp2
  go_end0
  exact ⟨rfl, rfl⟩
set_option maxRecDepth 100000 in
theorem pdq1 (A : Option Addr) (n c : Nat) (hn : n ≤ 1) (k : Int) (w : World) : Calls Tryz.prog 151 #[.slice A n c, .int .i64 0, .int .i64 n, .int .i64 k] w fun e w' => e = .returned (.tuple #[]) ∧ w = w' := by
 have h : (n : Int) ≤ 12 := by omega
 have hw : IntKind.i64.wrap ((n : Int) - 0) = n := by rw [IntWalk.i64_in _ (by omega)]; omega
 go_enter Tryz.func151, Tryz.ntmps151
 go_wp2
 go_loop [1, 2, 3, 8, 9, 10] (fun a b _ _ _ _ => a = .int .i64 0 ∧ b = .int .i64 n) (fun _ _ _ _ _ _ => 0)
 case atStart => exact ⟨rfl, rfl⟩
 case round =>
  obtain ⟨rfl, rfl⟩ := hrel
  go_wp2_with fail
  refine (ins1 A n c hn _).mono ?_
  rintro e w' ⟨rfl, rfl⟩
  go_wp2
  refine bodyPost_ret (results_none rfl _ _ _) rfl ?_
  exact ⟨rfl, rfl⟩
set_option maxRecDepth 100000 in
theorem len1 (n : Nat) (hn : n ≤ 1) (w : World) : Calls Tryz.prog 152 #[.int .u64 n] w fun e w' => (∃ k : Int, e = .returned (.int .i64 k)) ∧ w = w' := by
 have h64 : Calls Tryz.prog 226 #[.int .u64 n] w fun e w' => (∃ k : Int, e = .returned (.int .i64 k)) ∧ w = w' := by
  rcases (by omega : n = 0 ∨ n = 1) with rfl | rfl
  ·go_enter Tryz.func226, Tryz.ntmps226
   go_wp2
   go_ret
   exact ⟨⟨_, rfl⟩, rfl⟩
  ·go_enter Tryz.func226, Tryz.ntmps226
   go_wp2
   go_ret
   exact ⟨⟨_, rfl⟩, rfl⟩
 have H64 := Lib.hid h64
 clear h64
 go_enter Tryz.func152, Tryz.ntmps152
 go_wp2_with fail
 refine H64.out.mono ?_
 rintro e w' ⟨⟨k, rfl⟩, rfl⟩
 go_wp2
 go_ret
 exact ⟨⟨_, rfl⟩, rfl⟩
set_option maxRecDepth 100000 in
theorem sort1 : SortsTo 1 := by
 intro A n c base l w hn hoa hb hok _
 have hw : IntKind.u64.wrap (n : Int) = n := by rw [IntKind.wrap_u64]; omega
 have HO := Lib.hid hoa
 clear hoa hok
 go_enter Tryz.func93, Tryz.ntmps93
 go_wp2_with fail
 refine (len1 n hn _).mono ?_
 rintro e w' ⟨⟨k, rfl⟩, rfl⟩
 go_wp2_with fail
 refine (pdq1 A n c hn _ _).mono ?_
 rintro e w' ⟨rfl, rfl⟩
 go_wp2
 go_end0
 refine ⟨rfl, l, List.Perm.refl _, ?_, HO.out, World.grownBy.refl _ _⟩
 have := HO.out.len
 match l, this with
 | [], _ => exact List.Pairwise.nil
 | [x], _ => exact List.pairwise_singleton _ _
 | _ :: _ :: _, h => simp at h; omega
open Go.RowKit
variable {V : HV}
set_option maxHeartbeats 4000000 in
set_option maxRecDepth 100000 in
theorem learn_full (a : Int) (ha : okA a) (m0 m1 m2 m3 m4 m5 now : Int) (fresh : Bool) (w : World)
  (F : Nat → Prop) (g : Nat) (S : List En) (h : CacheAt V w F g S) (hna0 : ∀ e ∈ S, e.a ≠ a) (h16 : 16 ≤ S.length) (hfull : ∀ x ∈ S, x.n.kn = false) (hfr : fresh = true) :
  Calls Tryz.prog 148 #[.pointer (some ⟨g, 8, none⟩), .int .u32 a, .agg #[.int .u8 m0, .int .u8 m1, .int .u8 m2, .int .u8 m3, .int .u8 m4, .int .u8 m5], .int .i64 now, .bool fresh] w (LearnPost V w F g [] (absT S)) := by
 subst hfr
 have hnd := h.nodup
 have HCA := Lib.hid h
 obtain ⟨mv0, h1, h2, h3, h4, h5, h6⟩ := h
 have HCM : Hid (CacheMv V w F g mv0 S) := Lib.hid ⟨h1, h2, h3, h4, h5, h6⟩
 obtain ⟨w0, hw0⟩ : ∃ w0, w.alloc (.cells #[.int .u8 m0, .int .u8 m1, .int .u8 m2, .int .u8 m3, .int .u8 m4, .int .u8 m5] 26) = w0 := ⟨_, rfl⟩
 have hB0 : Below w.heap.size w w0 := by rw [← hw0]; exact (Below.refl _ _).alloc (Nat.le_refl _) _
 have HW0 := Lib.hid hw0
 have hg : g < w.heap.size := h1.1.lt
 have HB0 := Lib.hid hB0
 have hm0 := h1.kept (hB0.block g hg) (fun b hb => hB0.block b (h1.2.2 b hb).lt)
 have HM0 := Lib.hid hm0
 have c0 := (World.cell?_alloc_lt w (.cells #[.int .u8 m0, .int .u8 m1, .int .u8 m2, .int .u8 m3, .int .u8 m4, .int .u8 m5] 26) ⟨g, 8, none⟩ hg).trans (show _ = some (Value.map _) from h1.1.cell 8)
 try simp only [List.getElem?_toArray, List.getElem?_cons_zero] at c0
 have HNA0 := Lib.hid hna0
 have HFU := Lib.hid (And.intro h16 hfull)
 have hlook : (Instr.lookup mapT (.map mv0) (.int .u32 a) false).run Tryz.prog (w.alloc (.cells #[.int .u8 m0, .int .u8 m1, .int .u8 m2, .int .u8 m3, .int .u8 m4, .int .u8 m5] 26)) = .ok (.pointer none) (w.alloc (.cells #[.int .u8 m0, .int .u8 m1, .int .u8 m2, .int .u8 m3, .int .u8 m4, .int .u8 m5] 26)) := by
  have := hm0.look ha
  rw [getL_enE_none HNA0.out] at this
  rw [← HW0.out] at this
  exact this
 clear hna0 hw0 h1 h2 h3 h4 h5 h6 hnd hB0 hm0 h16 hfull
 go_enter Tryz.func148, Tryz.ntmps148
 go_wp2_with fail
 rw [HW0.out]
 refine (room_big g mv0 S _ HM0.out (fun e he => ((HCM.out.2.2.2.1 e he).keep (fun b _ hl => HB0.out.block b hl) (fun b h => h)).1) HFU.out.1).mono ?_
 rintro e1 w2 (⟨rfl, r2, _⟩ | ⟨rfl, r2, ⟨x, r3, r4⟩, r5⟩ | ⟨rfl, r2, r3, r4, r5⟩)
 ·exfalso; have := HFU.out.1; omega
 ·exfalso
  have := HFU.out.2 x r3.1
  rw [r3.2.1] at this
  cases this
 ·have hfin : LearnPost V w F g [] (absT S) (.returned (.slice none 0 0)) w2 := by
   have hc : Chg F w w2 := (Chg.of_below (F := F) HB0.out).trans r5 (fun x e => e.elim)
   have hk : ∀ b, F b → b < w.heap.size → w2.heap[b]? = w.heap[b]? := fun b _ hl => (r5.block b (Nat.lt_of_lt_of_le hl HB0.out.size) (fun e => e)).trans (HB0.out.block b hl)
   exact ⟨none, 0, 0, rfl, ⟨[], Of.none_ _ _ _, trivial, (fun b hb => by cases hb)⟩, S, ⟨mv0, HCM.out.keep hk (fun b hb => .inl hb)⟩, rfl, hc⟩
  have HFIN := Lib.hid hfin
  clear r2 r3 r4 r5 hfin
  go_wp2_with fail
  go_ret
  exact HFIN.out
theorem room_T {S S2 : List En} (h : RoomOK S S2) : RoomT (absT S) (absT S2) := by
 rcases h with ⟨h1, rfl⟩ | ⟨h1, x, ⟨hx, hk, hall⟩, rfl⟩
 ·exact .inl ⟨by unfold absT; rw [List.length_map]; exact h1, rfl⟩
 ·refine .inr ⟨by unfold absT; rw [List.length_map]; exact h1, (x.a, x.n), ⟨List.mem_map.2 ⟨x, hx, rfl⟩, hk, fun y hy hky => ?_⟩, absT_filter S x.a⟩
  obtain ⟨z, hz, rfl⟩ := List.mem_map.1 hy
  exact hall z hz hky
def PLearn (V : HV) (w : World) (F : Nat → Prop) (g : Nat) (S : List En) (a : Int) (n' : Nb) (fresh : Bool) (e : Ending) (w' : World) : Prop := ∃ ws T', LearnT (absT S) a n' fresh ws T' ∧ ws.length ≤ 3 ∧ LearnPost V w F g ws T' e w'
theorem plearn_any (a : Int) (ha : okA a) (m0 m1 m2 m3 m4 m5 now : Int) (hnow : -9223372036854775808 ≤ now ∧ now ≤ 9223372036854775807) (fresh : Bool) (w : World) (F : Nat → Prop) (g : Nat) (S : List En) (h : CacheAt V w F g S) :
  Calls Tryz.prog 148 #[.pointer (some ⟨g, 8, none⟩), .int .u32 a, .agg #[.int .u8 m0, .int .u8 m1, .int .u8 m2, .int .u8 m3, .int .u8 m4, .int .u8 m5], .int .i64 now, .bool fresh] w (PLearn V w F g S a (learnt m0 m1 m2 m3 m4 m5 now) fresh) := by
 obtain ⟨mv, hmv⟩ := h
 have h : CacheAt V w F g S := ⟨mv, hmv⟩
 by_cases hex : ∃ x ∈ S, x.a = a
 ·obtain ⟨x, hx, hxa⟩ := hex
  have hm : (a, x.n) ∈ absT S := by rw [← hxa]; exact List.mem_map.2 ⟨x, hx, rfl⟩
  have h3 := (hmv.2.2.2.1 x hx).2.2.2.2.1
  exact (learn_found a ha m0 m1 m2 m3 m4 m5 now hnow fresh w F g S h x hx hxa).mono fun e w' hp => ⟨_, _, .inl ⟨x.n, hm, rfl, rfl⟩, h3, hp⟩
 ·have hno : ∀ x ∈ S, x.a ≠ a := fun x hx e => hex ⟨x, hx, e⟩
  cases hfr : fresh with
  | false => exact (learn_not a ha m0 m1 m2 m3 m4 m5 now hnow false w F g S h hno rfl).mono fun e w' hp => ⟨_, _, .inr (.inl ⟨none_abs hno, rfl, rfl, rfl⟩), Nat.zero_le _, hp⟩
  | true =>
   by_cases hroom : S.length ≤ 15 ∨ ∃ x ∈ S, x.n.kn = true
   ·exact (learn_room a ha m0 m1 m2 m3 m4 m5 now hnow true w F g S h hno hroom rfl).mono fun e w' ⟨S2, hS2, hp⟩ => ⟨_, _, .inr (.inr (.inl ⟨none_abs hno, rfl, ⟨_, room_T hS2, rfl⟩, rfl⟩)), Nat.zero_le _, hp⟩
   ·have h16 : 16 ≤ S.length := Nat.lt_of_not_le fun e => hroom (.inl e)
    have hf : ∀ x ∈ S, x.n.kn = false := fun x hx => by
     cases hk : x.n.kn with
     | false => rfl
     | true => exact absurd (.inr ⟨x, hx, hk⟩) hroom
    refine (learn_full a ha m0 m1 m2 m3 m4 m5 now true w F g S h hno h16 hf rfl).mono fun e w' hp => ⟨_, _, .inr (.inr (.inr ⟨none_abs hno, rfl, ⟨by unfold absT; rw [List.length_map]; exact h16, fun y hy => ?_⟩, rfl, rfl⟩)), Nat.zero_le _, hp⟩
    obtain ⟨z, hz, rfl⟩ := List.mem_map.1 hy
    exact hf z hz
end Go.Proofs.YtaeafkdfbcppgaaGreat
