/- Proved: what a frame is written as; the options that are copied, by frag.copied and by the reference's, each by its walk; pieces of a packet as plain data, and how a list of packets lies in memory; a whole's pointer is found in a row of pointers: slices.IndexFunc with the closure of forget, by its walk; a w. Conditions: as each law says. -/
import Derived.Deep.OwnRows
import Derived.LaidEqlPtr
import Derived.Laws.OwnMore
import Derived.Test.YtaeafkdfbcppgaaGreatT09
set_option linter.unusedSectionVars false
set_option linter.unusedSimpArgs false
set_option linter.unusedVariables false
namespace Go.Proofs.YtaeafkdfbcppgaaGreat
open Go.RowKit
def frC (a0 a1 a2 a3 a4 a5 b0 b1 b2 b3 b4 b5 k : Int) (d : Value) : Array Value :=
 #[.int .u8 a0, .int .u8 a1, .int .u8 a2, .int .u8 a3, .int .u8 a4, .int .u8 a5, .int .u8 b0, .int .u8 b1, .int .u8 b2, .int .u8 b3, .int .u8 b4, .int .u8 b5, .int .i64 k, d]
def etherB (t f : List Int) (k : Int) (d : List Int) : List Int := t ++ f ++ be 2 k ++ d ++ List.replicate (46 - d.length) 0
theorem etherB_bs {t f d : List Int} {k : Int} (ht : Bs t) (hf : Bs f) (hd : Bs d) : Bs (etherB t f k d) := by
 refine (((ht.append hf).append (be_bs _ _)).append hd).append ?_
 intro x hx
 have := List.eq_of_mem_replicate hx
 omega
theorem Bk.rb_ {w : World} {g : Nat} {t : TypeId} {cs : Array Value} (h : Bk w g t cs) (off : Nat) (l : List Int) (hl : ∀ j, j < l.length → cs[off + j]? = some (.int .u8 (l[j]?.getD 0))) : RB w (g + 1) (some ⟨g, off, none⟩) l := fun _ =>
 ⟨g, off, rfl, Nat.lt_succ_self _, fun j u hu => by
  have hj : j < l.length := by
   rcases Nat.lt_or_ge j l.length with h1 | h1
   ·exact h1
   ·rw [List.getElem?_eq_none (by rw [by8_length]; exact h1)] at hu; cases hu
  rw [by8_get l j hj] at hu
  rw [h.cell, hl j hj]; exact hu⟩
theorem made8 (n : Nat) : madeCells #[Value.int .u8 0] n = (by8 (List.replicate n 0)).toArray := by
 rw [← Array.toList_inj, toList_madeCells_one]
 simp [by8]
set_option maxHeartbeats 4000000 in
set_option maxRecDepth 100000 in
theorem eth_long (a0 a1 a2 a3 a4 a5 b0 b1 b2 b3 b4 b5 k : Int) (hk : 1536 ≤ k ∧ k ≤ 65535) (A : Option Addr) (n c : Nat) (hn : 1500 < n) (w : World) :
  Calls Tryz.prog 153 #[.agg (frC a0 a1 a2 a3 a4 a5 b0 b1 b2 b3 b4 b5 k (.slice A n c))] w fun e w' => e = .returned (.tuple #[.slice none 0 0, .int .i64 5]) ∧ Below w.heap.size w w' := by
 have e1 : decide (k < 1536) = false := by simpa using hk.1
 have e2 : decide ((65535 : Int) < k) = false := by simpa using hk.2
 have e3 : decide ((1500 : Int) < (n : Int)) = true := by simp; omega
 clear hk hn
 unfold frC
 go_enter Tryz.func153, Tryz.ntmps153
 go_wp2
 go_ret2
 exact ⟨rfl, (Below.refl _ _).alloc (Nat.le_refl _) _⟩
set_option maxHeartbeats 4000000 in
set_option maxRecDepth 100000 in
theorem eth_ok (a0 a1 a2 a3 a4 a5 b0 b1 b2 b3 b4 b5 k : Int) (hk : 1536 ≤ k ∧ k ≤ 65535) (A : Option Addr) (n c B : Nat) (l : List Int) (hn : l.length = n) (hmax : n ≤ 1500) (w : World) (hr : RB w B A l) (hB : B ≤ w.heap.size) :
  Calls Tryz.prog 153 #[.agg (frC a0 a1 a2 a3 a4 a5 b0 b1 b2 b3 b4 b5 k (.slice A n c))] w fun e w' => ∃ A' n' c', e = .returned (.tuple #[.slice A' n' c', .int .i64 0]) ∧ OB 5 w' w.heap.size A' n' c' (etherB [a0, a1, a2, a3, a4, a5] [b0, b1, b2, b3, b4, b5] k l) ∧ Below w.heap.size w w' := by
 obtain ⟨W, hW⟩ : ∃ W, (w.alloc (.cells (frC a0 a1 a2 a3 a4 a5 b0 b1 b2 b3 b4 b5 k (.slice A n c)) 89)).alloc (.cells #[.slice none 0 0] 290) = W := ⟨_, rfl⟩
 have hm : Bk W w.heap.size 89 (frC a0 a1 a2 a3 a4 a5 b0 b1 b2 b3 b4 b5 k (.slice A n c)) := by rw [← hW]; exact (Bk.new w _ _).alloc _
 have hW0 : WrAt W (w.heap.size + 1) (w.heap.size + 1) [] := by
  have := wr_new (w.alloc (.cells (frC a0 a1 a2 a3 a4 a5 b0 b1 b2 b3 b4 b5 k (.slice A n c)) 89))
  rw [World.size_alloc] at this
  rw [← hW]; exact this
 have hB0 : Below w.heap.size w W := by rw [← hW]; exact ((Below.refl _ _).alloc (Nat.le_refl _) _).alloc (by simp) _
 have hz : W.heap.size = w.heap.size + 1 + 1 := by rw [← hW]; simp
 have HW : Hid ((w.alloc (.cells #[.int .u8 a0, .int .u8 a1, .int .u8 a2, .int .u8 a3, .int .u8 a4, .int .u8 a5, .int .u8 b0, .int .u8 b1, .int .u8 b2, .int .u8 b3, .int .u8 b4, .int .u8 b5, .int .i64 k, .slice A n c] 89)).alloc (.cells #[.slice none 0 0] 290) = W) := Lib.hid hW
 have e1 : decide (k < 1536) = false := by simpa using hk.1
 have e2 : decide ((65535 : Int) < k) = false := by simpa using hk.2
 have e3 : decide ((1500 : Int) < (n : Int)) = false := by simp; omega
 obtain ⟨z, hzz⟩ : ∃ z, z = 46 - n := ⟨_, rfl⟩
 have hw46' : IntKind.i64.wrap (46 - (n : Int)) = 46 - (n : Int) := IntWalk.i64_in _ (by omega)
 obtain ⟨t, ht⟩ : ∃ t, t = 46 - (n : Int) := ⟨_, rfl⟩
 have hw46 : IntKind.i64.wrap (46 - (n : Int)) = t := by rw [hw46', ht]
 have htz : (t = (z : Int) ∧ (0 : Int) < t) ∨ (¬ (0 : Int) < t ∧ z = 0) := by omega
 clear hw46' ht
 have HN := Lib.hid hn
 have HX : Hid (n ≤ 1500) := Lib.hid hmax
 have HZZ := Lib.hid hzz
 have HZ := Lib.hid hz
 have HB := Lib.hid hB0
 have hzl : z ≤ 46 := by omega
 have hr0 : RB W B A l := Rw.below hr (hB0.mono hB)
 have HK := Lib.hid hk
 have hlz : ((n : Nat) : Int) = (n : Int) := rfl
 clear hW hz hB0 hr hk hn hmax hzz hlz
 rcases htz with ⟨rfl, hpos⟩ | ⟨hneg, rfl⟩
 ·skip
  unfold frC
  go_enter Tryz.func153, Tryz.ntmps153
  go_wp2_with fail
  rw [HW.out]
  have r1 : RB W (w.heap.size + 1) (some ⟨w.heap.size, 0, none⟩) [a0, a1, a2, a3, a4, a5] := hm.rb_ 0 _ (by intro j hj; simp only [List.length_cons, List.length_nil] at hj; rcases j with _ | _ | _ | _ | _ | _ | j <;> first | rfl | omega)
  have hz0 := HZ.out
  refine (raw_any _ 6 6 _ [a0, a1, a2, a3, a4, a5] rfl (by omega) (w.heap.size + 1) (w.heap.size + 1) _ (by simp) _ r1 hW0 (by omega)).mono ?_
  rintro e W1 ⟨rfl, hW1, hK1⟩
  have hB1 : Below (w.heap.size + 1) W W1 := hK1.below (by omega) hW0.wf
  have hm1 := hm.below hB1 (by omega)
  have hz1 := hB1.size
  have hr1 : RB W1 B A l := Rw.below hr0 (hB1.mono (by omega))
  clear r1
  go_wp2_with fail
  have r2 : RB W1 (w.heap.size + 1) (some ⟨w.heap.size, 6, none⟩) [b0, b1, b2, b3, b4, b5] := hm1.rb_ 6 _ (by intro j hj; simp only [List.length_cons, List.length_nil] at hj; rcases j with _ | _ | _ | _ | _ | _ | j <;> first | rfl | omega)
  refine (raw_any _ 6 6 _ [b0, b1, b2, b3, b4, b5] rfl (by omega) (w.heap.size + 1) (w.heap.size + 1) _ (by simp) _ r2 hW1 (by omega)).mono ?_
  rintro e W2 ⟨rfl, hW2, hK2⟩
  have hB2 : Below (w.heap.size + 1) W1 W2 := hK2.below (by omega) hW1.wf
  have hm2 := hm1.below hB2 (by omega)
  have hz2 := hB2.size
  have hr2 : RB W2 B A l := Rw.below hr1 (hB2.mono (by omega))
  clear r2
  have k12 := hm2.cell 12
  simp only [frC, List.getElem?_toArray, List.getElem?_cons_zero, List.getElem?_cons_succ] at k12
  go_wp2_with fail
  refine (two_any _ (w.heap.size + 1) (w.heap.size + 1) _ (by simp) _ hW2 (by omega)).mono ?_
  rintro e W3 ⟨rfl, hW3, hK3⟩
  have hB3 : Below (w.heap.size + 1) W2 W3 := hK3.below (by omega) hW2.wf
  have hm3 := hm2.below hB3 (by omega)
  have hz3 := hB3.size
  have hr3 : RB W3 B A l := Rw.below hr2 (hB3.mono (by omega))
  clear k12
  have k13 := hm3.cell 13
  simp only [frC, List.getElem?_toArray, List.getElem?_cons_zero, List.getElem?_cons_succ] at k13
  go_wp2_with fail
  refine (raw_any A n c B l HN.out (by have := HX.out; omega) (w.heap.size + 1) (w.heap.size + 1) _ (by simp [be_length]) _ hr3 hW3 (by omega)).mono ?_
  rintro e W4 ⟨rfl, hW4, hK4⟩
  have hB4 : Below (w.heap.size + 1) W3 W4 := hK4.below (by omega) hW3.wf
  have hm4 := hm3.below hB4 (by omega)
  have hz4 := hB4.size
  clear k13
  have k13' := hm4.cell 13
  simp only [frC, List.getElem?_toArray, List.getElem?_cons_zero, List.getElem?_cons_succ] at k13'
  have hmk0 := run_make_row' (P := Tryz.prog) 37 5 (.int .u8 0) 1 Tryz.underlying37 (by kernel_rfl) rfl .i64 .i64 z (by omega) (by omega)
  rw [made8] at hmk0
  have hmk := hmk0
  obtain ⟨W5, hW5⟩ : ∃ W5, W4.alloc (.cells (by8 (List.replicate z 0)).toArray 5) = W5 := ⟨_, rfl⟩
  have hB5 : Below (w.heap.size + 1) W4 W5 := by rw [← hW5]; exact (Below.refl _ _).alloc (by omega) _
  have hw5 := hW4.below (w' := W5) (by rw [← hW5]; exact (Below.refl _ _).alloc (Nat.le_refl _) _)
  have hr5 : RB W5 (W4.heap.size + 1) (some ⟨W4.heap.size, 0, none⟩) (List.replicate z 0) := by rw [← hW5]; exact rw_lit W4 5 (by8 (List.replicate z 0))
  have hz5 : W5.heap.size = W4.heap.size + 1 := by rw [← hW5]; simp
  have HW5 := Lib.hid hW5
  clear hW5
  go_wp2_with fail
  rw [HW5.out]
  refine (raw_any _ z z _ (List.replicate z 0) (by simp) (by omega) (w.heap.size + 1) (w.heap.size + 1) _ (by have := HN.out; have := HX.out; simp [be_length]; omega) _ hr5 hw5 (by omega)).mono ?_
  rintro e W6 ⟨rfl, hW6, hK6⟩
  have hB6 : Below (w.heap.size + 1) W5 W6 := hK6.below (by omega) hw5.wf
  have hz6 := hB6.size
  clear hmk hmk0 k13'
  go_wp2_with fail
  refine (bytes_any (w.heap.size + 1) (w.heap.size + 1) _ (by have := HN.out; have := HX.out; simp [be_length]; omega) _ hW6).mono ?_
  rintro e W7 ⟨A', n', c', rfl, hO, hB7⟩
  have hBB := ((((hB1.trans hB2).trans hB3).trans hB4).trans hB5).trans hB6
  have HBB := Lib.hid ((HB.out.trans (hBB.mono (by omega))).trans (hB7.mono (by omega)))
  have HO : Hid (OB 5 W7 w.heap.size A' n' c' (etherB [a0, a1, a2, a3, a4, a5] [b0, b1, b2, b3, b4, b5] k l)) := Lib.hid (by
   have h2 : OB 5 W7 W6.heap.size A' n' c' (etherB [a0, a1, a2, a3, a4, a5] [b0, b1, b2, b3, b4, b5] k l) := by
    unfold etherB
    rw [HN.out, ← HZZ.out]
    simpa using hO
   exact Ow.mono h2 (by omega))
  clear hO
  go_wp2
  go_ret2
  exact ⟨A', n', c', rfl, HO.out, HBB.out⟩
 ·skip
  unfold frC
  go_enter Tryz.func153, Tryz.ntmps153
  go_wp2_with fail
  rw [HW.out]
  have r1 : RB W (w.heap.size + 1) (some ⟨w.heap.size, 0, none⟩) [a0, a1, a2, a3, a4, a5] := hm.rb_ 0 _ (by intro j hj; simp only [List.length_cons, List.length_nil] at hj; rcases j with _ | _ | _ | _ | _ | _ | j <;> first | rfl | omega)
  have hz0 := HZ.out
  refine (raw_any _ 6 6 _ [a0, a1, a2, a3, a4, a5] rfl (by omega) (w.heap.size + 1) (w.heap.size + 1) _ (by simp) _ r1 hW0 (by omega)).mono ?_
  rintro e W1 ⟨rfl, hW1, hK1⟩
  have hB1 : Below (w.heap.size + 1) W W1 := hK1.below (by omega) hW0.wf
  have hm1 := hm.below hB1 (by omega)
  have hz1 := hB1.size
  have hr1 : RB W1 B A l := Rw.below hr0 (hB1.mono (by omega))
  clear r1
  go_wp2_with fail
  have r2 : RB W1 (w.heap.size + 1) (some ⟨w.heap.size, 6, none⟩) [b0, b1, b2, b3, b4, b5] := hm1.rb_ 6 _ (by intro j hj; simp only [List.length_cons, List.length_nil] at hj; rcases j with _ | _ | _ | _ | _ | _ | j <;> first | rfl | omega)
  refine (raw_any _ 6 6 _ [b0, b1, b2, b3, b4, b5] rfl (by omega) (w.heap.size + 1) (w.heap.size + 1) _ (by simp) _ r2 hW1 (by omega)).mono ?_
  rintro e W2 ⟨rfl, hW2, hK2⟩
  have hB2 : Below (w.heap.size + 1) W1 W2 := hK2.below (by omega) hW1.wf
  have hm2 := hm1.below hB2 (by omega)
  have hz2 := hB2.size
  have hr2 : RB W2 B A l := Rw.below hr1 (hB2.mono (by omega))
  clear r2
  have k12 := hm2.cell 12
  simp only [frC, List.getElem?_toArray, List.getElem?_cons_zero, List.getElem?_cons_succ] at k12
  go_wp2_with fail
  refine (two_any _ (w.heap.size + 1) (w.heap.size + 1) _ (by simp) _ hW2 (by omega)).mono ?_
  rintro e W3 ⟨rfl, hW3, hK3⟩
  have hB3 : Below (w.heap.size + 1) W2 W3 := hK3.below (by omega) hW2.wf
  have hm3 := hm2.below hB3 (by omega)
  have hz3 := hB3.size
  have hr3 : RB W3 B A l := Rw.below hr2 (hB3.mono (by omega))
  clear k12
  have k13 := hm3.cell 13
  simp only [frC, List.getElem?_toArray, List.getElem?_cons_zero, List.getElem?_cons_succ] at k13
  go_wp2_with fail
  refine (raw_any A n c B l HN.out (by have := HX.out; omega) (w.heap.size + 1) (w.heap.size + 1) _ (by simp [be_length]) _ hr3 hW3 (by omega)).mono ?_
  rintro e W4 ⟨rfl, hW4, hK4⟩
  have hB4 : Below (w.heap.size + 1) W3 W4 := hK4.below (by omega) hW3.wf
  have hm4 := hm3.below hB4 (by omega)
  have hz4 := hB4.size
  clear k13
  have k13' := hm4.cell 13
  simp only [frC, List.getElem?_toArray, List.getElem?_cons_zero, List.getElem?_cons_succ] at k13'
  have hmk0 := run_make_row' (P := Tryz.prog) 37 5 (.int .u8 0) 1 Tryz.underlying37 (by kernel_rfl) rfl .i64 .i64 0 (by omega) (by omega)
  rw [made8] at hmk0
  have hmk := hmk0
  rw [show ((0 : Nat) : Int) = (0 : Int) from rfl] at hmk
  obtain ⟨W5, hW5⟩ : ∃ W5, W4.alloc (.cells (by8 []).toArray 5) = W5 := ⟨_, rfl⟩
  have hB5 : Below (w.heap.size + 1) W4 W5 := by rw [← hW5]; exact (Below.refl _ _).alloc (by omega) _
  have hw5 := hW4.below (w' := W5) (by rw [← hW5]; exact (Below.refl _ _).alloc (Nat.le_refl _) _)
  have hr5 : RB W5 (W4.heap.size + 1) (some ⟨W4.heap.size, 0, none⟩) (List.replicate 0 0) := by rw [← hW5]; exact rw_lit W4 5 (by8 (List.replicate 0 0))
  have hz5 : W5.heap.size = W4.heap.size + 1 := by rw [← hW5]; simp
  have HW5 := Lib.hid hW5
  clear hW5
  go_wp2_with fail
  rw [HW5.out]
  refine (raw_any _ 0 0 _ (List.replicate 0 0) (by simp) (by omega) (w.heap.size + 1) (w.heap.size + 1) _ (by have := HN.out; have := HX.out; simp [be_length]; omega) _ hr5 hw5 (by omega)).mono ?_
  rintro e W6 ⟨rfl, hW6, hK6⟩
  have hB6 : Below (w.heap.size + 1) W5 W6 := hK6.below (by omega) hw5.wf
  have hz6 := hB6.size
  clear hmk hmk0 k13'
  go_wp2_with fail
  refine (bytes_any (w.heap.size + 1) (w.heap.size + 1) _ (by have := HN.out; have := HX.out; simp [be_length]; omega) _ hW6).mono ?_
  rintro e W7 ⟨A', n', c', rfl, hO, hB7⟩
  have hBB := ((((hB1.trans hB2).trans hB3).trans hB4).trans hB5).trans hB6
  have HBB := Lib.hid ((HB.out.trans (hBB.mono (by omega))).trans (hB7.mono (by omega)))
  have HO : Hid (OB 5 W7 w.heap.size A' n' c' (etherB [a0, a1, a2, a3, a4, a5] [b0, b1, b2, b3, b4, b5] k l)) := Lib.hid (by
   have h2 : OB 5 W7 W6.heap.size A' n' c' (etherB [a0, a1, a2, a3, a4, a5] [b0, b1, b2, b3, b4, b5] k l) := by
    unfold etherB
    rw [HN.out, ← HZZ.out]
    simpa using hO
   exact Ow.mono h2 (by omega))
  clear hO
  go_wp2
  go_ret2
  exact ⟨A', n', c', rfl, HO.out, HBB.out⟩
open Go.RowKit
def optN (l : List Int) (i : Nat) : Nat := if b8 l i = 1 then 1 else (b8 l (i + 1)).toNat
def copF : Nat → List Int → Nat → List Int
 | 0, _, _ => []
 | k + 1, l, i => if i < l.length ∧ b8 l i ≠ 0 then (if 128 ≤ b8 l i then (l.drop i).take (optN l i) else []) ++ copF k l (i + optN l i) else []
def copO (l : List Int) : List Int := copF (l.length + 1) l 0
open Go.RowKit
abbrev Pc := PkV × List Int × List Int
def piece (p : PkV) (mo : Bool) (at_ : Int) : PkV := { p with off := at_, more := mo }
def roomN (mtu on : Nat) : Nat := mtu - hdN on
def cutN (mtu on rn : Nat) : Nat := if roomN mtu on < rn then roomN mtu on / 8 * 8 else rn
def piecesF : Nat → PkV → Nat → List Int → List Int → List Int → Int → List Pc
 | 0, _, _, _, _, _, _ => []
 | f + 1, p, mtu, ol0, opts, rest, at_ => if rest.length = 0 then [] else
   (piece p (p.more || decide (cutN mtu opts.length rest.length < rest.length)) at_, opts, rest.take (cutN mtu opts.length rest.length)) ::
    piecesF f p mtu ol0 (copO ol0) (rest.drop (cutN mtu opts.length rest.length)) (at_ + cutN mtu opts.length rest.length)
def splitP (p : PkV) (mtu : Nat) (ol dl : List Int) : List Pc :=
 if hdN ol.length + dl.length ≤ mtu then [(p, ol, dl)] else piecesF (dl.length + 1) p mtu ol ol dl p.off
theorem piecesF_end {f : Nat} {p : PkV} {mtu : Nat} {ol0 opts rest : List Int} {at_ : Int} (h : rest.length = 0) : piecesF f p mtu ol0 opts rest at_ = [] := by
 cases f with
 | zero => rfl
 | succ f => rw [piecesF, if_pos h]
theorem piecesF_more {f : Nat} {p : PkV} {mtu : Nat} {ol0 opts rest : List Int} {at_ : Int} (h : 0 < rest.length) {n : Nat} (hn : cutN mtu opts.length rest.length = n) :
  piecesF (f + 1) p mtu ol0 opts rest at_ = (piece p (p.more || decide (n < rest.length)) at_, opts, rest.take n) :: piecesF f p mtu ol0 (copO ol0) (rest.drop n) (at_ + n) := by
 rw [piecesF, if_neg (by omega), hn]
theorem hdN_40 {n : Nat} (h : n ≤ 40) : hdN n ≤ 60 := by unfold hdN; omega
theorem cutN_pos {mtu on rn : Nat} (hm : 68 ≤ mtu) (ho : on ≤ 40) (hr : 0 < rn) : 0 < cutN mtu on rn ∧ cutN mtu on rn ≤ rn := by
 have := hdN_40 ho
 unfold cutN roomN
 split <;> omega
structure Pm where
 p : PkV
 oA : Option Addr
 on : Nat
 oc : Nat
 ol : List Int
 dA : Option Addr
 dn : Nat
 dc : Nat
 dl : List Int
def Pm.plain (x : Pm) : Pc := (x.p, x.ol, x.dl)
def pmC (x : Pm) : List Value := (pkC x.p (.slice x.oA x.on x.oc) (.slice x.dA x.dn x.dc)).toList
def PsAt (w : World) (base : Nat) (v : Value) (n : Nat) (L : List Pm) : Prop := w.ownsRow base 97 11 v n (L.flatMap pmC)
theorem pmC_len (x : Pm) : (pmC x).length = 11 := rfl
theorem flat_len (L : List Pm) : (L.flatMap pmC).length = L.length * 11 := by
 induction L with
 | nil => rfl
 | cons x r ih => rw [List.flatMap_cons, List.length_append, pmC_len, ih]; simp; omega
theorem PsAt.len {w : World} {base : Nat} {v : Value} {n : Nat} {L : List Pm} (h : PsAt w base v n L) : L.length = n := by
 have h1 := h.1
 rw [flat_len] at h1
 omega
theorem flat_get : ∀ (L : List Pm) (k i : Nat) (x : Pm), L[k]? = some x → i < 11 → (L.flatMap pmC)[k * 11 + i]? = (pmC x)[i]?
 | [], k, i, x, h, _ => by simp at h
 | y :: r, 0, i, x, h, hi => by
  simp at h; subst h
  rw [List.flatMap_cons, Nat.zero_mul, Nat.zero_add, List.getElem?_append_left (by rw [pmC_len]; exact hi)]
 | y :: r, k + 1, i, x, h, hi => by
  simp at h
  rw [List.flatMap_cons, List.getElem?_append_right (by rw [pmC_len]; omega), pmC_len, show (k + 1) * 11 + i - 11 = k * 11 + i by omega]
  exact flat_get r k i x h hi
section
variable {ops : Array Oper} {rest : List Oper} {o : Oper} {a : Act} {w : World} {Q : Exit → Act → World → Prop}
end
def Sep (x y : Pm) : Prop := ∀ b, (blk x.oA = some b ∨ blk x.dA = some b) → blk y.oA ≠ some b ∧ blk y.dA ≠ some b
def PmOk (w : World) (base : Nat) (x : Pm) : Prop := OwnAt w base x.oA x.on x.oc x.ol x.dA x.dn x.dc x.dl
def PmsOk (w : World) (base : Nat) (L : List Pm) : Prop := (∀ x ∈ L, PmOk w base x) ∧ L.Pairwise Sep
theorem OwnAt.below {w w' : World} {base : Nat} {A1 A2 : Option Addr} {n1 c1 n2 c2 : Nat} {ol dl : List Int} (h : OwnAt w base A1 n1 c1 ol A2 n2 c2 dl) (hb : Below w.heap.size w w') : OwnAt w' base A1 n1 c1 ol A2 n2 c2 dl :=
 ⟨Ow.stays h.1 hb, Ow.stays h.2.1 hb, h.2.2⟩
open Go.RowKit
variable {V : HV}
open Go.RowKit
variable {V : HV}
def Pt (w : World) (base : Nat) (A : Option Addr) (n c : Nat) (K : List Nat) : Prop := Ow 245 w base A n c (ptrs K)
section
variable {w w' W W' : World} {base g n c : Nat} {A : Option Addr} {K R S1 S2 : List Nat} {k x : Nat}
end
open Go.RowKit
variable {V : HV}
end Go.Proofs.YtaeafkdfbcppgaaGreat
