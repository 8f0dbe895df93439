/- Proved: what the bytes of an ARP packet are, whatever they are; a tick of a host that knows no neighbour and has nothing; a tick of a host that knows no neighbour and has nothing sends nothing; a tick passes in a world whose hosts say nothing; so many ticks pass; a tick passes in a world, over what its side. Conditions: as each law says. -/
import Derived.Test.YtaeafkdfbcppgaaGreatT21
import Derived.Test.YtaeafkdfbcppgaaGreatT22
import Derived.Test.YtaeafkdfbcppgaaGreatT26
set_option linter.unusedSectionVars false
set_option linter.unusedSimpArgs false
set_option linter.unusedVariables false
namespace Go.Proofs.YtaeafkdfbcppgaaGreat
open Go.RowKit
def arpErr (l : List Int) : Int := if l.length < 28 then 2 else if l.take 6 = headA ∧ (rd2 l 6 = 1 ∨ rd2 l 6 = 2) then 0 else 3
theorem arpd_any (A : Option Addr) (n c B : Nat) (l : List Int) (hn : l.length = n) (hmax : n ≤ 1000000) (hb : Bs l) (w : World) (hr : RB w B A l) (hB : B ≤ w.heap.size) :
  Calls Tryz.prog 28 #[.slice A n c] w fun e w' => e = .returned (.tuple #[.agg (if arpErr l = 0 then arpC l else zeroC), .int .i64 (arpErr l)]) ∧ Below w.heap.size w w' := by
 rcases Nat.lt_or_ge n 28 with h | h
 ·refine (dec_short A n c h w).mono ?_
  rintro e w' ⟨rfl, h2⟩
  have h1 : arpErr l = 2 := if_pos (by omega)
  rw [h1]
  exact ⟨rfl, h2⟩
 ·refine (dec_long A n c B l hn h hmax hb w hr hB).mono ?_
  rintro e w' ⟨h1, h2⟩
  rcases h1 with ⟨g, rfl⟩ | ⟨g, rfl⟩
  ·have h3 : arpErr l = 0 := by unfold arpErr; rw [if_neg (by omega)]; exact if_pos g
   rw [h3]; exact ⟨rfl, h2⟩
  ·have h3 : arpErr l = 3 := by unfold arpErr; rw [if_neg (by omega)]; exact if_neg g
   rw [h3]; exact ⟨rfl, h2⟩
open Go.RowKit
theorem ctick_nil (h : Nat) (v : HV) (now : Int) (w : World) (hb : HB w h v) (hn : v.near = .map none) :
  Calls Tryz.prog 42 #[.pointer (some ⟨h, 8, none⟩), .int .i64 now] w fun e w' => e = .returned (.tuple #[nilS, nilS]) ∧ Below w.heap.size w w' := by
 have c8 : w.cell? ⟨h, 8, none⟩ = some (.map none) := by rw [← hn]; exact hb.near
 clear hb hn
 have hrg := run_range_nilMap (P := Tryz.prog) w 117 28 233 Tryz.underlying117
 have hnx : ∀ ty, (Instr.next (.pointer (some ⟨w.heap.size, 0, none⟩)) false ty).run Tryz.prog (w.alloc (.mapIter none 0 #[] 0)) = _ := fun ty => run_next_nilMap _ ty 0 0 #[]
 go_enter Tryz.func42, Tryz.ntmps42
 go_wp2
 refine wp_loop_rounds 1 ?_; rw [rounds_succ]
 go_wp2_with (go_at_call 93; refine (sort0_a _).mono ?_; rintro e1 w1 ⟨rfl, rfl⟩)
 go_ret2
 exact ⟨rfl, (Below.refl _ _).alloc (Nat.le_refl _) _⟩
set_option maxRecDepth 100000 in
theorem wclone_nil (w : World) : Calls Tryz.prog 98 #[nilS] w fun e w' => e = .returned nilS ∧ w = w' := by
 have qs : ∀ (w : World), (binOp .eql 121 (.slice none 0 0) (.slice none 0 0)).run Tryz.prog w = .ok (.bool true) w := fun w => Lib.run_eql_slice_nil w _ _ none 0 0 0 0 Tryz.underlying121
 go_enter Tryz.func98, Tryz.ntmps98
 go_wp2
 go_ret
 exact ⟨rfl, rfl⟩
theorem stick_nil (h : Nat) (v : HV) (now : Int) (h0 : 0 ≤ now ∧ now ≤ 9223372036854775807) (w : World) (hb : HB w h v) (hn : v.age = nilS) :
  Calls Tryz.prog 45 #[.pointer (some ⟨h, 9, none⟩), .int .i64 now] w fun e w' => e = .returned nilS ∧ w = w' := by
 have c10 : w.cell? ⟨h, 10, none⟩ = some nilS := by rw [← hn]; exact hb.age
 have hw : IntKind.i64.wrap (now - 300) = now - 300 := IntWalk.i64_in _ (by omega)
 have hlt : ¬ now < -9223372036854775508 := by omega
 clear hb hn h0
 go_enter Tryz.func45, Tryz.ntmps45
 go_wp2_with (go_at_call 98; refine (wclone_nil _).mono ?_; rintro e1 w1 ⟨rfl, rfl⟩)
 refine wp_loop_rounds 1 ?_; rw [rounds_succ]
 go_wp2
 go_ret
 exact ⟨rfl, rfl⟩
theorem gtick_nil (h : Nat) (v : HV) (now : Int) (w : World) (hb : HB w h v) (hn : v.grp = nilS) :
  Calls Tryz.prog 48 #[.pointer (some ⟨h, 16, none⟩), .int .i64 now] w fun e w' => e = .returned nilS ∧ w = w' := by
 have c16 : w.cell? ⟨h, 16, none⟩ = some nilS := by rw [← hn]; exact hb.grp
 clear hb hn
 go_enter Tryz.func48, Tryz.ntmps48
 go_wp2
 refine wp_loop_rounds 1 ?_; rw [rounds_succ]
 go_wp2
 go_ret
 exact ⟨rfl, rfl⟩
theorem reports_nil (q : Value) (w : World) : Calls Tryz.prog 47 #[q, nilS] w fun e w' => e = .returned (.tuple #[]) ∧ w = w' := by
 go_enter Tryz.func47, Tryz.ntmps47
 go_wp2
 refine wp_loop_rounds 1 ?_; rw [rounds_succ]
 go_wp2
 go_end0
 exact ⟨rfl, rfl⟩
theorem segments_nil (q : Value) (w : World) : Calls Tryz.prog 49 #[q, nilS] w fun e w' => e = .returned (.tuple #[]) ∧ w = w' := by
 go_enter Tryz.func49, Tryz.ntmps49
 go_wp2
 refine wp_loop_rounds 1 ?_; rw [rounds_succ]
 go_wp2
 go_end0
 exact ⟨rfl, rfl⟩
theorem settled_nil (wk h : Nat) (now draw : Int) (frames : Value) (w : World) (hb : Bk w wk 173 (wkC h now draw frames nilS)) :
  Calls Tryz.prog 41 #[.pointer (some ⟨wk, 0, none⟩)] w fun e w' => e = .returned frames ∧ w = w' := by
 have c3 : w.cell? ⟨wk, 3, none⟩ = some frames := hb.cell 3
 have c4 : w.cell? ⟨wk, 4, none⟩ = some nilS := hb.cell 4
 clear hb
 go_enter Tryz.func41, Tryz.ntmps41
 go_wp2
 refine wp_loop_rounds 1 ?_; rw [rounds_succ]
 go_wp2
 go_ret
 exact ⟨rfl, rfl⟩
open Go.RowKit
set_option maxHeartbeats 4000000 in
set_option maxRecDepth 100000 in
theorem htick_of (h : Nat) (v : HV) (now draw : Int) (h0 : 0 ≤ now ∧ now ≤ 9223372036854775807) (w : World) (hb : HB w h v) (ha : v.age = nilS) (hg : v.grp = nilS)
  (hct : ∀ w1, Below w.heap.size w w1 → Calls Tryz.prog 42 #[.pointer (some ⟨h, 8, none⟩), .int .i64 now] w1 fun e w' => e = .returned (.tuple #[nilS, nilS]) ∧ Below w1.heap.size w1 w') :
  Calls Tryz.prog 16 #[.pointer (some ⟨h, 0, none⟩), .int .i64 now, .int .i64 draw] w fun e w' => e = .returned nilS ∧ Below w.heap.size w w' := by
 obtain ⟨W, hW⟩ : ∃ W, w.alloc (.cells (wkC h now draw nilS nilS) 173) = W := ⟨_, rfl⟩
 have HW : Hid (w.alloc (.cells #[.pointer (some ⟨h, 0, none⟩), .int .i64 now, .int .i64 draw, nilS, nilS] 173) = W) := Lib.hid hW
 have hk : Bk W w.heap.size 173 (wkC h now draw nilS nilS) := by rw [← hW]; exact Bk.new _ _ _
 have hB : Below w.heap.size w W := by rw [← hW]; exact (Below.refl _ _).alloc (Nat.le_refl _) _
 have HK := Lib.hid hk
 have HBL := Lib.hid hB
 have HHB := Lib.hid (hb.below hB hb.lt)
 have HCT := Lib.hid hct
 have H0 := Lib.hid h0
 have HA := Lib.hid ha
 have HG := Lib.hid hg
 clear hW hk hB hct h0 ha hg hb
 go_enter Tryz.func16, Tryz.ntmps16
 go_wp2_with fail
 rw [HW.out]
 refine (HCT.out _ HBL.out).mono ?_
 rintro e1 w1 ⟨rfl, hB1⟩
 have HB1 := Lib.hid hB1
 have HH1 := Lib.hid (HHB.out.below hB1 HHB.out.lt)
 have HK1 := Lib.hid (HK.out.below hB1 HK.out.lt)
 have HL1 : Hid (Below w.heap.size w w1) := Lib.hid (HBL.out.trans (hB1.mono HBL.out.size))
 clear hB1
 go_wp2_with fail
 refine wp_loop_rounds 1 ?_; rw [rounds_succ]
 go_wp2_with fail
 refine wp_loop_rounds 1 ?_; rw [rounds_succ]
 go_wp2_with fail
 refine (stick_nil h v now H0.out _ HH1.out HA.out).mono ?_
 rintro e2 w2 ⟨rfl, rfl⟩
 go_wp2_with fail
 refine wp_loop_rounds 1 ?_; rw [rounds_succ]
 go_wp2_with fail
 refine (gtick_nil h v now _ HH1.out HG.out).mono ?_
 rintro e3 w3 ⟨rfl, rfl⟩
 go_wp2_with fail
 refine (reports_nil _ _).mono ?_
 rintro e4 w4 ⟨rfl, rfl⟩
 go_wp2_with fail
 refine (hubtick_nil h v now _ HH1.out).mono ?_
 rintro e5 w5 ⟨rfl, hB5⟩
 have HK5 := Lib.hid (HK1.out.below hB5 HK1.out.lt)
 have HL5 : Hid (Below w.heap.size w w5) := Lib.hid (HL1.out.trans (hB5.mono HL1.out.size))
 clear hB5
 go_wp2_with fail
 refine (segments_nil _ _).mono ?_
 rintro e6 w6 ⟨rfl, rfl⟩
 go_wp2_with fail
 refine (settled_nil w.heap.size h now draw nilS _ HK5.out).mono ?_
 rintro e7 w7 ⟨rfl, rfl⟩
 go_wp2
 go_ret
 exact ⟨rfl, HL5.out⟩
theorem htick_idle (h : Nat) (v : HV) (now draw : Int) (h0 : 0 ≤ now ∧ now ≤ 9223372036854775807) (w : World) (hb : HB w h v) (ha : v.age = nilS) (hg : v.grp = nilS) (hn : v.near = .map none) :
  Calls Tryz.prog 16 #[.pointer (some ⟨h, 0, none⟩), .int .i64 now, .int .i64 draw] w fun e w' => e = .returned nilS ∧ Below w.heap.size w w' :=
 htick_of h v now draw h0 w hb ha hg (fun w1 hB1 => ctick_nil h v now w1 (hb.below hB1 hb.lt) hn)
open Go.RowKit
theorem and_u32_low31 (a : Int) : bits .and .u32 a 2147483647 = a % 2147483648 := by
 show IntKind.u32.wrap (((BitVec.ofInt 32 a &&& BitVec.ofInt 32 2147483647).toNat : Nat) : Int) = _
 rw [BitVec.toNat_and, BitVec.toNat_ofInt, show (BitVec.ofInt 32 2147483647).toNat = 2 ^ 31 - 1 from rfl, Nat.and_two_pow_sub_one_eq_mod, IntKind.wrap_u32]
 omega
def nextDraw (last : Int) (begun : Bool) : Int := if begun then (last * 1103515245 + 12345) % 4294967296 % 2147483648 else 1
theorem nextDraw_ok (last : Int) (begun : Bool) : 0 ≤ nextDraw last begun ∧ nextDraw last begun ≤ 2147483647 := by
 unfold nextDraw
 split <;> omega
theorem draw_any (W s0 s1 : Nat) (now last : Int) (begun : Bool) (fl : Value) (w : World) (hb : Bk w W 72 (wrC s0 s1 now last begun fl)) :
  Calls Tryz.prog 114 #[bp W] w fun e w' => e = .returned (.int .i64 (nextDraw last begun)) ∧ Bk w' W 72 (wrC s0 s1 now (nextDraw last begun) true fl) ∧ Chg (fun b => b = W) w w' := by
 have c2 : w.cell? ⟨W, 2, none⟩ = some (.int .i64 now) := hb.cell 2
 have c3 : w.cell? ⟨W, 3, none⟩ = some (.int .u32 last) := hb.cell 3
 have c4 : w.cell? ⟨W, 4, none⟩ = some (.bool begun) := hb.cell 4
 have f3 := hb.frozen 3
 have f4 := hb.frozen 4
 have HBK := Lib.hid hb
 have HN := Lib.hid (nextDraw_ok last begun)
 clear hb
 cases begun with
 | false =>
  have fin : Bk ((w.setCell ⟨W, 4, none⟩ (.bool true)).setCell ⟨W, 3, none⟩ (.int .u32 1)) W 72 (wrC s0 s1 now 1 true fl) := (HBK.out.set 4 _).set 3 _
  have HF := Lib.hid fin
  clear fin
  go_enter Tryz.func114, Tryz.ntmps114
  go_wp2
  go_ret
  exact ⟨rfl, HF.out, ((Chg.refl _ w).set1 _).set1 _⟩
 | true =>
  go_enter Tryz.func114, Tryz.ntmps114
  go_wp2
  have e : bits BinOp.and IntKind.u32 ((last * 1103515245 + 12345) % 4294967296) 2147483647 = nextDraw last true := and_u32_low31 _
  rw [e]
  have e2 : wrap64 (nextDraw last true) = nextDraw last true := by have := HN.out; simp only [wrap64]; omega
  rw [e2]
  go_ret
  exact ⟨rfl, HBK.out.set 3 _, (Chg.refl _ w).set1 _⟩
theorem again_nil (wk st h sm : Nat) (now draw : Int) (rets frames tried : Value) (w : World) (hk : Bk w wk 374 #[bp st, .int .i64 now, .int .i64 draw, rets, frames, tried]) (hs : Bk w st 195 #[bp h, .map (some sm), nilS]) :
  Calls Tryz.prog 181 #[bp wk] w fun e w' => e = .returned (.tuple #[]) ∧ w = w' := by
 have c0 : w.cell? ⟨wk, 0, none⟩ = some (bp st) := hk.cell 0
 have c2 : w.cell? ⟨st, 2, none⟩ = some nilS := hs.cell 2
 clear hk hs
 go_enter Tryz.func181, Tryz.ntmps181
 go_wp2
 go_step3
 go_wp2
 go_step3
 go_wp2
 refine wp_loop_rounds 1 ?_; rw [rounds_succ]
 go_wp2
 refine wp_loop_rounds 1 ?_; rw [rounds_succ]
 go_wp2
 simp only [Exit.noGoto_normal]
 go_end0
 exact ⟨rfl, rfl⟩
set_option maxHeartbeats 4000000 in
set_option maxRecDepth 100000 in
theorem kticks_of (st h sm : Nat) (now draw : Int) (w : World) (hs : Bk w st 195 #[bp h, .map (some sm), nilS])
  (ht : ∀ w1, Below w.heap.size w w1 → Calls Tryz.prog 16 #[.pointer (some ⟨h, 0, none⟩), .int .i64 now, .int .i64 draw] w1 fun e w' => e = .returned nilS ∧ Below w1.heap.size w1 w') :
  Calls Tryz.prog 116 #[bp st, .int .i64 now, .int .i64 draw] w fun e w' => e = .returned (.tuple #[nilS, nilS]) ∧ Below w.heap.size w w' := by
 obtain ⟨W, hW⟩ : ∃ W, w.alloc (.cells #[bp st, .int .i64 now, .int .i64 draw, nilS, nilS, .pointer none] 374) = W := ⟨_, rfl⟩
 have HW := Lib.hid hW
 have hk : Bk W w.heap.size 374 #[bp st, .int .i64 now, .int .i64 draw, nilS, nilS, .pointer none] := by rw [← hW]; exact Bk.new _ _ _
 have hB : Below w.heap.size w W := by rw [← hW]; exact (Below.refl _ _).alloc (Nat.le_refl _) _
 have hs1 := hs.below hB hs.lt
 have c00 : ∀ o, (w.alloc o).cell? ⟨st, 0, none⟩ = some (bp h) := fun o => (hs.alloc o).cell 0
 have HK := Lib.hid hk
 have HBL := Lib.hid hB
 have HS := Lib.hid hs1
 have HT := Lib.hid ht
 clear hW hk hB hs hs1 ht
 go_enter Tryz.func116, Tryz.ntmps116
 go_wp2_with fail
 rw [HW.out]
 refine (HT.out _ HBL.out).mono ?_
 rintro e1 w1 ⟨rfl, hB1⟩
 have hk1 := HK.out.below hB1 HK.out.lt
 have c4 : w1.cell? ⟨w.heap.size, 4, none⟩ = some nilS := hk1.cell 4
 have f4 := hk1.frozen 4
 obtain ⟨W2, hW2⟩ : ∃ W2, w1.setCell ⟨w.heap.size, 4, none⟩ nilS = W2 := ⟨_, rfl⟩
 have hk2 : Bk W2 w.heap.size 374 #[bp st, .int .i64 now, .int .i64 draw, nilS, nilS, .pointer none] := by rw [← hW2]; exact hk1.set 4 nilS
 have hs2 : Bk W2 st 195 #[bp h, .map (some sm), nilS] := by rw [← hW2]; exact (HS.out.below hB1 HS.out.lt).far (by simp only; intro e; exact Bk.ne_ HS.out HK.out (by decide) e) _
 have hL2 : Below w.heap.size w W2 := by rw [← hW2]; exact Below.set1 (HBL.out.trans (hB1.mono HBL.out.size)) (Nat.le_refl _) _
 have d3 : W2.cell? ⟨w.heap.size, 3, none⟩ = some nilS := hk2.cell 3
 have d4 : W2.cell? ⟨w.heap.size, 4, none⟩ = some nilS := hk2.cell 4
 have HW2 := Lib.hid hW2
 have HK2 := Lib.hid hk2
 have HS2 := Lib.hid hs2
 have HL2 := Lib.hid hL2
 clear hB1 hk1 hW2 hk2 hs2 hL2
 go_wp2_with fail
 rw [HW2.out]
 refine (again_nil w.heap.size st h sm now draw nilS nilS (.pointer none) _ HK2.out HS2.out).mono ?_
 rintro e2 w2 ⟨rfl, rfl⟩
 go_wp2_with fail
 go_quiet (fail)
 go_wp2
 go_ret2
 exact ⟨rfl, bel_drewN HL2.out _⟩
theorem gather_nil (side : Int) (p q : Value) (w : World) : Calls Tryz.prog 61 #[.int .i64 side, nilS, nilS, p, q] w fun e w' => e = .returned (.tuple #[]) ∧ w = w' := by
 go_enter Tryz.func61, Tryz.ntmps61
 go_wp2
 refine wp_loop_rounds 1 ?_; rw [rounds_succ]
 go_wp2
 refine wp_loop_rounds 1 ?_; rw [rounds_succ]
 go_wp2
 go_end0
 exact ⟨rfl, rfl⟩
open Go.RowKit
def toV (tb wb : Nat) : Value := .func (.func 61) #[] #[bp tb, bp wb]
def Quiet (w : World) (W st : Nat) (now : Int) : Prop := ∀ d w1, Chg (fun b => b = W) w w1 → Calls Tryz.prog 116 #[bp st, .int .i64 now, .int .i64 d] w1 fun e w' => e = .returned (.tuple #[nilS, nilS]) ∧ Below w1.heap.size w1 w'
theorem ix_sides (s0 s1 : Nat) (w : World) : (Instr.index 69 (.agg #[bp s0, bp s1]) (.int .i64 0)).run Tryz.prog w = .ok (bp s0) w ∧ (Instr.index 69 (.agg #[bp s0, bp s1]) (.int .i64 1)).run Tryz.prog w = .ok (bp s1) w := ⟨by kernel_rfl, by kernel_rfl⟩
set_option maxHeartbeats 8000000 in
set_option maxRecDepth 100000 in
theorem passes_of (W st0 st1 tb wb : Nat) (now last : Int) (begun : Bool) (fl : Value) (hnow : 0 ≤ now ∧ now ≤ 4611686018427387904) (w : World) (hb : Bk w W 72 (wrC st0 st1 now last begun fl))
  (T0 : Quiet w W st0 (now + 1)) (T1 : Quiet w W st1 (now + 1)) :
  Calls Tryz.prog 54 #[bp W, toV tb wb] w fun e w' => e = .returned (.tuple #[]) ∧ Bk w' W 72 (wrC st0 st1 (now + 1) (nextDraw (nextDraw last begun) true) true fl) ∧ Chg (fun b => b = W) w w' := by
 have hw1 : IntKind.i64.wrap (now + 1) = now + 1 := IntWalk.i64_in _ (by omega)
 have hw2 : wrap64 (now + 1) = now + 1 := by simp only [wrap64]; omega
 have x0 : w.cell? ⟨W, 0, none⟩ = some (bp st0) := hb.cell 0
 have x1 : w.cell? ⟨W, 1, none⟩ = some (bp st1) := hb.cell 1
 have x2 : w.cell? ⟨W, 2, none⟩ = some (.int .i64 now) := hb.cell 2
 have f2 := hb.frozen 2
 obtain ⟨w1, hw⟩ : ∃ w1, w.setCell ⟨W, 2, none⟩ (.int .i64 (now + 1)) = w1 := ⟨_, rfl⟩
 have hb1 : Bk w1 W 72 (wrC st0 st1 (now + 1) last begun fl) := by rw [← hw]; exact hb.set 2 _
 have hc1 : Chg (fun b => b = W) w w1 := by rw [← hw]; exact (Chg.refl _ w).set1 _
 have i0 : ∀ w, (Instr.index 69 (.agg #[bp st0, bp st1]) (.int .i64 0)).run Tryz.prog w = .ok (bp st0) w := fun w => (ix_sides st0 st1 w).1
 have i1 : ∀ w, (Instr.index 69 (.agg #[bp st0, bp st1]) (.int .i64 1)).run Tryz.prog w = .ok (bp st1) w := fun w => (ix_sides st0 st1 w).2
 have HW := Lib.hid hw
 have y2 : w1.cell? ⟨W, 2, none⟩ = some (.int .i64 (now + 1)) := hb1.cell 2
 have HB1 := Lib.hid hb1
 have HC1 := Lib.hid hc1
 have HT0 := Lib.hid T0
 have HT1 := Lib.hid T1
 clear hw hb1 hc1 T0 T1 hb
 go_enter Tryz.func54, Tryz.ntmps54
 unfold toV
 go_wp2_with fail
 rw [HW.out]
 refine wp_loop_rounds 3 ?_
 rw [rounds_succ]
 go_wp2_with fail
 have HD0 := Lib.hid (draw_any W st0 st1 (now + 1) (last) begun fl w1.drew (HB1.out.drew))
 have yy0 : w1.drew.cell? ⟨W, 2, none⟩ = some (.int .i64 (now + 1)) := HB1.out.cell 2
 go_region_held3 (fun w' => w'.cell? ⟨W, 2, none⟩ = some (.int .i64 (now + 1)))
  (first | (with_reducible assumption) | go_keep)
  (first
  | (go_at_call 114; refine HD0.out.mono ?_; rintro e0 v0 ⟨rfl, hbd0, hcd0⟩; have hbn0 : v0.cell? ⟨W, 2, none⟩ = some (.int .i64 (now + 1)) := hbd0.cell 2; have hcc0 : Chg (fun b => b = W) w v0 := (HC1.out.drewN 1).trans hcd0 (fun x e => .inl e))
  | (go_at_call 116; refine (HT0.out _ _ hcc0).mono ?_; rintro e0 uw0 ⟨rfl, hbt0⟩; have hbu0 : uw0.cell? ⟨W, 2, none⟩ = some (.int .i64 (now + 1)) := ((hbd0.below hbt0 hbd0.lt).cell 2)))
 have HBU0 : Hid (Bk uw0 W 72 (wrC st0 st1 (now + 1) (nextDraw (last) begun) true fl)) := Lib.hid (hbd0.below hbt0 hbd0.lt)
 have HCU0 : Hid (Chg (fun b => b = W) w uw0) := Lib.hid (hcc0.trans (Chg.of_below (F := fun _ => False) hbt0) (fun _ e => e.elim))
 clear hbd0 hcd0 hbn0 hcc0 hbt0 hbu0 yy0
 go_wp2_with fail
 refine (gather_nil _ _ _ _).mono ?_
 rintro g0 k0 ⟨rfl, rfl⟩
 go_wp2_with fail
 rw [rounds_succ]
 go_wp2_with fail
 have HD1 := Lib.hid (draw_any W st0 st1 (now + 1) (nextDraw (last) begun) true fl uw0.drew (HBU0.out.drew))
 have yy1 : uw0.drew.cell? ⟨W, 2, none⟩ = some (.int .i64 (now + 1)) := HBU0.out.cell 2
 go_region_held3 (fun w' => w'.cell? ⟨W, 2, none⟩ = some (.int .i64 (now + 1)))
  (first | (with_reducible assumption) | go_keep)
  (first
  | (go_at_call 114; refine HD1.out.mono ?_; rintro e1 v1 ⟨rfl, hbd1, hcd1⟩; have hbn1 : v1.cell? ⟨W, 2, none⟩ = some (.int .i64 (now + 1)) := hbd1.cell 2; have hcc1 : Chg (fun b => b = W) w v1 := (HCU0.out.drewN 1).trans hcd1 (fun x e => .inl e))
  | (go_at_call 116; refine (HT1.out _ _ hcc1).mono ?_; rintro e1 uw1 ⟨rfl, hbt1⟩; have hbu1 : uw1.cell? ⟨W, 2, none⟩ = some (.int .i64 (now + 1)) := ((hbd1.below hbt1 hbd1.lt).cell 2)))
 have HBU1 : Hid (Bk uw1 W 72 (wrC st0 st1 (now + 1) (nextDraw (nextDraw (last) begun) true) true fl)) := Lib.hid (hbd1.below hbt1 hbd1.lt)
 have HCU1 : Hid (Chg (fun b => b = W) w uw1) := Lib.hid (hcc1.trans (Chg.of_below (F := fun _ => False) hbt1) (fun _ e => e.elim))
 clear hbd1 hcd1 hbn1 hcc1 hbt1 hbu1 yy1
 go_wp2_with fail
 refine (gather_nil _ _ _ _).mono ?_
 rintro g1 k1 ⟨rfl, rfl⟩
 go_wp2_with fail
 rw [rounds_succ]
 go_wp2
 go_end0
 exact ⟨rfl, HBU1.out, HCU1.out⟩
open Go.RowKit
set_option maxHeartbeats 1000000 in
set_option maxRecDepth 100000 in
theorem ours_q (w : World) (h : Nat) (v : HV) (a : Int) (hb : HB w h v) (hbits : v.bits = 24) (hg : v.grp = nilS) (ha : (v.addr == 0) = false) :
  Calls Tryz.prog 149 #[.pointer (some ⟨h, 0, none⟩), .int .u32 a] w fun e w' => e = .returned (.bool (isOurs a v.addr)) ∧ ∃ n, w' = w.drewN n := by
 have hr : isOurs a v.addr = (isMine a v.addr || isBc a v.addr || (a == 3758096385)) := rfl
 rw [hr]
 have HB0 := Lib.hid hb
 have HM := Lib.hid (mine_q w h v a hb)
 have HBI := Lib.hid hbits
 have HG := Lib.hid hg
 clear hb hbits hg hr
 cases hm : isMine a v.addr
 ·cases hbc : isBc a v.addr
  ·cases hal : a == 3758096385
   ·go_enter Tryz.func149, Tryz.ntmps149
    go_wp2_with fail
    refine HM.out.mono ?_
    rintro e1 w1 ⟨rfl, hw1⟩
    have hw1' := hw1.symm
    subst hw1'
    rw [hm]
    clear hw1
    go_wp2_with fail
    refine (broadcast_q w h v a HB0.out HBI.out).mono ?_
    rintro e2 w2 ⟨rfl, n2, hw2⟩
    rw [hbc]
    have HB2 : Hid (HB w2 h v) := Lib.hid (by rw [hw2]; exact HB0.out.drewN _)
    have HW2 := Lib.hid hw2
    clear hw2
    have h6 : w2.cell? ⟨h, 6, none⟩ = some (.int .u32 v.addr) := HB2.out.addr
    go_wp2_with fail
    refine (groups_nil w2 h v HB2.out HG.out).mono ?_
    rintro e3 w3 ⟨rfl, rfl⟩
    unfold nilS
    go_wp2
    refine wp_loop_rounds 1 ?_; rw [rounds_succ]
    go_wp2
    go_ret
    exact ⟨rfl, n2, HW2.out⟩
   ·go_enter Tryz.func149, Tryz.ntmps149
    go_wp2_with fail
    refine HM.out.mono ?_
    rintro e1 w1 ⟨rfl, hw1⟩
    have hw1' := hw1.symm
    subst hw1'
    rw [hm]
    clear hw1
    go_wp2_with fail
    refine (broadcast_q w h v a HB0.out HBI.out).mono ?_
    rintro e2 w2 ⟨rfl, n2, hw2⟩
    rw [hbc]
    have HW2 := Lib.hid hw2
    clear hw2
    go_wp2
    go_ret
    exact ⟨rfl, n2, HW2.out⟩
  ·go_enter Tryz.func149, Tryz.ntmps149
   go_wp2_with fail
   refine HM.out.mono ?_
   rintro e1 w1 ⟨rfl, hw1⟩
   have hw1' := hw1.symm
   subst hw1'
   rw [hm]
   clear hw1
   go_wp2_with fail
   refine (broadcast_q w h v a HB0.out HBI.out).mono ?_
   rintro e2 w2 ⟨rfl, n2, hw2⟩
   rw [hbc]
   have HW2 := Lib.hid hw2
   clear hw2
   go_wp2
   go_ret
   exact ⟨by simp, n2, HW2.out⟩
 ·go_enter Tryz.func149, Tryz.ntmps149
  go_wp2_with fail
  refine HM.out.mono ?_
  rintro e1 w1 ⟨rfl, hw1⟩
  have hw1' := hw1.symm
  subst hw1'
  rw [hm]
  clear hw1
  go_wp2
  go_ret
  exact ⟨by simp, 0, rfl⟩
end Go.Proofs.YtaeafkdfbcppgaaGreat
