/- Proved: what a host does with a frame, over what is done with what it holds; a whole call of Frame. Conditions: as each law says. -/
import Derived.Test.YtaeafkdfbcppgaaGreatT28
set_option linter.unusedSectionVars false
set_option linter.unusedSimpArgs false
set_option linter.unusedVariables false
namespace Go.Proofs.YtaeafkdfbcppgaaGreat
open Go.RowKit
theorem app_head (a : Value) (B : Array Value) : (#[a] ++ B)[0]? = some a := by rw [Array.getElem?_append_left (by simp)]; rfl
def Goes (t : Nat) (d : HD) (wk : Nat) (now draw : Int) (v : HV) (S : List En) (Lr : List Rec) (P : Option (Int × List Dg)) (L : List (List Int)) (f : Nat) (l : List Int) (R : HV → List En → List Rec → Option (Int × List Dg) → List (List Int) → Prop) : Prop :=
 ∀ K' w' A n c, RowK t K' w' A n c (l.drop 14) → HostS t K' w' d v S Lr P → WkS t K' w' wk d now draw L →
  Calls Tryz.prog f #[.pointer (some ⟨wk, 0, none⟩), .slice A n c] w' fun e w'' => e = .returned (.tuple #[]) ∧ ∃ v' S' Lr' P' L', R v' S' Lr' P' L' ∧ PostW t K' w' wk d now draw v' S' Lr' P' L' w''
set_option maxHeartbeats 8000000 in
set_option maxRecDepth 100000 in
theorem wframed_any (t : Nat) (K : Nat → Nat) (w : World) (d : HD) (v : HV) (S : List En) (Lr : List Rec) (P : Option (Int × List Dg)) (wk : Nat) (now draw : Int) (L : List (List Int)) (A : Option Addr) (n c : Nat) (l : List Int) (hr : RowZ t K w A n c l) (R : HV → List En → List Rec → Option (Int × List Dg) → List (List Int) → Prop)
  (hN : ethErr l = 0 → rd2 l 12 = 2054 → Goes t d wk now draw (cnt 0 v) S Lr P L 89 l R)
  (hP : ethErr l = 0 → rd2 l 12 = 2048 → Goes t d wk now draw (cnt 0 v) S Lr P L 90 l R)
  (h2 : ethErr l = 0 → (macE (at8 l 6, at8 l 7, at8 l 8, at8 l 9, at8 l 10, at8 l 11) v.m = true ∨ takes v.m (at8 l 0, at8 l 1, at8 l 2, at8 l 3, at8 l 4, at8 l 5) = false ∨ ((rd2 l 12 == 2054) = false ∧ (rd2 l 12 == 2048) = false)) → R (cnt 2 (cnt 0 v)) S Lr P L) (h3 : ethErr l ≠ 0 → R (cnt 3 (cnt 0 v)) S Lr P L) (hs : HostS t K w d v S Lr P) (hw : WkS t K w wk d now draw L) :
  Calls Tryz.prog 40 #[.pointer (some ⟨wk, 0, none⟩), .slice A n c] w fun e w' => e = .returned (.tuple #[]) ∧ ∃ v' S' Lr' P' L', R v' S' Lr' P' L' ∧ PostW t K w wk d now draw v' S' Lr' P' L' w' := by
 obtain ⟨K2, a0, k2a, k2b⟩ := (At.start hs hw).fresh
 have HA1 := Lib.hid a0
 have hr2 := hr.recol k2a
 have HX := Lib.hid (And.intro hr2 (And.intro hN (And.intro hP (And.intro k2b (And.intro h2 h3)))))
 have y0 : w.cell? ⟨wk, 0, none⟩ = some (bp d.h) := a0.wk0
 clear a0 k2a k2b hr hr2 hN hP h2 h3 hs hw
 go_enter Tryz.func40, Tryz.ntmps40
 go_wp2_with fail
 refine (hcount_any t K2 w d v S Lr P 0 0 rfl (by omega) HA1.out.hs).mono ?_
 rintro e0 w0 hp0
 obtain rfl := hp0.1
 obtain ⟨a1, c1⟩ := HA1.out.count hp0
 have HA2 := Lib.hid a1
 have hrr := HX.out.1.over c1 (fun _ _ => rfl)
 have hdec := ethd_any A n c w0.heap.size l hrr.len hrr.bs w0 hrr.rb (Nat.le_refl _)
 unfold EthDec at hdec
 have hbs := hrr.bs
 clear hp0 a1 c1 y0 hrr
 by_cases hz : ethErr l = 0
 ·have hdec : Calls Tryz.prog 27 #[.slice A n c] w0 fun e w' => ∃ A1 n1 c1, e = .returned (.tuple #[.agg #[.int .u8 (at8 l 0), .int .u8 (at8 l 1), .int .u8 (at8 l 2), .int .u8 (at8 l 3), .int .u8 (at8 l 4), .int .u8 (at8 l 5), .int .u8 (at8 l 6), .int .u8 (at8 l 7), .int .u8 (at8 l 8), .int .u8 (at8 l 9), .int .u8 (at8 l 10), .int .u8 (at8 l 11), .int .i64 (rd2 l 12), .slice A1 n1 c1], .int .i64 0]) ∧ OB 5 w' w0.heap.size A1 n1 c1 (l.drop 14) ∧ Below w0.heap.size w0 w' := hdec.mono fun e w' ⟨A1, n1, c1, q1, q2, q3⟩ => ⟨A1, n1, c1, by rw [if_pos hz, hz] at q1; exact q1, q2 hz, q3⟩
  have HDEC := Lib.hid hdec
  have HZ := Lib.hid hz
  have HB := Lib.hid (hbs.drop 14)
  have HNB : Hid (rd2 l 12 = 2054 → Goes t d wk now draw (cnt 0 v) S Lr P L 89 l R) := Lib.hid (HX.out.2.1 hz)
  have HPK : Hid (rd2 l 12 = 2048 → Goes t d wk now draw (cnt 0 v) S Lr P L 90 l R) := Lib.hid (HX.out.2.2.1 hz)
  have H2 : Hid ((macE (at8 l 6, at8 l 7, at8 l 8, at8 l 9, at8 l 10, at8 l 11) v.m = true ∨ takes v.m (at8 l 0, at8 l 1, at8 l 2, at8 l 3, at8 l 4, at8 l 5) = false ∨ ((rd2 l 12 == 2054) = false ∧ (rd2 l 12 == 2048) = false)) → R (cnt 2 (cnt 0 v)) S Lr P L) := Lib.hid (HX.out.2.2.2.2.1 hz)
  clear hdec hz hbs
  go_wp2_with fail
  refine HDEC.out.mono ?_
  rintro e1 w1 ⟨A1, n1, c1, rfl, ho1, hB1⟩
  have hb2 : Below w1.heap.size w1 (w1.alloc (.cells #[.int .u8 (at8 l 0), .int .u8 (at8 l 1), .int .u8 (at8 l 2), .int .u8 (at8 l 3), .int .u8 (at8 l 4), .int .u8 (at8 l 5), .int .u8 (at8 l 6), .int .u8 (at8 l 7), .int .u8 (at8 l 8), .int .u8 (at8 l 9), .int .u8 (at8 l 10), .int .u8 (at8 l 11), .int .i64 (rd2 l 12), .slice A1 n1 c1] 89)) := (Below.refl _ _).alloc (Nat.le_refl _) _
  have hm2 := Bk.new w1 89 #[.int .u8 (at8 l 0), .int .u8 (at8 l 1), .int .u8 (at8 l 2), .int .u8 (at8 l 3), .int .u8 (at8 l 4), .int .u8 (at8 l 5), .int .u8 (at8 l 6), .int .u8 (at8 l 7), .int .u8 (at8 l 8), .int .u8 (at8 l 9), .int .u8 (at8 l 10), .int .u8 (at8 l 11), .int .i64 (rd2 l 12), .slice A1 n1 c1]
  have HA3 := Lib.hid (HA2.out.below hB1)
  have HR1 : Hid (RowK t K2 w1 A1 n1 c1 (l.drop 14)) := Lib.hid (RowK.new ho1 HB.out HA2.out.le HX.out.2.2.2.1)
  have HKM : Hid (K2 w1.heap.size = t + 7) := Lib.hid (HX.out.2.2.2.1 _ HA3.out.le)
  clear hB1 ho1
  go_upto_region 5 with (fail)
  generalize w1.alloc (.cells #[.int .u8 (at8 l 0), .int .u8 (at8 l 1), .int .u8 (at8 l 2), .int .u8 (at8 l 3), .int .u8 (at8 l 4), .int .u8 (at8 l 5), .int .u8 (at8 l 6), .int .u8 (at8 l 7), .int .u8 (at8 l 8), .int .u8 (at8 l 9), .int .u8 (at8 l 10), .int .u8 (at8 l 11), .int .i64 (rd2 l 12), .slice A1 n1 c1] 89) = w2 at hb2 hm2 ⊢
  have hA4 := HA3.out.below hb2
  have HA4 := Lib.hid hA4
  have HR4 := Lib.hid (HR1.out.below hb2)
  have HM4 := Lib.hid hm2
  clear hb2 HA3 HR1
  generalize w1.heap.size = gm at *
  have x0 : w2.cell? ⟨wk, 0, none⟩ = some (bp d.h) := hA4.wk0
  have i0 : w2.cell? ⟨gm, 0, none⟩ = some (.int .u8 (at8 l 0)) := hm2.cell 0
  have i1 : w2.cell? ⟨gm, 1, none⟩ = some (.int .u8 (at8 l 1)) := hm2.cell 1
  have i2 : w2.cell? ⟨gm, 2, none⟩ = some (.int .u8 (at8 l 2)) := hm2.cell 2
  have i3 : w2.cell? ⟨gm, 3, none⟩ = some (.int .u8 (at8 l 3)) := hm2.cell 3
  have i4 : w2.cell? ⟨gm, 4, none⟩ = some (.int .u8 (at8 l 4)) := hm2.cell 4
  have i5 : w2.cell? ⟨gm, 5, none⟩ = some (.int .u8 (at8 l 5)) := hm2.cell 5
  have i6 : w2.cell? ⟨gm, 6, none⟩ = some (.int .u8 (at8 l 6)) := hm2.cell 6
  have i7 : w2.cell? ⟨gm, 7, none⟩ = some (.int .u8 (at8 l 7)) := hm2.cell 7
  have i8 : w2.cell? ⟨gm, 8, none⟩ = some (.int .u8 (at8 l 8)) := hm2.cell 8
  have i9 : w2.cell? ⟨gm, 9, none⟩ = some (.int .u8 (at8 l 9)) := hm2.cell 9
  have i10 : w2.cell? ⟨gm, 10, none⟩ = some (.int .u8 (at8 l 10)) := hm2.cell 10
  have i11 : w2.cell? ⟨gm, 11, none⟩ = some (.int .u8 (at8 l 11)) := hm2.cell 11
  have h0 : w2.cell? ⟨d.h, 0, none⟩ = some (.int .u8 v.m.1) := hA4.hb.m0
  have h1 : w2.cell? ⟨d.h, 1, none⟩ = some (.int .u8 v.m.2.1) := hA4.hb.m1
  have h2 : w2.cell? ⟨d.h, 2, none⟩ = some (.int .u8 v.m.2.2.1) := hA4.hb.m2
  have h3 : w2.cell? ⟨d.h, 3, none⟩ = some (.int .u8 v.m.2.2.2.1) := hA4.hb.m3
  have h4 : w2.cell? ⟨d.h, 4, none⟩ = some (.int .u8 v.m.2.2.2.2.1) := hA4.hb.m4
  have h5 : w2.cell? ⟨d.h, 5, none⟩ = some (.int .u8 v.m.2.2.2.2.2) := hA4.hb.m5
  have q1 := fun w => eql_macs (at8 l 6, at8 l 7, at8 l 8, at8 l 9, at8 l 10, at8 l 11) v.m w
  unfold mac6 at q1
  simp only at q1
  obtain ⟨same, hsame⟩ : ∃ same, macE (at8 l 6, at8 l 7, at8 l 8, at8 l 9, at8 l 10, at8 l 11) v.m = same := ⟨_, rfl⟩
  rw [hsame] at q1
  have HSAME := Lib.hid hsame
  have HGR := Lib.hid hA4.hs.hx.grp
  have h16 : w2.cell? ⟨d.h, 16, none⟩ = some (.slice none 0 0) := by have := hA4.hb.grp; rw [HGR.out] at this; exact this
  clear hA4 hm2 hsame
  cases same
  ·have hD : Below w2.heap.size w2 (((w2.alloc (Obj.cells #[Value.int IntKind.u32 3758096385] 28)).alloc (Obj.cells (#[Value.int IntKind.u32 3758096385] ++ Builtin.zeroCells #[Value.int IntKind.u32 0] ((Question.appendCap 1 0 28).cut (w2.tape (w2.drawn + 1) (Question.appendCap 1 0 28)) - 1)) 28)).drew.drew) := (((Below.refl _ _).alloc (Nat.le_refl _) _).alloc (by rw [World.size_alloc]; omega) _).drew.drew
   have hG : (((w2.alloc (Obj.cells #[Value.int IntKind.u32 3758096385] 28)).alloc (Obj.cells (#[Value.int IntKind.u32 3758096385] ++ Builtin.zeroCells #[Value.int IntKind.u32 0] ((Question.appendCap 1 0 28).cut (w2.tape (w2.drawn + 1) (Question.appendCap 1 0 28)) - 1)) 28)).drew.drew).cell? ⟨w2.heap.size + 1, 0, none⟩ = some (.int .u32 3758096385) := by
    have h := Bk.new (w2.alloc (.cells #[.int .u32 3758096385] 28)) 28 (#[Value.int IntKind.u32 3758096385] ++ Builtin.zeroCells #[Value.int IntKind.u32 0] ((Question.appendCap 1 0 28).cut (w2.tape (w2.drawn + 1) (Question.appendCap 1 0 28)) - 1))
    have h2 := h.cell 0
    rw [World.size_alloc] at h2
    exact h2.trans (app_head _ _)
   have hGl : w2.heap.size + 1 < (((w2.alloc (Obj.cells #[Value.int IntKind.u32 3758096385] 28)).alloc (Obj.cells (#[Value.int IntKind.u32 3758096385] ++ Builtin.zeroCells #[Value.int IntKind.u32 0] ((Question.appendCap 1 0 28).cut (w2.tape (w2.drawn + 1) (Question.appendCap 1 0 28)) - 1)) 28)).drew.drew).heap.size := by show _ < ((w2.alloc _).alloc _).heap.size; rw [World.size_alloc, World.size_alloc]; omega
   have HAz := Lib.hid (HA4.out.below hD)
   have HMz := Lib.hid (HM4.out.below hD HM4.out.lt)
   have HRz := Lib.hid (HR4.out.below hD)
   have HG1 := Lib.hid (groups_nil w2.drew d.h (cnt 0 v) (HA4.out.hb.drewN 1) HGR.out)
   have HG2 := Lib.hid (groups_nil (w2.alloc (.cells #[.int .u32 3758096385] 28)).drew d.h (cnt 0 v) ((HA4.out.below ((Below.refl _ _).alloc (Nat.le_refl _) _)).hb.drewN 1) HGR.out)
   unfold nilS at HG1 HG2
   have ht := takes_any v.m (at8 l 0, at8 l 1, at8 l 2, at8 l 3, at8 l 4, at8 l 5) (w2.heap.size + 1) 0 ((Question.appendCap 1 0 28).cut (w2.tape (w2.drawn + 1) (Question.appendCap 1 0 28))) (((w2.alloc (Obj.cells #[Value.int IntKind.u32 3758096385] 28)).alloc (Obj.cells (#[Value.int IntKind.u32 3758096385] ++ Builtin.zeroCells #[Value.int IntKind.u32 0] ((Question.appendCap 1 0 28).cut (w2.tape (w2.drawn + 1) (Question.appendCap 1 0 28)) - 1)) 28)).drew.drew) hGl hG
   unfold mac6 at ht
   obtain ⟨tk, htk⟩ : ∃ tk, takes v.m (at8 l 0, at8 l 1, at8 l 2, at8 l 3, at8 l 4, at8 l 5) = tk := ⟨_, rfl⟩
   rw [htk] at ht
   have HT := Lib.hid ht
   have HTK := Lib.hid htk
   clear htk
   have HLT : Hid (wk < (((w2.alloc (Obj.cells #[Value.int IntKind.u32 3758096385] 28)).alloc (Obj.cells (#[Value.int IntKind.u32 3758096385] ++ Builtin.zeroCells #[Value.int IntKind.u32 0] ((Question.appendCap 1 0 28).cut (w2.tape (w2.drawn + 1) (Question.appendCap 1 0 28)) - 1)) 28)).drew.drew).heap.size ∧ d.h < (((w2.alloc (Obj.cells #[Value.int IntKind.u32 3758096385] 28)).alloc (Obj.cells (#[Value.int IntKind.u32 3758096385] ++ Builtin.zeroCells #[Value.int IntKind.u32 0] ((Question.appendCap 1 0 28).cut (w2.tape (w2.drawn + 1) (Question.appendCap 1 0 28)) - 1)) 28)).drew.drew).heap.size ∧ gm < (((w2.alloc (Obj.cells #[Value.int IntKind.u32 3758096385] 28)).alloc (Obj.cells (#[Value.int IntKind.u32 3758096385] ++ Builtin.zeroCells #[Value.int IntKind.u32 0] ((Question.appendCap 1 0 28).cut (w2.tape (w2.drawn + 1) (Question.appendCap 1 0 28)) - 1)) 28)).drew.drew).heap.size) := Lib.hid ⟨HAz.out.wlt, HAz.out.hlt, HMz.out.lt⟩
   have b0 : Below w2.heap.size w2 w2 := Below.refl _ _
   have b1 : Below w2.heap.size w2 w2.drew := b0.drew
   have b3 : Below w2.heap.size w2 (w2.alloc (.cells #[.int .u32 3758096385] 28)).drew := (b0.alloc (Nat.le_refl _) _).drew
   have b2 : Below w2.heap.size w2 (((w2.alloc (Obj.cells #[Value.int IntKind.u32 3758096385] 28)).alloc (Obj.cells (#[Value.int IntKind.u32 3758096385] ++ Builtin.zeroCells #[Value.int IntKind.u32 0] ((Question.appendCap 1 0 28).cut (w2.tape (w2.drawn + 1) (Question.appendCap 1 0 28)) - 1)) 28)).drew.drew) := hD
   have s0 : w2.drew.cell? ⟨wk, 0, none⟩ = some (bp d.h) := x0
   have u0 : (((w2.alloc (Obj.cells #[Value.int IntKind.u32 3758096385] 28)).alloc (Obj.cells (#[Value.int IntKind.u32 3758096385] ++ Builtin.zeroCells #[Value.int IntKind.u32 0] ((Question.appendCap 1 0 28).cut (w2.tape (w2.drawn + 1) (Question.appendCap 1 0 28)) - 1)) 28)).drew.drew).cell? ⟨wk, 0, none⟩ = some (bp d.h) := HAz.out.wk0
   have j0 : w2.drew.cell? ⟨gm, 0, none⟩ = some (.int .u8 (at8 l 0)) := HM4.out.cell 0
   have j1 : w2.drew.cell? ⟨gm, 1, none⟩ = some (.int .u8 (at8 l 1)) := HM4.out.cell 1
   have j2 : w2.drew.cell? ⟨gm, 2, none⟩ = some (.int .u8 (at8 l 2)) := HM4.out.cell 2
   have j3 : w2.drew.cell? ⟨gm, 3, none⟩ = some (.int .u8 (at8 l 3)) := HM4.out.cell 3
   have j4 : w2.drew.cell? ⟨gm, 4, none⟩ = some (.int .u8 (at8 l 4)) := HM4.out.cell 4
   have j5 : w2.drew.cell? ⟨gm, 5, none⟩ = some (.int .u8 (at8 l 5)) := HM4.out.cell 5
   have j6 : w2.drew.cell? ⟨gm, 6, none⟩ = some (.int .u8 (at8 l 6)) := HM4.out.cell 6
   have j7 : w2.drew.cell? ⟨gm, 7, none⟩ = some (.int .u8 (at8 l 7)) := HM4.out.cell 7
   have j8 : w2.drew.cell? ⟨gm, 8, none⟩ = some (.int .u8 (at8 l 8)) := HM4.out.cell 8
   have j9 : w2.drew.cell? ⟨gm, 9, none⟩ = some (.int .u8 (at8 l 9)) := HM4.out.cell 9
   have j10 : w2.drew.cell? ⟨gm, 10, none⟩ = some (.int .u8 (at8 l 10)) := HM4.out.cell 10
   have j11 : w2.drew.cell? ⟨gm, 11, none⟩ = some (.int .u8 (at8 l 11)) := HM4.out.cell 11
   have k0 : (((w2.alloc (Obj.cells #[Value.int IntKind.u32 3758096385] 28)).alloc (Obj.cells (#[Value.int IntKind.u32 3758096385] ++ Builtin.zeroCells #[Value.int IntKind.u32 0] ((Question.appendCap 1 0 28).cut (w2.tape (w2.drawn + 1) (Question.appendCap 1 0 28)) - 1)) 28)).drew.drew).cell? ⟨gm, 0, none⟩ = some (.int .u8 (at8 l 0)) := HMz.out.cell 0
   have k1 : (((w2.alloc (Obj.cells #[Value.int IntKind.u32 3758096385] 28)).alloc (Obj.cells (#[Value.int IntKind.u32 3758096385] ++ Builtin.zeroCells #[Value.int IntKind.u32 0] ((Question.appendCap 1 0 28).cut (w2.tape (w2.drawn + 1) (Question.appendCap 1 0 28)) - 1)) 28)).drew.drew).cell? ⟨gm, 1, none⟩ = some (.int .u8 (at8 l 1)) := HMz.out.cell 1
   have k2 : (((w2.alloc (Obj.cells #[Value.int IntKind.u32 3758096385] 28)).alloc (Obj.cells (#[Value.int IntKind.u32 3758096385] ++ Builtin.zeroCells #[Value.int IntKind.u32 0] ((Question.appendCap 1 0 28).cut (w2.tape (w2.drawn + 1) (Question.appendCap 1 0 28)) - 1)) 28)).drew.drew).cell? ⟨gm, 2, none⟩ = some (.int .u8 (at8 l 2)) := HMz.out.cell 2
   have k3 : (((w2.alloc (Obj.cells #[Value.int IntKind.u32 3758096385] 28)).alloc (Obj.cells (#[Value.int IntKind.u32 3758096385] ++ Builtin.zeroCells #[Value.int IntKind.u32 0] ((Question.appendCap 1 0 28).cut (w2.tape (w2.drawn + 1) (Question.appendCap 1 0 28)) - 1)) 28)).drew.drew).cell? ⟨gm, 3, none⟩ = some (.int .u8 (at8 l 3)) := HMz.out.cell 3
   have k4 : (((w2.alloc (Obj.cells #[Value.int IntKind.u32 3758096385] 28)).alloc (Obj.cells (#[Value.int IntKind.u32 3758096385] ++ Builtin.zeroCells #[Value.int IntKind.u32 0] ((Question.appendCap 1 0 28).cut (w2.tape (w2.drawn + 1) (Question.appendCap 1 0 28)) - 1)) 28)).drew.drew).cell? ⟨gm, 4, none⟩ = some (.int .u8 (at8 l 4)) := HMz.out.cell 4
   have k5 : (((w2.alloc (Obj.cells #[Value.int IntKind.u32 3758096385] 28)).alloc (Obj.cells (#[Value.int IntKind.u32 3758096385] ++ Builtin.zeroCells #[Value.int IntKind.u32 0] ((Question.appendCap 1 0 28).cut (w2.tape (w2.drawn + 1) (Question.appendCap 1 0 28)) - 1)) 28)).drew.drew).cell? ⟨gm, 5, none⟩ = some (.int .u8 (at8 l 5)) := HMz.out.cell 5
   have k6 : (((w2.alloc (Obj.cells #[Value.int IntKind.u32 3758096385] 28)).alloc (Obj.cells (#[Value.int IntKind.u32 3758096385] ++ Builtin.zeroCells #[Value.int IntKind.u32 0] ((Question.appendCap 1 0 28).cut (w2.tape (w2.drawn + 1) (Question.appendCap 1 0 28)) - 1)) 28)).drew.drew).cell? ⟨gm, 6, none⟩ = some (.int .u8 (at8 l 6)) := HMz.out.cell 6
   have k7 : (((w2.alloc (Obj.cells #[Value.int IntKind.u32 3758096385] 28)).alloc (Obj.cells (#[Value.int IntKind.u32 3758096385] ++ Builtin.zeroCells #[Value.int IntKind.u32 0] ((Question.appendCap 1 0 28).cut (w2.tape (w2.drawn + 1) (Question.appendCap 1 0 28)) - 1)) 28)).drew.drew).cell? ⟨gm, 7, none⟩ = some (.int .u8 (at8 l 7)) := HMz.out.cell 7
   have k8 : (((w2.alloc (Obj.cells #[Value.int IntKind.u32 3758096385] 28)).alloc (Obj.cells (#[Value.int IntKind.u32 3758096385] ++ Builtin.zeroCells #[Value.int IntKind.u32 0] ((Question.appendCap 1 0 28).cut (w2.tape (w2.drawn + 1) (Question.appendCap 1 0 28)) - 1)) 28)).drew.drew).cell? ⟨gm, 8, none⟩ = some (.int .u8 (at8 l 8)) := HMz.out.cell 8
   have k9 : (((w2.alloc (Obj.cells #[Value.int IntKind.u32 3758096385] 28)).alloc (Obj.cells (#[Value.int IntKind.u32 3758096385] ++ Builtin.zeroCells #[Value.int IntKind.u32 0] ((Question.appendCap 1 0 28).cut (w2.tape (w2.drawn + 1) (Question.appendCap 1 0 28)) - 1)) 28)).drew.drew).cell? ⟨gm, 9, none⟩ = some (.int .u8 (at8 l 9)) := HMz.out.cell 9
   have k10 : (((w2.alloc (Obj.cells #[Value.int IntKind.u32 3758096385] 28)).alloc (Obj.cells (#[Value.int IntKind.u32 3758096385] ++ Builtin.zeroCells #[Value.int IntKind.u32 0] ((Question.appendCap 1 0 28).cut (w2.tape (w2.drawn + 1) (Question.appendCap 1 0 28)) - 1)) 28)).drew.drew).cell? ⟨gm, 10, none⟩ = some (.int .u8 (at8 l 10)) := HMz.out.cell 10
   have k11 : (((w2.alloc (Obj.cells #[Value.int IntKind.u32 3758096385] 28)).alloc (Obj.cells (#[Value.int IntKind.u32 3758096385] ++ Builtin.zeroCells #[Value.int IntKind.u32 0] ((Question.appendCap 1 0 28).cut (w2.tape (w2.drawn + 1) (Question.appendCap 1 0 28)) - 1)) 28)).drew.drew).cell? ⟨gm, 11, none⟩ = some (.int .u8 (at8 l 11)) := HMz.out.cell 11
   have g0 : w2.drew.cell? ⟨d.h, 0, none⟩ = some (.int .u8 v.m.1) := HA4.out.hb.m0
   have e0 : (((w2.alloc (Obj.cells #[Value.int IntKind.u32 3758096385] 28)).alloc (Obj.cells (#[Value.int IntKind.u32 3758096385] ++ Builtin.zeroCells #[Value.int IntKind.u32 0] ((Question.appendCap 1 0 28).cut (w2.tape (w2.drawn + 1) (Question.appendCap 1 0 28)) - 1)) 28)).drew.drew).cell? ⟨d.h, 0, none⟩ = some (.int .u8 v.m.1) := HAz.out.hb.m0
   have g1 : w2.drew.cell? ⟨d.h, 1, none⟩ = some (.int .u8 v.m.2.1) := HA4.out.hb.m1
   have e1 : (((w2.alloc (Obj.cells #[Value.int IntKind.u32 3758096385] 28)).alloc (Obj.cells (#[Value.int IntKind.u32 3758096385] ++ Builtin.zeroCells #[Value.int IntKind.u32 0] ((Question.appendCap 1 0 28).cut (w2.tape (w2.drawn + 1) (Question.appendCap 1 0 28)) - 1)) 28)).drew.drew).cell? ⟨d.h, 1, none⟩ = some (.int .u8 v.m.2.1) := HAz.out.hb.m1
   have g2 : w2.drew.cell? ⟨d.h, 2, none⟩ = some (.int .u8 v.m.2.2.1) := HA4.out.hb.m2
   have e2 : (((w2.alloc (Obj.cells #[Value.int IntKind.u32 3758096385] 28)).alloc (Obj.cells (#[Value.int IntKind.u32 3758096385] ++ Builtin.zeroCells #[Value.int IntKind.u32 0] ((Question.appendCap 1 0 28).cut (w2.tape (w2.drawn + 1) (Question.appendCap 1 0 28)) - 1)) 28)).drew.drew).cell? ⟨d.h, 2, none⟩ = some (.int .u8 v.m.2.2.1) := HAz.out.hb.m2
   have g3 : w2.drew.cell? ⟨d.h, 3, none⟩ = some (.int .u8 v.m.2.2.2.1) := HA4.out.hb.m3
   have e3 : (((w2.alloc (Obj.cells #[Value.int IntKind.u32 3758096385] 28)).alloc (Obj.cells (#[Value.int IntKind.u32 3758096385] ++ Builtin.zeroCells #[Value.int IntKind.u32 0] ((Question.appendCap 1 0 28).cut (w2.tape (w2.drawn + 1) (Question.appendCap 1 0 28)) - 1)) 28)).drew.drew).cell? ⟨d.h, 3, none⟩ = some (.int .u8 v.m.2.2.2.1) := HAz.out.hb.m3
   have g4 : w2.drew.cell? ⟨d.h, 4, none⟩ = some (.int .u8 v.m.2.2.2.2.1) := HA4.out.hb.m4
   have e4 : (((w2.alloc (Obj.cells #[Value.int IntKind.u32 3758096385] 28)).alloc (Obj.cells (#[Value.int IntKind.u32 3758096385] ++ Builtin.zeroCells #[Value.int IntKind.u32 0] ((Question.appendCap 1 0 28).cut (w2.tape (w2.drawn + 1) (Question.appendCap 1 0 28)) - 1)) 28)).drew.drew).cell? ⟨d.h, 4, none⟩ = some (.int .u8 v.m.2.2.2.2.1) := HAz.out.hb.m4
   have g5 : w2.drew.cell? ⟨d.h, 5, none⟩ = some (.int .u8 v.m.2.2.2.2.2) := HA4.out.hb.m5
   have e5 : (((w2.alloc (Obj.cells #[Value.int IntKind.u32 3758096385] 28)).alloc (Obj.cells (#[Value.int IntKind.u32 3758096385] ++ Builtin.zeroCells #[Value.int IntKind.u32 0] ((Question.appendCap 1 0 28).cut (w2.tape (w2.drawn + 1) (Question.appendCap 1 0 28)) - 1)) 28)).drew.drew).cell? ⟨d.h, 5, none⟩ = some (.int .u8 v.m.2.2.2.2.2) := HAz.out.hb.m5
   clear hD hG hGl ht
   go_region_held3 (fun w' => Below w2.heap.size w2 w' ∧ w'.cell? ⟨wk, 0, none⟩ = some (bp d.h) ∧ w'.cell? ⟨gm, 0, none⟩ = some (.int .u8 (at8 l 0)) ∧ w'.cell? ⟨gm, 1, none⟩ = some (.int .u8 (at8 l 1)) ∧ w'.cell? ⟨gm, 2, none⟩ = some (.int .u8 (at8 l 2)) ∧ w'.cell? ⟨gm, 3, none⟩ = some (.int .u8 (at8 l 3)) ∧ w'.cell? ⟨gm, 4, none⟩ = some (.int .u8 (at8 l 4)) ∧ w'.cell? ⟨gm, 5, none⟩ = some (.int .u8 (at8 l 5)) ∧ w'.cell? ⟨gm, 6, none⟩ = some (.int .u8 (at8 l 6)) ∧ w'.cell? ⟨gm, 7, none⟩ = some (.int .u8 (at8 l 7)) ∧ w'.cell? ⟨gm, 8, none⟩ = some (.int .u8 (at8 l 8)) ∧ w'.cell? ⟨gm, 9, none⟩ = some (.int .u8 (at8 l 9)) ∧ w'.cell? ⟨gm, 10, none⟩ = some (.int .u8 (at8 l 10)) ∧ w'.cell? ⟨gm, 11, none⟩ = some (.int .u8 (at8 l 11)) ∧ w'.cell? ⟨d.h, 0, none⟩ = some (.int .u8 v.m.1) ∧ w'.cell? ⟨d.h, 1, none⟩ = some (.int .u8 v.m.2.1) ∧ w'.cell? ⟨d.h, 2, none⟩ = some (.int .u8 v.m.2.2.1) ∧ w'.cell? ⟨d.h, 3, none⟩ = some (.int .u8 v.m.2.2.2.1) ∧ w'.cell? ⟨d.h, 4, none⟩ = some (.int .u8 v.m.2.2.2.2.1) ∧ w'.cell? ⟨d.h, 5, none⟩ = some (.int .u8 v.m.2.2.2.2.2))
    (first | (with_reducible exact ⟨by assumption, by assumption, by assumption, by assumption, by assumption, by assumption, by assumption, by assumption, by assumption, by assumption, by assumption, by assumption, by assumption, by assumption, by assumption, by assumption, by assumption, by assumption, by assumption, by assumption⟩) | go_keep)
    (first
     | (go_at_call 88; with_reducible refine HG1.out.mono ?_; rintro e3 w3 ⟨rfl, rfl⟩)
     | (go_at_call 88; with_reducible refine HG2.out.mono ?_; rintro e3 w3 ⟨rfl, rfl⟩)
     | (go_at_call 87; with_reducible refine HT.out.mono ?_; rintro e5 w5 ⟨rfl, hb5⟩; have b5 : Below w2.heap.size w2 w5 := b2.trans (hb5.mono b2.size); have p0 := bel_cell_ hb5 HLT.out.1 u0; have q0 := bel_cell_ hb5 HLT.out.2.2 k0; have q1 := bel_cell_ hb5 HLT.out.2.2 k1; have q2 := bel_cell_ hb5 HLT.out.2.2 k2; have q3 := bel_cell_ hb5 HLT.out.2.2 k3; have q4 := bel_cell_ hb5 HLT.out.2.2 k4; have q5 := bel_cell_ hb5 HLT.out.2.2 k5; have q6 := bel_cell_ hb5 HLT.out.2.2 k6; have q7 := bel_cell_ hb5 HLT.out.2.2 k7; have q8 := bel_cell_ hb5 HLT.out.2.2 k8; have q9 := bel_cell_ hb5 HLT.out.2.2 k9; have q10 := bel_cell_ hb5 HLT.out.2.2 k10; have q11 := bel_cell_ hb5 HLT.out.2.2 k11; have r0 := bel_cell_ hb5 HLT.out.2.1 e0; have r1 := bel_cell_ hb5 HLT.out.2.1 e1; have r2 := bel_cell_ hb5 HLT.out.2.1 e2; have r3 := bel_cell_ hb5 HLT.out.2.1 e3; have r4 := bel_cell_ hb5 HLT.out.2.1 e4; have r5 := bel_cell_ hb5 HLT.out.2.1 e5))
   all_goals
    have HA5 := Lib.hid (HA4.out.below b5)
    have HM5 := Lib.hid (HM4.out.below b5 HM4.out.lt)
    have HR5 := Lib.hid (HR4.out.below b5)
    clear HA4 HM4 HR4 HAz HMz HRz HT HLT HG1 HG2 hb5 b0 b1 b2 b3 b5 p0 s0 u0 x0 h16 i0 i1 i2 i3 i4 i5 i6 i7 i8 i9 i10 i11 j0 j1 j2 j3 j4 j5 j6 j7 j8 j9 j10 j11 k0 k1 k2 k3 k4 k5 k6 k7 k8 k9 k10 k11 q0 q1 q2 q3 q4 q5 q6 q7 q8 q9 q10 q11 h0 h1 h2 h3 h4 h5 g0 g1 g2 g3 g4 g5 e0 e1 e2 e3 e4 e5 r0 r1 r2 r3 r4 r5
    have HA4 := HA5
    have HM4 := HM5
    have HR4 := HR5
    clear HA5 HM5 HR5
    cases tk
    ·skip
     have y0 : w5.cell? ⟨wk, 0, none⟩ = some (bp d.h) := HA4.out.wk0
     go_wp2_with fail
     refine (hcount_any t K2 w5 d (cnt 0 v) S Lr P 2 2 rfl (by omega) HA4.out.hs).mono ?_
     rintro e5 w5 hp5
     obtain rfl := hp5.1
     have HP : Hid (PostW t K w wk d now draw (cnt 2 (cnt 0 v)) S Lr P L w5) := Lib.hid (HA4.out.count hp5).1.post
     clear hp5 y0
     go_wp2
     first
      | (go_end0; exact ⟨rfl, cnt 2 (cnt 0 v), S, Lr, P, L, H2.out (.inr (.inl HTK.out)), HP.out⟩)
      | exact bodyPost_ret (results_none rfl _ _ _) rfl ⟨rfl, cnt 2 (cnt 0 v), S, Lr, P, L, H2.out (.inr (.inl HTK.out)), HP.out⟩
    ·skip
     rcases Bool.eq_false_or_eq_true (rd2 l 12 == 2054) with ha | ha
     ·have HNBR := Lib.hid (HNB.out (by simpa using ha))
      have m12 : w5.cell? ⟨gm, 12, none⟩ = some (.int .i64 (rd2 l 12)) := HM4.out.cell 12
      have y0 : w5.cell? ⟨wk, 0, none⟩ = some (bp d.h) := HA4.out.wk0
      have m13 : w5.cell? ⟨gm, 13, none⟩ = some (.slice A1 n1 c1) := HM4.out.cell 13
      have m12 : w5.cell? ⟨gm, 12, none⟩ = some (.int .i64 (rd2 l 12)) := HM4.out.cell 12
      go_wp2_with fail
      refine (HNBR.out K2 w5 A1 n1 c1 (HR4.out) HA4.out.hs HA4.out.hw).mono ?_
      rintro e5 w5 ⟨rfl, v5, S5, Lr5, P5, L5, hR5, hP5⟩
      obtain ⟨K9, _, a9, _⟩ := HA4.out.call hP5
      have HP := Lib.hid a9.post
      have HR5 := Lib.hid hR5
      clear hP5 hR5 a9 y0 m12 m13
      go_wp2
      first
       | (go_end0; exact ⟨rfl, v5, S5, Lr5, P5, L5, HR5.out, HP.out⟩)
       | exact bodyPost_ret (results_none rfl _ _ _) rfl ⟨rfl, v5, S5, Lr5, P5, L5, HR5.out, HP.out⟩
     ·rcases Bool.eq_false_or_eq_true (rd2 l 12 == 2048) with hi | hi
      ·have HPKR := Lib.hid (HPK.out (by simpa using hi))
       have m12 : w5.cell? ⟨gm, 12, none⟩ = some (.int .i64 (rd2 l 12)) := HM4.out.cell 12
       have y0 : w5.cell? ⟨wk, 0, none⟩ = some (bp d.h) := HA4.out.wk0
       have m13 : w5.cell? ⟨gm, 13, none⟩ = some (.slice A1 n1 c1) := HM4.out.cell 13
       have m12 : w5.cell? ⟨gm, 12, none⟩ = some (.int .i64 (rd2 l 12)) := HM4.out.cell 12
       go_wp2_with fail
       refine (HPKR.out K2 w5 A1 n1 c1 (HR4.out) HA4.out.hs HA4.out.hw).mono ?_
       rintro e5 w5 ⟨rfl, v5, S5, Lr5, P5, L5, hR5, hP5⟩
       obtain ⟨K9, _, a9, _⟩ := HA4.out.call hP5
       have HP := Lib.hid a9.post
       have HR5 := Lib.hid hR5
       clear hP5 hR5 a9 y0 m12 m13
       go_wp2
       first
        | (go_end0; exact ⟨rfl, v5, S5, Lr5, P5, L5, HR5.out, HP.out⟩)
        | exact bodyPost_ret (results_none rfl _ _ _) rfl ⟨rfl, v5, S5, Lr5, P5, L5, HR5.out, HP.out⟩
      ·have m12 : w5.cell? ⟨gm, 12, none⟩ = some (.int .i64 (rd2 l 12)) := HM4.out.cell 12
       have HAH := Lib.hid (And.intro ha hi)
       have y0 : w5.cell? ⟨wk, 0, none⟩ = some (bp d.h) := HA4.out.wk0
       go_wp2_with fail
       refine (hcount_any t K2 w5 d (cnt 0 v) S Lr P 2 2 rfl (by omega) HA4.out.hs).mono ?_
       rintro e5 w5 hp5
       obtain rfl := hp5.1
       have HP : Hid (PostW t K w wk d now draw (cnt 2 (cnt 0 v)) S Lr P L w5) := Lib.hid (HA4.out.count hp5).1.post
       clear hp5 y0
       go_wp2
       first
        | (go_end0; exact ⟨rfl, cnt 2 (cnt 0 v), S, Lr, P, L, H2.out (.inr (.inr ⟨HAH.out.1, HAH.out.2⟩)), HP.out⟩)
        | exact bodyPost_ret (results_none rfl _ _ _) rfl ⟨rfl, cnt 2 (cnt 0 v), S, Lr, P, L, H2.out (.inr (.inr ⟨HAH.out.1, HAH.out.2⟩)), HP.out⟩
  ·go_quiet (fail)
   have HA5 := Lib.hid (HA4.out.drewN nq)
   clear x0 h16 i0 i1 i2 i3 i4 i5 i6 i7 i8 i9 i10 i11 h0 h1 h2 h3 h4 h5 HA4 HM4 HR4
   have HA4 := HA5
   generalize w2.drewN nq = w3 at HA4 ⊢
   have y0 : w3.cell? ⟨wk, 0, none⟩ = some (bp d.h) := HA4.out.wk0
   go_wp2_with fail
   refine (hcount_any t K2 w3 d (cnt 0 v) S Lr P 2 2 rfl (by omega) HA4.out.hs).mono ?_
   rintro e5 w5 hp5
   obtain rfl := hp5.1
   have HP : Hid (PostW t K w wk d now draw (cnt 2 (cnt 0 v)) S Lr P L w5) := Lib.hid (HA4.out.count hp5).1.post
   clear hp5 y0
   go_wp2
   first
    | (go_end0; exact ⟨rfl, cnt 2 (cnt 0 v), S, Lr, P, L, H2.out (.inl HSAME.out), HP.out⟩)
    | exact bodyPost_ret (results_none rfl _ _ _) rfl ⟨rfl, cnt 2 (cnt 0 v), S, Lr, P, L, H2.out (.inl HSAME.out), HP.out⟩
 ·have hdec : Calls Tryz.prog 27 #[.slice A n c] w0 fun e w' => e = .returned (.tuple #[.agg #[.int .u8 0, .int .u8 0, .int .u8 0, .int .u8 0, .int .u8 0, .int .u8 0, .int .u8 0, .int .u8 0, .int .u8 0, .int .u8 0, .int .u8 0, .int .u8 0, .int .i64 0, .slice none 0 0], .int .i64 (ethErr l)]) ∧ Below w0.heap.size w0 w' := hdec.mono fun e w' ⟨A1, n1, c1, q1, q2, q3⟩ => ⟨by rw [if_neg hz] at q1; exact q1, q3⟩
  have HDEC := Lib.hid hdec
  have hz2 : (ethErr l != 0) = true := by simpa using hz
  have HR3 : Hid (R (cnt 3 (cnt 0 v)) S Lr P L) := Lib.hid (HX.out.2.2.2.2.2 hz)
  clear HX
  generalize ethErr l = er at *
  clear hz hdec hbs
  go_wp2_with fail
  refine HDEC.out.mono ?_
  rintro e1 w1 ⟨rfl, hB1⟩
  have hb2 : Below w1.heap.size w1 (w1.alloc (.cells #[.int .u8 0, .int .u8 0, .int .u8 0, .int .u8 0, .int .u8 0, .int .u8 0, .int .u8 0, .int .u8 0, .int .u8 0, .int .u8 0, .int .u8 0, .int .u8 0, .int .i64 0, .slice none 0 0] 89)) := (Below.refl _ _).alloc (Nat.le_refl _) _
  have HA3 := Lib.hid (HA2.out.below hB1)
  clear hB1
  go_upto_region 4 with (fail)
  generalize w1.alloc (.cells #[.int .u8 0, .int .u8 0, .int .u8 0, .int .u8 0, .int .u8 0, .int .u8 0, .int .u8 0, .int .u8 0, .int .u8 0, .int .u8 0, .int .u8 0, .int .u8 0, .int .i64 0, .slice none 0 0] 89) = w2 at hb2 ⊢
  have HA4 := Lib.hid (HA3.out.below hb2)
  have y0 : w2.cell? ⟨wk, 0, none⟩ = some (bp d.h) := HA4.out.wk0
  clear hb2 HA3
  go_wp2_with fail
  refine (hcount_any t K2 w2 d (cnt 0 v) S Lr P 3 3 rfl (by omega) HA4.out.hs).mono ?_
  rintro e3 w3 hp3
  obtain rfl := hp3.1
  have HP : Hid (PostW t K w wk d now draw (cnt 3 (cnt 0 v)) S Lr P L w3) := Lib.hid (HA4.out.count hp3).1.post
  clear hp3 y0
  go_wp2
  first
   | (go_end0; exact ⟨rfl, cnt 3 (cnt 0 v), S, Lr, P, L, HR3.out, HP.out⟩)
   | exact bodyPost_ret (results_none rfl _ _ _) rfl ⟨rfl, cnt 3 (cnt 0 v), S, Lr, P, L, HR3.out, HP.out⟩
end Go.Proofs.YtaeafkdfbcppgaaGreat
