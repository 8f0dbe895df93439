/- Proved: a counter of the board counts one more; what stands in a host's block, cell by cell; the small parts of the neighbours' cache: later ticks, a neighbour laid, how many there are; room is made for a neighbour more: of those that are known the one that was to be forgotten first goes. Conditions: as each law says. -/
import Derived.Laws.LoneSync
import Derived.Maps.OwnRows
import Derived.Test.YtaeafkdfbcppgaaGreatT04
set_option linter.unusedSectionVars false
set_option linter.unusedSimpArgs false
set_option linter.unusedVariables false
namespace Go.Proofs.YtaeafkdfbcppgaaGreat
open Go.RowKit
theorem aload_any (a : Addr) (x : Int) (w : World) (h : w.cell? ⟨a.block, a.off, none⟩ = some (.int .i64 x)) :
  Calls Tryz.prog 112 #[.pointer (some ⟨a.block, a.off, none⟩)] w fun e w' => e = .returned (.int .i64 x) ∧ w = w' := by
 have hl := run_call_load (P := Tryz.prog) Tryz.func180 (by kernel_rfl) (by kernel_rfl) (by kernel_rfl) .i64 (by kernel_rfl) h
 go_enter Tryz.func112, Tryz.ntmps112
 go_wp2
 go_ret
 exact ⟨rfl, rfl⟩
theorem acas_any (a : Addr) (x y : Int) (w : World) (h : w.cell? ⟨a.block, a.off, none⟩ = some (.int .i64 x)) (hf : w.frozen? ⟨a.block, a.off, none⟩ = false) :
  Calls Tryz.prog 227 #[.pointer (some ⟨a.block, a.off, none⟩), .int .i64 x, .int .i64 y] w fun e w' => e = .returned (.bool true) ∧ w' = w.setCell ⟨a.block, a.off, none⟩ (.int .i64 y) := by
 have hl := run_call_cas_hit (P := Tryz.prog) Tryz.func292 (by kernel_rfl) (by kernel_rfl) (by kernel_rfl) .i64 (by kernel_rfl) (y := y) h hf
 go_enter Tryz.func227, Tryz.ntmps227
 go_wp2
 go_ret
 exact ⟨rfl, rfl⟩
theorem ix_count (h k n : Nat) (hn : n < 17) (w : World) : (Instr.indexAt 148 (.pointer (some ⟨h, k, none⟩)) (.int .i64 n)).run Tryz.prog w = .ok (.pointer (some ⟨h, k + n, none⟩)) w := by
 have h1 := run_indexAt_array (P := Tryz.prog) (w := w) 148 ⟨h, k, none⟩ .i64 n (by kernel_rfl)
 have h2 : Tryz.prog.arrayLen 148 = 17 := by kernel_rfl
 have h3 : (sizeOf (Tryz.prog.elem 148)).run Tryz.prog w = .ok 1 w := by kernel_rfl
 rw [h2, h3] at h1
 rw [h1, if_pos (by omega)]
 simp [Result.andThen, add_eq]
def incC (x : Int) : Int := if x + 1 < 4611686018427387904 then x + 1 else 4611686018427387904
theorem incC_bd {x : Int} (h0 : 0 ≤ x) : 0 ≤ incC x ∧ incC x ≤ 4611686018427387904 := by unfold incC; split <;> omega
set_option maxRecDepth 100000 in
theorem badd_any (h k n : Nat) (hn : n < 17) (x : Int) (w : World) (hc : w.cell? ⟨h, k + n, none⟩ = some (.int .i64 x)) (hf : w.frozen? ⟨h, k + n, none⟩ = false) (x0 : 0 ≤ x) (x1 : x ≤ 4611686018427387904) :
  Calls Tryz.prog 154 #[.pointer (some ⟨h, k, none⟩), .int .i64 n, .int .i64 1] w fun e w' => e = .returned (.tuple #[]) ∧ w' = w.setCell ⟨h, k + n, none⟩ (.int .i64 (incC x)) := by
 have hw : IntKind.i64.wrap (x + 1) = x + 1 := IntWalk.i64_in _ (by omega)
 have hix : ∀ w, (Instr.indexAt 148 (.pointer (some ⟨h, k, none⟩)) (.int .i64 n)).run Tryz.prog w = .ok (.pointer (some ⟨h, k + n, none⟩)) w := fun w => ix_count h k n hn w
 have HL := Lib.hid (aload_any ⟨h, k + n, none⟩ x w hc)
 have HS := Lib.hid (acas_any ⟨h, k + n, none⟩ x (incC x) w hc hf)
 clear hc hf x0 x1
 rcases Int.lt_or_le (x + 1) 4611686018427387904 with hm | hm
 ·have he : incC x = x + 1 := if_pos hm
  rw [he] at HS ⊢
  clear he
  go_enter Tryz.func154, Tryz.ntmps154
  go_wp2
  refine wp_loop_rounds 1 ?_; rw [rounds_succ]
  go_wp2_with (first
   | (go_at_call 112; refine HL.out.mono ?_; rintro e1 w1 ⟨rfl, rfl⟩)
   | (go_at_call 227; refine HS.out.mono ?_; rintro e1 w1 ⟨rfl, rfl⟩))
  exact bodyPost_ret (results_none rfl _ _ _) rfl ⟨rfl, rfl⟩
 ·have he : incC x = 4611686018427387904 := if_neg (by omega)
  rw [he] at HS ⊢
  clear he
  go_enter Tryz.func154, Tryz.ntmps154
  go_wp2
  refine wp_loop_rounds 1 ?_; rw [rounds_succ]
  go_wp2_with (first
   | (go_at_call 112; refine HL.out.mono ?_; rintro e1 w1 ⟨rfl, rfl⟩)
   | (go_at_call 227; refine HS.out.mono ?_; rintro e1 w1 ⟨rfl, rfl⟩))
  exact bodyPost_ret (results_none rfl _ _ _) rfl ⟨rfl, rfl⟩
theorem tadd_any (h k n : Nat) (hn : n < 17) (x : Int) (w : World) (hc : w.cell? ⟨h, k + n, none⟩ = some (.int .i64 x)) (hf : w.frozen? ⟨h, k + n, none⟩ = false) (x0 : 0 ≤ x) (x1 : x ≤ 4611686018427387904) :
  Calls Tryz.prog 97 #[.pointer (some ⟨h, k, none⟩), .int .i64 n, .int .i64 1] w fun e w' => e = .returned (.int .i64 0) ∧ w' = w.setCell ⟨h, k + n, none⟩ (.int .i64 (incC x)) := by
 have HL := Lib.hid (badd_any h k n hn x w hc hf x0 x1)
 have hn2 : (n : Int) < 17 := by omega
 have hn0 : (0 : Int) ≤ n := by omega
 clear hc hf x0 x1
 go_enter Tryz.func97, Tryz.ntmps97
 go_wp2_with (first
  | (go_at_call 111; go_in)
  | (go_at_call 154; refine HL.out.mono ?_; rintro e1 w1 ⟨rfl, rfl⟩))
 go_ret
 exact ⟨rfl, rfl⟩
theorem counts_any (h n : Nat) (hn : n < 17) (x : Int) (C : Array Value) (w : World) (hb : Bk w h 164 C) (hc : C[23 + n]? = some (.int .i64 x)) (x0 : 0 ≤ x) (x1 : x ≤ 4611686018427387904) :
  Calls Tryz.prog 44 #[.pointer (some ⟨h, 0, none⟩), .int .i64 n] w fun e w' => e = .returned (.tuple #[]) ∧ w' = w.setCell ⟨h, 23 + n, none⟩ (.int .i64 (incC x)) := by
 have HL := Lib.hid (tadd_any h 23 n hn x w ((hb.cell _).trans hc) (hb.frozen _) x0 x1)
 clear hb hc x0 x1
 go_enter Tryz.func44, Tryz.ntmps44
 go_wp2_with (go_at_call 97; refine HL.out.mono ?_; rintro e1 w1 ⟨rfl, rfl⟩)
 go_end0
 exact ⟨rfl, rfl⟩
open Go.RowKit
structure HV where
 m : Int × Int × Int × Int × Int × Int
 addr : Int
 bits : Int
 near : Value
 by_ : Value
 age : Value
 k0 : Value
 rn : Int
 bkt : Value
 grp : Value
 prt : Value
 plc : Value
 c0 : Int
 c1 : Int
 c2 : Int
 c3 : Int
 c4 : Int
 c5 : Int
 c6 : Int
 c7 : Int
 c8 : Int
 c9 : Int
 c10 : Int
 c11 : Int
 c12 : Int
 c13 : Int
 c14 : Int
 c15 : Int
 c16 : Int
 id : Int
 arr : Value
def hostC (v : HV) : Array Value := #[.int .u8 v.m.1, .int .u8 v.m.2.1, .int .u8 v.m.2.2.1, .int .u8 v.m.2.2.2.1, .int .u8 v.m.2.2.2.2.1, .int .u8 v.m.2.2.2.2.2, .int .u32 v.addr, .int .i64 v.bits, v.near, v.by_, v.age, nilS, v.k0, .pointer none, .int .i64 v.rn, v.bkt, v.grp, v.prt, v.plc, .int .i64 0, .map none, .map none, .map none, .int .i64 v.c0, .int .i64 v.c1, .int .i64 v.c2, .int .i64 v.c3, .int .i64 v.c4, .int .i64 v.c5, .int .i64 v.c6, .int .i64 v.c7, .int .i64 v.c8, .int .i64 v.c9, .int .i64 v.c10, .int .i64 v.c11, .int .i64 v.c12, .int .i64 v.c13, .int .i64 v.c14, .int .i64 v.c15, .int .i64 v.c16, .int .u32 0, .int .i32 0, .int .u32 0, .map none, nilS, .int .i64 v.id, v.arr]
def HB (w : World) (h : Nat) (v : HV) : Prop := Bk w h 164 (hostC v)
section
variable {w w' : World} {h : Nat} {v : HV}
theorem HB.bk (b : HB w h v) : Bk w h 164 (hostC v) := b
theorem HB.lt (b : HB w h v) : h < w.heap.size := Bk.lt b
theorem HB.below {B : Nat} (b : HB w h v) (hb : Below B w w') (hg : h < B) : HB w' h v := Bk.below b hb hg
theorem HB.chg {F : Nat → Prop} (b : HB w h v) (hc : Chg F w w') (hF : ¬ F h) : HB w' h v := Bk.chg b hc hF
theorem HB.alloc (b : HB w h v) (o : Obj) : HB (w.alloc o) h v := Bk.alloc b o
theorem HB.drewN (b : HB w h v) (n : Nat) : HB (w.drewN n) h v := b
theorem HB.addr (b : HB w h v) : w.cell? ⟨h, 6, none⟩ = some (.int .u32 v.addr) := Bk.cell b 6
theorem HB.set_addr (b : HB w h v) (x : Int) : HB (w.setCell ⟨h, 6, none⟩ (.int .u32 x)) h { v with addr := x } := Bk.set b 6 _
theorem HB.bits (b : HB w h v) : w.cell? ⟨h, 7, none⟩ = some (.int .i64 v.bits) := Bk.cell b 7
theorem HB.set_bits (b : HB w h v) (x : Int) : HB (w.setCell ⟨h, 7, none⟩ (.int .i64 x)) h { v with bits := x } := Bk.set b 7 _
theorem HB.near (b : HB w h v) : w.cell? ⟨h, 8, none⟩ = some (v.near) := Bk.cell b 8
theorem HB.by_ (b : HB w h v) : w.cell? ⟨h, 9, none⟩ = some (v.by_) := Bk.cell b 9
theorem HB.age (b : HB w h v) : w.cell? ⟨h, 10, none⟩ = some (v.age) := Bk.cell b 10
theorem HB.k0 (b : HB w h v) : w.cell? ⟨h, 12, none⟩ = some (v.k0) := Bk.cell b 12
theorem HB.rn (b : HB w h v) : w.cell? ⟨h, 14, none⟩ = some (.int .i64 v.rn) := Bk.cell b 14
theorem HB.bkt (b : HB w h v) : w.cell? ⟨h, 15, none⟩ = some (v.bkt) := Bk.cell b 15
theorem HB.set_bkt (b : HB w h v) (x : Value) : HB (w.setCell ⟨h, 15, none⟩ (x)) h { v with bkt := x } := Bk.set b 15 _
theorem HB.grp (b : HB w h v) : w.cell? ⟨h, 16, none⟩ = some (v.grp) := Bk.cell b 16
theorem HB.prt (b : HB w h v) : w.cell? ⟨h, 17, none⟩ = some (v.prt) := Bk.cell b 17
theorem HB.set_prt (b : HB w h v) (x : Value) : HB (w.setCell ⟨h, 17, none⟩ (x)) h { v with prt := x } := Bk.set b 17 _
theorem HB.plc (b : HB w h v) : w.cell? ⟨h, 18, none⟩ = some (v.plc) := Bk.cell b 18
theorem HB.set_c1 (b : HB w h v) (x : Int) : HB (w.setCell ⟨h, 24, none⟩ (.int .i64 x)) h { v with c1 := x } := Bk.set b 24 _
theorem HB.id (b : HB w h v) : w.cell? ⟨h, 45, none⟩ = some (.int .i64 v.id) := Bk.cell b 45
theorem HB.set_id (b : HB w h v) (x : Int) : HB (w.setCell ⟨h, 45, none⟩ (.int .i64 x)) h { v with id := x } := Bk.set b 45 _
theorem HB.arr (b : HB w h v) : w.cell? ⟨h, 46, none⟩ = some (v.arr) := Bk.cell b 46
theorem HB.set_arr (b : HB w h v) (x : Value) : HB (w.setCell ⟨h, 46, none⟩ (x)) h { v with arr := x } := Bk.set b 46 _
theorem HB.fz (b : HB w h v) (i : Nat) : w.frozen? ⟨h, i, none⟩ = false := Bk.frozen b i
theorem HB.m0 (b : HB w h v) : w.cell? ⟨h, 0, none⟩ = some (.int .u8 v.m.1) := Bk.cell b 0
theorem HB.m1 (b : HB w h v) : w.cell? ⟨h, 1, none⟩ = some (.int .u8 v.m.2.1) := Bk.cell b 1
theorem HB.m2 (b : HB w h v) : w.cell? ⟨h, 2, none⟩ = some (.int .u8 v.m.2.2.1) := Bk.cell b 2
theorem HB.m3 (b : HB w h v) : w.cell? ⟨h, 3, none⟩ = some (.int .u8 v.m.2.2.2.1) := Bk.cell b 3
theorem HB.m4 (b : HB w h v) : w.cell? ⟨h, 4, none⟩ = some (.int .u8 v.m.2.2.2.2.1) := Bk.cell b 4
theorem HB.m5 (b : HB w h v) : w.cell? ⟨h, 5, none⟩ = some (.int .u8 v.m.2.2.2.2.2) := Bk.cell b 5
end
theorem HB.count {w : World} {h : Nat} {v : HV} (b : HB w h v) (n : Nat) (hn : n < 17) (x : Int) (hc : (hostC v)[23 + n]? = some (.int .i64 x)) (x0 : 0 ≤ x) (x1 : x ≤ 4611686018427387904) :
  Calls Tryz.prog 44 #[.pointer (some ⟨h, 0, none⟩), .int .i64 n] w fun e w' => e = .returned (.tuple #[]) ∧ w' = w.setCell ⟨h, 23 + n, none⟩ (.int .i64 (incC x)) := counts_any h n hn x _ w b hc x0 x1
def CtOk (v : HV) : Prop := ∀ n x, n < 17 → (hostC v)[23 + n]? = some (.int .i64 x) → 0 ≤ x ∧ x ≤ 4611686018427387904
open Go.RowKit
variable {V : HV}
def mkA (a : Int) : Value := .int .u32 a
def okA (a : Int) : Prop := 0 ≤ a ∧ a ≤ 4294967295
theorem keyA : KeyIs Tryz.prog 28 mkA okA := ⟨Maps.int_keyed Tryz.underlying28, fun x hx => ⟨.int .u32 x, Maps.keyOf_int_mk Tryz.underlying28 (by obtain ⟨h0, h1⟩ := hx; simp only [Lit.wf, IntKind.min, IntKind.max, IntKind.signed, IntKind.bits, Bool.and_eq_true, decide_eq_true_eq]; exact ⟨by simpa using h0, by simp; omega⟩)⟩, fun x y h => by injection h⟩
abbrev mapT := 117
theorem mapU : Tryz.prog.underlying mapT = some (.map 28 233) := Tryz.underlying117
theorem zeroE (w : World) : (zeroValue 233).run Tryz.prog w = .ok (.pointer none) w := by kernel_rfl
def MapAt (V : HV) (w : World) (g : Nat) (mv : Option Nat) (L : List (Int × Value)) : Prop := Bk w g 164 (hostC { V with near := .map mv }) ∧ (mv = none → L = []) ∧ ∀ b, mv = some b → IM mkA okA w b L
theorem IM.ne_bk {w : World} {b g : Nat} {L : List (Int × Value)} {t : TypeId} {cs : Array Value} (h : IM mkA okA w b L) (hb : Bk w g t cs) : b ≠ g := by
 rintro rfl
 obtain ⟨es, clock, h1, _⟩ := h
 unfold Bk at hb
 rw [hb] at h1
 cases h1
theorem MapAt.kept {w w' : World} {g : Nat} {mv : Option Nat} {L : List (Int × Value)} (h : MapAt V w g mv L) (hg : w'.heap[g]? = w.heap[g]?) (hm : ∀ b, mv = some b → w'.heap[b]? = w.heap[b]?) : MapAt V w' g mv L :=
 ⟨hg.trans h.1, h.2.1, fun b hb => by obtain ⟨es, clock, h1, rest⟩ := h.2.2 b hb; exact ⟨es, clock, (hm b hb).trans h1, rest⟩⟩
theorem MapAt.chg {F : Nat → Prop} {w w' : World} {g : Nat} {mv : Option Nat} {L : List (Int × Value)} (h : MapAt V w g mv L) (hc : Chg F w w') (hg : ¬ F g) (hm : ∀ b, mv = some b → ¬ F b) : MapAt V w' g mv L :=
 h.kept (hc.block g h.1.lt hg) (fun b hb => hc.block b (h.2.2 b hb).lt (hm b hb))
def laterP (a n : Int) : Int := if 9223372036854775807 - n < a then 9223372036854775807 else a + n
set_option maxRecDepth 100000 in
theorem plus_any (a n : Int) (ha : -9223372036854775808 ≤ a ∧ a ≤ 9223372036854775807) (hn : 0 ≤ n ∧ n ≤ 1000) (w : World) :
  Calls Tryz.prog 92 #[.int .i64 a, .int .i64 n] w fun e w' => e = .returned (.int .i64 (laterP a n)) ∧ w = w' := by
 unfold laterP
 obtain ⟨M, hM⟩ : ∃ M, wrap64 (9223372036854775807 - n) = M := ⟨_, rfl⟩
 have hM2 : M = 9223372036854775807 - n := by rw [← hM]; exact (by simp only [wrap64]; omega)
 by_cases h : 9223372036854775807 - n < a
 ·rw [if_pos h]
  have hd : decide (M < a) = true := by rw [hM2]; simpa using h
  clear h ha hn hM2
  go_enter Tryz.func92, Tryz.ntmps92
  go_wp2
  go_ret
  exact ⟨rfl, rfl⟩
 ·rw [if_neg h]
  have hd : decide (M < a) = false := by rw [hM2]; simpa using h
  have hw : IntKind.i64.wrap (a + n) = a + n := IntWalk.i64_in _ (by omega)
  clear h ha hn hM2
  go_enter Tryz.func92, Tryz.ntmps92
  go_wp2
  go_ret
  exact ⟨rfl, rfl⟩
def LayPost (V : HV) (a : Int) (p g : Nat) (mv : Option Nat) (L : List (Int × Value)) (w : World) (e : Ending) (w' : World) : Prop := e = .returned (.tuple #[]) ∧
 ∃ b, MapAt V w' g (some b) (putL L a (.pointer (some ⟨p, 0, none⟩))) ∧ (mv = some b ∨ (mv = none ∧ b = w.heap.size)) ∧ Chg (fun x => x = g ∨ mv = some x) w w'
set_option maxRecDepth 100000 in
theorem alay_any (a : Int) (p g : Nat) (mv : Option Nat) (L : List (Int × Value)) (w : World) (ha : okA a) (h : MapAt V w g mv L) :
  Calls Tryz.prog 212 #[.pointer (some ⟨g, 8, none⟩), .int .u32 a, .pointer (some ⟨p, 0, none⟩)] w (LayPost V a p g mv L w) := by
 obtain ⟨h1, h2, h3⟩ := h
 have c0 : w.cell? ⟨g, 8, none⟩ = some (.map mv) := h1.cell 8
 have f0 := h1.frozen 8
 have qm : ∀ (w : World) (r : Option Nat), (binOp .eql mapT (.map r) (.map none)).run Tryz.prog w = .ok (.bool r.isNone) w := fun w r => run_eql_map_nil w _ _ _ r mapU
 rcases mv with _ | b
 ·have hL := h2 rfl
  subst hL
  have hmm := @run_makeMap Tryz.prog
  have hlt := h1.lt
  have hz : (w.setCell ⟨g, 8, none⟩ (.map (some w.heap.size))).heap.size = w.heap.size := size_setCell w _ _
  have hI : IM mkA okA ((w.setCell ⟨g, 8, none⟩ (.map (some w.heap.size))).alloc (.map #[] 0)) w.heap.size [] := by
   have := IM.made (mk := mkA) (ok := okA) (w.setCell ⟨g, 8, none⟩ (.map (some w.heap.size)))
   rwa [hz] at this
  have hk : Bk ((w.setCell ⟨g, 8, none⟩ (.map (some w.heap.size))).alloc (.map #[] 0)) g 164 (hostC { V with near := .map (some w.heap.size) }) := (h1.set 8 _).alloc _
  have hC : Chg (fun x => x = g ∨ (none : Option Nat) = some x) w ((w.setCell ⟨g, 8, none⟩ (.map (some w.heap.size))).alloc (.map #[] 0)) := ((Chg.refl _ w).setCell (.inl (.inl rfl)) _).alloc _
  clear hz
  go_enter Tryz.func212, Tryz.ntmps212
  go_wp2_with (at_mapUpdate; refine wpList_store_im rfl (.tmp 18) (.tmp 19) (.tmp 20) mapT rfl keyA mapU rfl hI (y := a) rfl ha (u := .pointer (some ⟨p, 0, none⟩)) rfl ?_; intro w1 hI1 hG1 hS1)
  go_end0
  exact ⟨rfl, w.heap.size, ⟨hk.grown hG1 (by intro e; injection e with e; omega), (fun e => by cases e), fun b' e => by injection e with e; subst e; exact hI1⟩, .inr ⟨rfl, rfl⟩, hC.trans (Chg.of_grown (F := fun x => x = w.heap.size) hG1 (fun x e => by injection e with e; exact e.symm)) (fun x e => .inr (by omega))⟩
 ·have hI := h3 b rfl
  have hne := hI.ne_bk h1
  go_enter Tryz.func212, Tryz.ntmps212
  go_wp2_with (at_mapUpdate; refine wpList_store_im rfl (.tmp 18) (.tmp 19) (.tmp 20) mapT rfl keyA mapU rfl hI (y := a) rfl ha (u := .pointer (some ⟨p, 0, none⟩)) rfl ?_; intro w1 hI1 hG1 hS1)
  go_end0
  exact ⟨rfl, b, ⟨h1.grown hG1 (by intro e; injection e with e; exact hne e.symm), (fun e => by cases e), fun b' e => by injection e with e; subst e; exact hI1⟩, .inl rfl, Chg.of_grown hG1 (fun x e => .inr (by rw [e]))⟩
open Go.RowKit
variable {V : HV}
structure Nb where
 kn : Bool
 m0 : Int
 m1 : Int
 m2 : Int
 m3 : Int
 m4 : Int
 m5 : Int
 tk : Int
 tr : Int
 ws : List (List Int)
structure En where
 a : Int
 p : Nat
 A : Option Addr
 k : Nat
 c : Nat
 n : Nb
def nbC (n : Nb) (A : Option Addr) (k c : Nat) : Array Value := #[.bool n.kn, .int .u8 n.m0, .int .u8 n.m1, .int .u8 n.m2, .int .u8 n.m3, .int .u8 n.m4, .int .u8 n.m5, .int .i64 n.tk, .int .i64 n.tr, .slice A k c]
def ptr (p : Nat) : Value := .pointer (some ⟨p, 0, none⟩)
def enE (e : En) : Int × Value := (e.a, ptr e.p)
def NbBk (w : World) (e : En) : Prop := Bk w e.p 235 (nbC e.n e.A e.k e.c)
def ahead (e x : En) : Prop := e.n.tk < x.n.tk ∨ (e.n.tk = x.n.tk ∧ e.a ≤ x.a)
def isLeast (S : List En) (e : En) : Prop := e ∈ S ∧ e.n.kn = true ∧ ∀ x ∈ S, x.n.kn = true → ahead e x
def BestOf (S : List En) (left : Int → Bool) (v3 v4 : Value) : Prop :=
 (v3 = .pointer none ∧ v4 = .int .u32 0 ∧ ∀ e ∈ S, left e.a = false → e.n.kn = false) ∨
 ∃ e ∈ S, left e.a = false ∧ e.n.kn = true ∧ v3 = .pointer (some ⟨e.p, 0, none⟩) ∧ v4 = .int .u32 e.a ∧ ∀ x ∈ S, left x.a = false → x.n.kn = true → ahead e x
theorem mem_enE {S : List En} {x : Int} {v : Value} (h : (x, v) ∈ S.map enE) : ∃ e ∈ S, e.a = x ∧ v = .pointer (some ⟨e.p, 0, none⟩) := by
 obtain ⟨e, he, h2⟩ := List.mem_map.1 h
 unfold enE ptr at h2
 injection h2 with h3 h4
 exact ⟨e, he, h3, h4.symm⟩
theorem en_inj {S : List En} (hn : NoDup (S.map enE)) {e x : En} (he : e ∈ S) (hx : x ∈ S) (h : e.a = x.a) : e = x := by
 unfold NoDup at hn
 rw [List.map_map] at hn
 obtain ⟨i, hi⟩ := List.getElem?_of_mem he
 obtain ⟨j, hj⟩ := List.getElem?_of_mem hx
 have h1 : (S.map ((fun p => p.1) ∘ enE))[i]? = some e.a := by rw [List.getElem?_map, hi]; rfl
 have h2 : (S.map ((fun p => p.1) ∘ enE))[j]? = some e.a := by rw [List.getElem?_map, hj, h]; rfl
 have := nodup_at hn h1 h2
 subst this
 rw [hi] at hj
 injection hj
theorem BestOf.start (S : List En) : BestOf S (fun _ => true) (.pointer none) (.int .u32 0) := .inl ⟨rfl, rfl, fun _ _ h => by cases h⟩
theorem left_cases {left : Int → Bool} {a y : Int} (h : (left y && decide (y ≠ a)) = false) : left y = false ∨ y = a := by
 cases hl : left y with
 | false => exact .inl rfl
 | true => rw [hl] at h; simp at h; exact .inr h
theorem left_stays {left : Int → Bool} {a y : Int} (h : left y = false) : (left y && decide (y ≠ a)) = false := by rw [h]; rfl
theorem left_gone {left : Int → Bool} {a : Int} : (left a && decide (a ≠ a)) = false := by simp
theorem BestOf.take {S : List En} {left : Int → Bool} {v3 v4 : Value} (hn : NoDup (S.map enE)) {e : En} (he : e ∈ S) (hk : e.n.kn = true)
  (h : ∀ x ∈ S, left x.a = false → x.n.kn = true → ahead e x) : BestOf S (fun y => left y && decide (y ≠ e.a)) (.pointer (some ⟨e.p, 0, none⟩)) (.int .u32 e.a) := by
 refine .inr ⟨e, he, left_gone, hk, rfl, rfl, fun x hx hl hkx => ?_⟩
 rcases left_cases hl with h1 | h1
 ·exact h x hx h1 hkx
 ·rw [en_inj hn hx he h1]; exact .inr ⟨rfl, Int.le_refl _⟩
theorem BestOf.leave_no {S : List En} {left : Int → Bool} {v3 v4 : Value} (hn : NoDup (S.map enE)) (h : BestOf S left v3 v4) {e : En} (he : e ∈ S) (hk : e.n.kn = false) : BestOf S (fun y => left y && decide (y ≠ e.a)) v3 v4 := by
 rcases h with ⟨h1, h2, h3⟩ | ⟨x, hx, h1, h2, h3, h4, h5⟩
 ·refine .inl ⟨h1, h2, fun y hy hl => ?_⟩
  rcases left_cases hl with h6 | h6
  ·exact h3 y hy h6
  ·rw [en_inj hn hy he h6]; exact hk
 ·refine .inr ⟨x, hx, left_stays h1, h2, h3, h4, fun y hy hl hky => ?_⟩
  rcases left_cases hl with h6 | h6
  ·exact h5 y hy h6 hky
  ·rw [en_inj hn hy he h6, hk] at hky; cases hky
theorem BestOf.leave {S : List En} {left : Int → Bool} (hn : NoDup (S.map enE)) {e x : En} (he : e ∈ S) (hx : x ∈ S) (h1 : left x.a = false) (h2 : x.n.kn = true)
  (h5 : ∀ y ∈ S, left y.a = false → y.n.kn = true → ahead x y) (ha : ahead x e) : BestOf S (fun y => left y && decide (y ≠ e.a)) (.pointer (some ⟨x.p, 0, none⟩)) (.int .u32 x.a) := by
 refine .inr ⟨x, hx, left_stays h1, h2, rfl, rfl, fun y hy hl hky => ?_⟩
 rcases left_cases hl with h6 | h6
 ·exact h5 y hy h6 hky
 ·rw [en_inj hn hy he h6]; exact ha
theorem ahead_trans {e x y : En} (h : e.n.tk < x.n.tk ∨ (e.n.tk = x.n.tk ∧ e.a < x.a)) (k : ahead x y) : ahead e y := by
 unfold ahead at *; omega
theorem rangeLeft_lt {w w' : World} {b r cnt cnt' : Nat} {L L' : List (Int × Value)} {left left' : Int → Bool} (h : IR mkA okA w b r L left cnt) (h' : IR mkA okA w' b r L' left' cnt') (hl : cnt' < cnt) : w'.rangeLeft b r < w.rangeLeft b r := by
 rw [h.left_eq, h'.left_eq]; exact hl
def RoomPost (V : HV) (w : World) (g : Nat) (mv : Option Nat) (S : List En) (e : Ending) (w' : World) : Prop :=
 (e = .returned (.bool true) ∧ S.length < 16 ∧ MapAt V w' g mv (S.map enE) ∧ Chg (fun _ => False) w w') ∨
 (e = .returned (.bool true) ∧ 16 ≤ S.length ∧ (∃ x, isLeast S x ∧ MapAt V w' g mv (delL (S.map enE) x.a)) ∧ Chg (fun x => mv = some x) w w') ∨
 (e = .returned (.bool false) ∧ 16 ≤ S.length ∧ (∀ x ∈ S, x.n.kn = false) ∧ MapAt V w' g mv (S.map enE) ∧ Chg (fun _ => False) w w')
set_option maxRecDepth 100000 in
theorem room_small (g : Nat) (mv : Option Nat) (S : List En) (w : World) (h : MapAt V w g mv (S.map enE)) (hs : S.length < 16) :
  Calls Tryz.prog 211 #[.pointer (some ⟨g, 8, none⟩)] w (RoomPost V w g mv S) := by
 have hh := h
 obtain ⟨h1, h2, h3⟩ := h
 have c0 : w.cell? ⟨g, 8, none⟩ = some (.map mv) := h1.cell 8
 have f0 := h1.frozen 8
 rcases mv with _ | b
 ·have hL := h2 rfl
  go_enter Tryz.func211, Tryz.ntmps211
  go_wp2
  go_ret
  exact .inl ⟨rfl, hs, hh, Chg.refl _ w⟩
 ·have hI := h3 b rfl
  have HL := Lib.hid (show (S.map enE).length = S.length by simp)
  have hs' : (S.length : Int) < 16 := by omega
  go_enter Tryz.func211, Tryz.ntmps211
  go_wp2_with (at_len; refine wpList_len_im rfl (.tmp 10) mapT rfl mapU rfl hI ?_; rw [HL.out])
  go_ret
  exact .inl ⟨rfl, hs, hh, Chg.refl _ w⟩
set_option maxHeartbeats 4000000 in
set_option maxRecDepth 100000 in
theorem room_big (g : Nat) (mv : Option Nat) (S : List En) (w : World) (h : MapAt V w g mv (S.map enE)) (hS : ∀ e ∈ S, NbBk w e) (hs : 16 ≤ S.length) :
  Calls Tryz.prog 211 #[.pointer (some ⟨g, 8, none⟩)] w (RoomPost V w g mv S) := by
 have hh := h
 obtain ⟨h1, h2, h3⟩ := h
 have c0 : w.cell? ⟨g, 8, none⟩ = some (.map mv) := h1.cell 8
 have f0 := h1.frozen 8
 obtain ⟨b, rfl⟩ : ∃ b, mv = some b := by
  rcases mv with _ | b
  ·have := h2 rfl
   have hl : (S.map enE).length = S.length := by simp
   rw [this] at hl
   simp at hl
   omega
  ·exact ⟨b, rfl⟩
 have hI := h3 b rfl
 have HL := Lib.hid (show (S.map enE).length = S.length by simp)
 have hn := hI.nodup
 have HND := Lib.hid hn
 have hs' : ¬ (S.length : Int) < 16 := by omega
 have HH := Lib.hid hh
 have HS := Lib.hid hS
 have HK := Lib.hid h1
 have hgl := h1.lt
 have hbl := hI.lt
 clear hh h1 h2 h3 hn hS
 go_enter Tryz.func211, Tryz.ntmps211
 go_wp2_with (first
  | (at_len; refine wpList_len_im rfl (.tmp 10) mapT rfl mapU rfl hI ?_; rw [HL.out])
  | (at_range; refine wpList_range_im rfl (.tmp 16) mapT rfl mapU rfl hI ?_; intro w0 hR0 hg0 hs0))
 go_loopw [3, 4] (fun v3 v4 wr => ∃ (left : Int → Bool) (cnt : Nat), IR mkA okA wr b w.heap.size (S.map enE) left cnt ∧ Hid (Chg (fun _ => False) w wr) ∧ Hid (BestOf S left v3 v4))
  (fun _ _ wr => wr.rangeLeft b w.heap.size)
 case atStart => exact ⟨_, _, hR0, Lib.hid (Chg.of_grown hg0 (fun _ e => by cases e)), Lib.hid (BestOf.start S)⟩
 case round =>
  obtain ⟨left, cnt, hR, HC, HB⟩ := hrel
  have cr : wr.cell? ⟨g, 8, none⟩ = some (.map (some b)) := (HC.out.cell (p := ⟨g, 8, none⟩) hgl (fun e => e)).trans c0
  go_wp2_with (first
   | (at_next; refine wpList_next_hid rfl (.tmp 17) rfl rfl hR ?_ ?_))
  ·intro hl0
   have hm1 := HH.out.chg HC.out (fun e => e) (fun _ _ e => e)
   have hl1 : ∀ e ∈ S, left e.a = false := fun e he => hl0.2 (enE e) (List.mem_map.2 ⟨e, he, rfl⟩)
   have HM1 := Lib.hid hm1
   have HL1 := Lib.hid hl1
   clear hl0 hl1 hm1
   rcases HB.out with ⟨rfl, rfl, q⟩ | ⟨e, he, q1, q2, rfl, rfl, q3⟩
   ·have Q := Lib.hid q
    clear q
    go_wp2
    go_ret
    exact .inr (.inr ⟨rfl, hs, fun x hx => Q.out x hx (HL1.out x hx), HM1.out, HC.out⟩)
   ·have Q : Hid (isLeast S e) := Lib.hid ⟨he, q2, fun x hx hk => q3 x hx (HL1.out x hx) hk⟩
    have hIw := HM1.out.2.2 b rfl
    have hoa : okA e.a := hIw.oks (enE e) (List.mem_map.2 ⟨e, he, rfl⟩)
    clear q1 q2 q3
    go_wp2_with (at_delete; refine wpList_delete_im rfl (.tmp 65) (.tmp 66) mapT rfl keyA mapU rfl hIw (y := e.a) rfl hoa ?_; intro w2 hI2 hg2 hs2)
    go_ret
    have hne := hIw.ne_bk HM1.out.1
    exact .inr (.inl ⟨rfl, hs, ⟨e, Q.out, HM1.out.1.grown hg2 (by intro e0; injection e0 with e0; exact hne e0.symm), (fun e0 => by cases e0), fun b' e0 => by injection e0 with e0; subst e0; exact hI2⟩,
     (HC.out.mono (fun _ _ e0 => e0.elim)).trans (Chg.of_grown (F := fun x => some b = some x) hg2 (fun _ e0 => e0)) (fun _ e0 => .inl e0)⟩)
  ·intro x v w1 cnt1 hmore hen
   obtain ⟨hmem, hlx, hR1, hlt, hg1, hs1⟩ := hmore
   obtain ⟨e, he, rfl, rfl⟩ := mem_enE hmem
   change _ = Result.ok (Value.tuple #[Value.int .u32 e.a, Value.pointer (some ⟨e.p, 0, none⟩)]) w1 at hen
   have hC1 : Chg (fun _ => False) w w1 := HC.out.trans (Chg.of_grown (F := fun x => x = w.heap.size) hg1 (fun x e0 => by injection e0 with e0; exact e0.symm)) (fun x e0 => .inr (by omega))
   have hbe := (HS.out e he).chg hC1 (fun e0 => e0)
   have k0 : w1.cell? ⟨e.p, 0, none⟩ = some (.bool e.n.kn) := hbe.cell 0
   have k7 : w1.cell? ⟨e.p, 7, none⟩ = some (.int .i64 e.n.tk) := hbe.cell 7
   have HC1 := Lib.hid hC1
   have HME := Lib.hid (rangeLeft_lt hR hR1 hlt)
   have HR1 := Lib.hid hR1
   clear hbe hC1 hR hmem hlx hR1 hlt hg1 hs1
   cases hk : e.n.kn with
   | false =>
    rw [hk] at k0
    have HB2 := Lib.hid (HB.out.leave_no HND.out he hk)
    clear hk
    go_wp2
    go_quiet (fail)
    go_wp2
    go_roundw
    case rel => exact ⟨_, cnt1, HR1.out.drewN _, Lib.hid (HC1.out.drewN _), HB2⟩
    case measure => exact HME.out
   | true =>
    rw [hk] at k0
    rcases HB.out with ⟨rfl, rfl, q⟩ | ⟨x, hx, q1, q2, rfl, rfl, q3⟩
    ·have HB2 := Lib.hid (BestOf.take (v3 := .pointer none) (v4 := .int .u32 0) HND.out he hk (fun x hx hl hkx => by rw [q x hx hl] at hkx; cases hkx))
     clear hk q
     go_wp2
     go_quiet (fail)
     go_wp2
     go_roundw
     case rel => exact ⟨_, cnt1, HR1.out.drewN _, Lib.hid (HC1.out.drewN _), HB2⟩
     case measure => exact HME.out
    ·have hbx := (HS.out x hx).chg HC1.out (fun e0 => e0)
     have x7 : w1.cell? ⟨x.p, 7, none⟩ = some (.int .i64 x.n.tk) := hbx.cell 7
     clear hbx
     rcases (by omega : e.n.tk < x.n.tk ∨ (e.n.tk = x.n.tk ∧ e.a < x.a) ∨ (e.n.tk = x.n.tk ∧ x.a ≤ e.a) ∨ x.n.tk < e.n.tk) with d | ⟨d1, d2⟩ | ⟨d1, d2⟩ | d
     ·have HB2 := Lib.hid (BestOf.take (v3 := .pointer none) (v4 := .int .u32 0) HND.out he hk (fun y hy hl hky => ahead_trans (.inl d) (q3 y hy hl hky)))
      have d' : decide (e.n.tk < x.n.tk) = true := by simpa using d
      clear hk q1 q2 q3 d
      go_wp2
      go_quiet (fail)
      go_wp2
      go_roundw
      case rel => exact ⟨_, cnt1, HR1.out.drewN _, Lib.hid (HC1.out.drewN _), HB2⟩
      case measure => exact HME.out
     ·have HB2 := Lib.hid (BestOf.take (v3 := .pointer none) (v4 := .int .u32 0) HND.out he hk (fun y hy hl hky => ahead_trans (.inr ⟨d1, d2⟩) (q3 y hy hl hky)))
      rw [← d1] at x7
      have d3 : decide (e.a < x.a) = true := by simpa using d2
      clear hk q1 q2 q3 d1 d2
      go_wp2
      go_quiet (fail)
      go_wp2
      go_roundw
      case rel => exact ⟨_, cnt1, HR1.out.drewN _, Lib.hid (HC1.out.drewN _), HB2⟩
      case measure => exact HME.out
     ·have HB2 := Lib.hid (BestOf.leave HND.out he hx q1 q2 q3 (.inr ⟨d1.symm, d2⟩))
      rw [← d1] at x7
      have d3 : decide (e.a < x.a) = false := by simp; omega
      clear hk q1 q2 q3 d1 d2
      go_wp2
      go_quiet (fail)
      go_wp2
      go_roundw
      case rel => exact ⟨_, cnt1, HR1.out.drewN _, Lib.hid (HC1.out.drewN _), HB2⟩
      case measure => exact HME.out
     ·have HB2 := Lib.hid (BestOf.leave HND.out he hx q1 q2 q3 (.inl d))
      have d' : decide (e.n.tk < x.n.tk) = false := by simp; omega
      have d'' : (e.n.tk == x.n.tk) = false := by simp; omega
      clear hk q1 q2 q3 d
      go_wp2
      go_quiet (fail)
      go_wp2
      go_roundw
      case rel => exact ⟨_, cnt1, HR1.out.drewN _, Lib.hid (HC1.out.drewN _), HB2⟩
      case measure => exact HME.out
end Go.Proofs.YtaeafkdfbcppgaaGreat
