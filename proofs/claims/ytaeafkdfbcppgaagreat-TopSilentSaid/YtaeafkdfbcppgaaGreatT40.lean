/- Proved: a call of a stack is tried, over what its attempt answers. Conditions: as each law says. -/
import Derived.Test.YtaeafkdfbcppgaaGreatT35
import Derived.Test.YtaeafkdfbcppgaaGreatT36
set_option linter.unusedSectionVars false
set_option linter.unusedSimpArgs false
set_option linter.unusedVariables false
namespace Go.Proofs.YtaeafkdfbcppgaaGreat
open Go.RowKit
def Stab (t : Nat) (Q : Value → (Nat → Nat) → World → Prop) : Prop := ∀ dv K w K' w' G, Q dv K w → Chg G w w' → (∀ b, b < w.heap.size → sideK t (K b) → ¬ G b) → (∀ b, b < w.heap.size → sideK t (K b) → K' b = K b) → Q dv K' w'
def wtC (ofv : Value) (fn : Nat) (cap : Array Value) : Array Value := #[.int .i64 0, ofv, .func (.func fn) #[] cap, .int .i64 0]
def RtR (K : Nat → Nat) (w : World) (B : Nat) (y : Value) (n a p : Int) (dv : Value) : Prop :=
 ∃ rA rc, y = .slice rA 1 rc ∧ Mr 65 6 w 0 rA 1 rc (retC 0 n a p dv).toList ∧ ∀ b, blk rA = some b → K b = 40 ∧ B ≤ b
theorem RtR.keep {K K' : Nat → Nat} {w w' : World} {B B' : Nat} {y dv : Value} {n a p : Int} (h : RtR K w B y n a p dv) (hk : ∀ b, B ≤ b → K b = 40 → b < w.heap.size → w'.heap[b]? = w.heap[b]?) (hK : ∀ b, K b = 40 → B ≤ b → b < w.heap.size → K' b = 40 ∧ B' ≤ b) : RtR K' w' B' y n a p dv := by
 obtain ⟨rA, rc, h1, h2, h3⟩ := h
 exact ⟨rA, rc, h1, h2.of_block (fun b hb => hk b (h3 b hb).2 (h3 b hb).1 (h2.lt b hb).2), fun b hb => hK b (h3 b hb).1 (h3 b hb).2 (h2.lt b hb).2⟩
def TrR (t : Nat) (K : Nat → Nat) (w : World) (wk st : Nat) (now draw : Int) (tried : Value) (L : List (List Int)) (n a p : Int) (Q : Value → (Nat → Nat) → World → Prop) (e : Ending) (w' : World) : Prop :=
 ∃ dA dn dc K' x y, e = .returned (.bool true) ∧ Q (.slice dA dn dc) K' w' ∧ Bk w' wk 374 (swC st now draw y x tried) ∧ RtR K' w' w.heap.size y n a p (.slice dA dn dc) ∧ FrR K' w' w.heap.size x L ∧ (∀ b, b < w.heap.size → K' b = K b) ∧ (∀ b, w.heap.size ≤ b → sideK t (K' b) ∨ K' b = 40) ∧ Chg (fun b => sideK t (K b) ∨ b = wk) w w'
theorem info_ret : (Tryz.prog.info? 65).map (fun i => (i.zero, i.size, i.bytes)) = some (some (.agg #[.int .i64 0, .int .i64 0, .int .i64 0, .int .u32 0, .int .i64 0, .slice none 0 0]), 6, 64) := by kernel_rfl
theorem retC_one (er n a p : Int) (A : Option Addr) (k c : Nat) : ∀ u ∈ (retC er n a p (.slice A k c)).toList, u.oneCell' = true := by
 intro u hu
 simp only [retC, List.mem_cons, List.not_mem_nil, or_false] at hu
 rcases hu with rfl | rfl | rfl | rfl | rfl | rfl <;> rfl
theorem eql_nilIf (w : World) : (binOp .eql 376 Value.nilIface Value.nilIface).run Tryz.prog w = .ok (.bool true) w := by kernel_rfl
set_option maxHeartbeats 8000000 in
set_option maxRecDepth 100000 in
theorem tries_nil (t : Nat) (ht : t ≤ 20) (K : Nat → Nat) (w : World) (st wk x gc : Nat) (now draw : Int) (tr : Value) (L : List (List Int)) (n a p : Int) (Q : Value → (Nat → Nat) → World → Prop) (hQ : Stab t Q) (hw : Bk w wk 374 (swC st now draw nilS nilS tr)) (hkw : K wk = 40) (hx : Bk w x 380 (wtC Value.nilIface 254 #[bp gc])) (hkx : K x = 40)
  (hT : ∀ K1 w1, (∀ b, b < w.heap.size → K1 b = K b) → (∀ b, w.heap.size ≤ b → K1 b = 40) → Chg (fun b => b = wk) w w1 → Bk w1 wk 374 (swC st now draw nilS nilS (bp x)) → Calls Tryz.prog 254 (#[bp wk, bp gc]) w1 (AttR t K1 w1 wk st now draw (bp x) L n a p Q)) :
  Calls Tryz.prog 186 #[bp wk, bp x] w (TrR t K w wk st now draw (bp x) L n a p Q) := by
 have he := eql_nilIf
 obtain ⟨W, hW⟩ : ∃ W, (w.alloc (.cells (retC 20 0 0 0 nilS) 65)).setCell ⟨wk, 5, none⟩ (bp x) = W := ⟨_, rfl⟩
 have hk0 := hw.alloc (.cells (retC 20 0 0 0 nilS) 65)
 have hx0 := hx.alloc (.cells (retC 20 0 0 0 nilS) 65)
 have hwr : wk ≠ w.heap.size := by have := hw.lt; omega
 have hxk : x ≠ wk := Bk.ne_ hx hw (by decide)
 have hr0 : Bk (w.alloc (.cells (retC 20 0 0 0 nilS) 65)) w.heap.size 65 (retC 20 0 0 0 nilS) := Bk.new _ _ _
 have hcW : Chg (fun b => b = wk) w W := by rw [← hW]; exact ((Chg.refl _ w).alloc _).set1 _
 have hkW : Bk W wk 374 (swC st now draw nilS nilS (bp x)) := by rw [← hW]; exact hk0.set 5 _
 have hxW : Bk W x 380 (wtC Value.nilIface 254 #[bp gc]) := by rw [← hW]; exact hx0.far hxk _
 have hrW : Bk W w.heap.size 65 (retC 20 0 0 0 nilS) := by rw [← hW]; exact hr0.far (Ne.symm hwr) _
 have x1 : (w.alloc (.cells (retC 20 0 0 0 nilS) 65)).cell? ⟨x, 1, none⟩ = some Value.nilIface := hx0.cell 1
 have u5 : (w.alloc (.cells (retC 20 0 0 0 nilS) 65)).cell? ⟨wk, 5, none⟩ = some tr := hk0.cell 5
 have fz5 := hk0.frozen 5
 have x2 : W.cell? ⟨x, 2, none⟩ = some (.func (.func 254) #[] #[bp gc]) := hxW.cell 2
 obtain ⟨K1, k1, k2⟩ : ∃ K1 : Nat → Nat, (∀ b, b < w.heap.size → K1 b = K b) ∧ ∀ b, w.heap.size ≤ b → K1 b = 40 := ⟨fun b => if b < w.heap.size then K b else 40, fun b hb => if_pos hb, fun b hb => if_neg (by omega)⟩
 have HT := Lib.hid (hT K1 W k1 k2 hcW hkW)
 unfold retC at x1 u5 fz5
 have HW : Hid ((w.alloc (.cells #[.int .i64 0, .int .i64 20, .int .i64 0, .int .u32 0, .int .i64 0, .slice none 0 0] 65)).setCell ⟨wk, 5, none⟩ (bp x) = W) := Lib.hid hW
 have HX := Lib.hid (And.intro hcW (And.intro hkW (And.intro hxW (And.intro hrW (And.intro k1 (And.intro k2 (And.intro hkw (And.intro hkx (And.intro hQ (And.intro hw (And.intro hx ht)))))))))))
 clear hT hW hk0 hx0 hr0 hcW hkW hxW hrW k1 k2 hw hx hkw hkx hQ hwr hxk ht
 go_enter Tryz.func186, Tryz.ntmps186
 go_upto_region 4 with (fail)
 rw [HW.out]
 go_wp2_with fail
 refine HT.out.mono ?_
 rintro e1 w1 ⟨dA, dn, dc, K2, x', rfl, hq, hw1, hfr, j1, j2, j3⟩
 have hcw : ∀ b, b < w.heap.size → K b = 40 → b ≠ wk → ¬ (sideK t (K1 b) ∨ b = wk) := fun b hb h hne e => by
  rcases e with e | e
  ·rw [HX.out.2.2.2.2.1 b hb, h] at e
   rcases e with e | e
   ·exact absurd e.2 (by have := HX.out.2.2.2.2.2.2.2.2.2.2.2; omega)
   ·have := HX.out.2.2.2.2.2.2.2.2.2.2.2; omega
  ·exact hne e
 have hwr : wk ≠ w.heap.size := by have := Bk.lt HX.out.2.2.2.2.2.2.2.2.2.1; omega
 have hxk : x ≠ wk := Bk.ne_ HX.out.2.2.1 HX.out.2.1 (by decide)
 have hxl := Bk.lt HX.out.2.2.2.2.2.2.2.2.2.2.1
 have hr1 : Bk w1 w.heap.size 65 (retC 20 0 0 0 nilS) := HX.out.2.2.2.1.chg j3 (fun e => by
  rcases e with e | e
  ·rw [HX.out.2.2.2.2.2.1 _ (Nat.le_refl _)] at e
   rcases e with e | e
   ·exact absurd e.2 (by have := HX.out.2.2.2.2.2.2.2.2.2.2.2; omega)
   ·have := HX.out.2.2.2.2.2.2.2.2.2.2.2; omega
  ·exact hwr e.symm)
 have hx1 := HX.out.2.2.1.chg j3 (hcw x hxl HX.out.2.2.2.2.2.2.2.1 hxk)
 have HP := Lib.hid (And.intro hq (And.intro hw1 (And.intro hfr (And.intro j1 (And.intro j2 j3)))))
 have HR1 := Lib.hid hr1
 have HX1 := Lib.hid hx1
 have HNE := Lib.hid (And.intro hwr hxl)
 clear hq hw1 hfr j1 j2 j3 hcw hwr hxk hxl hr1 hx1 x1 u5 fz5 x2
 go_wp2_with (first
  | (refine st_box 65 rfl (.tmp 5) (.tmp 35) rfl rfl rfl (cs := retC 0 n a p (.slice dA dn dc)) rfl HR1.out ret_size rfl (retC_all _ _ _ _ _ _ _) ?_; intro w2 hb2 g2 z2; have hx2 := HX1.out.grown g2 (fun e => by injection e with e; have := HNE.out.2; omega); have hk2 := HP.out.2.1.grown g2 (fun e => by injection e with e; exact HNE.out.1 e); have x0 : w2.cell? ⟨x, 0, none⟩ = some (.int .i64 0) := hx2.cell 0; have r1 : w2.cell? ⟨w.heap.size, 1, none⟩ = some (.int .i64 0) := hb2.cell 1; have r0 : w2.cell? ⟨w.heap.size, 0, none⟩ = some (.int .i64 0) := hb2.cell 0; have rf := hb2.frozen 0))
 obtain ⟨w3, hw3⟩ : ∃ w3, w2.setCell ⟨w.heap.size, 0, none⟩ (.int .i64 0) = w3 := ⟨_, rfl⟩
 rw [hw3]
 have hb3 : Bk w3 w.heap.size 65 (retC 0 n a p (.slice dA dn dc)) := by rw [← hw3]; exact hb2.set 0 _
 have hk3 : Bk w3 wk 374 (swC st now draw nilS x' (bp x)) := by rw [← hw3]; exact hk2.far HNE.out.1 _
 have hc3 : Chg (fun b => b = w.heap.size) w1 w3 := by rw [← hw3]; exact (Chg.of_grown (F := fun b => b = w.heap.size) g2 (fun b e => by injection e with e; exact e.symm)).set1 _
 have q0 : w3.cell? ⟨w.heap.size, 0, none⟩ = some (.int .i64 0) := hb3.cell 0
 have q1 : w3.cell? ⟨w.heap.size, 1, none⟩ = some (.int .i64 0) := hb3.cell 1
 have q2 : w3.cell? ⟨w.heap.size, 2, none⟩ = some (.int .i64 n) := hb3.cell 2
 have q3 : w3.cell? ⟨w.heap.size, 3, none⟩ = some (.int .u32 a) := hb3.cell 3
 have q4 : w3.cell? ⟨w.heap.size, 4, none⟩ = some (.int .i64 p) := hb3.cell 4
 have q5 : w3.cell? ⟨w.heap.size, 5, none⟩ = some (.slice dA dn dc) := hb3.cell 5
 have y3 : w3.cell? ⟨wk, 3, none⟩ = some (.slice none 0 0) := hk3.cell 3
 have y3a : ∀ o, (w3.alloc o).cell? ⟨wk, 3, none⟩ = some (.slice none 0 0) := fun o => (hk3.alloc o).cell 3
 have hby : (0 + 1) * 64 ≤ 140737488355328 := by omega
 have hmx : 0 + 1 ≤ maxLen := by unfold maxLen; omega
 have hone := retC_one 0 n a p dA dn dc
 have HK3 := Lib.hid hk3
 have HC3 := Lib.hid hc3
 clear hw3 hb3 hk3 hc3 hb2 g2 z2 hx2 hk2 x0 r1 r0 rf
 go_region_law (first
  | (refine st_mrd rfl (.tmp 76) (.tmp 78) 42 65 rfl (.agg #[.int .i64 0, .int .i64 0, .int .i64 0, .int .u32 0, .int .i64 0, .slice none 0 0]) 6 64 Tryz.underlying42 info_ret rfl (Nat.succ_pos 5) rfl (Mr.none_ _ _ _ _) (retC 0 n a p (.slice dA dn dc)).toList rfl rfl rfl hone hby hmx ?_; intro g4 c4 w4 h2 h3 h4 h5; have hk4 := HK3.out.grown h3 (fun e => by cases e); have u3 : w4.cell? ⟨wk, 3, none⟩ = some (.slice none 0 0) := hk4.cell 3; have fz3 := hk4.frozen 3))
 all_goals
  clear q0 q1 q2 q3 q4 q5 y3 y3a
  go_wp2
  go_ret
  obtain ⟨hq, hw1, hfr, j1, j2, j3⟩ := HP.out
  obtain ⟨e1, e2, e3, e4, e5, e6, e7, e8, e9, e10, e11, e12⟩ := HX.out
  have hwl := e10.lt
  have hg4 : w3.heap.size < g4 := by rcases h4 with e | e; cases e; exact e
  have l1 := e1.size
  have l2 := j3.size
  have l3 := HC3.out.size
  obtain ⟨K', m1, m2⟩ : ∃ K' : Nat → Nat, (∀ b, b < w1.heap.size → K' b = K2 b) ∧ ∀ b, w1.heap.size ≤ b → K' b = 40 := ⟨fun b => if b < w1.heap.size then K2 b else 40, fun b hb => if_pos hb, fun b hb => if_neg (by omega)⟩
  have hcc : Chg (fun b => b = wk ∨ b = w.heap.size) w1 (w4.setCell ⟨wk, 3, none⟩ (.slice (some ⟨g4, 0, none⟩) (0 + 1) c4)) := (((HC3.out.mono (fun _ _ e => .inr e)).trans (Chg.of_grown (F := fun _ => False) h3 (fun b e => by cases e)) (fun _ e => e.elim))).setCell (p := ⟨wk, 3, none⟩) (.inl (.inl rfl)) _
  have hK2 : ∀ b, b < w.heap.size → K2 b = K b := fun b hb => (j1 b (by omega)).trans (e5 b hb)
  have hn : ∀ b, sideK t (K2 b) → b < w1.heap.size → ¬ (b = wk ∨ b = w.heap.size) := fun b hk hb e => by
   have n40 : ¬ sideK t 40 := by
    rintro (h | h)
    ·exact absurd h.2 (by omega)
    ·omega
   rcases e with e | e
   ·apply n40; rw [← e7, ← hK2 wk hwl, ← e]; exact hk
   ·apply n40
    rcases Nat.lt_or_ge w.heap.size W.heap.size with hh | hh
    ·rw [← e6 _ (Nat.le_refl _), ← j1 _ hh, ← e]; exact hk
    ·exact absurd (Bk.lt e4) (by omega)
  have hmr : Mr 65 6 (w4.setCell ⟨wk, 3, none⟩ (.slice (some ⟨g4, 0, none⟩) (0 + 1) c4)) 0 (some ⟨g4, 0, none⟩) 1 c4 (retC 0 n a p (.slice dA dn dc)).toList := by
   have := h2.setCell (p := ⟨wk, 3, none⟩) (by simp only [blk, Option.map_some]; intro e; injection e with e; omega) (.slice (some ⟨g4, 0, none⟩) (0 + 1) c4)
   simpa using this
  refine ⟨dA, dn, dc, K', x', _, rfl, e9 _ _ _ _ _ _ hq hcc (fun b hb hk => hn b hk hb) (fun b hb _ => m1 b hb), hk4.set 3 _, ⟨some ⟨g4, 0, none⟩, c4, rfl, hmr, fun b hb => ?_⟩, ?_, fun b hb => (m1 b (by omega)).trans (hK2 b hb), fun b hb => ?_, ?_⟩
  ·have hb' : g4 = b := by simpa [blk] using hb
   exact ⟨m2 b (by omega), by omega⟩
  ·exact hfr.keep (fun b hb1 hb2 hb3 => hcc.block b hb3 (by have := Bk.lt e4; omega)) (fun b hb1 hb2 hb3 => ⟨(m1 b hb3).trans hb1, by omega⟩)
  ·rcases Nat.lt_or_ge b w1.heap.size with h | h
   ·rw [m1 b h]
    rcases Nat.lt_or_ge b W.heap.size with h' | h'
    ·right; rw [j1 b h']; exact e6 b hb
    ·exact j2 b h'
   ·exact .inr (m2 b h)
  ·refine ((e1.mono (fun _ _ e => .inr e)).trans j3 (fun y e => ?_)).trans hcc (fun y e => by rcases e with e | e; exact .inl (.inr e); exact .inr (by omega))
   rcases Nat.lt_or_ge y w.heap.size with h | h
   ·left; rw [← e5 y h]; exact e
   ·exact .inr h
set_option maxHeartbeats 8000000 in
set_option maxRecDepth 100000 in
theorem tries_bind (t : Nat) (ht : t ≤ 20) (K : Nat → Nat) (w : World) (st wk x gs gc s : Nat) (now draw : Int) (tr : Value) (L : List (List Int)) (n a p : Int) (Q : Value → (Nat → Nat) → World → Prop) (hQ : Stab t Q) (hw : Bk w wk 374 (swC st now draw nilS nilS tr)) (hkw : K wk = 40) (hx : Bk w x 380 (wtC (ifS s) 258 #[bp gs, bp gc])) (hkx : K x = 40) (sb : Bool) (sp : Int) (hsk : Bk w s 443 (dgS sb sp))
  (hT : ∀ K1 w1, (∀ b, b < w.heap.size → K1 b = K b) → (∀ b, w.heap.size ≤ b → K1 b = 40) → Chg (fun b => b = wk) w w1 → Bk w1 wk 374 (swC st now draw nilS nilS (bp x)) → Calls Tryz.prog 258 (#[bp wk, bp gs, bp gc]) w1 (AttR t K1 w1 wk st now draw (bp x) L n a p Q)) :
  Calls Tryz.prog 186 #[bp wk, bp x] w (TrR t K w wk st now draw (bp x) L n a p Q) := by
 have he := eql_nilIf
 have he2 : ∀ w, (binOp .eql 376 (ifS s) Value.nilIface).run Tryz.prog w = .ok (.bool false) w := fun w => by kernel_rfl
 have hmd : ∀ w, (method 669 439 (bp s) "wharf/sock.base").run Tryz.prog w = .ok (414, bp s) w := fun w => meth_base s w
 have s1 : ∀ o, (w.alloc o).cell? ⟨s, 1, none⟩ = some (.bool false) := fun o => (hsk.alloc o).cell 1
 obtain ⟨W, hW⟩ : ∃ W, (w.alloc (.cells (retC 20 0 0 0 nilS) 65)).setCell ⟨wk, 5, none⟩ (bp x) = W := ⟨_, rfl⟩
 have hk0 := hw.alloc (.cells (retC 20 0 0 0 nilS) 65)
 have hx0 := hx.alloc (.cells (retC 20 0 0 0 nilS) 65)
 have hwr : wk ≠ w.heap.size := by have := hw.lt; omega
 have hxk : x ≠ wk := Bk.ne_ hx hw (by decide)
 have hr0 : Bk (w.alloc (.cells (retC 20 0 0 0 nilS) 65)) w.heap.size 65 (retC 20 0 0 0 nilS) := Bk.new _ _ _
 have hcW : Chg (fun b => b = wk) w W := by rw [← hW]; exact ((Chg.refl _ w).alloc _).set1 _
 have hkW : Bk W wk 374 (swC st now draw nilS nilS (bp x)) := by rw [← hW]; exact hk0.set 5 _
 have hxW : Bk W x 380 (wtC (ifS s) 258 #[bp gs, bp gc]) := by rw [← hW]; exact hx0.far hxk _
 have hrW : Bk W w.heap.size 65 (retC 20 0 0 0 nilS) := by rw [← hW]; exact hr0.far (Ne.symm hwr) _
 have x1 : (w.alloc (.cells (retC 20 0 0 0 nilS) 65)).cell? ⟨x, 1, none⟩ = some (ifS s) := hx0.cell 1
 have u5 : (w.alloc (.cells (retC 20 0 0 0 nilS) 65)).cell? ⟨wk, 5, none⟩ = some tr := hk0.cell 5
 have fz5 := hk0.frozen 5
 have x2 : W.cell? ⟨x, 2, none⟩ = some (.func (.func 258) #[] #[bp gs, bp gc]) := hxW.cell 2
 obtain ⟨K1, k1, k2⟩ : ∃ K1 : Nat → Nat, (∀ b, b < w.heap.size → K1 b = K b) ∧ ∀ b, w.heap.size ≤ b → K1 b = 40 := ⟨fun b => if b < w.heap.size then K b else 40, fun b hb => if_pos hb, fun b hb => if_neg (by omega)⟩
 have HT := Lib.hid (hT K1 W k1 k2 hcW hkW)
 unfold retC at x1 u5 fz5
 have HW : Hid ((w.alloc (.cells #[.int .i64 0, .int .i64 20, .int .i64 0, .int .u32 0, .int .i64 0, .slice none 0 0] 65)).setCell ⟨wk, 5, none⟩ (bp x) = W) := Lib.hid hW
 have HX := Lib.hid (And.intro hcW (And.intro hkW (And.intro hxW (And.intro hrW (And.intro k1 (And.intro k2 (And.intro hkw (And.intro hkx (And.intro hQ (And.intro hw (And.intro hx ht)))))))))))
 clear hT hW hk0 hx0 hr0 hcW hkW hxW hrW k1 k2 hw hx hkw hkx hQ hwr hxk ht hsk
 go_enter Tryz.func186, Tryz.ntmps186
 go_upto_region 4 with (go_at_call 414; refine (sbase_any _ _).mono ?_; rintro e0 w0 ⟨rfl, rfl⟩)
 rw [HW.out]
 go_wp2_with fail
 refine HT.out.mono ?_
 rintro e1 w1 ⟨dA, dn, dc, K2, x', rfl, hq, hw1, hfr, j1, j2, j3⟩
 have hcw : ∀ b, b < w.heap.size → K b = 40 → b ≠ wk → ¬ (sideK t (K1 b) ∨ b = wk) := fun b hb h hne e => by
  rcases e with e | e
  ·rw [HX.out.2.2.2.2.1 b hb, h] at e
   rcases e with e | e
   ·exact absurd e.2 (by have := HX.out.2.2.2.2.2.2.2.2.2.2.2; omega)
   ·have := HX.out.2.2.2.2.2.2.2.2.2.2.2; omega
  ·exact hne e
 have hwr : wk ≠ w.heap.size := by have := Bk.lt HX.out.2.2.2.2.2.2.2.2.2.1; omega
 have hxk : x ≠ wk := Bk.ne_ HX.out.2.2.1 HX.out.2.1 (by decide)
 have hxl := Bk.lt HX.out.2.2.2.2.2.2.2.2.2.2.1
 have hr1 : Bk w1 w.heap.size 65 (retC 20 0 0 0 nilS) := HX.out.2.2.2.1.chg j3 (fun e => by
  rcases e with e | e
  ·rw [HX.out.2.2.2.2.2.1 _ (Nat.le_refl _)] at e
   rcases e with e | e
   ·exact absurd e.2 (by have := HX.out.2.2.2.2.2.2.2.2.2.2.2; omega)
   ·have := HX.out.2.2.2.2.2.2.2.2.2.2.2; omega
  ·exact hwr e.symm)
 have hx1 := HX.out.2.2.1.chg j3 (hcw x hxl HX.out.2.2.2.2.2.2.2.1 hxk)
 have HP := Lib.hid (And.intro hq (And.intro hw1 (And.intro hfr (And.intro j1 (And.intro j2 j3)))))
 have HR1 := Lib.hid hr1
 have HX1 := Lib.hid hx1
 have HNE := Lib.hid (And.intro hwr hxl)
 clear hq hw1 hfr j1 j2 j3 hcw hwr hxk hxl hr1 hx1 x1 u5 fz5 x2
 go_wp2_with (first
  | (refine st_box 65 rfl (.tmp 5) (.tmp 35) rfl rfl rfl (cs := retC 0 n a p (.slice dA dn dc)) rfl HR1.out ret_size rfl (retC_all _ _ _ _ _ _ _) ?_; intro w2 hb2 g2 z2; have hx2 := HX1.out.grown g2 (fun e => by injection e with e; have := HNE.out.2; omega); have hk2 := HP.out.2.1.grown g2 (fun e => by injection e with e; exact HNE.out.1 e); have x0 : w2.cell? ⟨x, 0, none⟩ = some (.int .i64 0) := hx2.cell 0; have r1 : w2.cell? ⟨w.heap.size, 1, none⟩ = some (.int .i64 0) := hb2.cell 1; have r0 : w2.cell? ⟨w.heap.size, 0, none⟩ = some (.int .i64 0) := hb2.cell 0; have rf := hb2.frozen 0))
 obtain ⟨w3, hw3⟩ : ∃ w3, w2.setCell ⟨w.heap.size, 0, none⟩ (.int .i64 0) = w3 := ⟨_, rfl⟩
 rw [hw3]
 have hb3 : Bk w3 w.heap.size 65 (retC 0 n a p (.slice dA dn dc)) := by rw [← hw3]; exact hb2.set 0 _
 have hk3 : Bk w3 wk 374 (swC st now draw nilS x' (bp x)) := by rw [← hw3]; exact hk2.far HNE.out.1 _
 have hc3 : Chg (fun b => b = w.heap.size) w1 w3 := by rw [← hw3]; exact (Chg.of_grown (F := fun b => b = w.heap.size) g2 (fun b e => by injection e with e; exact e.symm)).set1 _
 have q0 : w3.cell? ⟨w.heap.size, 0, none⟩ = some (.int .i64 0) := hb3.cell 0
 have q1 : w3.cell? ⟨w.heap.size, 1, none⟩ = some (.int .i64 0) := hb3.cell 1
 have q2 : w3.cell? ⟨w.heap.size, 2, none⟩ = some (.int .i64 n) := hb3.cell 2
 have q3 : w3.cell? ⟨w.heap.size, 3, none⟩ = some (.int .u32 a) := hb3.cell 3
 have q4 : w3.cell? ⟨w.heap.size, 4, none⟩ = some (.int .i64 p) := hb3.cell 4
 have q5 : w3.cell? ⟨w.heap.size, 5, none⟩ = some (.slice dA dn dc) := hb3.cell 5
 have y3 : w3.cell? ⟨wk, 3, none⟩ = some (.slice none 0 0) := hk3.cell 3
 have y3a : ∀ o, (w3.alloc o).cell? ⟨wk, 3, none⟩ = some (.slice none 0 0) := fun o => (hk3.alloc o).cell 3
 have hby : (0 + 1) * 64 ≤ 140737488355328 := by omega
 have hmx : 0 + 1 ≤ maxLen := by unfold maxLen; omega
 have hone := retC_one 0 n a p dA dn dc
 have HK3 := Lib.hid hk3
 have HC3 := Lib.hid hc3
 clear hw3 hb3 hk3 hc3 hb2 g2 z2 hx2 hk2 x0 r1 r0 rf
 go_region_law (first
  | (refine st_mrd rfl (.tmp 76) (.tmp 78) 42 65 rfl (.agg #[.int .i64 0, .int .i64 0, .int .i64 0, .int .u32 0, .int .i64 0, .slice none 0 0]) 6 64 Tryz.underlying42 info_ret rfl (Nat.succ_pos 5) rfl (Mr.none_ _ _ _ _) (retC 0 n a p (.slice dA dn dc)).toList rfl rfl rfl hone hby hmx ?_; intro g4 c4 w4 h2 h3 h4 h5; have hk4 := HK3.out.grown h3 (fun e => by cases e); have u3 : w4.cell? ⟨wk, 3, none⟩ = some (.slice none 0 0) := hk4.cell 3; have fz3 := hk4.frozen 3))
 all_goals
  clear q0 q1 q2 q3 q4 q5 y3 y3a
  go_wp2
  go_ret
  obtain ⟨hq, hw1, hfr, j1, j2, j3⟩ := HP.out
  obtain ⟨e1, e2, e3, e4, e5, e6, e7, e8, e9, e10, e11, e12⟩ := HX.out
  have hwl := e10.lt
  have hg4 : w3.heap.size < g4 := by rcases h4 with e | e; cases e; exact e
  have l1 := e1.size
  have l2 := j3.size
  have l3 := HC3.out.size
  obtain ⟨K', m1, m2⟩ : ∃ K' : Nat → Nat, (∀ b, b < w1.heap.size → K' b = K2 b) ∧ ∀ b, w1.heap.size ≤ b → K' b = 40 := ⟨fun b => if b < w1.heap.size then K2 b else 40, fun b hb => if_pos hb, fun b hb => if_neg (by omega)⟩
  have hcc : Chg (fun b => b = wk ∨ b = w.heap.size) w1 (w4.setCell ⟨wk, 3, none⟩ (.slice (some ⟨g4, 0, none⟩) (0 + 1) c4)) := (((HC3.out.mono (fun _ _ e => .inr e)).trans (Chg.of_grown (F := fun _ => False) h3 (fun b e => by cases e)) (fun _ e => e.elim))).setCell (p := ⟨wk, 3, none⟩) (.inl (.inl rfl)) _
  have hK2 : ∀ b, b < w.heap.size → K2 b = K b := fun b hb => (j1 b (by omega)).trans (e5 b hb)
  have hn : ∀ b, sideK t (K2 b) → b < w1.heap.size → ¬ (b = wk ∨ b = w.heap.size) := fun b hk hb e => by
   have n40 : ¬ sideK t 40 := by
    rintro (h | h)
    ·exact absurd h.2 (by omega)
    ·omega
   rcases e with e | e
   ·apply n40; rw [← e7, ← hK2 wk hwl, ← e]; exact hk
   ·apply n40
    rcases Nat.lt_or_ge w.heap.size W.heap.size with hh | hh
    ·rw [← e6 _ (Nat.le_refl _), ← j1 _ hh, ← e]; exact hk
    ·exact absurd (Bk.lt e4) (by omega)
  have hmr : Mr 65 6 (w4.setCell ⟨wk, 3, none⟩ (.slice (some ⟨g4, 0, none⟩) (0 + 1) c4)) 0 (some ⟨g4, 0, none⟩) 1 c4 (retC 0 n a p (.slice dA dn dc)).toList := by
   have := h2.setCell (p := ⟨wk, 3, none⟩) (by simp only [blk, Option.map_some]; intro e; injection e with e; omega) (.slice (some ⟨g4, 0, none⟩) (0 + 1) c4)
   simpa using this
  refine ⟨dA, dn, dc, K', x', _, rfl, e9 _ _ _ _ _ _ hq hcc (fun b hb hk => hn b hk hb) (fun b hb _ => m1 b hb), hk4.set 3 _, ⟨some ⟨g4, 0, none⟩, c4, rfl, hmr, fun b hb => ?_⟩, ?_, fun b hb => (m1 b (by omega)).trans (hK2 b hb), fun b hb => ?_, ?_⟩
  ·have hb' : g4 = b := by simpa [blk] using hb
   exact ⟨m2 b (by omega), by omega⟩
  ·exact hfr.keep (fun b hb1 hb2 hb3 => hcc.block b hb3 (by have := Bk.lt e4; omega)) (fun b hb1 hb2 hb3 => ⟨(m1 b hb3).trans hb1, by omega⟩)
  ·rcases Nat.lt_or_ge b w1.heap.size with h | h
   ·rw [m1 b h]
    rcases Nat.lt_or_ge b W.heap.size with h' | h'
    ·right; rw [j1 b h']; exact e6 b hb
    ·exact j2 b h'
   ·exact .inr (m2 b h)
  ·refine ((e1.mono (fun _ _ e => .inr e)).trans j3 (fun y e => ?_)).trans hcc (fun y e => by rcases e with e | e; exact .inl (.inr e); exact .inr (by omega))
   rcases Nat.lt_or_ge y w.heap.size with h | h
   ·left; rw [← e5 y h]; exact e
   ·exact .inr h
set_option maxHeartbeats 8000000 in
set_option maxRecDepth 100000 in
theorem tries_send (t : Nat) (ht : t ≤ 20) (K : Nat → Nat) (w : World) (st wk x g9 g5 g6 g7 g8 s : Nat) (now draw : Int) (tr : Value) (L : List (List Int)) (n a p : Int) (Q : Value → (Nat → Nat) → World → Prop) (hQ : Stab t Q) (hw : Bk w wk 374 (swC st now draw nilS nilS tr)) (hkw : K wk = 40) (hx : Bk w x 380 (wtC (ifS s) 315 #[bp g9, bp g5, bp g6, bp g7, bp g8])) (hkx : K x = 40) (sb : Bool) (sp : Int) (hsk : Bk w s 443 (dgS sb sp))
  (hT : ∀ K1 w1, (∀ b, b < w.heap.size → K1 b = K b) → (∀ b, w.heap.size ≤ b → K1 b = 40) → Chg (fun b => b = wk) w w1 → Bk w1 wk 374 (swC st now draw nilS nilS (bp x)) → Calls Tryz.prog 315 (#[bp wk, bp g9, bp g5, bp g6, bp g7, bp g8]) w1 (AttR t K1 w1 wk st now draw (bp x) L n a p Q)) :
  Calls Tryz.prog 186 #[bp wk, bp x] w (TrR t K w wk st now draw (bp x) L n a p Q) := by
 have he := eql_nilIf
 have he2 : ∀ w, (binOp .eql 376 (ifS s) Value.nilIface).run Tryz.prog w = .ok (.bool false) w := fun w => by kernel_rfl
 have hmd : ∀ w, (method 669 439 (bp s) "wharf/sock.base").run Tryz.prog w = .ok (414, bp s) w := fun w => meth_base s w
 have s1 : ∀ o, (w.alloc o).cell? ⟨s, 1, none⟩ = some (.bool false) := fun o => (hsk.alloc o).cell 1
 obtain ⟨W, hW⟩ : ∃ W, (w.alloc (.cells (retC 20 0 0 0 nilS) 65)).setCell ⟨wk, 5, none⟩ (bp x) = W := ⟨_, rfl⟩
 have hk0 := hw.alloc (.cells (retC 20 0 0 0 nilS) 65)
 have hx0 := hx.alloc (.cells (retC 20 0 0 0 nilS) 65)
 have hwr : wk ≠ w.heap.size := by have := hw.lt; omega
 have hxk : x ≠ wk := Bk.ne_ hx hw (by decide)
 have hr0 : Bk (w.alloc (.cells (retC 20 0 0 0 nilS) 65)) w.heap.size 65 (retC 20 0 0 0 nilS) := Bk.new _ _ _
 have hcW : Chg (fun b => b = wk) w W := by rw [← hW]; exact ((Chg.refl _ w).alloc _).set1 _
 have hkW : Bk W wk 374 (swC st now draw nilS nilS (bp x)) := by rw [← hW]; exact hk0.set 5 _
 have hxW : Bk W x 380 (wtC (ifS s) 315 #[bp g9, bp g5, bp g6, bp g7, bp g8]) := by rw [← hW]; exact hx0.far hxk _
 have hrW : Bk W w.heap.size 65 (retC 20 0 0 0 nilS) := by rw [← hW]; exact hr0.far (Ne.symm hwr) _
 have x1 : (w.alloc (.cells (retC 20 0 0 0 nilS) 65)).cell? ⟨x, 1, none⟩ = some (ifS s) := hx0.cell 1
 have u5 : (w.alloc (.cells (retC 20 0 0 0 nilS) 65)).cell? ⟨wk, 5, none⟩ = some tr := hk0.cell 5
 have fz5 := hk0.frozen 5
 have x2 : W.cell? ⟨x, 2, none⟩ = some (.func (.func 315) #[] #[bp g9, bp g5, bp g6, bp g7, bp g8]) := hxW.cell 2
 obtain ⟨K1, k1, k2⟩ : ∃ K1 : Nat → Nat, (∀ b, b < w.heap.size → K1 b = K b) ∧ ∀ b, w.heap.size ≤ b → K1 b = 40 := ⟨fun b => if b < w.heap.size then K b else 40, fun b hb => if_pos hb, fun b hb => if_neg (by omega)⟩
 have HT := Lib.hid (hT K1 W k1 k2 hcW hkW)
 unfold retC at x1 u5 fz5
 have HW : Hid ((w.alloc (.cells #[.int .i64 0, .int .i64 20, .int .i64 0, .int .u32 0, .int .i64 0, .slice none 0 0] 65)).setCell ⟨wk, 5, none⟩ (bp x) = W) := Lib.hid hW
 have HX := Lib.hid (And.intro hcW (And.intro hkW (And.intro hxW (And.intro hrW (And.intro k1 (And.intro k2 (And.intro hkw (And.intro hkx (And.intro hQ (And.intro hw (And.intro hx ht)))))))))))
 clear hT hW hk0 hx0 hr0 hcW hkW hxW hrW k1 k2 hw hx hkw hkx hQ hwr hxk ht hsk
 go_enter Tryz.func186, Tryz.ntmps186
 go_upto_region 4 with (go_at_call 414; refine (sbase_any _ _).mono ?_; rintro e0 w0 ⟨rfl, rfl⟩)
 rw [HW.out]
 go_wp2_with fail
 refine HT.out.mono ?_
 rintro e1 w1 ⟨dA, dn, dc, K2, x', rfl, hq, hw1, hfr, j1, j2, j3⟩
 have hcw : ∀ b, b < w.heap.size → K b = 40 → b ≠ wk → ¬ (sideK t (K1 b) ∨ b = wk) := fun b hb h hne e => by
  rcases e with e | e
  ·rw [HX.out.2.2.2.2.1 b hb, h] at e
   rcases e with e | e
   ·exact absurd e.2 (by have := HX.out.2.2.2.2.2.2.2.2.2.2.2; omega)
   ·have := HX.out.2.2.2.2.2.2.2.2.2.2.2; omega
  ·exact hne e
 have hwr : wk ≠ w.heap.size := by have := Bk.lt HX.out.2.2.2.2.2.2.2.2.2.1; omega
 have hxk : x ≠ wk := Bk.ne_ HX.out.2.2.1 HX.out.2.1 (by decide)
 have hxl := Bk.lt HX.out.2.2.2.2.2.2.2.2.2.2.1
 have hr1 : Bk w1 w.heap.size 65 (retC 20 0 0 0 nilS) := HX.out.2.2.2.1.chg j3 (fun e => by
  rcases e with e | e
  ·rw [HX.out.2.2.2.2.2.1 _ (Nat.le_refl _)] at e
   rcases e with e | e
   ·exact absurd e.2 (by have := HX.out.2.2.2.2.2.2.2.2.2.2.2; omega)
   ·have := HX.out.2.2.2.2.2.2.2.2.2.2.2; omega
  ·exact hwr e.symm)
 have hx1 := HX.out.2.2.1.chg j3 (hcw x hxl HX.out.2.2.2.2.2.2.2.1 hxk)
 have HP := Lib.hid (And.intro hq (And.intro hw1 (And.intro hfr (And.intro j1 (And.intro j2 j3)))))
 have HR1 := Lib.hid hr1
 have HX1 := Lib.hid hx1
 have HNE := Lib.hid (And.intro hwr hxl)
 clear hq hw1 hfr j1 j2 j3 hcw hwr hxk hxl hr1 hx1 x1 u5 fz5 x2
 go_wp2_with (first
  | (refine st_box 65 rfl (.tmp 5) (.tmp 35) rfl rfl rfl (cs := retC 0 n a p (.slice dA dn dc)) rfl HR1.out ret_size rfl (retC_all _ _ _ _ _ _ _) ?_; intro w2 hb2 g2 z2; have hx2 := HX1.out.grown g2 (fun e => by injection e with e; have := HNE.out.2; omega); have hk2 := HP.out.2.1.grown g2 (fun e => by injection e with e; exact HNE.out.1 e); have x0 : w2.cell? ⟨x, 0, none⟩ = some (.int .i64 0) := hx2.cell 0; have r1 : w2.cell? ⟨w.heap.size, 1, none⟩ = some (.int .i64 0) := hb2.cell 1; have r0 : w2.cell? ⟨w.heap.size, 0, none⟩ = some (.int .i64 0) := hb2.cell 0; have rf := hb2.frozen 0))
 obtain ⟨w3, hw3⟩ : ∃ w3, w2.setCell ⟨w.heap.size, 0, none⟩ (.int .i64 0) = w3 := ⟨_, rfl⟩
 rw [hw3]
 have hb3 : Bk w3 w.heap.size 65 (retC 0 n a p (.slice dA dn dc)) := by rw [← hw3]; exact hb2.set 0 _
 have hk3 : Bk w3 wk 374 (swC st now draw nilS x' (bp x)) := by rw [← hw3]; exact hk2.far HNE.out.1 _
 have hc3 : Chg (fun b => b = w.heap.size) w1 w3 := by rw [← hw3]; exact (Chg.of_grown (F := fun b => b = w.heap.size) g2 (fun b e => by injection e with e; exact e.symm)).set1 _
 have q0 : w3.cell? ⟨w.heap.size, 0, none⟩ = some (.int .i64 0) := hb3.cell 0
 have q1 : w3.cell? ⟨w.heap.size, 1, none⟩ = some (.int .i64 0) := hb3.cell 1
 have q2 : w3.cell? ⟨w.heap.size, 2, none⟩ = some (.int .i64 n) := hb3.cell 2
 have q3 : w3.cell? ⟨w.heap.size, 3, none⟩ = some (.int .u32 a) := hb3.cell 3
 have q4 : w3.cell? ⟨w.heap.size, 4, none⟩ = some (.int .i64 p) := hb3.cell 4
 have q5 : w3.cell? ⟨w.heap.size, 5, none⟩ = some (.slice dA dn dc) := hb3.cell 5
 have y3 : w3.cell? ⟨wk, 3, none⟩ = some (.slice none 0 0) := hk3.cell 3
 have y3a : ∀ o, (w3.alloc o).cell? ⟨wk, 3, none⟩ = some (.slice none 0 0) := fun o => (hk3.alloc o).cell 3
 have hby : (0 + 1) * 64 ≤ 140737488355328 := by omega
 have hmx : 0 + 1 ≤ maxLen := by unfold maxLen; omega
 have hone := retC_one 0 n a p dA dn dc
 have HK3 := Lib.hid hk3
 have HC3 := Lib.hid hc3
 clear hw3 hb3 hk3 hc3 hb2 g2 z2 hx2 hk2 x0 r1 r0 rf
 go_region_law (first
  | (refine st_mrd rfl (.tmp 76) (.tmp 78) 42 65 rfl (.agg #[.int .i64 0, .int .i64 0, .int .i64 0, .int .u32 0, .int .i64 0, .slice none 0 0]) 6 64 Tryz.underlying42 info_ret rfl (Nat.succ_pos 5) rfl (Mr.none_ _ _ _ _) (retC 0 n a p (.slice dA dn dc)).toList rfl rfl rfl hone hby hmx ?_; intro g4 c4 w4 h2 h3 h4 h5; have hk4 := HK3.out.grown h3 (fun e => by cases e); have u3 : w4.cell? ⟨wk, 3, none⟩ = some (.slice none 0 0) := hk4.cell 3; have fz3 := hk4.frozen 3))
 all_goals
  clear q0 q1 q2 q3 q4 q5 y3 y3a
  go_wp2
  go_ret
  obtain ⟨hq, hw1, hfr, j1, j2, j3⟩ := HP.out
  obtain ⟨e1, e2, e3, e4, e5, e6, e7, e8, e9, e10, e11, e12⟩ := HX.out
  have hwl := e10.lt
  have hg4 : w3.heap.size < g4 := by rcases h4 with e | e; cases e; exact e
  have l1 := e1.size
  have l2 := j3.size
  have l3 := HC3.out.size
  obtain ⟨K', m1, m2⟩ : ∃ K' : Nat → Nat, (∀ b, b < w1.heap.size → K' b = K2 b) ∧ ∀ b, w1.heap.size ≤ b → K' b = 40 := ⟨fun b => if b < w1.heap.size then K2 b else 40, fun b hb => if_pos hb, fun b hb => if_neg (by omega)⟩
  have hcc : Chg (fun b => b = wk ∨ b = w.heap.size) w1 (w4.setCell ⟨wk, 3, none⟩ (.slice (some ⟨g4, 0, none⟩) (0 + 1) c4)) := (((HC3.out.mono (fun _ _ e => .inr e)).trans (Chg.of_grown (F := fun _ => False) h3 (fun b e => by cases e)) (fun _ e => e.elim))).setCell (p := ⟨wk, 3, none⟩) (.inl (.inl rfl)) _
  have hK2 : ∀ b, b < w.heap.size → K2 b = K b := fun b hb => (j1 b (by omega)).trans (e5 b hb)
  have hn : ∀ b, sideK t (K2 b) → b < w1.heap.size → ¬ (b = wk ∨ b = w.heap.size) := fun b hk hb e => by
   have n40 : ¬ sideK t 40 := by
    rintro (h | h)
    ·exact absurd h.2 (by omega)
    ·omega
   rcases e with e | e
   ·apply n40; rw [← e7, ← hK2 wk hwl, ← e]; exact hk
   ·apply n40
    rcases Nat.lt_or_ge w.heap.size W.heap.size with hh | hh
    ·rw [← e6 _ (Nat.le_refl _), ← j1 _ hh, ← e]; exact hk
    ·exact absurd (Bk.lt e4) (by omega)
  have hmr : Mr 65 6 (w4.setCell ⟨wk, 3, none⟩ (.slice (some ⟨g4, 0, none⟩) (0 + 1) c4)) 0 (some ⟨g4, 0, none⟩) 1 c4 (retC 0 n a p (.slice dA dn dc)).toList := by
   have := h2.setCell (p := ⟨wk, 3, none⟩) (by simp only [blk, Option.map_some]; intro e; injection e with e; omega) (.slice (some ⟨g4, 0, none⟩) (0 + 1) c4)
   simpa using this
  refine ⟨dA, dn, dc, K', x', _, rfl, e9 _ _ _ _ _ _ hq hcc (fun b hb hk => hn b hk hb) (fun b hb _ => m1 b hb), hk4.set 3 _, ⟨some ⟨g4, 0, none⟩, c4, rfl, hmr, fun b hb => ?_⟩, ?_, fun b hb => (m1 b (by omega)).trans (hK2 b hb), fun b hb => ?_, ?_⟩
  ·have hb' : g4 = b := by simpa [blk] using hb
   exact ⟨m2 b (by omega), by omega⟩
  ·exact hfr.keep (fun b hb1 hb2 hb3 => hcc.block b hb3 (by have := Bk.lt e4; omega)) (fun b hb1 hb2 hb3 => ⟨(m1 b hb3).trans hb1, by omega⟩)
  ·rcases Nat.lt_or_ge b w1.heap.size with h | h
   ·rw [m1 b h]
    rcases Nat.lt_or_ge b W.heap.size with h' | h'
    ·right; rw [j1 b h']; exact e6 b hb
    ·exact j2 b h'
   ·exact .inr (m2 b h)
  ·refine ((e1.mono (fun _ _ e => .inr e)).trans j3 (fun y e => ?_)).trans hcc (fun y e => by rcases e with e | e; exact .inl (.inr e); exact .inr (by omega))
   rcases Nat.lt_or_ge y w.heap.size with h | h
   ·left; rw [← e5 y h]; exact e
   ·exact .inr h
set_option maxHeartbeats 8000000 in
set_option maxRecDepth 100000 in
theorem tries_recv (t : Nat) (ht : t ≤ 20) (K : Nat → Nat) (w : World) (st wk x gs gc s : Nat) (now draw : Int) (tr : Value) (L : List (List Int)) (n a p : Int) (Q : Value → (Nat → Nat) → World → Prop) (hQ : Stab t Q) (hw : Bk w wk 374 (swC st now draw nilS nilS tr)) (hkw : K wk = 40) (hx : Bk w x 380 (wtC (ifS s) 425 #[bp gs, bp gc])) (hkx : K x = 40) (sb : Bool) (sp : Int) (hsk : Bk w s 443 (dgS sb sp))
  (hT : ∀ K1 w1, (∀ b, b < w.heap.size → K1 b = K b) → (∀ b, w.heap.size ≤ b → K1 b = 40) → Chg (fun b => b = wk) w w1 → Bk w1 wk 374 (swC st now draw nilS nilS (bp x)) → Calls Tryz.prog 425 (#[bp wk, bp gs, bp gc]) w1 (AttR t K1 w1 wk st now draw (bp x) L n a p Q)) :
  Calls Tryz.prog 186 #[bp wk, bp x] w (TrR t K w wk st now draw (bp x) L n a p Q) := by
 have he := eql_nilIf
 have he2 : ∀ w, (binOp .eql 376 (ifS s) Value.nilIface).run Tryz.prog w = .ok (.bool false) w := fun w => by kernel_rfl
 have hmd : ∀ w, (method 669 439 (bp s) "wharf/sock.base").run Tryz.prog w = .ok (414, bp s) w := fun w => meth_base s w
 have s1 : ∀ o, (w.alloc o).cell? ⟨s, 1, none⟩ = some (.bool false) := fun o => (hsk.alloc o).cell 1
 obtain ⟨W, hW⟩ : ∃ W, (w.alloc (.cells (retC 20 0 0 0 nilS) 65)).setCell ⟨wk, 5, none⟩ (bp x) = W := ⟨_, rfl⟩
 have hk0 := hw.alloc (.cells (retC 20 0 0 0 nilS) 65)
 have hx0 := hx.alloc (.cells (retC 20 0 0 0 nilS) 65)
 have hwr : wk ≠ w.heap.size := by have := hw.lt; omega
 have hxk : x ≠ wk := Bk.ne_ hx hw (by decide)
 have hr0 : Bk (w.alloc (.cells (retC 20 0 0 0 nilS) 65)) w.heap.size 65 (retC 20 0 0 0 nilS) := Bk.new _ _ _
 have hcW : Chg (fun b => b = wk) w W := by rw [← hW]; exact ((Chg.refl _ w).alloc _).set1 _
 have hkW : Bk W wk 374 (swC st now draw nilS nilS (bp x)) := by rw [← hW]; exact hk0.set 5 _
 have hxW : Bk W x 380 (wtC (ifS s) 425 #[bp gs, bp gc]) := by rw [← hW]; exact hx0.far hxk _
 have hrW : Bk W w.heap.size 65 (retC 20 0 0 0 nilS) := by rw [← hW]; exact hr0.far (Ne.symm hwr) _
 have x1 : (w.alloc (.cells (retC 20 0 0 0 nilS) 65)).cell? ⟨x, 1, none⟩ = some (ifS s) := hx0.cell 1
 have u5 : (w.alloc (.cells (retC 20 0 0 0 nilS) 65)).cell? ⟨wk, 5, none⟩ = some tr := hk0.cell 5
 have fz5 := hk0.frozen 5
 have x2 : W.cell? ⟨x, 2, none⟩ = some (.func (.func 425) #[] #[bp gs, bp gc]) := hxW.cell 2
 obtain ⟨K1, k1, k2⟩ : ∃ K1 : Nat → Nat, (∀ b, b < w.heap.size → K1 b = K b) ∧ ∀ b, w.heap.size ≤ b → K1 b = 40 := ⟨fun b => if b < w.heap.size then K b else 40, fun b hb => if_pos hb, fun b hb => if_neg (by omega)⟩
 have HT := Lib.hid (hT K1 W k1 k2 hcW hkW)
 unfold retC at x1 u5 fz5
 have HW : Hid ((w.alloc (.cells #[.int .i64 0, .int .i64 20, .int .i64 0, .int .u32 0, .int .i64 0, .slice none 0 0] 65)).setCell ⟨wk, 5, none⟩ (bp x) = W) := Lib.hid hW
 have HX := Lib.hid (And.intro hcW (And.intro hkW (And.intro hxW (And.intro hrW (And.intro k1 (And.intro k2 (And.intro hkw (And.intro hkx (And.intro hQ (And.intro hw (And.intro hx ht)))))))))))
 clear hT hW hk0 hx0 hr0 hcW hkW hxW hrW k1 k2 hw hx hkw hkx hQ hwr hxk ht hsk
 go_enter Tryz.func186, Tryz.ntmps186
 go_upto_region 4 with (go_at_call 414; refine (sbase_any _ _).mono ?_; rintro e0 w0 ⟨rfl, rfl⟩)
 rw [HW.out]
 go_wp2_with fail
 refine HT.out.mono ?_
 rintro e1 w1 ⟨dA, dn, dc, K2, x', rfl, hq, hw1, hfr, j1, j2, j3⟩
 have hcw : ∀ b, b < w.heap.size → K b = 40 → b ≠ wk → ¬ (sideK t (K1 b) ∨ b = wk) := fun b hb h hne e => by
  rcases e with e | e
  ·rw [HX.out.2.2.2.2.1 b hb, h] at e
   rcases e with e | e
   ·exact absurd e.2 (by have := HX.out.2.2.2.2.2.2.2.2.2.2.2; omega)
   ·have := HX.out.2.2.2.2.2.2.2.2.2.2.2; omega
  ·exact hne e
 have hwr : wk ≠ w.heap.size := by have := Bk.lt HX.out.2.2.2.2.2.2.2.2.2.1; omega
 have hxk : x ≠ wk := Bk.ne_ HX.out.2.2.1 HX.out.2.1 (by decide)
 have hxl := Bk.lt HX.out.2.2.2.2.2.2.2.2.2.2.1
 have hr1 : Bk w1 w.heap.size 65 (retC 20 0 0 0 nilS) := HX.out.2.2.2.1.chg j3 (fun e => by
  rcases e with e | e
  ·rw [HX.out.2.2.2.2.2.1 _ (Nat.le_refl _)] at e
   rcases e with e | e
   ·exact absurd e.2 (by have := HX.out.2.2.2.2.2.2.2.2.2.2.2; omega)
   ·have := HX.out.2.2.2.2.2.2.2.2.2.2.2; omega
  ·exact hwr e.symm)
 have hx1 := HX.out.2.2.1.chg j3 (hcw x hxl HX.out.2.2.2.2.2.2.2.1 hxk)
 have HP := Lib.hid (And.intro hq (And.intro hw1 (And.intro hfr (And.intro j1 (And.intro j2 j3)))))
 have HR1 := Lib.hid hr1
 have HX1 := Lib.hid hx1
 have HNE := Lib.hid (And.intro hwr hxl)
 clear hq hw1 hfr j1 j2 j3 hcw hwr hxk hxl hr1 hx1 x1 u5 fz5 x2
 go_wp2_with (first
  | (refine st_box 65 rfl (.tmp 5) (.tmp 35) rfl rfl rfl (cs := retC 0 n a p (.slice dA dn dc)) rfl HR1.out ret_size rfl (retC_all _ _ _ _ _ _ _) ?_; intro w2 hb2 g2 z2; have hx2 := HX1.out.grown g2 (fun e => by injection e with e; have := HNE.out.2; omega); have hk2 := HP.out.2.1.grown g2 (fun e => by injection e with e; exact HNE.out.1 e); have x0 : w2.cell? ⟨x, 0, none⟩ = some (.int .i64 0) := hx2.cell 0; have r1 : w2.cell? ⟨w.heap.size, 1, none⟩ = some (.int .i64 0) := hb2.cell 1; have r0 : w2.cell? ⟨w.heap.size, 0, none⟩ = some (.int .i64 0) := hb2.cell 0; have rf := hb2.frozen 0))
 obtain ⟨w3, hw3⟩ : ∃ w3, w2.setCell ⟨w.heap.size, 0, none⟩ (.int .i64 0) = w3 := ⟨_, rfl⟩
 rw [hw3]
 have hb3 : Bk w3 w.heap.size 65 (retC 0 n a p (.slice dA dn dc)) := by rw [← hw3]; exact hb2.set 0 _
 have hk3 : Bk w3 wk 374 (swC st now draw nilS x' (bp x)) := by rw [← hw3]; exact hk2.far HNE.out.1 _
 have hc3 : Chg (fun b => b = w.heap.size) w1 w3 := by rw [← hw3]; exact (Chg.of_grown (F := fun b => b = w.heap.size) g2 (fun b e => by injection e with e; exact e.symm)).set1 _
 have q0 : w3.cell? ⟨w.heap.size, 0, none⟩ = some (.int .i64 0) := hb3.cell 0
 have q1 : w3.cell? ⟨w.heap.size, 1, none⟩ = some (.int .i64 0) := hb3.cell 1
 have q2 : w3.cell? ⟨w.heap.size, 2, none⟩ = some (.int .i64 n) := hb3.cell 2
 have q3 : w3.cell? ⟨w.heap.size, 3, none⟩ = some (.int .u32 a) := hb3.cell 3
 have q4 : w3.cell? ⟨w.heap.size, 4, none⟩ = some (.int .i64 p) := hb3.cell 4
 have q5 : w3.cell? ⟨w.heap.size, 5, none⟩ = some (.slice dA dn dc) := hb3.cell 5
 have y3 : w3.cell? ⟨wk, 3, none⟩ = some (.slice none 0 0) := hk3.cell 3
 have y3a : ∀ o, (w3.alloc o).cell? ⟨wk, 3, none⟩ = some (.slice none 0 0) := fun o => (hk3.alloc o).cell 3
 have hby : (0 + 1) * 64 ≤ 140737488355328 := by omega
 have hmx : 0 + 1 ≤ maxLen := by unfold maxLen; omega
 have hone := retC_one 0 n a p dA dn dc
 have HK3 := Lib.hid hk3
 have HC3 := Lib.hid hc3
 clear hw3 hb3 hk3 hc3 hb2 g2 z2 hx2 hk2 x0 r1 r0 rf
 go_region_law (first
  | (refine st_mrd rfl (.tmp 76) (.tmp 78) 42 65 rfl (.agg #[.int .i64 0, .int .i64 0, .int .i64 0, .int .u32 0, .int .i64 0, .slice none 0 0]) 6 64 Tryz.underlying42 info_ret rfl (Nat.succ_pos 5) rfl (Mr.none_ _ _ _ _) (retC 0 n a p (.slice dA dn dc)).toList rfl rfl rfl hone hby hmx ?_; intro g4 c4 w4 h2 h3 h4 h5; have hk4 := HK3.out.grown h3 (fun e => by cases e); have u3 : w4.cell? ⟨wk, 3, none⟩ = some (.slice none 0 0) := hk4.cell 3; have fz3 := hk4.frozen 3))
 all_goals
  clear q0 q1 q2 q3 q4 q5 y3 y3a
  go_wp2
  go_ret
  obtain ⟨hq, hw1, hfr, j1, j2, j3⟩ := HP.out
  obtain ⟨e1, e2, e3, e4, e5, e6, e7, e8, e9, e10, e11, e12⟩ := HX.out
  have hwl := e10.lt
  have hg4 : w3.heap.size < g4 := by rcases h4 with e | e; cases e; exact e
  have l1 := e1.size
  have l2 := j3.size
  have l3 := HC3.out.size
  obtain ⟨K', m1, m2⟩ : ∃ K' : Nat → Nat, (∀ b, b < w1.heap.size → K' b = K2 b) ∧ ∀ b, w1.heap.size ≤ b → K' b = 40 := ⟨fun b => if b < w1.heap.size then K2 b else 40, fun b hb => if_pos hb, fun b hb => if_neg (by omega)⟩
  have hcc : Chg (fun b => b = wk ∨ b = w.heap.size) w1 (w4.setCell ⟨wk, 3, none⟩ (.slice (some ⟨g4, 0, none⟩) (0 + 1) c4)) := (((HC3.out.mono (fun _ _ e => .inr e)).trans (Chg.of_grown (F := fun _ => False) h3 (fun b e => by cases e)) (fun _ e => e.elim))).setCell (p := ⟨wk, 3, none⟩) (.inl (.inl rfl)) _
  have hK2 : ∀ b, b < w.heap.size → K2 b = K b := fun b hb => (j1 b (by omega)).trans (e5 b hb)
  have hn : ∀ b, sideK t (K2 b) → b < w1.heap.size → ¬ (b = wk ∨ b = w.heap.size) := fun b hk hb e => by
   have n40 : ¬ sideK t 40 := by
    rintro (h | h)
    ·exact absurd h.2 (by omega)
    ·omega
   rcases e with e | e
   ·apply n40; rw [← e7, ← hK2 wk hwl, ← e]; exact hk
   ·apply n40
    rcases Nat.lt_or_ge w.heap.size W.heap.size with hh | hh
    ·rw [← e6 _ (Nat.le_refl _), ← j1 _ hh, ← e]; exact hk
    ·exact absurd (Bk.lt e4) (by omega)
  have hmr : Mr 65 6 (w4.setCell ⟨wk, 3, none⟩ (.slice (some ⟨g4, 0, none⟩) (0 + 1) c4)) 0 (some ⟨g4, 0, none⟩) 1 c4 (retC 0 n a p (.slice dA dn dc)).toList := by
   have := h2.setCell (p := ⟨wk, 3, none⟩) (by simp only [blk, Option.map_some]; intro e; injection e with e; omega) (.slice (some ⟨g4, 0, none⟩) (0 + 1) c4)
   simpa using this
  refine ⟨dA, dn, dc, K', x', _, rfl, e9 _ _ _ _ _ _ hq hcc (fun b hb hk => hn b hk hb) (fun b hb _ => m1 b hb), hk4.set 3 _, ⟨some ⟨g4, 0, none⟩, c4, rfl, hmr, fun b hb => ?_⟩, ?_, fun b hb => (m1 b (by omega)).trans (hK2 b hb), fun b hb => ?_, ?_⟩
  ·have hb' : g4 = b := by simpa [blk] using hb
   exact ⟨m2 b (by omega), by omega⟩
  ·exact hfr.keep (fun b hb1 hb2 hb3 => hcc.block b hb3 (by have := Bk.lt e4; omega)) (fun b hb1 hb2 hb3 => ⟨(m1 b hb3).trans hb1, by omega⟩)
  ·rcases Nat.lt_or_ge b w1.heap.size with h | h
   ·rw [m1 b h]
    rcases Nat.lt_or_ge b W.heap.size with h' | h'
    ·right; rw [j1 b h']; exact e6 b hb
    ·exact j2 b h'
   ·exact .inr (m2 b h)
  ·refine ((e1.mono (fun _ _ e => .inr e)).trans j3 (fun y e => ?_)).trans hcc (fun y e => by rcases e with e | e; exact .inl (.inr e); exact .inr (by omega))
   rcases Nat.lt_or_ge y w.heap.size with h | h
   ·left; rw [← e5 y h]; exact e
   ·exact .inr h
end Go.Proofs.YtaeafkdfbcppgaaGreat
