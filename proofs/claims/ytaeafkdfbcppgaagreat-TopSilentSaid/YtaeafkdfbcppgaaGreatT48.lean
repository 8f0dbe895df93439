/- Proved: the law's call hands out what one side is told; the one frame under way is taken; the one frame under way is taken. Conditions: as each law says. -/
import Derived.Test.YtaeafkdfbcppgaaGreatT47
set_option linter.unusedSectionVars false
set_option linter.unusedSimpArgs false
set_option linter.unusedVariables false
namespace Go.Proofs.YtaeafkdfbcppgaaGreat
open Go.RowKit
def DwR (t : Nat) (K : Nat → Nat) (w : World) (W st0 st1 : Nat) (now last : Int) (begun : Bool) (side : Int) (L : List (List Int)) (rn ra rp : Int) (Q : Value → (Nat → Nat) → World → Prop) (e : Ending) (w' : World) : Prop :=
 ∃ gy cy gz cz dA dn dc, e = .returned (.tuple #[.slice (some ⟨gy, 0, none⟩) 1 cy, .slice (some ⟨gz, 0, none⟩) 1 cz, .int .i64 0]) ∧ WdR t K w W st0 st1 now last begun side L Q (.slice dA dn dc) w' ∧
   Mr 65 6 w' w.heap.size (some ⟨gy, 0, none⟩) 1 cy (retC 0 rn ra rp (.slice dA dn dc)).toList ∧ Mr 3 1 w' w.heap.size (some ⟨gz, 0, none⟩) 1 cz [.int .i64 side]
set_option maxHeartbeats 8000000 in
set_option maxRecDepth 100000 in
theorem lcall_of (t : Nat) (ht : t ≤ 20) (K : Nat → Nat) (w : World) (W st0 st1 : Nat) (now last : Int) (begun : Bool) (side : Int) (kd fd a p n : Int) (vA : Option Addr) (vn vc : Nat) (L : List (List Int)) (rn ra rp : Int) (Q : Value → (Nat → Nat) → World → Prop)
  (hW : W < w.heap.size) (hQs : Stab t Q)
  (HD : ∀ K1 w1, (∀ b, b < w.heap.size → K1 b = K b) → (∀ b, w.heap.size ≤ b → K1 b = 40) → Below w.heap.size w w1 → Calls Tryz.prog 11 #[bp W, .agg #[.int .i64 1, .int .i64 side, .int .i64 kd, .int .i64 0, .int .i64 fd, .int .u32 a, .int .i64 p, .int .i64 n, .slice vA vn vc, .int .i64 0, .int .i64 0, .int .i64 0, .int .i64 0, .int .u8 0]] w1 (DwR t K1 w1 W st0 st1 now last begun side L rn ra rp Q)) :
  Calls Tryz.prog 22 #[bp W, .int .i64 side, .agg #[.int .i64 kd, .int .i64 0, .int .i64 fd, .int .u32 a, .int .i64 p, .int .i64 n, .slice vA vn vc, .int .i64 0, .int .i64 0]] w fun e w' => ∃ dA dn dc, e = .returned (.tuple #[.agg (retC 0 rn ra rp (.slice dA dn dc)), .bool true]) ∧ WdR t K w W st0 st1 now last begun side L Q (.slice dA dn dc) w' := by
 obtain ⟨W0, hW0⟩ : ∃ W0, (w.alloc (.cells #[.int .i64 kd, .int .i64 0, .int .i64 fd, .int .u32 a, .int .i64 p, .int .i64 n, .slice vA vn vc, .int .i64 0, .int .i64 0] 39)).alloc (.cells #[.int .i64 0, .int .i64 0, .int .i64 0, .int .u32 0, .int .i64 0, .slice none 0 0] 65) = W0 := ⟨_, rfl⟩
 have hB0 : Below w.heap.size w W0 := by rw [← hW0]; exact ((Below.refl _ _).alloc (Nat.le_refl _) _).alloc (by simp) _
 have hz0 : W0.heap.size = w.heap.size + 2 := by rw [← hW0]; simp
 have hc0 : Bk W0 w.heap.size 39 #[.int .i64 kd, .int .i64 0, .int .i64 fd, .int .u32 a, .int .i64 p, .int .i64 n, .slice vA vn vc, .int .i64 0, .int .i64 0] := by rw [← hW0]; exact (Bk.new _ _ _).alloc _
 have hr0 : Bk W0 (w.heap.size + 1) 65 #[.int .i64 0, .int .i64 0, .int .i64 0, .int .u32 0, .int .i64 0, .slice none 0 0] := by
  rw [← hW0]
  have := Bk.new (w.alloc (.cells #[.int .i64 kd, .int .i64 0, .int .i64 fd, .int .u32 a, .int .i64 p, .int .i64 n, .slice vA vn vc, .int .i64 0, .int .i64 0] 39)) 65 #[.int .i64 0, .int .i64 0, .int .i64 0, .int .u32 0, .int .i64 0, .slice none 0 0]
  rwa [World.size_alloc] at this
 have z0 : W0.cell? ⟨w.heap.size, 0, none⟩ = some (.int .i64 kd) := hc0.cell 0
 have z1 : W0.cell? ⟨w.heap.size, 1, none⟩ = some (.int .i64 0) := hc0.cell 1
 have z2 : W0.cell? ⟨w.heap.size, 2, none⟩ = some (.int .i64 fd) := hc0.cell 2
 have z3 : W0.cell? ⟨w.heap.size, 3, none⟩ = some (.int .u32 a) := hc0.cell 3
 have z4 : W0.cell? ⟨w.heap.size, 4, none⟩ = some (.int .i64 p) := hc0.cell 4
 have z5 : W0.cell? ⟨w.heap.size, 5, none⟩ = some (.int .i64 n) := hc0.cell 5
 have z6 : W0.cell? ⟨w.heap.size, 6, none⟩ = some (.slice vA vn vc) := hc0.cell 6
 have z7 : W0.cell? ⟨w.heap.size, 7, none⟩ = some (.int .i64 0) := hc0.cell 7
 have z8 : W0.cell? ⟨w.heap.size, 8, none⟩ = some (.int .i64 0) := hc0.cell 8
 obtain ⟨K1, k0, k1⟩ : ∃ K1 : Nat → Nat, (∀ b, b < w.heap.size → K1 b = K b) ∧ ∀ b, w.heap.size ≤ b → K1 b = 40 := ⟨fun b => if b < w.heap.size then K b else 40, fun b hb => if_pos hb, fun b hb => if_neg (by omega)⟩
 have HDO := Lib.hid (HD K1 W0 k0 k1 hB0)
 have HX := Lib.hid (And.intro hB0 (And.intro hz0 (And.intro hc0 (And.intro hr0 (And.intro k0 (And.intro k1 (And.intro hW (And.intro hQs ht))))))))
 have HW0 := Lib.hid hW0
 clear hW0 hB0 hz0 hc0 hr0 k0 k1 hW hQs ht HD
 go_enter Tryz.func22, Tryz.ntmps22
 go_wp2_with fail
 rw [HW0.out]
 go_wp2_with fail
 refine HDO.out.mono ?_
 rintro e1 w1 ⟨gy, cy, gz, cz, dA, dn, dc, rfl, hD1, hy1, hz1⟩
 obtain ⟨hB0, hz0, hc0, hr0, k0, k1, hW, hQs, ht⟩ := HX.out
 have n40 : ¬ sideK t 40 := by
  rintro (h | h)
  ·exact absurd h.2 (by omega)
  ·omega
 have hch : ∀ b, w.heap.size ≤ b → b < W0.heap.size → w1.heap[b]? = W0.heap[b]? := fun b hb hl => by
  obtain ⟨_, _, _, _, _, _, _, hc⟩ := hD1
  refine hc.block b hl (fun e => ?_)
  rcases e with e | e | e
  ·rw [k1 _ hb] at e; exact n40 e
  ·omega
  ·rw [k1 _ hb] at e; cases e
 have hc1 : Bk w1 w.heap.size 39 #[.int .i64 kd, .int .i64 0, .int .i64 fd, .int .u32 a, .int .i64 p, .int .i64 n, .slice vA vn vc, .int .i64 0, .int .i64 0] := (hch _ (Nat.le_refl _) (by omega)).trans hc0
 have hr1 : Bk w1 (w.heap.size + 1) 65 #[.int .i64 0, .int .i64 0, .int .i64 0, .int .u32 0, .int .i64 0, .slice none 0 0] := (hch _ (by omega) (by omega)).trans hr0
 have y0 : w1.cell? ⟨gy, 0, none⟩ = some (.int .i64 0) := by obtain ⟨g, h1, _, _, h4, _⟩ := hy1.cell (j := 0) rfl; injection h1 with h1; injection h1 with h1; rw [h1]; exact h4
 have y1 : w1.cell? ⟨gy, 1, none⟩ = some (.int .i64 0) := by obtain ⟨g, h1, _, _, h4, _⟩ := hy1.cell (j := 1) rfl; injection h1 with h1; injection h1 with h1; rw [h1]; exact h4
 have y2 : w1.cell? ⟨gy, 2, none⟩ = some (.int .i64 rn) := by obtain ⟨g, h1, _, _, h4, _⟩ := hy1.cell (j := 2) rfl; injection h1 with h1; injection h1 with h1; rw [h1]; exact h4
 have y3 : w1.cell? ⟨gy, 3, none⟩ = some (.int .u32 ra) := by obtain ⟨g, h1, _, _, h4, _⟩ := hy1.cell (j := 3) rfl; injection h1 with h1; injection h1 with h1; rw [h1]; exact h4
 have y4 : w1.cell? ⟨gy, 4, none⟩ = some (.int .i64 rp) := by obtain ⟨g, h1, _, _, h4, _⟩ := hy1.cell (j := 4) rfl; injection h1 with h1; injection h1 with h1; rw [h1]; exact h4
 have y5 : w1.cell? ⟨gy, 5, none⟩ = some (.slice dA dn dc) := by obtain ⟨g, h1, _, _, h4, _⟩ := hy1.cell (j := 5) rfl; injection h1 with h1; injection h1 with h1; rw [h1]; exact h4
 have x0 : w1.cell? ⟨gz, 0, none⟩ = some (.int .i64 side) := by obtain ⟨g, h1, _, _, h4, _⟩ := hz1.cell (j := 0) rfl; injection h1 with h1; injection h1 with h1; rw [h1]; exact h4
 have c1 : w1.cell? ⟨w.heap.size, 1, none⟩ = some (.int .i64 0) := hc1.cell 1
 have hrn : ∀ nq, Bk (w1.drewN nq) (w.heap.size + 1) 65 #[.int .i64 0, .int .i64 0, .int .i64 0, .int .u32 0, .int .i64 0, .slice none 0 0] := fun nq => hr1.drewN nq
 have HFIN : Hid (∀ nq w2, Bk w2 (w.heap.size + 1) 65 (retC 0 rn ra rp (.slice dA dn dc)) → Chg (fun b => b = w.heap.size + 1) (w1.drewN nq) w2 → WdR t K w W st0 st1 now last begun side L Q (.slice dA dn dc) w2) := Lib.hid fun nq w2 hb2 hc2 => by
  obtain ⟨K', x', q1, q2, q3, q4, q5, q6⟩ := (hD1.drewN_ hQs nq).step hQs (hr1.drewN nq) (by decide) (by decide) (by decide) (by omega) (by rw [k1 _ (by omega)]; exact n40) (k1 _ (by omega)) hc2
  refine ⟨K', x', q1, q2, q3, fun b hb => (q4 b (by omega)).trans (k0 b hb), fun b hb => ?_, (Chg.of_below (F := fun b => sideK t (K b) ∨ b = W ∨ K b = 31) hB0).trans q6 (fun b e => ?_)⟩
  ·rcases Nat.lt_or_ge b W0.heap.size with h | h
   ·right; left; rw [q4 b h]; exact k1 b hb
   ·exact q5 b h
  ·rcases Nat.lt_or_ge b w.heap.size with h | h
   ·left
    rw [← k0 b h]
    rcases e with e | e | e | e
    ·exact .inl e
    ·exact .inr (.inl e)
    ·exact .inr (.inr e)
    ·omega
   ·exact .inr h
 clear hB0 hz0 hc0 hr0 k0 k1 hW hQs ht n40 hch hc1 hD1 hy1 hz1 z0 z1 z2 z3 z4 z5 z6 z7 z8
 go_wp2_with fail
 refine wp_loop_rounds 1 ?_; rw [rounds_succ]
 go_wp2_with fail
 go_quiet (fail)
 have HRN := Lib.hid hrn
 clear hrn hr1
 go_wp2_with (first | (refine st_box 65 rfl (.tmp 6) (.tmp 50) rfl rfl rfl (cs := retC 0 rn ra rp (.slice dA dn dc)) rfl (HRN.out _) ret_size rfl (retC_all 0 rn ra rp dA dn dc) ?_; intro w2 hb2 hg2 hz2))
 have HF := Lib.hid (HFIN.out _ w2 hb2 (Chg.of_grown hg2 (fun b e => by injection e with e; exact e.symm)))
 go_wp2_with fail
 refine bodyPost_ret (results_b1 rfl _ _ (w.heap.size + 1) 65 _ (0, 0) _ rfl hb2 Tryz.underlying65 rfl ret_size) rfl ?_
 exact ⟨dA, dn, dc, rfl, HF.out⟩
open Go.RowKit
theorem append_none_frm (ty : TypeId) (w : World) (g gc : Nat) (A2 : Option Addr) (c2 : Nat) : (Builtin.append_ #[70, 70] ty #[.slice (some ⟨g, 0, none⟩) 0 gc, .slice A2 0 c2]).run Tryz.prog w = .ok (.slice (some ⟨g, 0, none⟩) 0 gc) w := by
 obtain ⟨i, h1, h2, h3, h4⟩ := info_parts info_frm
 cases A2 <;> simp [Builtin.append_, run_underlying Tryz.underlying70, sizeOf, typeInfo, h1, Builtin.lenOf, Builtin.firstCells, loadCells, loadCellsFrom, storeCells]
section
variable {ops : Array Oper} {o : Oper} {a : Act} {w : World} {K : Act → World → Prop} {Q : Exit → Act → World → Prop} {E : Prop}
theorem st_ap0 (hgd : o.guard = none) (s x : Operand) (ho : o.op = .call { callee := .builtin .append, args := #[s, x], argTypes := #[70, 70] }) {g gc c2 : Nat} {A2 : Option Addr} (hs : a.eval s = .slice (some ⟨g, 0, none⟩) 0 gc) (hx : a.eval x = .slice A2 0 c2)
  (h : K (a.put o.dst (.slice (some ⟨g, 0, none⟩) 0 gc)) w) : if Region.wanted o (yielded ops a.tmps) = true then Oper.wp Tryz.prog o a w K Q else E := by
 have hw : Region.wanted o (yielded ops a.tmps) = true := by simp [Region.wanted, hgd]
 rw [if_pos hw]
 have hr := append_none_frm o.type w g gc A2 c2
 unfold Oper.wp execOp
 simp only [ho, resolve, invoke, builtin, Sem.run_bind, Sem.run_pure, Result.andThen_ok, List.map_toArray, List.map_cons, List.map_nil, hs, hx, hr]
 exact h
end
theorem clear_frm {W : World} {base g c : Nat} {xs : List Value} (h : Mr 86 2 W base (some ⟨g, 0, none⟩) 1 c xs) (cp : Nat) :
  ∃ W', (∀ ty, (Builtin.clear_ #[70] ty #[.slice (some ⟨g, 0, none⟩) 1 cp]).run Tryz.prog W = .ok (.tuple #[]) W') ∧ Mr 86 2 W' base (some ⟨g, 0, none⟩) 0 c [] ∧ Chg (fun b => b = g) W W' := by
 rcases h.2 with ⟨_, e⟩ | ⟨g', cap, cur, e, hb, hh, hnc, hcm, hcs, ht⟩
 ·cases e
 injection e with e _ e2
 injection e with e
 injection e with e
 subst e
 subst e2
 have hst := run_storeCells_at Tryz.prog g 0 86 [.int .i64 0, .slice none 0 0] 0 cur W hh (by simp; omega) (fun v hv => by simp at hv; rcases hv with rfl | rfl <;> rfl)
 have hz : (zeroValue 86).run Tryz.prog W = .ok (.agg #[.int .i64 0, .slice none 0 0]) W := by kernel_rfl
 refine ⟨W.setRow g (cur.toList.take 0 ++ [Value.int .i64 0, Value.slice none 0 0] ++ cur.toList.drop (0 + 2)).toArray, fun ty => ?_, ?_, ⟨rfl, rfl, rfl, by simp, fun k _ hk => setRow_other W g k _ hk⟩⟩
 ·have hzc : Builtin.zeroCells #[Value.int .i64 0, Value.slice none 0 0] 1 = #[Value.int .i64 0, Value.slice none 0 0] := by kernel_rfl
  simp [Builtin.clear_, run_underlying Tryz.underlying70, hz, hzc, Value.cells]
  have hst' := hst
  simp at hst'
  rw [hst']
  rfl
 ·refine ⟨by simp, .inr ⟨g, c, _, rfl, hb, setRow_heap W g cur _ _ _ hh, by omega, hcm, ?_, ?_⟩⟩
  ·simp; omega
  ·simp
set_option maxHeartbeats 2000000 in
set_option maxRecDepth 100000 in
theorem delete_one (g gc : Nat) (xs : List Value) (w : World) (hc : 1 ≤ gc ∧ gc ≤ maxLen) (h : Mr 86 2 w 0 (some ⟨g, 0, none⟩) 1 gc xs) :
  Calls Tryz.prog 115 #[.slice (some ⟨g, 0, none⟩) 1 gc, .int .i64 0, .int .i64 1] w fun e w' => e = .returned (.slice (some ⟨g, 0, none⟩) 0 gc) ∧ Mr 86 2 w' 0 (some ⟨g, 0, none⟩) 0 gc [] ∧ Chg (fun b => b = g) w w' := by
 rcases Nat.eq_or_lt_of_le hc.1 with q | q
 ·subst q
  obtain ⟨W', hcl, hm', hc'⟩ := clear_frm (h.drew) 1
  have HF : Hid (Mr 86 2 W' 0 (some ⟨g, 0, none⟩) 0 1 [] ∧ Chg (fun b => b = g) w W') := Lib.hid ⟨hm', (Chg.refl _ w).drew_.trans hc' (fun b e => .inl e)⟩
  clear hm' hc' h
  go_enter Tryz.func115, Tryz.ntmps115
  go_wp2_with fail
  go_region_law (first
   | (refine st_ap0 rfl (.tmp 22) (.tmp 25) rfl rfl rfl ?_))
  all_goals
   go_wp2
   go_ret
   exact ⟨rfl, HF.out.1, HF.out.2⟩
 ·have q2 : ¬ gc = 1 := by omega
  obtain ⟨W', hcl, hm', hc'⟩ := clear_frm (h.drew) gc
  have HF : Hid (Mr 86 2 W' 0 (some ⟨g, 0, none⟩) 0 gc [] ∧ Chg (fun b => b = g) w W') := Lib.hid ⟨hm', (Chg.refl _ w).drew_.trans hc' (fun b e => .inl e)⟩
  have hg1 : (1 : Int) ≤ gc := by omega
  have hmx : gc ≤ 9223372036854775807 := by have := hc.2; simp only [maxLen] at this; omega
  clear hm' hc' h
  go_enter Tryz.func115, Tryz.ntmps115
  go_wp2_with fail
  go_region_law (first
   | (refine st_ap0 rfl (.tmp 22) (.tmp 25) rfl rfl rfl ?_))
  all_goals
   go_wp2
   go_ret
   exact ⟨rfl, HF.out.1, HF.out.2⟩
open Go.RowKit
theorem results_c1 {P : Program} {fn : Func} {p : Tmp} {ty : TypeId} (h : fn.results = #[.cell p ty]) (tmps : Array Value) (w : World) (g : Nat) (t : TypeId) (cs : Array Value) (fr : Nat × Nat) (d : TypeDesc)
  (hp : tmps.getD p undef = .pointer (some ⟨g, 0, none⟩)) (hg : w.heap[g]? = some (.cells cs t fr))
  (hu : P.underlying ty = some d) (hd : (match d with | .struct _ | .array _ _ => true | _ => false) = true) (hi : (P.info? ty).map (·.size) = some cs.size) :
  (results fn tmps).run P w = .ok (.agg cs) w := by
 have hp' : tmps[p]?.getD undef = .pointer (some ⟨g, 0, none⟩) := by simpa using hp
 simp [results, h, hp', asAddr, run_loadVar_row w g t ty cs fr d hg hu hd hi, Result.andThen]
theorem frm_size : (Tryz.prog.info? 86).map (·.size) = some 2 := by kernel_rfl
set_option maxHeartbeats 4000000 in
set_option maxRecDepth 100000 in
theorem taken_one (W s0 s1 : Nat) (now last : Int) (begun : Bool) (g gc : Nat) (to_ : Int) (A : Option Addr) (n c : Nat) (w : World) (hb : Bk w W 72 (wrC s0 s1 now last begun (.slice (some ⟨g, 0, none⟩) 1 gc))) (hc : 1 ≤ gc ∧ gc ≤ maxLen) (hm : Mr 86 2 w 0 (some ⟨g, 0, none⟩) 1 gc [.int .i64 to_, .slice A n c]) (hne : g ≠ W) :
  Calls Tryz.prog 53 #[bp W, .int .i64 0] w fun e w' => e = .returned (.agg #[.int .i64 to_, .slice A n c]) ∧ Bk w' W 72 (wrC s0 s1 now last begun (.slice (some ⟨g, 0, none⟩) 0 gc)) ∧ Mr 86 2 w' 0 (some ⟨g, 0, none⟩) 0 gc [] ∧ Chg (fun b => b = W ∨ b = g) w w' := by
 have hW := hb.lt
 have hgl : g < w.heap.size := (hm.lt g rfl).2
 obtain ⟨W0, hW0⟩ : ∃ W0, (w.alloc (.cells #[.int .i64 0, .slice none 0 0] 86)).alloc (.cells #[.int .i64 to_, .slice A n c] 86) = W0 := ⟨_, rfl⟩
 have hB0 : Below w.heap.size w W0 := by rw [← hW0]; exact ((Below.refl _ _).alloc (Nat.le_refl _) _).alloc (by simp) _
 have hz0 : W0.heap.size = w.heap.size + 2 := by rw [← hW0]; simp
 have hr0 : Bk W0 w.heap.size 86 #[.int .i64 0, .slice none 0 0] := by rw [← hW0]; exact (Bk.new _ _ _).alloc _
 have hf0 : Bk W0 (w.heap.size + 1) 86 #[.int .i64 to_, .slice A n c] := by
  rw [← hW0]
  have := Bk.new (w.alloc (.cells #[.int .i64 0, .slice none 0 0] 86)) 86 #[.int .i64 to_, .slice A n c]
  rwa [World.size_alloc] at this
 have hb0 := hb.below hB0 hb.lt
 have hm0 := hm.stays hB0
 have x5 : ∀ o, (w.alloc o).cell? ⟨W, 5, none⟩ = some (.slice (some ⟨g, 0, none⟩) 1 gc) := fun o => (hb.alloc o).cell 5
 have y5 : W0.cell? ⟨W, 5, none⟩ = some (.slice (some ⟨g, 0, none⟩) 1 gc) := hb0.cell 5
 have x55 : ∀ o o', ((w.alloc o).alloc o').cell? ⟨W, 5, none⟩ = some (.slice (some ⟨g, 0, none⟩) 1 gc) := fun o o' => ((hb.alloc o).alloc o').cell 5
 have m0 : ∀ o, (w.alloc o).cell? ⟨g, 0, none⟩ = some (.int .i64 to_) := fun o => by obtain ⟨g2, h1, _, _, h4, _⟩ := (hm.alloc o).cell (j := 0) rfl; injection h1 with h1; injection h1 with h1; rw [h1]; exact h4
 have m1 : ∀ o, (w.alloc o).cell? ⟨g, 1, none⟩ = some (.slice A n c) := fun o => by obtain ⟨g2, h1, _, _, h4, _⟩ := (hm.alloc o).cell (j := 1) rfl; injection h1 with h1; injection h1 with h1; rw [h1]; exact h4
 have HDL := Lib.hid (delete_one g gc _ W0 hc hm0)
 have HX := Lib.hid (And.intro hB0 (And.intro hz0 (And.intro hr0 (And.intro hf0 (And.intro hb0 (And.intro hne (And.intro hW hgl)))))))
 have HW0 := Lib.hid hW0
 clear hW0 hB0 hz0 hr0 hf0 hb0 hm0 hb hm hne hc hW hgl
 go_enter Tryz.func53, Tryz.ntmps53
 go_wp2_with fail
 rw [HW0.out]
 refine HDL.out.mono ?_
 rintro e1 w1 ⟨rfl, hm1, hc1⟩
 obtain ⟨hB0, hz0, hr0, hf0, hb0, hne, hW, hgl⟩ := HX.out
 have hb1 := hb0.chg hc1 (fun e => hne e.symm)
 have hr1 := hr0.chg hc1 (fun e => by omega)
 have hf1 := hf0.chg hc1 (fun e => by omega)
 have z5 : w1.cell? ⟨W, 5, none⟩ = some (.slice (some ⟨g, 0, none⟩) 1 gc) := hb1.cell 5
 have f5 := hb1.frozen 5
 obtain ⟨w2, hw2⟩ : ∃ w2, w1.setCell ⟨W, 5, none⟩ (.slice (some ⟨g, 0, none⟩) 0 gc) = w2 := ⟨_, rfl⟩
 have hs2 : Chg (fun b => b = W) w1 w2 := by rw [← hw2]; exact (Chg.refl _ w1).set1 _
 have hb2 : Bk w2 W 72 (wrC s0 s1 now last begun (.slice (some ⟨g, 0, none⟩) 0 gc)) := by rw [← hw2]; exact hb1.set 5 _
 have hr2 := hr1.chg hs2 (fun e => by omega)
 have hf2 := hf1.chg hs2 (fun e => by omega)
 have hm2 := hm1.chg hs2 (fun b e e2 => hne (by have e3 : g = b := (by simpa [blk] using e); omega))
 have u0 : (w1.setCell ⟨W, 5, none⟩ (.slice (some ⟨g, 0, none⟩) 0 gc)).cell? ⟨w.heap.size + 1, 0, none⟩ = some (.int .i64 to_) := by rw [hw2]; exact hf2.cell 0
 have u1 : (w1.setCell ⟨W, 5, none⟩ (.slice (some ⟨g, 0, none⟩) 0 gc)).cell? ⟨w.heap.size + 1, 1, none⟩ = some (.slice A n c) := by rw [hw2]; exact hf2.cell 1
 have hraw : Bk (w1.setCell ⟨W, 5, none⟩ (.slice (some ⟨g, 0, none⟩) 0 gc)) w.heap.size 86 #[.int .i64 0, .slice none 0 0] := by rw [hw2]; exact hr2
 have HW2 := Lib.hid hw2
 have HR2 := Lib.hid hraw
 have hcf : Chg (fun b => b = W ∨ b = g) w w2 := ((Chg.of_below (F := fun b => b = W ∨ b = g) hB0).trans hc1 (fun b e => .inl (.inr e))).trans hs2 (fun b e => .inl (.inl e))
 have HFIN : Hid (∀ w3, w2.grownBy w3 (some w.heap.size) → Bk w3 W 72 (wrC s0 s1 now last begun (.slice (some ⟨g, 0, none⟩) 0 gc)) ∧ Mr 86 2 w3 0 (some ⟨g, 0, none⟩) 0 gc [] ∧ Chg (fun b => b = W ∨ b = g) w w3) := Lib.hid fun w3 hg3 => by
  have hc3 : Chg (fun b => b = w.heap.size) w2 w3 := Chg.of_grown hg3 (fun b e => by injection e with e; exact e.symm)
  exact ⟨hb2.chg hc3 (fun e => by omega), hm2.chg hc3 (fun b e e2 => by
   have e3 : g = b := by simpa [blk] using e
   omega), hcf.trans hc3 (fun b e => .inr (by omega))⟩
 clear hB0 hz0 hr0 hf0 hb0 hne hW hgl hb1 hr1 hf1 hs2 hb2 hr2 hf2 hm1 hm2 hc1 hw2 hcf hraw
 go_wp2_with (first | (refine st_box 86 rfl (.tmp 4) (.tmp 24) rfl rfl rfl (cs := #[.int .i64 to_, .slice A n c]) rfl HR2.out frm_size rfl (by simp [Value.oneCell']) ?_; intro w3 hb3 hg3 hz3))
 rw [HW2.out] at hg3
 have HF := Lib.hid (HFIN.out w3 hg3)
 go_wp2_with fail
 refine bodyPost_ret (results_c1 rfl _ _ w.heap.size 86 #[.int .i64 to_, .slice A n c] (0, 0) _ rfl hb3 Tryz.underlying86 rfl frm_size) rfl ?_
 exact ⟨rfl, HF.out⟩
end Go.Proofs.YtaeafkdfbcppgaaGreat
