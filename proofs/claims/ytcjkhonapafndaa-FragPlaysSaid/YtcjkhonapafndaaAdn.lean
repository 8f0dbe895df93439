/- Proved: a piece that is refused by its form or length, or that is whole, is told to a Store, by the walk of Add; whatever piece; whatever piece is told to a Store: what it answers, and the Store behind it. Conditions: as each law says. -/
import Derived.Test.YtcjkhonapafndaaAdw
set_option linter.unusedVariables false
set_option linter.unusedSimpArgs false
namespace Go.Proofs.Ytcjkhonapafndaa
open Go.RowKit
theorem AddPost.zero {w wf : World} {ps ac : Nat} {mv : Option Nat} {aA : Option Addr} {Ws : List WR} {R : List Rec → Pk3 → Bool → Int → Prop} {er : Int} (h : StW w ps mv aA ac Ws) (hB : Below w.heap.size w wf) (hR : R (Ws.map (·.r)) (zeroP, [], []) false er) :
    AddPost w ps mv aA Ws R (.returned (.tuple #[.agg #[.int .i64 0, .int .i64 0, .bool false, .bool false, .int .i64 0, .int .i64 0, .int .i64 0, .int .u32 0, .int .u32 0, .slice none 0 0, .slice none 0 0], .bool false, .int .i64 er])) wf :=
  ⟨mv, aA, ac, Ws, (zeroP, [], []), false, er, none, none, 0, 0, 0, 0, rfl, h.below hB, own_none _ _, (fun b hb => by simp [blk] at hb), (fun b hb => .inl hb), Chg.of_below hB, hR⟩
theorem AddPost.out {w wf : World} {ps ac base n1 c1 n2 c2 : Nat} {mv : Option Nat} {aA A1 A2 : Option Addr} {Ws : List WR} {R : List Rec → Pk3 → Bool → Int → Prop} {p : PkV} {ol dl : List Int} (h : StW w ps mv aA ac Ws) (hB : Below w.heap.size w wf) (hO : OwnAt wf base A1 n1 c1 ol A2 n2 c2 dl) (hb : w.heap.size ≤ base) (hR : R (Ws.map (·.r)) (p, ol, dl) true 0) :
    AddPost w ps mv aA Ws R (.returned (.tuple #[.agg (pkC p (.slice A1 n1 c1) (.slice A2 n2 c2)), .bool true, .int .i64 0])) wf :=
  ⟨mv, aA, ac, Ws, (p, ol, dl), true, 0, A1, A2, n1, c1, n2, c2, rfl, h.below hB, ⟨Ow.mono hO.1 hb, Ow.mono hO.2.1 hb, hO.2.2⟩, (fun b hbl hf => by
    have h1 := h.foot_lt hf
    rcases hbl with hbl | hbl
    · have := (Ow.lt hO.1 b hbl).1; omega
    · have := (Ow.lt hO.2.1 b hbl).1; omega), (fun b hb => .inl hb), Chg.of_below hB, hR⟩
/-- A piece whose form is not right. -/
def FormBad (p : PkV) (dn : Nat) : Prop := dn = 0 ∨ (p.more = true ∧ dn % 8 ≠ 0) ∨ p.off < 0 ∨ p.off.tmod 8 ≠ 0
set_option maxHeartbeats 4000000 in
set_option maxRecDepth 100000 in
theorem add_own (ps : Nat) (mv : Option Nat) (aA : Option Addr) (ac : Nat) (Ws : List WR) (p : PkV) (oA dA : Option Addr) (on oc dn dc B : Nat) (ol dl : List Int) (hn : ol.length = on) (hmo : on ≤ 1000000) (hdn : dl.length = dn) (hmd : dn ≤ 140737488355328) (hmore : p.more = false ∧ p.off ≤ 0) (now : Int) (w : World)
    (hr : RB w B oA ol) (hrd : RB w B dA dl) (hB : B ≤ w.heap.size) (h : StW w ps mv aA ac Ws) (R : List Rec → Pk3 → Bool → Int → Prop) (hR : R (Ws.map (·.r)) (p, ol, dl) true 0) :
    Calls Try.prog 21 #[.pointer (some ⟨ps, 0, none⟩), .agg (pkC p (.slice oA on oc) (.slice dA dn dc)), .int .i64 now] w (AddPost w ps mv aA Ws R) := by
  obtain ⟨svc, id, wh, mo, off, life, proto, src, dst⟩ := p
  simp only at hmore hR
  unfold pkC
  simp only
  have HN0 : Hid (∀ b, b = 0 → True) := Lib.hid (fun _ _ => trivial)
  obtain ⟨gx, hgx⟩ : ∃ gx, w.heap.size = gx := ⟨_, rfl⟩
  obtain ⟨W, hW⟩ : ∃ W, (w.alloc (.cells #[.int .i64 svc, .int .i64 id, .bool wh, .bool mo, .int .i64 off, .int .i64 life, .int .i64 proto, .int .u32 src, .int .u32 dst, .slice oA on oc, .slice dA dn dc] 26)).alloc (.cells #[.int .i64 0, .int .i64 0, .bool false, .bool false, .int .i64 0, .int .i64 0, .int .i64 0, .int .u32 0, .int .u32 0, .slice none 0 0, .slice none 0 0] 26) = W := ⟨_, rfl⟩
  have hBW : Below w.heap.size w W := by rw [← hW]; exact ((Below.refl _ _).alloc (Nat.le_refl _) _).alloc (by rw [World.size_alloc]; omega) _
  have hpW : Bk W gx 26 #[.int .i64 svc, .int .i64 id, .bool wh, .bool mo, .int .i64 off, .int .i64 life, .int .i64 proto, .int .u32 src, .int .u32 dst, .slice oA on oc, .slice dA dn dc] := by rw [← hW, ← hgx]; exact (Bk.new w _ _).alloc _
  have hzW : Bk W (gx + 1) 26 #[.int .i64 0, .int .i64 0, .bool false, .bool false, .int .i64 0, .int .i64 0, .int .i64 0, .int .u32 0, .int .u32 0, .slice none 0 0, .slice none 0 0] := by
    rw [← hW]
    have := Bk.new (w.alloc (.cells #[.int .i64 svc, .int .i64 id, .bool wh, .bool mo, .int .i64 off, .int .i64 life, .int .i64 proto, .int .u32 src, .int .u32 dst, .slice oA on oc, .slice dA dn dc] 26)) 26 #[.int .i64 0, .int .i64 0, .bool false, .bool false, .int .i64 0, .int .i64 0, .int .i64 0, .int .u32 0, .int .u32 0, .slice none 0 0, .slice none 0 0]
    rw [World.size_alloc, hgx] at this
    exact this
  obtain ⟨rfl, hoff⟩ := hmore
  have f1 : decide (off ≤ 0) = true := decide_eq_true hoff
  have HOW := Lib.hid (own_any ⟨svc, id, wh, false, off, life, proto, src, dst⟩ oA dA on oc dn dc B ol dl hn (by omega) hdn hmd W (Rw.below hr (hBW.mono hB)) (Rw.below hrd (hBW.mono hB)) (Nat.le_trans hB hBW.size))
  unfold pkC at HOW
  simp only at HOW
  have c0 : W.cell? ⟨gx, 0, none⟩ = some (.int .i64 svc) := hpW.cell 0
  have c1 : W.cell? ⟨gx, 1, none⟩ = some (.int .i64 id) := hpW.cell 1
  have c2 : W.cell? ⟨gx, 2, none⟩ = some (.bool wh) := hpW.cell 2
  have c3 : W.cell? ⟨gx, 3, none⟩ = some (.bool false) := hpW.cell 3
  have c4 : W.cell? ⟨gx, 4, none⟩ = some (.int .i64 off) := hpW.cell 4
  have c5 : W.cell? ⟨gx, 5, none⟩ = some (.int .i64 life) := hpW.cell 5
  have c6 : W.cell? ⟨gx, 6, none⟩ = some (.int .i64 proto) := hpW.cell 6
  have c7 : W.cell? ⟨gx, 7, none⟩ = some (.int .u32 src) := hpW.cell 7
  have c8 : W.cell? ⟨gx, 8, none⟩ = some (.int .u32 dst) := hpW.cell 8
  have c9 : W.cell? ⟨gx, 9, none⟩ = some (.slice oA on oc) := hpW.cell 9
  have c10 : W.cell? ⟨gx, 10, none⟩ = some (.slice dA dn dc) := hpW.cell 10
  have HST := Lib.hid h
  have HRR := Lib.hid hR
  have HW := Lib.hid hW
  have HGX := Lib.hid hgx
  have HBW := Lib.hid hBW
  have HZW := Lib.hid hzW
  clear h hR hW hgx hBW hpW hzW hr hrd hn hdn hoff
  go_enter Try.func21, Try.ntmps21
  go_upto_block 0 with fail
  rw [HW.out, HGX.out]
  go_wp2_with fail
  refine HOW.out.mono ?_
  rintro e w4 ⟨A1, k1, A2, k2, rfl, hO4, hB4⟩
  have hz4 := HZW.out.below hB4 HZW.out.lt
  have n0 : w4.cell? ⟨gx + 1, 0, none⟩ = some (.int .i64 0) := hz4.cell 0
  have n1 : w4.cell? ⟨gx + 1, 1, none⟩ = some (.int .i64 0) := hz4.cell 1
  have n2 : w4.cell? ⟨gx + 1, 2, none⟩ = some (.bool false) := hz4.cell 2
  have n3 : w4.cell? ⟨gx + 1, 3, none⟩ = some (.bool false) := hz4.cell 3
  have n4 : w4.cell? ⟨gx + 1, 4, none⟩ = some (.int .i64 0) := hz4.cell 4
  have n5 : w4.cell? ⟨gx + 1, 5, none⟩ = some (.int .i64 0) := hz4.cell 5
  have n6 : w4.cell? ⟨gx + 1, 6, none⟩ = some (.int .i64 0) := hz4.cell 6
  have n7 : w4.cell? ⟨gx + 1, 7, none⟩ = some (.int .u32 0) := hz4.cell 7
  have n8 : w4.cell? ⟨gx + 1, 8, none⟩ = some (.int .u32 0) := hz4.cell 8
  have n9 : w4.cell? ⟨gx + 1, 9, none⟩ = some (.slice none 0 0) := hz4.cell 9
  have n10 : w4.cell? ⟨gx + 1, 10, none⟩ = some (.slice none 0 0) := hz4.cell 10
  have o0 : w4.frozen? ⟨gx + 1, 0, none⟩ = false := hz4.frozen 0
  have o1 : w4.frozen? ⟨gx + 1, 1, none⟩ = false := hz4.frozen 1
  have o2 : w4.frozen? ⟨gx + 1, 2, none⟩ = false := hz4.frozen 2
  have o3 : w4.frozen? ⟨gx + 1, 3, none⟩ = false := hz4.frozen 3
  have o4 : w4.frozen? ⟨gx + 1, 4, none⟩ = false := hz4.frozen 4
  have o5 : w4.frozen? ⟨gx + 1, 5, none⟩ = false := hz4.frozen 5
  have o6 : w4.frozen? ⟨gx + 1, 6, none⟩ = false := hz4.frozen 6
  have o7 : w4.frozen? ⟨gx + 1, 7, none⟩ = false := hz4.frozen 7
  have o8 : w4.frozen? ⟨gx + 1, 8, none⟩ = false := hz4.frozen 8
  have o9 : w4.frozen? ⟨gx + 1, 9, none⟩ = false := hz4.frozen 9
  have o10 : w4.frozen? ⟨gx + 1, 10, none⟩ = false := hz4.frozen 10
  have HZ4 := Lib.hid hz4
  have HO4 := Lib.hid hO4
  have HB4 := Lib.hid hB4
  clear hz4 hO4 hB4 c0 c1 c2 c3 c4 c5 c6 c7 c8 c9 c10
  go_wp2
  have zz0 : Bk _ (gx + 1) 26 #[.int .i64 svc, .int .i64 0, .bool false, .bool false, .int .i64 0, .int .i64 0, .int .i64 0, .int .u32 0, .int .u32 0, .slice none 0 0, .slice none 0 0] := HZ4.out.set 0 (.int .i64 svc)
  have zz1 : Bk _ (gx + 1) 26 #[.int .i64 svc, .int .i64 id, .bool false, .bool false, .int .i64 0, .int .i64 0, .int .i64 0, .int .u32 0, .int .u32 0, .slice none 0 0, .slice none 0 0] := zz0.set 1 (.int .i64 id)
  have zz2 : Bk _ (gx + 1) 26 #[.int .i64 svc, .int .i64 id, .bool wh, .bool false, .int .i64 0, .int .i64 0, .int .i64 0, .int .u32 0, .int .u32 0, .slice none 0 0, .slice none 0 0] := zz1.set 2 (.bool wh)
  have zz3 : Bk _ (gx + 1) 26 #[.int .i64 svc, .int .i64 id, .bool wh, .bool false, .int .i64 0, .int .i64 0, .int .i64 0, .int .u32 0, .int .u32 0, .slice none 0 0, .slice none 0 0] := zz2.set 3 (.bool false)
  have zz4 : Bk _ (gx + 1) 26 #[.int .i64 svc, .int .i64 id, .bool wh, .bool false, .int .i64 off, .int .i64 0, .int .i64 0, .int .u32 0, .int .u32 0, .slice none 0 0, .slice none 0 0] := zz3.set 4 (.int .i64 off)
  have zz5 : Bk _ (gx + 1) 26 #[.int .i64 svc, .int .i64 id, .bool wh, .bool false, .int .i64 off, .int .i64 life, .int .i64 0, .int .u32 0, .int .u32 0, .slice none 0 0, .slice none 0 0] := zz4.set 5 (.int .i64 life)
  have zz6 : Bk _ (gx + 1) 26 #[.int .i64 svc, .int .i64 id, .bool wh, .bool false, .int .i64 off, .int .i64 life, .int .i64 proto, .int .u32 0, .int .u32 0, .slice none 0 0, .slice none 0 0] := zz5.set 6 (.int .i64 proto)
  have zz7 : Bk _ (gx + 1) 26 #[.int .i64 svc, .int .i64 id, .bool wh, .bool false, .int .i64 off, .int .i64 life, .int .i64 proto, .int .u32 src, .int .u32 0, .slice none 0 0, .slice none 0 0] := zz6.set 7 (.int .u32 src)
  have zz8 : Bk _ (gx + 1) 26 #[.int .i64 svc, .int .i64 id, .bool wh, .bool false, .int .i64 off, .int .i64 life, .int .i64 proto, .int .u32 src, .int .u32 dst, .slice none 0 0, .slice none 0 0] := zz7.set 8 (.int .u32 dst)
  have zz9 : Bk _ (gx + 1) 26 #[.int .i64 svc, .int .i64 id, .bool wh, .bool false, .int .i64 off, .int .i64 life, .int .i64 proto, .int .u32 src, .int .u32 dst, .slice A1 on k1, .slice none 0 0] := zz8.set 9 (.slice A1 on k1)
  have zz10 : Bk _ (gx + 1) 26 #[.int .i64 svc, .int .i64 id, .bool wh, .bool false, .int .i64 off, .int .i64 life, .int .i64 proto, .int .u32 src, .int .u32 dst, .slice A1 on k1, .slice A2 dn k2] := zz9.set 10 (.slice A2 dn k2)
  refine bodyPost_ret (results_c2 rfl _ _ (gx + 1) _ _ _ _ rfl zz10 Try.underlying26 rfl (by kernel_rfl)) rfl ?_
  obtain ⟨wf, hwf⟩ : ∃ wf, (((((((((((w4.setCell ⟨gx + 1, 0, none⟩ (.int .i64 svc)).setCell ⟨gx + 1, 1, none⟩ (.int .i64 id)).setCell ⟨gx + 1, 2, none⟩ (.bool wh)).setCell ⟨gx + 1, 3, none⟩ (.bool false)).setCell ⟨gx + 1, 4, none⟩ (.int .i64 off)).setCell ⟨gx + 1, 5, none⟩ (.int .i64 life)).setCell ⟨gx + 1, 6, none⟩ (.int .i64 proto)).setCell ⟨gx + 1, 7, none⟩ (.int .u32 src)).setCell ⟨gx + 1, 8, none⟩ (.int .u32 dst)).setCell ⟨gx + 1, 9, none⟩ (.slice A1 on k1)).setCell ⟨gx + 1, 10, none⟩ (.slice A2 dn k2)) = wf := ⟨_, rfl⟩
  have hCf : Chg (fun x => x = gx + 1) w4 wf := by
    rw [← hwf]
    exact ((((((((((((Chg.refl (fun x => x = gx + 1) w4).setCell (p := ⟨gx + 1, 0, none⟩) (.inl rfl) _).setCell (p := ⟨gx + 1, 1, none⟩) (.inl rfl) _).setCell (p := ⟨gx + 1, 2, none⟩) (.inl rfl) _).setCell (p := ⟨gx + 1, 3, none⟩) (.inl rfl) _).setCell (p := ⟨gx + 1, 4, none⟩) (.inl rfl) _).setCell (p := ⟨gx + 1, 5, none⟩) (.inl rfl) _).setCell (p := ⟨gx + 1, 6, none⟩) (.inl rfl) _).setCell (p := ⟨gx + 1, 7, none⟩) (.inl rfl) _).setCell (p := ⟨gx + 1, 8, none⟩) (.inl rfl) _).setCell (p := ⟨gx + 1, 9, none⟩) (.inl rfl) _).setCell (p := ⟨gx + 1, 10, none⟩) (.inl rfl) _)
  rw [hwf]
  clear hwf zz0 zz1 zz2 zz3 zz4 zz5 zz6 zz7 zz8 zz9 zz10
  have hzl := HZW.out.lt
  have hgx := HGX.out
  have hO2 : OwnAt wf W.heap.size A1 on k1 ol A2 dn k2 dl := ⟨Ow.chg HO4.out.1 hCf (fun b hb e => by have := (Ow.lt HO4.out.1 b hb).1; omega), Ow.chg HO4.out.2.1 hCf (fun b hb e => by have := (Ow.lt HO4.out.2.1 b hb).1; omega), HO4.out.2.2⟩
  have hBf : Below w.heap.size w wf := (HBW.out.trans (HB4.out.mono HBW.out.size)).trans (hCf.below (fun b hb => by omega) (Nat.le_trans HBW.out.size HB4.out.size))
  exact AddPost.out (p := ⟨svc, id, wh, false, off, life, proto, src, dst⟩) HST.out hBf hO2 HBW.out.size HRR.out
set_option maxHeartbeats 4000000 in
set_option maxRecDepth 100000 in
theorem add_form (ps : Nat) (mv : Option Nat) (aA : Option Addr) (ac : Nat) (Ws : List WR) (p : PkV) (oA dA : Option Addr) (on oc dn dc : Nat) (hmd : dn ≤ 140737488355328) (hnot : ¬ (p.more = false ∧ p.off ≤ 0)) (hbad : FormBad p dn) (now : Int) (w : World)
    (h : StW w ps mv aA ac Ws) (R : List Rec → Pk3 → Bool → Int → Prop) (hR : R (Ws.map (·.r)) (zeroP, [], []) false 3) :
    Calls Try.prog 21 #[.pointer (some ⟨ps, 0, none⟩), .agg (pkC p (.slice oA on oc) (.slice dA dn dc)), .int .i64 now] w (AddPost w ps mv aA Ws R) := by
  obtain ⟨svc, id, wh, mo, off, life, proto, src, dst⟩ := p
  simp only at hnot hR
  unfold pkC
  simp only
  have HN0 : Hid (∀ b, b = 0 → True) := Lib.hid (fun _ _ => trivial)
  obtain ⟨gx, hgx⟩ : ∃ gx, w.heap.size = gx := ⟨_, rfl⟩
  obtain ⟨W, hW⟩ : ∃ W, (w.alloc (.cells #[.int .i64 svc, .int .i64 id, .bool wh, .bool mo, .int .i64 off, .int .i64 life, .int .i64 proto, .int .u32 src, .int .u32 dst, .slice oA on oc, .slice dA dn dc] 26)).alloc (.cells #[.int .i64 0, .int .i64 0, .bool false, .bool false, .int .i64 0, .int .i64 0, .int .i64 0, .int .u32 0, .int .u32 0, .slice none 0 0, .slice none 0 0] 26) = W := ⟨_, rfl⟩
  have hBW : Below w.heap.size w W := by rw [← hW]; exact ((Below.refl _ _).alloc (Nat.le_refl _) _).alloc (by rw [World.size_alloc]; omega) _
  have hpW : Bk W gx 26 #[.int .i64 svc, .int .i64 id, .bool wh, .bool mo, .int .i64 off, .int .i64 life, .int .i64 proto, .int .u32 src, .int .u32 dst, .slice oA on oc, .slice dA dn dc] := by rw [← hW, ← hgx]; exact (Bk.new w _ _).alloc _
  have hzW : Bk W (gx + 1) 26 #[.int .i64 0, .int .i64 0, .bool false, .bool false, .int .i64 0, .int .i64 0, .int .i64 0, .int .u32 0, .int .u32 0, .slice none 0 0, .slice none 0 0] := by
    rw [← hW]
    have := Bk.new (w.alloc (.cells #[.int .i64 svc, .int .i64 id, .bool wh, .bool mo, .int .i64 off, .int .i64 life, .int .i64 proto, .int .u32 src, .int .u32 dst, .slice oA on oc, .slice dA dn dc] 26)) 26 #[.int .i64 0, .int .i64 0, .bool false, .bool false, .int .i64 0, .int .i64 0, .int .i64 0, .int .u32 0, .int .u32 0, .slice none 0 0, .slice none 0 0]
    rw [World.size_alloc, hgx] at this
    exact this
  have c0 : W.cell? ⟨gx, 0, none⟩ = some (.int .i64 svc) := hpW.cell 0
  have c1 : W.cell? ⟨gx, 1, none⟩ = some (.int .i64 id) := hpW.cell 1
  have c2 : W.cell? ⟨gx, 2, none⟩ = some (.bool wh) := hpW.cell 2
  have c3 : W.cell? ⟨gx, 3, none⟩ = some (.bool mo) := hpW.cell 3
  have c4 : W.cell? ⟨gx, 4, none⟩ = some (.int .i64 off) := hpW.cell 4
  have c5 : W.cell? ⟨gx, 5, none⟩ = some (.int .i64 life) := hpW.cell 5
  have c6 : W.cell? ⟨gx, 6, none⟩ = some (.int .i64 proto) := hpW.cell 6
  have c7 : W.cell? ⟨gx, 7, none⟩ = some (.int .u32 src) := hpW.cell 7
  have c8 : W.cell? ⟨gx, 8, none⟩ = some (.int .u32 dst) := hpW.cell 8
  have c9 : W.cell? ⟨gx, 9, none⟩ = some (.slice oA on oc) := hpW.cell 9
  have c10 : W.cell? ⟨gx, 10, none⟩ = some (.slice dA dn dc) := hpW.cell 10
  have n0 : W.cell? ⟨gx + 1, 0, none⟩ = some (.int .i64 0) := hzW.cell 0
  have n1 : W.cell? ⟨gx + 1, 1, none⟩ = some (.int .i64 0) := hzW.cell 1
  have n2 : W.cell? ⟨gx + 1, 2, none⟩ = some (.bool false) := hzW.cell 2
  have n3 : W.cell? ⟨gx + 1, 3, none⟩ = some (.bool false) := hzW.cell 3
  have n4 : W.cell? ⟨gx + 1, 4, none⟩ = some (.int .i64 0) := hzW.cell 4
  have n5 : W.cell? ⟨gx + 1, 5, none⟩ = some (.int .i64 0) := hzW.cell 5
  have n6 : W.cell? ⟨gx + 1, 6, none⟩ = some (.int .i64 0) := hzW.cell 6
  have n7 : W.cell? ⟨gx + 1, 7, none⟩ = some (.int .u32 0) := hzW.cell 7
  have n8 : W.cell? ⟨gx + 1, 8, none⟩ = some (.int .u32 0) := hzW.cell 8
  have n9 : W.cell? ⟨gx + 1, 9, none⟩ = some (.slice none 0 0) := hzW.cell 9
  have n10 : W.cell? ⟨gx + 1, 10, none⟩ = some (.slice none 0 0) := hzW.cell 10
  have z0 : W.frozen? ⟨gx + 1, 0, none⟩ = false := hzW.frozen 0
  have z1 : W.frozen? ⟨gx + 1, 1, none⟩ = false := hzW.frozen 1
  have z2 : W.frozen? ⟨gx + 1, 2, none⟩ = false := hzW.frozen 2
  have z3 : W.frozen? ⟨gx + 1, 3, none⟩ = false := hzW.frozen 3
  have z4 : W.frozen? ⟨gx + 1, 4, none⟩ = false := hzW.frozen 4
  have z5 : W.frozen? ⟨gx + 1, 5, none⟩ = false := hzW.frozen 5
  have z6 : W.frozen? ⟨gx + 1, 6, none⟩ = false := hzW.frozen 6
  have z7 : W.frozen? ⟨gx + 1, 7, none⟩ = false := hzW.frozen 7
  have z8 : W.frozen? ⟨gx + 1, 8, none⟩ = false := hzW.frozen 8
  have z9 : W.frozen? ⟨gx + 1, 9, none⟩ = false := hzW.frozen 9
  have z10 : W.frozen? ⟨gx + 1, 10, none⟩ = false := hzW.frozen 10
  have HST := Lib.hid h
  have HRR := Lib.hid hR
  have HW := Lib.hid hW
  have HGX := Lib.hid hgx
  have HBW := Lib.hid hBW
  have HZW := Lib.hid hzW
  clear h hR hW hgx hBW hpW hzW
  have FIN : Hid (∀ wf, Chg (fun x => x = gx + 1) W wf → AddPost w ps mv aA Ws R (.returned (.tuple #[.agg #[.int .i64 0, .int .i64 0, .bool false, .bool false, .int .i64 0, .int .i64 0, .int .i64 0, .int .u32 0, .int .u32 0, .slice none 0 0, .slice none 0 0], .bool false, .int .i64 3])) wf) := Lib.hid (fun wf hCf => by
    have hzl := HZW.out.lt
    have hgx := HGX.out
    exact AddPost.zero HST.out (HBW.out.trans (hCf.below (fun b hb => by omega) HBW.out.size)) HRR.out)
  have m8 : (dn : Int).tmod 8 = ((dn % 8 : Nat) : Int) := by rw [Int.tmod_eq_emod_of_nonneg (by omega)]; omega
  have hnp : (mo = true) ∨ (mo = false ∧ 0 < off) := by
    cases mo with
    | true => exact .inl rfl
    | false => exact .inr ⟨rfl, by
        rcases Int.lt_or_le 0 off with q | q
        · exact q
        · exact absurd ⟨rfl, q⟩ hnot⟩
  have W1 : (dn = 0) ∨ (dn ≠ 0 ∧ mo = true ∧ dn % 8 ≠ 0) ∨ (dn ≠ 0 ∧ (mo = true → dn % 8 = 0) ∧ off < 0) ∨ (dn ≠ 0 ∧ (mo = true → dn % 8 = 0) ∧ ¬ off < 0 ∧ off.tmod 8 ≠ 0) := by
    unfold FormBad at hbad
    simp only at hbad
    by_cases h1 : dn = 0
    · exact .inl h1
    by_cases h2 : mo = true ∧ dn % 8 ≠ 0
    · exact .inr (.inl ⟨h1, h2⟩)
    have h3 : mo = true → dn % 8 = 0 := fun e => by
      rcases Nat.decEq (dn % 8) 0 with q | q
      · exact absurd ⟨e, q⟩ h2
      · exact q
    by_cases h4 : off < 0
    · exact .inr (.inr (.inl ⟨h1, h3, h4⟩))
    · refine .inr (.inr (.inr ⟨h1, h3, h4, ?_⟩))
      rcases hbad with q | q | q | q
      · exact absurd q h1
      · exact absurd q h2
      · exact absurd q h4
      · exact q
  clear hbad hnot
  rcases hnp with rfl | ⟨rfl, hp0⟩
  · rcases W1 with hd | ⟨hd, _, hd8⟩ | ⟨hd, hd8, hneg⟩ | ⟨hd, hd8, hneg, ho8⟩
    · have e0 : ((dn : Int) == 0) = true := beq_iff_eq.2 (by omega)
      have e0n : (dn == 0) = true := beq_iff_eq.2 (by omega)
      clear hd m8 hmd
      go_enter Try.func21, Try.ntmps21
      go_upto_block 0 with fail
      rw [HW.out, HGX.out]
      go_wp2_with fail
      have zz0 : Bk _ (gx + 1) 26 #[.int .i64 0, .int .i64 0, .bool false, .bool false, .int .i64 0, .int .i64 0, .int .i64 0, .int .u32 0, .int .u32 0, .slice none 0 0, .slice none 0 0] := HZW.out.set 0 (.int .i64 0)
      have zz1 : Bk _ (gx + 1) 26 #[.int .i64 0, .int .i64 0, .bool false, .bool false, .int .i64 0, .int .i64 0, .int .i64 0, .int .u32 0, .int .u32 0, .slice none 0 0, .slice none 0 0] := zz0.set 1 (.int .i64 0)
      have zz2 : Bk _ (gx + 1) 26 #[.int .i64 0, .int .i64 0, .bool false, .bool false, .int .i64 0, .int .i64 0, .int .i64 0, .int .u32 0, .int .u32 0, .slice none 0 0, .slice none 0 0] := zz1.set 2 (.bool false)
      have zz3 : Bk _ (gx + 1) 26 #[.int .i64 0, .int .i64 0, .bool false, .bool false, .int .i64 0, .int .i64 0, .int .i64 0, .int .u32 0, .int .u32 0, .slice none 0 0, .slice none 0 0] := zz2.set 3 (.bool false)
      have zz4 : Bk _ (gx + 1) 26 #[.int .i64 0, .int .i64 0, .bool false, .bool false, .int .i64 0, .int .i64 0, .int .i64 0, .int .u32 0, .int .u32 0, .slice none 0 0, .slice none 0 0] := zz3.set 4 (.int .i64 0)
      have zz5 : Bk _ (gx + 1) 26 #[.int .i64 0, .int .i64 0, .bool false, .bool false, .int .i64 0, .int .i64 0, .int .i64 0, .int .u32 0, .int .u32 0, .slice none 0 0, .slice none 0 0] := zz4.set 5 (.int .i64 0)
      have zz6 : Bk _ (gx + 1) 26 #[.int .i64 0, .int .i64 0, .bool false, .bool false, .int .i64 0, .int .i64 0, .int .i64 0, .int .u32 0, .int .u32 0, .slice none 0 0, .slice none 0 0] := zz5.set 6 (.int .i64 0)
      have zz7 : Bk _ (gx + 1) 26 #[.int .i64 0, .int .i64 0, .bool false, .bool false, .int .i64 0, .int .i64 0, .int .i64 0, .int .u32 0, .int .u32 0, .slice none 0 0, .slice none 0 0] := zz6.set 7 (.int .u32 0)
      have zz8 : Bk _ (gx + 1) 26 #[.int .i64 0, .int .i64 0, .bool false, .bool false, .int .i64 0, .int .i64 0, .int .i64 0, .int .u32 0, .int .u32 0, .slice none 0 0, .slice none 0 0] := zz7.set 8 (.int .u32 0)
      have zz9 : Bk _ (gx + 1) 26 #[.int .i64 0, .int .i64 0, .bool false, .bool false, .int .i64 0, .int .i64 0, .int .i64 0, .int .u32 0, .int .u32 0, .slice none 0 0, .slice none 0 0] := zz8.set 9 (.slice none 0 0)
      have zz10 : Bk _ (gx + 1) 26 #[.int .i64 0, .int .i64 0, .bool false, .bool false, .int .i64 0, .int .i64 0, .int .i64 0, .int .u32 0, .int .u32 0, .slice none 0 0, .slice none 0 0] := zz9.set 10 (.slice none 0 0)
      refine bodyPost_ret (results_c2 rfl _ _ (gx + 1) _ _ _ _ rfl zz10 Try.underlying26 rfl (by kernel_rfl)) rfl ?_
      obtain ⟨wf, hwf⟩ : ∃ wf, (((((((((((W.setCell ⟨gx + 1, 0, none⟩ (.int .i64 0)).setCell ⟨gx + 1, 1, none⟩ (.int .i64 0)).setCell ⟨gx + 1, 2, none⟩ (.bool false)).setCell ⟨gx + 1, 3, none⟩ (.bool false)).setCell ⟨gx + 1, 4, none⟩ (.int .i64 0)).setCell ⟨gx + 1, 5, none⟩ (.int .i64 0)).setCell ⟨gx + 1, 6, none⟩ (.int .i64 0)).setCell ⟨gx + 1, 7, none⟩ (.int .u32 0)).setCell ⟨gx + 1, 8, none⟩ (.int .u32 0)).setCell ⟨gx + 1, 9, none⟩ (.slice none 0 0)).setCell ⟨gx + 1, 10, none⟩ (.slice none 0 0)) = wf := ⟨_, rfl⟩
      have hCf : Chg (fun x => x = gx + 1) W wf := by
        rw [← hwf]
        exact ((((((((((((Chg.refl (fun x => x = gx + 1) W).setCell (p := ⟨gx + 1, 0, none⟩) (.inl rfl) _).setCell (p := ⟨gx + 1, 1, none⟩) (.inl rfl) _).setCell (p := ⟨gx + 1, 2, none⟩) (.inl rfl) _).setCell (p := ⟨gx + 1, 3, none⟩) (.inl rfl) _).setCell (p := ⟨gx + 1, 4, none⟩) (.inl rfl) _).setCell (p := ⟨gx + 1, 5, none⟩) (.inl rfl) _).setCell (p := ⟨gx + 1, 6, none⟩) (.inl rfl) _).setCell (p := ⟨gx + 1, 7, none⟩) (.inl rfl) _).setCell (p := ⟨gx + 1, 8, none⟩) (.inl rfl) _).setCell (p := ⟨gx + 1, 9, none⟩) (.inl rfl) _).setCell (p := ⟨gx + 1, 10, none⟩) (.inl rfl) _)
      rw [hwf]
      clear hwf zz0 zz1 zz2 zz3 zz4 zz5 zz6 zz7 zz8 zz9 zz10
      exact FIN.out wf hCf
    · have e0 : ((dn : Int) == 0) = false := beq_eq_false_iff_ne.2 (by omega)
      have e0n : (dn == 0) = false := beq_eq_false_iff_ne.2 (by omega)
      have e8 : ((dn : Int).tmod 8 != 0) = true := by rw [m8]; simp; omega
      have e8b : ((dn : Int).tmod 8 == 0) = false := by rw [m8]; exact beq_eq_false_iff_ne.2 (by omega)
      have e8c : ¬ ((dn : Int).tmod 8 = 0) := by rw [m8]; omega
      have e8d : ¬ ((dn : Int) % 8 = 0) := by omega
      have e8e : ¬ (dn % 8 = 0) := hd8
      have e8g : (dn % 8 == 0) = false := beq_eq_false_iff_ne.2 hd8
      have e8h : (((dn : Int) % 8) == 0) = false := beq_eq_false_iff_ne.2 (by omega)
      clear hd hd8 m8 hmd
      go_enter Try.func21, Try.ntmps21
      go_upto_block 0 with fail
      rw [HW.out, HGX.out]
      go_wp2_with fail
      have zz0 : Bk _ (gx + 1) 26 #[.int .i64 0, .int .i64 0, .bool false, .bool false, .int .i64 0, .int .i64 0, .int .i64 0, .int .u32 0, .int .u32 0, .slice none 0 0, .slice none 0 0] := HZW.out.set 0 (.int .i64 0)
      have zz1 : Bk _ (gx + 1) 26 #[.int .i64 0, .int .i64 0, .bool false, .bool false, .int .i64 0, .int .i64 0, .int .i64 0, .int .u32 0, .int .u32 0, .slice none 0 0, .slice none 0 0] := zz0.set 1 (.int .i64 0)
      have zz2 : Bk _ (gx + 1) 26 #[.int .i64 0, .int .i64 0, .bool false, .bool false, .int .i64 0, .int .i64 0, .int .i64 0, .int .u32 0, .int .u32 0, .slice none 0 0, .slice none 0 0] := zz1.set 2 (.bool false)
      have zz3 : Bk _ (gx + 1) 26 #[.int .i64 0, .int .i64 0, .bool false, .bool false, .int .i64 0, .int .i64 0, .int .i64 0, .int .u32 0, .int .u32 0, .slice none 0 0, .slice none 0 0] := zz2.set 3 (.bool false)
      have zz4 : Bk _ (gx + 1) 26 #[.int .i64 0, .int .i64 0, .bool false, .bool false, .int .i64 0, .int .i64 0, .int .i64 0, .int .u32 0, .int .u32 0, .slice none 0 0, .slice none 0 0] := zz3.set 4 (.int .i64 0)
      have zz5 : Bk _ (gx + 1) 26 #[.int .i64 0, .int .i64 0, .bool false, .bool false, .int .i64 0, .int .i64 0, .int .i64 0, .int .u32 0, .int .u32 0, .slice none 0 0, .slice none 0 0] := zz4.set 5 (.int .i64 0)
      have zz6 : Bk _ (gx + 1) 26 #[.int .i64 0, .int .i64 0, .bool false, .bool false, .int .i64 0, .int .i64 0, .int .i64 0, .int .u32 0, .int .u32 0, .slice none 0 0, .slice none 0 0] := zz5.set 6 (.int .i64 0)
      have zz7 : Bk _ (gx + 1) 26 #[.int .i64 0, .int .i64 0, .bool false, .bool false, .int .i64 0, .int .i64 0, .int .i64 0, .int .u32 0, .int .u32 0, .slice none 0 0, .slice none 0 0] := zz6.set 7 (.int .u32 0)
      have zz8 : Bk _ (gx + 1) 26 #[.int .i64 0, .int .i64 0, .bool false, .bool false, .int .i64 0, .int .i64 0, .int .i64 0, .int .u32 0, .int .u32 0, .slice none 0 0, .slice none 0 0] := zz7.set 8 (.int .u32 0)
      have zz9 : Bk _ (gx + 1) 26 #[.int .i64 0, .int .i64 0, .bool false, .bool false, .int .i64 0, .int .i64 0, .int .i64 0, .int .u32 0, .int .u32 0, .slice none 0 0, .slice none 0 0] := zz8.set 9 (.slice none 0 0)
      have zz10 : Bk _ (gx + 1) 26 #[.int .i64 0, .int .i64 0, .bool false, .bool false, .int .i64 0, .int .i64 0, .int .i64 0, .int .u32 0, .int .u32 0, .slice none 0 0, .slice none 0 0] := zz9.set 10 (.slice none 0 0)
      refine bodyPost_ret (results_c2 rfl _ _ (gx + 1) _ _ _ _ rfl zz10 Try.underlying26 rfl (by kernel_rfl)) rfl ?_
      obtain ⟨wf, hwf⟩ : ∃ wf, (((((((((((W.setCell ⟨gx + 1, 0, none⟩ (.int .i64 0)).setCell ⟨gx + 1, 1, none⟩ (.int .i64 0)).setCell ⟨gx + 1, 2, none⟩ (.bool false)).setCell ⟨gx + 1, 3, none⟩ (.bool false)).setCell ⟨gx + 1, 4, none⟩ (.int .i64 0)).setCell ⟨gx + 1, 5, none⟩ (.int .i64 0)).setCell ⟨gx + 1, 6, none⟩ (.int .i64 0)).setCell ⟨gx + 1, 7, none⟩ (.int .u32 0)).setCell ⟨gx + 1, 8, none⟩ (.int .u32 0)).setCell ⟨gx + 1, 9, none⟩ (.slice none 0 0)).setCell ⟨gx + 1, 10, none⟩ (.slice none 0 0)) = wf := ⟨_, rfl⟩
      have hCf : Chg (fun x => x = gx + 1) W wf := by
        rw [← hwf]
        exact ((((((((((((Chg.refl (fun x => x = gx + 1) W).setCell (p := ⟨gx + 1, 0, none⟩) (.inl rfl) _).setCell (p := ⟨gx + 1, 1, none⟩) (.inl rfl) _).setCell (p := ⟨gx + 1, 2, none⟩) (.inl rfl) _).setCell (p := ⟨gx + 1, 3, none⟩) (.inl rfl) _).setCell (p := ⟨gx + 1, 4, none⟩) (.inl rfl) _).setCell (p := ⟨gx + 1, 5, none⟩) (.inl rfl) _).setCell (p := ⟨gx + 1, 6, none⟩) (.inl rfl) _).setCell (p := ⟨gx + 1, 7, none⟩) (.inl rfl) _).setCell (p := ⟨gx + 1, 8, none⟩) (.inl rfl) _).setCell (p := ⟨gx + 1, 9, none⟩) (.inl rfl) _).setCell (p := ⟨gx + 1, 10, none⟩) (.inl rfl) _)
      rw [hwf]
      clear hwf zz0 zz1 zz2 zz3 zz4 zz5 zz6 zz7 zz8 zz9 zz10
      exact FIN.out wf hCf
    · have e0 : ((dn : Int) == 0) = false := beq_eq_false_iff_ne.2 (by omega)
      have e0n : (dn == 0) = false := beq_eq_false_iff_ne.2 (by omega)
      have hd9 := hd8 rfl
      have e8 : (dn : Int).tmod 8 = 0 := by rw [m8]; omega
      have o0 : decide (off < 0) = true := decide_eq_true hneg
      clear hd hd8 hd9 hneg m8 hmd
      go_enter Try.func21, Try.ntmps21
      go_upto_block 0 with fail
      rw [HW.out, HGX.out]
      go_wp2_with fail
      have zz0 : Bk _ (gx + 1) 26 #[.int .i64 0, .int .i64 0, .bool false, .bool false, .int .i64 0, .int .i64 0, .int .i64 0, .int .u32 0, .int .u32 0, .slice none 0 0, .slice none 0 0] := HZW.out.set 0 (.int .i64 0)
      have zz1 : Bk _ (gx + 1) 26 #[.int .i64 0, .int .i64 0, .bool false, .bool false, .int .i64 0, .int .i64 0, .int .i64 0, .int .u32 0, .int .u32 0, .slice none 0 0, .slice none 0 0] := zz0.set 1 (.int .i64 0)
      have zz2 : Bk _ (gx + 1) 26 #[.int .i64 0, .int .i64 0, .bool false, .bool false, .int .i64 0, .int .i64 0, .int .i64 0, .int .u32 0, .int .u32 0, .slice none 0 0, .slice none 0 0] := zz1.set 2 (.bool false)
      have zz3 : Bk _ (gx + 1) 26 #[.int .i64 0, .int .i64 0, .bool false, .bool false, .int .i64 0, .int .i64 0, .int .i64 0, .int .u32 0, .int .u32 0, .slice none 0 0, .slice none 0 0] := zz2.set 3 (.bool false)
      have zz4 : Bk _ (gx + 1) 26 #[.int .i64 0, .int .i64 0, .bool false, .bool false, .int .i64 0, .int .i64 0, .int .i64 0, .int .u32 0, .int .u32 0, .slice none 0 0, .slice none 0 0] := zz3.set 4 (.int .i64 0)
      have zz5 : Bk _ (gx + 1) 26 #[.int .i64 0, .int .i64 0, .bool false, .bool false, .int .i64 0, .int .i64 0, .int .i64 0, .int .u32 0, .int .u32 0, .slice none 0 0, .slice none 0 0] := zz4.set 5 (.int .i64 0)
      have zz6 : Bk _ (gx + 1) 26 #[.int .i64 0, .int .i64 0, .bool false, .bool false, .int .i64 0, .int .i64 0, .int .i64 0, .int .u32 0, .int .u32 0, .slice none 0 0, .slice none 0 0] := zz5.set 6 (.int .i64 0)
      have zz7 : Bk _ (gx + 1) 26 #[.int .i64 0, .int .i64 0, .bool false, .bool false, .int .i64 0, .int .i64 0, .int .i64 0, .int .u32 0, .int .u32 0, .slice none 0 0, .slice none 0 0] := zz6.set 7 (.int .u32 0)
      have zz8 : Bk _ (gx + 1) 26 #[.int .i64 0, .int .i64 0, .bool false, .bool false, .int .i64 0, .int .i64 0, .int .i64 0, .int .u32 0, .int .u32 0, .slice none 0 0, .slice none 0 0] := zz7.set 8 (.int .u32 0)
      have zz9 : Bk _ (gx + 1) 26 #[.int .i64 0, .int .i64 0, .bool false, .bool false, .int .i64 0, .int .i64 0, .int .i64 0, .int .u32 0, .int .u32 0, .slice none 0 0, .slice none 0 0] := zz8.set 9 (.slice none 0 0)
      have zz10 : Bk _ (gx + 1) 26 #[.int .i64 0, .int .i64 0, .bool false, .bool false, .int .i64 0, .int .i64 0, .int .i64 0, .int .u32 0, .int .u32 0, .slice none 0 0, .slice none 0 0] := zz9.set 10 (.slice none 0 0)
      refine bodyPost_ret (results_c2 rfl _ _ (gx + 1) _ _ _ _ rfl zz10 Try.underlying26 rfl (by kernel_rfl)) rfl ?_
      obtain ⟨wf, hwf⟩ : ∃ wf, (((((((((((W.setCell ⟨gx + 1, 0, none⟩ (.int .i64 0)).setCell ⟨gx + 1, 1, none⟩ (.int .i64 0)).setCell ⟨gx + 1, 2, none⟩ (.bool false)).setCell ⟨gx + 1, 3, none⟩ (.bool false)).setCell ⟨gx + 1, 4, none⟩ (.int .i64 0)).setCell ⟨gx + 1, 5, none⟩ (.int .i64 0)).setCell ⟨gx + 1, 6, none⟩ (.int .i64 0)).setCell ⟨gx + 1, 7, none⟩ (.int .u32 0)).setCell ⟨gx + 1, 8, none⟩ (.int .u32 0)).setCell ⟨gx + 1, 9, none⟩ (.slice none 0 0)).setCell ⟨gx + 1, 10, none⟩ (.slice none 0 0)) = wf := ⟨_, rfl⟩
      have hCf : Chg (fun x => x = gx + 1) W wf := by
        rw [← hwf]
        exact ((((((((((((Chg.refl (fun x => x = gx + 1) W).setCell (p := ⟨gx + 1, 0, none⟩) (.inl rfl) _).setCell (p := ⟨gx + 1, 1, none⟩) (.inl rfl) _).setCell (p := ⟨gx + 1, 2, none⟩) (.inl rfl) _).setCell (p := ⟨gx + 1, 3, none⟩) (.inl rfl) _).setCell (p := ⟨gx + 1, 4, none⟩) (.inl rfl) _).setCell (p := ⟨gx + 1, 5, none⟩) (.inl rfl) _).setCell (p := ⟨gx + 1, 6, none⟩) (.inl rfl) _).setCell (p := ⟨gx + 1, 7, none⟩) (.inl rfl) _).setCell (p := ⟨gx + 1, 8, none⟩) (.inl rfl) _).setCell (p := ⟨gx + 1, 9, none⟩) (.inl rfl) _).setCell (p := ⟨gx + 1, 10, none⟩) (.inl rfl) _)
      rw [hwf]
      clear hwf zz0 zz1 zz2 zz3 zz4 zz5 zz6 zz7 zz8 zz9 zz10
      exact FIN.out wf hCf
    · have e0 : ((dn : Int) == 0) = false := beq_eq_false_iff_ne.2 (by omega)
      have e0n : (dn == 0) = false := beq_eq_false_iff_ne.2 (by omega)
      have hd9 := hd8 rfl
      have e8 : (dn : Int).tmod 8 = 0 := by rw [m8]; omega
      have o0 : decide (off < 0) = false := decide_eq_false hneg
      have q8 : (off.tmod 8 != 0) = true := by simpa using ho8
      have q8b : (off.tmod 8 == 0) = false := beq_eq_false_iff_ne.2 ho8
      clear hd hd8 hd9 hneg ho8 m8 hmd
      go_enter Try.func21, Try.ntmps21
      go_upto_block 0 with fail
      rw [HW.out, HGX.out]
      go_wp2_with fail
      have zz0 : Bk _ (gx + 1) 26 #[.int .i64 0, .int .i64 0, .bool false, .bool false, .int .i64 0, .int .i64 0, .int .i64 0, .int .u32 0, .int .u32 0, .slice none 0 0, .slice none 0 0] := HZW.out.set 0 (.int .i64 0)
      have zz1 : Bk _ (gx + 1) 26 #[.int .i64 0, .int .i64 0, .bool false, .bool false, .int .i64 0, .int .i64 0, .int .i64 0, .int .u32 0, .int .u32 0, .slice none 0 0, .slice none 0 0] := zz0.set 1 (.int .i64 0)
      have zz2 : Bk _ (gx + 1) 26 #[.int .i64 0, .int .i64 0, .bool false, .bool false, .int .i64 0, .int .i64 0, .int .i64 0, .int .u32 0, .int .u32 0, .slice none 0 0, .slice none 0 0] := zz1.set 2 (.bool false)
      have zz3 : Bk _ (gx + 1) 26 #[.int .i64 0, .int .i64 0, .bool false, .bool false, .int .i64 0, .int .i64 0, .int .i64 0, .int .u32 0, .int .u32 0, .slice none 0 0, .slice none 0 0] := zz2.set 3 (.bool false)
      have zz4 : Bk _ (gx + 1) 26 #[.int .i64 0, .int .i64 0, .bool false, .bool false, .int .i64 0, .int .i64 0, .int .i64 0, .int .u32 0, .int .u32 0, .slice none 0 0, .slice none 0 0] := zz3.set 4 (.int .i64 0)
      have zz5 : Bk _ (gx + 1) 26 #[.int .i64 0, .int .i64 0, .bool false, .bool false, .int .i64 0, .int .i64 0, .int .i64 0, .int .u32 0, .int .u32 0, .slice none 0 0, .slice none 0 0] := zz4.set 5 (.int .i64 0)
      have zz6 : Bk _ (gx + 1) 26 #[.int .i64 0, .int .i64 0, .bool false, .bool false, .int .i64 0, .int .i64 0, .int .i64 0, .int .u32 0, .int .u32 0, .slice none 0 0, .slice none 0 0] := zz5.set 6 (.int .i64 0)
      have zz7 : Bk _ (gx + 1) 26 #[.int .i64 0, .int .i64 0, .bool false, .bool false, .int .i64 0, .int .i64 0, .int .i64 0, .int .u32 0, .int .u32 0, .slice none 0 0, .slice none 0 0] := zz6.set 7 (.int .u32 0)
      have zz8 : Bk _ (gx + 1) 26 #[.int .i64 0, .int .i64 0, .bool false, .bool false, .int .i64 0, .int .i64 0, .int .i64 0, .int .u32 0, .int .u32 0, .slice none 0 0, .slice none 0 0] := zz7.set 8 (.int .u32 0)
      have zz9 : Bk _ (gx + 1) 26 #[.int .i64 0, .int .i64 0, .bool false, .bool false, .int .i64 0, .int .i64 0, .int .i64 0, .int .u32 0, .int .u32 0, .slice none 0 0, .slice none 0 0] := zz8.set 9 (.slice none 0 0)
      have zz10 : Bk _ (gx + 1) 26 #[.int .i64 0, .int .i64 0, .bool false, .bool false, .int .i64 0, .int .i64 0, .int .i64 0, .int .u32 0, .int .u32 0, .slice none 0 0, .slice none 0 0] := zz9.set 10 (.slice none 0 0)
      refine bodyPost_ret (results_c2 rfl _ _ (gx + 1) _ _ _ _ rfl zz10 Try.underlying26 rfl (by kernel_rfl)) rfl ?_
      obtain ⟨wf, hwf⟩ : ∃ wf, (((((((((((W.setCell ⟨gx + 1, 0, none⟩ (.int .i64 0)).setCell ⟨gx + 1, 1, none⟩ (.int .i64 0)).setCell ⟨gx + 1, 2, none⟩ (.bool false)).setCell ⟨gx + 1, 3, none⟩ (.bool false)).setCell ⟨gx + 1, 4, none⟩ (.int .i64 0)).setCell ⟨gx + 1, 5, none⟩ (.int .i64 0)).setCell ⟨gx + 1, 6, none⟩ (.int .i64 0)).setCell ⟨gx + 1, 7, none⟩ (.int .u32 0)).setCell ⟨gx + 1, 8, none⟩ (.int .u32 0)).setCell ⟨gx + 1, 9, none⟩ (.slice none 0 0)).setCell ⟨gx + 1, 10, none⟩ (.slice none 0 0)) = wf := ⟨_, rfl⟩
      have hCf : Chg (fun x => x = gx + 1) W wf := by
        rw [← hwf]
        exact ((((((((((((Chg.refl (fun x => x = gx + 1) W).setCell (p := ⟨gx + 1, 0, none⟩) (.inl rfl) _).setCell (p := ⟨gx + 1, 1, none⟩) (.inl rfl) _).setCell (p := ⟨gx + 1, 2, none⟩) (.inl rfl) _).setCell (p := ⟨gx + 1, 3, none⟩) (.inl rfl) _).setCell (p := ⟨gx + 1, 4, none⟩) (.inl rfl) _).setCell (p := ⟨gx + 1, 5, none⟩) (.inl rfl) _).setCell (p := ⟨gx + 1, 6, none⟩) (.inl rfl) _).setCell (p := ⟨gx + 1, 7, none⟩) (.inl rfl) _).setCell (p := ⟨gx + 1, 8, none⟩) (.inl rfl) _).setCell (p := ⟨gx + 1, 9, none⟩) (.inl rfl) _).setCell (p := ⟨gx + 1, 10, none⟩) (.inl rfl) _)
      rw [hwf]
      clear hwf zz0 zz1 zz2 zz3 zz4 zz5 zz6 zz7 zz8 zz9 zz10
      exact FIN.out wf hCf
  · rcases W1 with hd | ⟨hd, _, hd8⟩ | ⟨hd, hd8, hneg⟩ | ⟨hd, hd8, hneg, ho8⟩
    · have r0 : decide (off ≤ 0) = false := decide_eq_false (by omega)
      have e0 : ((dn : Int) == 0) = true := beq_iff_eq.2 (by omega)
      have e0n : (dn == 0) = true := beq_iff_eq.2 (by omega)
      clear hd m8 hmd hp0
      go_enter Try.func21, Try.ntmps21
      go_upto_block 0 with fail
      rw [HW.out, HGX.out]
      go_wp2_with fail
      have zz0 : Bk _ (gx + 1) 26 #[.int .i64 0, .int .i64 0, .bool false, .bool false, .int .i64 0, .int .i64 0, .int .i64 0, .int .u32 0, .int .u32 0, .slice none 0 0, .slice none 0 0] := HZW.out.set 0 (.int .i64 0)
      have zz1 : Bk _ (gx + 1) 26 #[.int .i64 0, .int .i64 0, .bool false, .bool false, .int .i64 0, .int .i64 0, .int .i64 0, .int .u32 0, .int .u32 0, .slice none 0 0, .slice none 0 0] := zz0.set 1 (.int .i64 0)
      have zz2 : Bk _ (gx + 1) 26 #[.int .i64 0, .int .i64 0, .bool false, .bool false, .int .i64 0, .int .i64 0, .int .i64 0, .int .u32 0, .int .u32 0, .slice none 0 0, .slice none 0 0] := zz1.set 2 (.bool false)
      have zz3 : Bk _ (gx + 1) 26 #[.int .i64 0, .int .i64 0, .bool false, .bool false, .int .i64 0, .int .i64 0, .int .i64 0, .int .u32 0, .int .u32 0, .slice none 0 0, .slice none 0 0] := zz2.set 3 (.bool false)
      have zz4 : Bk _ (gx + 1) 26 #[.int .i64 0, .int .i64 0, .bool false, .bool false, .int .i64 0, .int .i64 0, .int .i64 0, .int .u32 0, .int .u32 0, .slice none 0 0, .slice none 0 0] := zz3.set 4 (.int .i64 0)
      have zz5 : Bk _ (gx + 1) 26 #[.int .i64 0, .int .i64 0, .bool false, .bool false, .int .i64 0, .int .i64 0, .int .i64 0, .int .u32 0, .int .u32 0, .slice none 0 0, .slice none 0 0] := zz4.set 5 (.int .i64 0)
      have zz6 : Bk _ (gx + 1) 26 #[.int .i64 0, .int .i64 0, .bool false, .bool false, .int .i64 0, .int .i64 0, .int .i64 0, .int .u32 0, .int .u32 0, .slice none 0 0, .slice none 0 0] := zz5.set 6 (.int .i64 0)
      have zz7 : Bk _ (gx + 1) 26 #[.int .i64 0, .int .i64 0, .bool false, .bool false, .int .i64 0, .int .i64 0, .int .i64 0, .int .u32 0, .int .u32 0, .slice none 0 0, .slice none 0 0] := zz6.set 7 (.int .u32 0)
      have zz8 : Bk _ (gx + 1) 26 #[.int .i64 0, .int .i64 0, .bool false, .bool false, .int .i64 0, .int .i64 0, .int .i64 0, .int .u32 0, .int .u32 0, .slice none 0 0, .slice none 0 0] := zz7.set 8 (.int .u32 0)
      have zz9 : Bk _ (gx + 1) 26 #[.int .i64 0, .int .i64 0, .bool false, .bool false, .int .i64 0, .int .i64 0, .int .i64 0, .int .u32 0, .int .u32 0, .slice none 0 0, .slice none 0 0] := zz8.set 9 (.slice none 0 0)
      have zz10 : Bk _ (gx + 1) 26 #[.int .i64 0, .int .i64 0, .bool false, .bool false, .int .i64 0, .int .i64 0, .int .i64 0, .int .u32 0, .int .u32 0, .slice none 0 0, .slice none 0 0] := zz9.set 10 (.slice none 0 0)
      refine bodyPost_ret (results_c2 rfl _ _ (gx + 1) _ _ _ _ rfl zz10 Try.underlying26 rfl (by kernel_rfl)) rfl ?_
      obtain ⟨wf, hwf⟩ : ∃ wf, (((((((((((W.setCell ⟨gx + 1, 0, none⟩ (.int .i64 0)).setCell ⟨gx + 1, 1, none⟩ (.int .i64 0)).setCell ⟨gx + 1, 2, none⟩ (.bool false)).setCell ⟨gx + 1, 3, none⟩ (.bool false)).setCell ⟨gx + 1, 4, none⟩ (.int .i64 0)).setCell ⟨gx + 1, 5, none⟩ (.int .i64 0)).setCell ⟨gx + 1, 6, none⟩ (.int .i64 0)).setCell ⟨gx + 1, 7, none⟩ (.int .u32 0)).setCell ⟨gx + 1, 8, none⟩ (.int .u32 0)).setCell ⟨gx + 1, 9, none⟩ (.slice none 0 0)).setCell ⟨gx + 1, 10, none⟩ (.slice none 0 0)) = wf := ⟨_, rfl⟩
      have hCf : Chg (fun x => x = gx + 1) W wf := by
        rw [← hwf]
        exact ((((((((((((Chg.refl (fun x => x = gx + 1) W).setCell (p := ⟨gx + 1, 0, none⟩) (.inl rfl) _).setCell (p := ⟨gx + 1, 1, none⟩) (.inl rfl) _).setCell (p := ⟨gx + 1, 2, none⟩) (.inl rfl) _).setCell (p := ⟨gx + 1, 3, none⟩) (.inl rfl) _).setCell (p := ⟨gx + 1, 4, none⟩) (.inl rfl) _).setCell (p := ⟨gx + 1, 5, none⟩) (.inl rfl) _).setCell (p := ⟨gx + 1, 6, none⟩) (.inl rfl) _).setCell (p := ⟨gx + 1, 7, none⟩) (.inl rfl) _).setCell (p := ⟨gx + 1, 8, none⟩) (.inl rfl) _).setCell (p := ⟨gx + 1, 9, none⟩) (.inl rfl) _).setCell (p := ⟨gx + 1, 10, none⟩) (.inl rfl) _)
      rw [hwf]
      clear hwf zz0 zz1 zz2 zz3 zz4 zz5 zz6 zz7 zz8 zz9 zz10
      exact FIN.out wf hCf
    · rename_i q; cases q
    · omega
    · have r0 : decide (off ≤ 0) = false := decide_eq_false (by omega)
      have e0 : ((dn : Int) == 0) = false := beq_eq_false_iff_ne.2 (by omega)
      have e0n : (dn == 0) = false := beq_eq_false_iff_ne.2 (by omega)
      have o0 : decide (off < 0) = false := decide_eq_false hneg
      have q8 : (off.tmod 8 != 0) = true := by simpa using ho8
      have q8b : (off.tmod 8 == 0) = false := beq_eq_false_iff_ne.2 ho8
      clear hd hd8 hneg ho8 m8 hmd hp0
      go_enter Try.func21, Try.ntmps21
      go_upto_block 0 with fail
      rw [HW.out, HGX.out]
      go_wp2_with fail
      have zz0 : Bk _ (gx + 1) 26 #[.int .i64 0, .int .i64 0, .bool false, .bool false, .int .i64 0, .int .i64 0, .int .i64 0, .int .u32 0, .int .u32 0, .slice none 0 0, .slice none 0 0] := HZW.out.set 0 (.int .i64 0)
      have zz1 : Bk _ (gx + 1) 26 #[.int .i64 0, .int .i64 0, .bool false, .bool false, .int .i64 0, .int .i64 0, .int .i64 0, .int .u32 0, .int .u32 0, .slice none 0 0, .slice none 0 0] := zz0.set 1 (.int .i64 0)
      have zz2 : Bk _ (gx + 1) 26 #[.int .i64 0, .int .i64 0, .bool false, .bool false, .int .i64 0, .int .i64 0, .int .i64 0, .int .u32 0, .int .u32 0, .slice none 0 0, .slice none 0 0] := zz1.set 2 (.bool false)
      have zz3 : Bk _ (gx + 1) 26 #[.int .i64 0, .int .i64 0, .bool false, .bool false, .int .i64 0, .int .i64 0, .int .i64 0, .int .u32 0, .int .u32 0, .slice none 0 0, .slice none 0 0] := zz2.set 3 (.bool false)
      have zz4 : Bk _ (gx + 1) 26 #[.int .i64 0, .int .i64 0, .bool false, .bool false, .int .i64 0, .int .i64 0, .int .i64 0, .int .u32 0, .int .u32 0, .slice none 0 0, .slice none 0 0] := zz3.set 4 (.int .i64 0)
      have zz5 : Bk _ (gx + 1) 26 #[.int .i64 0, .int .i64 0, .bool false, .bool false, .int .i64 0, .int .i64 0, .int .i64 0, .int .u32 0, .int .u32 0, .slice none 0 0, .slice none 0 0] := zz4.set 5 (.int .i64 0)
      have zz6 : Bk _ (gx + 1) 26 #[.int .i64 0, .int .i64 0, .bool false, .bool false, .int .i64 0, .int .i64 0, .int .i64 0, .int .u32 0, .int .u32 0, .slice none 0 0, .slice none 0 0] := zz5.set 6 (.int .i64 0)
      have zz7 : Bk _ (gx + 1) 26 #[.int .i64 0, .int .i64 0, .bool false, .bool false, .int .i64 0, .int .i64 0, .int .i64 0, .int .u32 0, .int .u32 0, .slice none 0 0, .slice none 0 0] := zz6.set 7 (.int .u32 0)
      have zz8 : Bk _ (gx + 1) 26 #[.int .i64 0, .int .i64 0, .bool false, .bool false, .int .i64 0, .int .i64 0, .int .i64 0, .int .u32 0, .int .u32 0, .slice none 0 0, .slice none 0 0] := zz7.set 8 (.int .u32 0)
      have zz9 : Bk _ (gx + 1) 26 #[.int .i64 0, .int .i64 0, .bool false, .bool false, .int .i64 0, .int .i64 0, .int .i64 0, .int .u32 0, .int .u32 0, .slice none 0 0, .slice none 0 0] := zz8.set 9 (.slice none 0 0)
      have zz10 : Bk _ (gx + 1) 26 #[.int .i64 0, .int .i64 0, .bool false, .bool false, .int .i64 0, .int .i64 0, .int .i64 0, .int .u32 0, .int .u32 0, .slice none 0 0, .slice none 0 0] := zz9.set 10 (.slice none 0 0)
      refine bodyPost_ret (results_c2 rfl _ _ (gx + 1) _ _ _ _ rfl zz10 Try.underlying26 rfl (by kernel_rfl)) rfl ?_
      obtain ⟨wf, hwf⟩ : ∃ wf, (((((((((((W.setCell ⟨gx + 1, 0, none⟩ (.int .i64 0)).setCell ⟨gx + 1, 1, none⟩ (.int .i64 0)).setCell ⟨gx + 1, 2, none⟩ (.bool false)).setCell ⟨gx + 1, 3, none⟩ (.bool false)).setCell ⟨gx + 1, 4, none⟩ (.int .i64 0)).setCell ⟨gx + 1, 5, none⟩ (.int .i64 0)).setCell ⟨gx + 1, 6, none⟩ (.int .i64 0)).setCell ⟨gx + 1, 7, none⟩ (.int .u32 0)).setCell ⟨gx + 1, 8, none⟩ (.int .u32 0)).setCell ⟨gx + 1, 9, none⟩ (.slice none 0 0)).setCell ⟨gx + 1, 10, none⟩ (.slice none 0 0)) = wf := ⟨_, rfl⟩
      have hCf : Chg (fun x => x = gx + 1) W wf := by
        rw [← hwf]
        exact ((((((((((((Chg.refl (fun x => x = gx + 1) W).setCell (p := ⟨gx + 1, 0, none⟩) (.inl rfl) _).setCell (p := ⟨gx + 1, 1, none⟩) (.inl rfl) _).setCell (p := ⟨gx + 1, 2, none⟩) (.inl rfl) _).setCell (p := ⟨gx + 1, 3, none⟩) (.inl rfl) _).setCell (p := ⟨gx + 1, 4, none⟩) (.inl rfl) _).setCell (p := ⟨gx + 1, 5, none⟩) (.inl rfl) _).setCell (p := ⟨gx + 1, 6, none⟩) (.inl rfl) _).setCell (p := ⟨gx + 1, 7, none⟩) (.inl rfl) _).setCell (p := ⟨gx + 1, 8, none⟩) (.inl rfl) _).setCell (p := ⟨gx + 1, 9, none⟩) (.inl rfl) _).setCell (p := ⟨gx + 1, 10, none⟩) (.inl rfl) _)
      rw [hwf]
      clear hwf zz0 zz1 zz2 zz3 zz4 zz5 zz6 zz7 zz8 zz9 zz10
      exact FIN.out wf hCf
set_option maxHeartbeats 4000000 in
set_option maxRecDepth 100000 in
theorem add_long (ps : Nat) (mv : Option Nat) (aA : Option Addr) (ac : Nat) (Ws : List WR) (p : PkV) (oA dA : Option Addr) (on oc dn dc : Nat) (hmd : dn ≤ 140737488355328) (hnot : ¬ (p.more = false ∧ p.off ≤ 0)) (hok : ¬ FormBad p dn) (hlong : 65515 < p.off + dn) (now : Int) (w : World)
    (h : StW w ps mv aA ac Ws) (R : List Rec → Pk3 → Bool → Int → Prop) (hR : R (Ws.map (·.r)) (zeroP, [], []) false 5) :
    Calls Try.prog 21 #[.pointer (some ⟨ps, 0, none⟩), .agg (pkC p (.slice oA on oc) (.slice dA dn dc)), .int .i64 now] w (AddPost w ps mv aA Ws R) := by
  obtain ⟨svc, id, wh, mo, off, life, proto, src, dst⟩ := p
  simp only at hnot hlong hR
  unfold pkC
  simp only
  have HN0 : Hid (∀ b, b = 0 → True) := Lib.hid (fun _ _ => trivial)
  obtain ⟨gx, hgx⟩ : ∃ gx, w.heap.size = gx := ⟨_, rfl⟩
  obtain ⟨W, hW⟩ : ∃ W, (w.alloc (.cells #[.int .i64 svc, .int .i64 id, .bool wh, .bool mo, .int .i64 off, .int .i64 life, .int .i64 proto, .int .u32 src, .int .u32 dst, .slice oA on oc, .slice dA dn dc] 26)).alloc (.cells #[.int .i64 0, .int .i64 0, .bool false, .bool false, .int .i64 0, .int .i64 0, .int .i64 0, .int .u32 0, .int .u32 0, .slice none 0 0, .slice none 0 0] 26) = W := ⟨_, rfl⟩
  have hBW : Below w.heap.size w W := by rw [← hW]; exact ((Below.refl _ _).alloc (Nat.le_refl _) _).alloc (by rw [World.size_alloc]; omega) _
  have hpW : Bk W gx 26 #[.int .i64 svc, .int .i64 id, .bool wh, .bool mo, .int .i64 off, .int .i64 life, .int .i64 proto, .int .u32 src, .int .u32 dst, .slice oA on oc, .slice dA dn dc] := by rw [← hW, ← hgx]; exact (Bk.new w _ _).alloc _
  have hzW : Bk W (gx + 1) 26 #[.int .i64 0, .int .i64 0, .bool false, .bool false, .int .i64 0, .int .i64 0, .int .i64 0, .int .u32 0, .int .u32 0, .slice none 0 0, .slice none 0 0] := by
    rw [← hW]
    have := Bk.new (w.alloc (.cells #[.int .i64 svc, .int .i64 id, .bool wh, .bool mo, .int .i64 off, .int .i64 life, .int .i64 proto, .int .u32 src, .int .u32 dst, .slice oA on oc, .slice dA dn dc] 26)) 26 #[.int .i64 0, .int .i64 0, .bool false, .bool false, .int .i64 0, .int .i64 0, .int .i64 0, .int .u32 0, .int .u32 0, .slice none 0 0, .slice none 0 0]
    rw [World.size_alloc, hgx] at this
    exact this
  have c0 : W.cell? ⟨gx, 0, none⟩ = some (.int .i64 svc) := hpW.cell 0
  have c1 : W.cell? ⟨gx, 1, none⟩ = some (.int .i64 id) := hpW.cell 1
  have c2 : W.cell? ⟨gx, 2, none⟩ = some (.bool wh) := hpW.cell 2
  have c3 : W.cell? ⟨gx, 3, none⟩ = some (.bool mo) := hpW.cell 3
  have c4 : W.cell? ⟨gx, 4, none⟩ = some (.int .i64 off) := hpW.cell 4
  have c5 : W.cell? ⟨gx, 5, none⟩ = some (.int .i64 life) := hpW.cell 5
  have c6 : W.cell? ⟨gx, 6, none⟩ = some (.int .i64 proto) := hpW.cell 6
  have c7 : W.cell? ⟨gx, 7, none⟩ = some (.int .u32 src) := hpW.cell 7
  have c8 : W.cell? ⟨gx, 8, none⟩ = some (.int .u32 dst) := hpW.cell 8
  have c9 : W.cell? ⟨gx, 9, none⟩ = some (.slice oA on oc) := hpW.cell 9
  have c10 : W.cell? ⟨gx, 10, none⟩ = some (.slice dA dn dc) := hpW.cell 10
  have n0 : W.cell? ⟨gx + 1, 0, none⟩ = some (.int .i64 0) := hzW.cell 0
  have n1 : W.cell? ⟨gx + 1, 1, none⟩ = some (.int .i64 0) := hzW.cell 1
  have n2 : W.cell? ⟨gx + 1, 2, none⟩ = some (.bool false) := hzW.cell 2
  have n3 : W.cell? ⟨gx + 1, 3, none⟩ = some (.bool false) := hzW.cell 3
  have n4 : W.cell? ⟨gx + 1, 4, none⟩ = some (.int .i64 0) := hzW.cell 4
  have n5 : W.cell? ⟨gx + 1, 5, none⟩ = some (.int .i64 0) := hzW.cell 5
  have n6 : W.cell? ⟨gx + 1, 6, none⟩ = some (.int .i64 0) := hzW.cell 6
  have n7 : W.cell? ⟨gx + 1, 7, none⟩ = some (.int .u32 0) := hzW.cell 7
  have n8 : W.cell? ⟨gx + 1, 8, none⟩ = some (.int .u32 0) := hzW.cell 8
  have n9 : W.cell? ⟨gx + 1, 9, none⟩ = some (.slice none 0 0) := hzW.cell 9
  have n10 : W.cell? ⟨gx + 1, 10, none⟩ = some (.slice none 0 0) := hzW.cell 10
  have z0 : W.frozen? ⟨gx + 1, 0, none⟩ = false := hzW.frozen 0
  have z1 : W.frozen? ⟨gx + 1, 1, none⟩ = false := hzW.frozen 1
  have z2 : W.frozen? ⟨gx + 1, 2, none⟩ = false := hzW.frozen 2
  have z3 : W.frozen? ⟨gx + 1, 3, none⟩ = false := hzW.frozen 3
  have z4 : W.frozen? ⟨gx + 1, 4, none⟩ = false := hzW.frozen 4
  have z5 : W.frozen? ⟨gx + 1, 5, none⟩ = false := hzW.frozen 5
  have z6 : W.frozen? ⟨gx + 1, 6, none⟩ = false := hzW.frozen 6
  have z7 : W.frozen? ⟨gx + 1, 7, none⟩ = false := hzW.frozen 7
  have z8 : W.frozen? ⟨gx + 1, 8, none⟩ = false := hzW.frozen 8
  have z9 : W.frozen? ⟨gx + 1, 9, none⟩ = false := hzW.frozen 9
  have z10 : W.frozen? ⟨gx + 1, 10, none⟩ = false := hzW.frozen 10
  have HST := Lib.hid h
  have HRR := Lib.hid hR
  have HW := Lib.hid hW
  have HGX := Lib.hid hgx
  have HBW := Lib.hid hBW
  have HZW := Lib.hid hzW
  clear h hR hW hgx hBW hpW hzW
  have FIN : Hid (∀ wf, Chg (fun x => x = gx + 1) W wf → AddPost w ps mv aA Ws R (.returned (.tuple #[.agg #[.int .i64 0, .int .i64 0, .bool false, .bool false, .int .i64 0, .int .i64 0, .int .i64 0, .int .u32 0, .int .u32 0, .slice none 0 0, .slice none 0 0], .bool false, .int .i64 5])) wf) := Lib.hid (fun wf hCf => by
    have hzl := HZW.out.lt
    have hgx := HGX.out
    exact AddPost.zero HST.out (HBW.out.trans (hCf.below (fun b hb => by omega) HBW.out.size)) HRR.out)
  have m8 : (dn : Int).tmod 8 = ((dn % 8 : Nat) : Int) := by rw [Int.tmod_eq_emod_of_nonneg (by omega)]; omega
  unfold FormBad at hok
  simp only at hok
  have hnp : (mo = true) ∨ (mo = false ∧ 0 < off) := by
    cases mo with
    | true => exact .inl rfl
    | false => exact .inr ⟨rfl, by
        rcases Int.lt_or_le 0 off with q | q
        · exact q
        · exact absurd ⟨rfl, q⟩ hnot⟩
  have hd : dn ≠ 0 := fun e => hok (.inl e)
  have hd8 : mo = true → dn % 8 = 0 := fun e => by
    rcases Nat.decEq (dn % 8) 0 with q | q
    · exact absurd (.inr (.inl ⟨e, q⟩)) hok
    · exact q
  have hneg : ¬ off < 0 := fun e => hok (.inr (.inr (.inl e)))
  have ho8 : off.tmod 8 = 0 := by
    rcases Int.decEq (off.tmod 8) 0 with q | q
    · exact absurd (.inr (.inr (.inr q))) hok
    · exact q
  have W2 : (65535 < off) ∨ (¬ 65535 < off ∧ 65515 < off + dn) := by omega
  clear hok hnot
  rcases hnp with rfl | ⟨rfl, hp0⟩
  · rcases W2 with hw | hw
    · have e0 : ((dn : Int) == 0) = false := beq_eq_false_iff_ne.2 (by omega)
      have e0n : (dn == 0) = false := beq_eq_false_iff_ne.2 (by omega)
      have hd9 := hd8 rfl
      have e8 : (dn : Int).tmod 8 = 0 := by rw [m8]; omega
      have o0 : decide (off < 0) = false := decide_eq_false hneg
      have q8 : off.tmod 8 = 0 := ho8
      have t1 : decide (65535 < off) = true := decide_eq_true hw
      clear hd hd8 hneg ho8 m8 hmd hw hd9
      go_enter Try.func21, Try.ntmps21
      go_upto_block 0 with fail
      rw [HW.out, HGX.out]
      go_wp2_with fail
      have zz0 : Bk _ (gx + 1) 26 #[.int .i64 0, .int .i64 0, .bool false, .bool false, .int .i64 0, .int .i64 0, .int .i64 0, .int .u32 0, .int .u32 0, .slice none 0 0, .slice none 0 0] := HZW.out.set 0 (.int .i64 0)
      have zz1 : Bk _ (gx + 1) 26 #[.int .i64 0, .int .i64 0, .bool false, .bool false, .int .i64 0, .int .i64 0, .int .i64 0, .int .u32 0, .int .u32 0, .slice none 0 0, .slice none 0 0] := zz0.set 1 (.int .i64 0)
      have zz2 : Bk _ (gx + 1) 26 #[.int .i64 0, .int .i64 0, .bool false, .bool false, .int .i64 0, .int .i64 0, .int .i64 0, .int .u32 0, .int .u32 0, .slice none 0 0, .slice none 0 0] := zz1.set 2 (.bool false)
      have zz3 : Bk _ (gx + 1) 26 #[.int .i64 0, .int .i64 0, .bool false, .bool false, .int .i64 0, .int .i64 0, .int .i64 0, .int .u32 0, .int .u32 0, .slice none 0 0, .slice none 0 0] := zz2.set 3 (.bool false)
      have zz4 : Bk _ (gx + 1) 26 #[.int .i64 0, .int .i64 0, .bool false, .bool false, .int .i64 0, .int .i64 0, .int .i64 0, .int .u32 0, .int .u32 0, .slice none 0 0, .slice none 0 0] := zz3.set 4 (.int .i64 0)
      have zz5 : Bk _ (gx + 1) 26 #[.int .i64 0, .int .i64 0, .bool false, .bool false, .int .i64 0, .int .i64 0, .int .i64 0, .int .u32 0, .int .u32 0, .slice none 0 0, .slice none 0 0] := zz4.set 5 (.int .i64 0)
      have zz6 : Bk _ (gx + 1) 26 #[.int .i64 0, .int .i64 0, .bool false, .bool false, .int .i64 0, .int .i64 0, .int .i64 0, .int .u32 0, .int .u32 0, .slice none 0 0, .slice none 0 0] := zz5.set 6 (.int .i64 0)
      have zz7 : Bk _ (gx + 1) 26 #[.int .i64 0, .int .i64 0, .bool false, .bool false, .int .i64 0, .int .i64 0, .int .i64 0, .int .u32 0, .int .u32 0, .slice none 0 0, .slice none 0 0] := zz6.set 7 (.int .u32 0)
      have zz8 : Bk _ (gx + 1) 26 #[.int .i64 0, .int .i64 0, .bool false, .bool false, .int .i64 0, .int .i64 0, .int .i64 0, .int .u32 0, .int .u32 0, .slice none 0 0, .slice none 0 0] := zz7.set 8 (.int .u32 0)
      have zz9 : Bk _ (gx + 1) 26 #[.int .i64 0, .int .i64 0, .bool false, .bool false, .int .i64 0, .int .i64 0, .int .i64 0, .int .u32 0, .int .u32 0, .slice none 0 0, .slice none 0 0] := zz8.set 9 (.slice none 0 0)
      have zz10 : Bk _ (gx + 1) 26 #[.int .i64 0, .int .i64 0, .bool false, .bool false, .int .i64 0, .int .i64 0, .int .i64 0, .int .u32 0, .int .u32 0, .slice none 0 0, .slice none 0 0] := zz9.set 10 (.slice none 0 0)
      refine bodyPost_ret (results_c2 rfl _ _ (gx + 1) _ _ _ _ rfl zz10 Try.underlying26 rfl (by kernel_rfl)) rfl ?_
      obtain ⟨wf, hwf⟩ : ∃ wf, (((((((((((W.setCell ⟨gx + 1, 0, none⟩ (.int .i64 0)).setCell ⟨gx + 1, 1, none⟩ (.int .i64 0)).setCell ⟨gx + 1, 2, none⟩ (.bool false)).setCell ⟨gx + 1, 3, none⟩ (.bool false)).setCell ⟨gx + 1, 4, none⟩ (.int .i64 0)).setCell ⟨gx + 1, 5, none⟩ (.int .i64 0)).setCell ⟨gx + 1, 6, none⟩ (.int .i64 0)).setCell ⟨gx + 1, 7, none⟩ (.int .u32 0)).setCell ⟨gx + 1, 8, none⟩ (.int .u32 0)).setCell ⟨gx + 1, 9, none⟩ (.slice none 0 0)).setCell ⟨gx + 1, 10, none⟩ (.slice none 0 0)) = wf := ⟨_, rfl⟩
      have hCf : Chg (fun x => x = gx + 1) W wf := by
        rw [← hwf]
        exact ((((((((((((Chg.refl (fun x => x = gx + 1) W).setCell (p := ⟨gx + 1, 0, none⟩) (.inl rfl) _).setCell (p := ⟨gx + 1, 1, none⟩) (.inl rfl) _).setCell (p := ⟨gx + 1, 2, none⟩) (.inl rfl) _).setCell (p := ⟨gx + 1, 3, none⟩) (.inl rfl) _).setCell (p := ⟨gx + 1, 4, none⟩) (.inl rfl) _).setCell (p := ⟨gx + 1, 5, none⟩) (.inl rfl) _).setCell (p := ⟨gx + 1, 6, none⟩) (.inl rfl) _).setCell (p := ⟨gx + 1, 7, none⟩) (.inl rfl) _).setCell (p := ⟨gx + 1, 8, none⟩) (.inl rfl) _).setCell (p := ⟨gx + 1, 9, none⟩) (.inl rfl) _).setCell (p := ⟨gx + 1, 10, none⟩) (.inl rfl) _)
      rw [hwf]
      clear hwf zz0 zz1 zz2 zz3 zz4 zz5 zz6 zz7 zz8 zz9 zz10
      exact FIN.out wf hCf
    · have e0 : ((dn : Int) == 0) = false := beq_eq_false_iff_ne.2 (by omega)
      have e0n : (dn == 0) = false := beq_eq_false_iff_ne.2 (by omega)
      have hd9 := hd8 rfl
      have e8 : (dn : Int).tmod 8 = 0 := by rw [m8]; omega
      have o0 : decide (off < 0) = false := decide_eq_false hneg
      have q8 : off.tmod 8 = 0 := ho8
      have t1 : decide (65535 < off) = false := decide_eq_false hw.1
      have hwe : IntKind.i64.wrap (off + (dn : Int)) = off + (dn : Int) := by rw [IntWalk.i64_in _ (by omega)]
      have t2 : decide (65515 < off + (dn : Int)) = true := decide_eq_true hw.2
      clear hd hd8 hneg ho8 m8 hmd hw hd9
      go_enter Try.func21, Try.ntmps21
      go_upto_block 0 with fail
      rw [HW.out, HGX.out]
      go_wp2_with fail
      have zz0 : Bk _ (gx + 1) 26 #[.int .i64 0, .int .i64 0, .bool false, .bool false, .int .i64 0, .int .i64 0, .int .i64 0, .int .u32 0, .int .u32 0, .slice none 0 0, .slice none 0 0] := HZW.out.set 0 (.int .i64 0)
      have zz1 : Bk _ (gx + 1) 26 #[.int .i64 0, .int .i64 0, .bool false, .bool false, .int .i64 0, .int .i64 0, .int .i64 0, .int .u32 0, .int .u32 0, .slice none 0 0, .slice none 0 0] := zz0.set 1 (.int .i64 0)
      have zz2 : Bk _ (gx + 1) 26 #[.int .i64 0, .int .i64 0, .bool false, .bool false, .int .i64 0, .int .i64 0, .int .i64 0, .int .u32 0, .int .u32 0, .slice none 0 0, .slice none 0 0] := zz1.set 2 (.bool false)
      have zz3 : Bk _ (gx + 1) 26 #[.int .i64 0, .int .i64 0, .bool false, .bool false, .int .i64 0, .int .i64 0, .int .i64 0, .int .u32 0, .int .u32 0, .slice none 0 0, .slice none 0 0] := zz2.set 3 (.bool false)
      have zz4 : Bk _ (gx + 1) 26 #[.int .i64 0, .int .i64 0, .bool false, .bool false, .int .i64 0, .int .i64 0, .int .i64 0, .int .u32 0, .int .u32 0, .slice none 0 0, .slice none 0 0] := zz3.set 4 (.int .i64 0)
      have zz5 : Bk _ (gx + 1) 26 #[.int .i64 0, .int .i64 0, .bool false, .bool false, .int .i64 0, .int .i64 0, .int .i64 0, .int .u32 0, .int .u32 0, .slice none 0 0, .slice none 0 0] := zz4.set 5 (.int .i64 0)
      have zz6 : Bk _ (gx + 1) 26 #[.int .i64 0, .int .i64 0, .bool false, .bool false, .int .i64 0, .int .i64 0, .int .i64 0, .int .u32 0, .int .u32 0, .slice none 0 0, .slice none 0 0] := zz5.set 6 (.int .i64 0)
      have zz7 : Bk _ (gx + 1) 26 #[.int .i64 0, .int .i64 0, .bool false, .bool false, .int .i64 0, .int .i64 0, .int .i64 0, .int .u32 0, .int .u32 0, .slice none 0 0, .slice none 0 0] := zz6.set 7 (.int .u32 0)
      have zz8 : Bk _ (gx + 1) 26 #[.int .i64 0, .int .i64 0, .bool false, .bool false, .int .i64 0, .int .i64 0, .int .i64 0, .int .u32 0, .int .u32 0, .slice none 0 0, .slice none 0 0] := zz7.set 8 (.int .u32 0)
      have zz9 : Bk _ (gx + 1) 26 #[.int .i64 0, .int .i64 0, .bool false, .bool false, .int .i64 0, .int .i64 0, .int .i64 0, .int .u32 0, .int .u32 0, .slice none 0 0, .slice none 0 0] := zz8.set 9 (.slice none 0 0)
      have zz10 : Bk _ (gx + 1) 26 #[.int .i64 0, .int .i64 0, .bool false, .bool false, .int .i64 0, .int .i64 0, .int .i64 0, .int .u32 0, .int .u32 0, .slice none 0 0, .slice none 0 0] := zz9.set 10 (.slice none 0 0)
      refine bodyPost_ret (results_c2 rfl _ _ (gx + 1) _ _ _ _ rfl zz10 Try.underlying26 rfl (by kernel_rfl)) rfl ?_
      obtain ⟨wf, hwf⟩ : ∃ wf, (((((((((((W.setCell ⟨gx + 1, 0, none⟩ (.int .i64 0)).setCell ⟨gx + 1, 1, none⟩ (.int .i64 0)).setCell ⟨gx + 1, 2, none⟩ (.bool false)).setCell ⟨gx + 1, 3, none⟩ (.bool false)).setCell ⟨gx + 1, 4, none⟩ (.int .i64 0)).setCell ⟨gx + 1, 5, none⟩ (.int .i64 0)).setCell ⟨gx + 1, 6, none⟩ (.int .i64 0)).setCell ⟨gx + 1, 7, none⟩ (.int .u32 0)).setCell ⟨gx + 1, 8, none⟩ (.int .u32 0)).setCell ⟨gx + 1, 9, none⟩ (.slice none 0 0)).setCell ⟨gx + 1, 10, none⟩ (.slice none 0 0)) = wf := ⟨_, rfl⟩
      have hCf : Chg (fun x => x = gx + 1) W wf := by
        rw [← hwf]
        exact ((((((((((((Chg.refl (fun x => x = gx + 1) W).setCell (p := ⟨gx + 1, 0, none⟩) (.inl rfl) _).setCell (p := ⟨gx + 1, 1, none⟩) (.inl rfl) _).setCell (p := ⟨gx + 1, 2, none⟩) (.inl rfl) _).setCell (p := ⟨gx + 1, 3, none⟩) (.inl rfl) _).setCell (p := ⟨gx + 1, 4, none⟩) (.inl rfl) _).setCell (p := ⟨gx + 1, 5, none⟩) (.inl rfl) _).setCell (p := ⟨gx + 1, 6, none⟩) (.inl rfl) _).setCell (p := ⟨gx + 1, 7, none⟩) (.inl rfl) _).setCell (p := ⟨gx + 1, 8, none⟩) (.inl rfl) _).setCell (p := ⟨gx + 1, 9, none⟩) (.inl rfl) _).setCell (p := ⟨gx + 1, 10, none⟩) (.inl rfl) _)
      rw [hwf]
      clear hwf zz0 zz1 zz2 zz3 zz4 zz5 zz6 zz7 zz8 zz9 zz10
      exact FIN.out wf hCf
  · rcases W2 with hw | hw
    · have r0 : decide (off ≤ 0) = false := decide_eq_false (by omega)
      have e0 : ((dn : Int) == 0) = false := beq_eq_false_iff_ne.2 (by omega)
      have e0n : (dn == 0) = false := beq_eq_false_iff_ne.2 (by omega)
      have o0 : decide (off < 0) = false := decide_eq_false hneg
      have q8 : off.tmod 8 = 0 := ho8
      have t1 : decide (65535 < off) = true := decide_eq_true hw
      clear hd hd8 hneg ho8 m8 hmd hw hp0
      go_enter Try.func21, Try.ntmps21
      go_upto_block 0 with fail
      rw [HW.out, HGX.out]
      go_wp2_with fail
      have zz0 : Bk _ (gx + 1) 26 #[.int .i64 0, .int .i64 0, .bool false, .bool false, .int .i64 0, .int .i64 0, .int .i64 0, .int .u32 0, .int .u32 0, .slice none 0 0, .slice none 0 0] := HZW.out.set 0 (.int .i64 0)
      have zz1 : Bk _ (gx + 1) 26 #[.int .i64 0, .int .i64 0, .bool false, .bool false, .int .i64 0, .int .i64 0, .int .i64 0, .int .u32 0, .int .u32 0, .slice none 0 0, .slice none 0 0] := zz0.set 1 (.int .i64 0)
      have zz2 : Bk _ (gx + 1) 26 #[.int .i64 0, .int .i64 0, .bool false, .bool false, .int .i64 0, .int .i64 0, .int .i64 0, .int .u32 0, .int .u32 0, .slice none 0 0, .slice none 0 0] := zz1.set 2 (.bool false)
      have zz3 : Bk _ (gx + 1) 26 #[.int .i64 0, .int .i64 0, .bool false, .bool false, .int .i64 0, .int .i64 0, .int .i64 0, .int .u32 0, .int .u32 0, .slice none 0 0, .slice none 0 0] := zz2.set 3 (.bool false)
      have zz4 : Bk _ (gx + 1) 26 #[.int .i64 0, .int .i64 0, .bool false, .bool false, .int .i64 0, .int .i64 0, .int .i64 0, .int .u32 0, .int .u32 0, .slice none 0 0, .slice none 0 0] := zz3.set 4 (.int .i64 0)
      have zz5 : Bk _ (gx + 1) 26 #[.int .i64 0, .int .i64 0, .bool false, .bool false, .int .i64 0, .int .i64 0, .int .i64 0, .int .u32 0, .int .u32 0, .slice none 0 0, .slice none 0 0] := zz4.set 5 (.int .i64 0)
      have zz6 : Bk _ (gx + 1) 26 #[.int .i64 0, .int .i64 0, .bool false, .bool false, .int .i64 0, .int .i64 0, .int .i64 0, .int .u32 0, .int .u32 0, .slice none 0 0, .slice none 0 0] := zz5.set 6 (.int .i64 0)
      have zz7 : Bk _ (gx + 1) 26 #[.int .i64 0, .int .i64 0, .bool false, .bool false, .int .i64 0, .int .i64 0, .int .i64 0, .int .u32 0, .int .u32 0, .slice none 0 0, .slice none 0 0] := zz6.set 7 (.int .u32 0)
      have zz8 : Bk _ (gx + 1) 26 #[.int .i64 0, .int .i64 0, .bool false, .bool false, .int .i64 0, .int .i64 0, .int .i64 0, .int .u32 0, .int .u32 0, .slice none 0 0, .slice none 0 0] := zz7.set 8 (.int .u32 0)
      have zz9 : Bk _ (gx + 1) 26 #[.int .i64 0, .int .i64 0, .bool false, .bool false, .int .i64 0, .int .i64 0, .int .i64 0, .int .u32 0, .int .u32 0, .slice none 0 0, .slice none 0 0] := zz8.set 9 (.slice none 0 0)
      have zz10 : Bk _ (gx + 1) 26 #[.int .i64 0, .int .i64 0, .bool false, .bool false, .int .i64 0, .int .i64 0, .int .i64 0, .int .u32 0, .int .u32 0, .slice none 0 0, .slice none 0 0] := zz9.set 10 (.slice none 0 0)
      refine bodyPost_ret (results_c2 rfl _ _ (gx + 1) _ _ _ _ rfl zz10 Try.underlying26 rfl (by kernel_rfl)) rfl ?_
      obtain ⟨wf, hwf⟩ : ∃ wf, (((((((((((W.setCell ⟨gx + 1, 0, none⟩ (.int .i64 0)).setCell ⟨gx + 1, 1, none⟩ (.int .i64 0)).setCell ⟨gx + 1, 2, none⟩ (.bool false)).setCell ⟨gx + 1, 3, none⟩ (.bool false)).setCell ⟨gx + 1, 4, none⟩ (.int .i64 0)).setCell ⟨gx + 1, 5, none⟩ (.int .i64 0)).setCell ⟨gx + 1, 6, none⟩ (.int .i64 0)).setCell ⟨gx + 1, 7, none⟩ (.int .u32 0)).setCell ⟨gx + 1, 8, none⟩ (.int .u32 0)).setCell ⟨gx + 1, 9, none⟩ (.slice none 0 0)).setCell ⟨gx + 1, 10, none⟩ (.slice none 0 0)) = wf := ⟨_, rfl⟩
      have hCf : Chg (fun x => x = gx + 1) W wf := by
        rw [← hwf]
        exact ((((((((((((Chg.refl (fun x => x = gx + 1) W).setCell (p := ⟨gx + 1, 0, none⟩) (.inl rfl) _).setCell (p := ⟨gx + 1, 1, none⟩) (.inl rfl) _).setCell (p := ⟨gx + 1, 2, none⟩) (.inl rfl) _).setCell (p := ⟨gx + 1, 3, none⟩) (.inl rfl) _).setCell (p := ⟨gx + 1, 4, none⟩) (.inl rfl) _).setCell (p := ⟨gx + 1, 5, none⟩) (.inl rfl) _).setCell (p := ⟨gx + 1, 6, none⟩) (.inl rfl) _).setCell (p := ⟨gx + 1, 7, none⟩) (.inl rfl) _).setCell (p := ⟨gx + 1, 8, none⟩) (.inl rfl) _).setCell (p := ⟨gx + 1, 9, none⟩) (.inl rfl) _).setCell (p := ⟨gx + 1, 10, none⟩) (.inl rfl) _)
      rw [hwf]
      clear hwf zz0 zz1 zz2 zz3 zz4 zz5 zz6 zz7 zz8 zz9 zz10
      exact FIN.out wf hCf
    · have r0 : decide (off ≤ 0) = false := decide_eq_false (by omega)
      have e0 : ((dn : Int) == 0) = false := beq_eq_false_iff_ne.2 (by omega)
      have e0n : (dn == 0) = false := beq_eq_false_iff_ne.2 (by omega)
      have o0 : decide (off < 0) = false := decide_eq_false hneg
      have q8 : off.tmod 8 = 0 := ho8
      have t1 : decide (65535 < off) = false := decide_eq_false hw.1
      have hwe : IntKind.i64.wrap (off + (dn : Int)) = off + (dn : Int) := by rw [IntWalk.i64_in _ (by omega)]
      have t2 : decide (65515 < off + (dn : Int)) = true := decide_eq_true hw.2
      clear hd hd8 hneg ho8 m8 hmd hw hp0
      go_enter Try.func21, Try.ntmps21
      go_upto_block 0 with fail
      rw [HW.out, HGX.out]
      go_wp2_with fail
      have zz0 : Bk _ (gx + 1) 26 #[.int .i64 0, .int .i64 0, .bool false, .bool false, .int .i64 0, .int .i64 0, .int .i64 0, .int .u32 0, .int .u32 0, .slice none 0 0, .slice none 0 0] := HZW.out.set 0 (.int .i64 0)
      have zz1 : Bk _ (gx + 1) 26 #[.int .i64 0, .int .i64 0, .bool false, .bool false, .int .i64 0, .int .i64 0, .int .i64 0, .int .u32 0, .int .u32 0, .slice none 0 0, .slice none 0 0] := zz0.set 1 (.int .i64 0)
      have zz2 : Bk _ (gx + 1) 26 #[.int .i64 0, .int .i64 0, .bool false, .bool false, .int .i64 0, .int .i64 0, .int .i64 0, .int .u32 0, .int .u32 0, .slice none 0 0, .slice none 0 0] := zz1.set 2 (.bool false)
      have zz3 : Bk _ (gx + 1) 26 #[.int .i64 0, .int .i64 0, .bool false, .bool false, .int .i64 0, .int .i64 0, .int .i64 0, .int .u32 0, .int .u32 0, .slice none 0 0, .slice none 0 0] := zz2.set 3 (.bool false)
      have zz4 : Bk _ (gx + 1) 26 #[.int .i64 0, .int .i64 0, .bool false, .bool false, .int .i64 0, .int .i64 0, .int .i64 0, .int .u32 0, .int .u32 0, .slice none 0 0, .slice none 0 0] := zz3.set 4 (.int .i64 0)
      have zz5 : Bk _ (gx + 1) 26 #[.int .i64 0, .int .i64 0, .bool false, .bool false, .int .i64 0, .int .i64 0, .int .i64 0, .int .u32 0, .int .u32 0, .slice none 0 0, .slice none 0 0] := zz4.set 5 (.int .i64 0)
      have zz6 : Bk _ (gx + 1) 26 #[.int .i64 0, .int .i64 0, .bool false, .bool false, .int .i64 0, .int .i64 0, .int .i64 0, .int .u32 0, .int .u32 0, .slice none 0 0, .slice none 0 0] := zz5.set 6 (.int .i64 0)
      have zz7 : Bk _ (gx + 1) 26 #[.int .i64 0, .int .i64 0, .bool false, .bool false, .int .i64 0, .int .i64 0, .int .i64 0, .int .u32 0, .int .u32 0, .slice none 0 0, .slice none 0 0] := zz6.set 7 (.int .u32 0)
      have zz8 : Bk _ (gx + 1) 26 #[.int .i64 0, .int .i64 0, .bool false, .bool false, .int .i64 0, .int .i64 0, .int .i64 0, .int .u32 0, .int .u32 0, .slice none 0 0, .slice none 0 0] := zz7.set 8 (.int .u32 0)
      have zz9 : Bk _ (gx + 1) 26 #[.int .i64 0, .int .i64 0, .bool false, .bool false, .int .i64 0, .int .i64 0, .int .i64 0, .int .u32 0, .int .u32 0, .slice none 0 0, .slice none 0 0] := zz8.set 9 (.slice none 0 0)
      have zz10 : Bk _ (gx + 1) 26 #[.int .i64 0, .int .i64 0, .bool false, .bool false, .int .i64 0, .int .i64 0, .int .i64 0, .int .u32 0, .int .u32 0, .slice none 0 0, .slice none 0 0] := zz9.set 10 (.slice none 0 0)
      refine bodyPost_ret (results_c2 rfl _ _ (gx + 1) _ _ _ _ rfl zz10 Try.underlying26 rfl (by kernel_rfl)) rfl ?_
      obtain ⟨wf, hwf⟩ : ∃ wf, (((((((((((W.setCell ⟨gx + 1, 0, none⟩ (.int .i64 0)).setCell ⟨gx + 1, 1, none⟩ (.int .i64 0)).setCell ⟨gx + 1, 2, none⟩ (.bool false)).setCell ⟨gx + 1, 3, none⟩ (.bool false)).setCell ⟨gx + 1, 4, none⟩ (.int .i64 0)).setCell ⟨gx + 1, 5, none⟩ (.int .i64 0)).setCell ⟨gx + 1, 6, none⟩ (.int .i64 0)).setCell ⟨gx + 1, 7, none⟩ (.int .u32 0)).setCell ⟨gx + 1, 8, none⟩ (.int .u32 0)).setCell ⟨gx + 1, 9, none⟩ (.slice none 0 0)).setCell ⟨gx + 1, 10, none⟩ (.slice none 0 0)) = wf := ⟨_, rfl⟩
      have hCf : Chg (fun x => x = gx + 1) W wf := by
        rw [← hwf]
        exact ((((((((((((Chg.refl (fun x => x = gx + 1) W).setCell (p := ⟨gx + 1, 0, none⟩) (.inl rfl) _).setCell (p := ⟨gx + 1, 1, none⟩) (.inl rfl) _).setCell (p := ⟨gx + 1, 2, none⟩) (.inl rfl) _).setCell (p := ⟨gx + 1, 3, none⟩) (.inl rfl) _).setCell (p := ⟨gx + 1, 4, none⟩) (.inl rfl) _).setCell (p := ⟨gx + 1, 5, none⟩) (.inl rfl) _).setCell (p := ⟨gx + 1, 6, none⟩) (.inl rfl) _).setCell (p := ⟨gx + 1, 7, none⟩) (.inl rfl) _).setCell (p := ⟨gx + 1, 8, none⟩) (.inl rfl) _).setCell (p := ⟨gx + 1, 9, none⟩) (.inl rfl) _).setCell (p := ⟨gx + 1, 10, none⟩) (.inl rfl) _)
      rw [hwf]
      clear hwf zz0 zz1 zz2 zz3 zz4 zz5 zz6 zz7 zz8 zz9 zz10
      exact FIN.out wf hCf
end Go.Proofs.Ytcjkhonapafndaa
namespace Go.Proofs.Ytcjkhonapafndaa
open Go.RowKit
/-- What a piece brings about. -/
def AddR (L : List Rec) (p : PkV) (ol dl : List Int) (now : Int) (L' : List Rec) (out : Pk3) (is : Bool) (er : Int) : Prop :=
  ((p.more = false ∧ p.off ≤ 0) ∧ L' = L ∧ out = (p, ol, dl) ∧ is = true ∧ er = 0) ∨
  (¬ (p.more = false ∧ p.off ≤ 0) ∧ FormBad p dl.length ∧ L' = L ∧ out = (zeroP, [], []) ∧ is = false ∧ er = 3) ∨
  (¬ (p.more = false ∧ p.off ≤ 0) ∧ ¬ FormBad p dl.length ∧ 65515 < p.off + dl.length ∧ L' = L ∧ out = (zeroP, [], []) ∧ is = false ∧ er = 5) ∨
  (¬ (p.more = false ∧ p.off ≤ 0) ∧ ¬ FormBad p dl.length ∧ Good p dl.length ∧ GoodR L p ol dl now L' out is er)
theorem good_of {p : PkV} {dn : Nat} (h1 : ¬ (p.more = false ∧ p.off ≤ 0)) (h2 : ¬ FormBad p dn) (h3 : ¬ 65515 < p.off + dn) : Good p dn := by
  unfold FormBad at h2
  refine ⟨?_, ?_, ?_, fun e => ?_, ?_, by omega⟩
  · rcases Nat.eq_zero_or_pos dn with q | q
    · exact absurd (.inl q) h2
    · exact q
  · rcases Int.lt_or_le p.off 0 with q | q
    · exact absurd (.inr (.inr (.inl q))) h2
    · exact q
  · rcases Int.decEq (p.off.tmod 8) 0 with q | q
    · exact absurd (.inr (.inr (.inr q))) h2
    · exact q
  · rcases Nat.decEq (dn % 8) 0 with q | q
    · exact absurd (.inr (.inl ⟨e, q⟩)) h2
    · exact q
  · cases hm : p.more with
    | true => exact .inl rfl
    | false =>
      rcases Int.lt_or_le 0 p.off with q | q
      · exact .inr q
      · exact absurd ⟨hm, q⟩ h1
theorem AddPost.mono {w : World} {ps : Nat} {mv : Option Nat} {aA : Option Addr} {Ws : List WR} {R R' : List Rec → Pk3 → Bool → Int → Prop} {e : Ending} {w' : World} (h : AddPost w ps mv aA Ws R e w') (hR : ∀ L o i r, R L o i r → R' L o i r) : AddPost w ps mv aA Ws R' e w' := by
  obtain ⟨a, b, c, d, f, g, i, j, k, l, m, n, o, h1, h2, h3, h4, h5, h6, h7⟩ := h
  exact ⟨a, b, c, d, f, g, i, j, k, l, m, n, o, h1, h2, h3, h4, h5, h6, hR _ _ _ _ h7⟩
theorem add_any (ps : Nat) (mv : Option Nat) (aA : Option Addr) (ac : Nat) (Ws : List WR) (p : PkV) (hp : p.Ok) (oA dA : Option Addr) (on oc dn dc B : Nat) (ol dl : List Int) (hn : ol.length = on) (hmo : on ≤ 1000000) (hdn : dl.length = dn) (hdc : dn ≤ dc) (hmd : dn ≤ 140737488355328) (now : Int) (w : World)
    (hr : RB w B oA ol) (hrd : RB w B dA dl) (hB : B ≤ w.heap.size) (h : StW w ps mv aA ac Ws) (hlen : Ws.length ≤ 8) (hok : ∀ x ∈ Ws, RecOk x.r) (hno : ∀ b, (0 < ol.length ∧ blk oA = some b) ∨ blk dA = some b → b < w.heap.size ∧ ¬ foot ps mv aA Ws b) :
    Calls Try.prog 21 #[.pointer (some ⟨ps, 0, none⟩), .agg (pkC p (.slice oA on oc) (.slice dA dn dc)), .int .i64 now] w (AddPost w ps mv aA Ws (AddR (Ws.map (·.r)) p ol dl now)) := by
  subst hdn
  rcases Classical.em (p.more = false ∧ p.off ≤ 0) with h1 | h1
  · exact add_own ps mv aA ac Ws p oA dA on oc dl.length dc B ol dl hn hmo rfl hmd h1 now w hr hrd hB h _ (.inl ⟨h1, rfl, rfl, rfl, rfl⟩)
  rcases Classical.em (FormBad p dl.length) with h2 | h2
  · exact add_form ps mv aA ac Ws p oA dA on oc dl.length dc hmd h1 h2 now w h _ (.inr (.inl ⟨h1, h2, rfl, rfl, rfl, rfl⟩))
  rcases Classical.em (65515 < p.off + dl.length) with h3 | h3
  · exact add_long ps mv aA ac Ws p oA dA on oc dl.length dc hmd h1 h2 h3 now w h _ (.inr (.inr (.inl ⟨h1, h2, h3, rfl, rfl, rfl, rfl⟩)))
  · have hg := good_of h1 h2 h3
    exact (add_good ps mv aA ac Ws p hp oA dA on oc dl.length dc B ol dl hn hmo rfl hdc hg now w hr hrd hB h hlen hok hno).mono fun e w' q => q.mono fun L o i r hR => .inr (.inr (.inr ⟨h1, h2, hg, hR⟩))
end Go.Proofs.Ytcjkhonapafndaa
