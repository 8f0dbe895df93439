/- Proved: what Take of icmp.Bucket and of its reference does, each by its walk. Conditions: the bucket is a block of the caller's own, ticks that do not fall. -/
import Derived.Test.YtlnodkfngomlmaaRows
import Derived.Test.YtlnodkfngomlmaaLib
import Derived.Deep.QuietTactic
import Derived.BigQuiet
import Derived.StillTailTactics
import Derived.IntWalk
set_option linter.unusedVariables false
namespace Go.Proofs.Ytlnodkfngomlmaa
open Go.RowKit

def Bu (T : TypeId) (w : World) (g : Nat) (m ev h la : Int) : Prop := Bk w g T #[.int .i64 m, .int .i64 ev, .int .i64 h, .int .i64 la]
theorem Bu.eq {T : TypeId} {w : World} {g : Nat} {m ev h la h' la' : Int} (hb : Bu T w g m ev h la) (e0 : h = h') (e1 : la = la') : Bu T w g m ev h' la' := by
  subst e0; subst e1; exact hb
theorem grownBy_drewN {w w' : World} {row : Option Nat} (h : w.grownBy w' row) (k : Nat) : w.grownBy (w'.drewN k) row := ⟨h.os, h.tape, h.output, h.size, h.block⟩
def refill (m ev h la now : Int) : Int := min m (h + min (now / ev - la / ev) m)
/-- The bounds that every bucket keeps. -/
structure BuOk (m ev h la now : Int) : Prop where
  m0 : 1 ≤ m
  m1 : m ≤ 1048576
  e0 : 1 ≤ ev
  e1 : ev ≤ 1048576
  h0 : 0 ≤ h
  h1 : h ≤ m
  l0 : 0 ≤ la
  l1 : la ≤ now
  n1 : now ≤ 1000000000000
theorem BuOk.div {m ev h la now : Int} (k : BuOk m ev h la now) : 0 ≤ la / ev ∧ la / ev ≤ now / ev ∧ now / ev ≤ 1000000000000 :=
  ⟨Int.ediv_nonneg k.l0 (by have := k.e0; omega), Int.ediv_le_ediv (by have := k.e0; omega) k.l1, Int.le_trans (Int.ediv_le_self _ (Int.le_trans k.l0 k.l1)) k.n1⟩


set_option maxHeartbeats 1000000 in
theorem take_yes (g : Nat) (m ev h la now : Int) (k : BuOk m ev h la now) (hH : 0 < refill m ev h la now) (w : World) (hb : Bu 39 w g m ev h la) :
    Calls Try.prog 18 #[.pointer (some ⟨g, 0, none⟩), .int .i64 now] w fun e w' => e = .returned (.bool true) ∧ Bu 39 w' g m ev (refill m ev h la now - 1) now ∧ w.grownBy w' (some g) := by
  have kd := k.div
  obtain ⟨m0, m1, v0, v1, h0, h1, l0, l1, n1⟩ := k
  have q1 : now.tdiv ev = now / ev := Int.tdiv_eq_ediv_of_nonneg (by omega)
  have q2 : la.tdiv ev = la / ev := Int.tdiv_eq_ediv_of_nonneg (by omega)
  obtain ⟨x, hx⟩ : ∃ x, now / ev = x := ⟨_, rfl⟩
  obtain ⟨y, hy⟩ : ∃ y, la / ev = y := ⟨_, rfl⟩
  have hR : refill m ev h la now = min m (h + min (x - y) m) := by unfold refill; rw [hx, hy]
  rw [hR] at hH ⊢
  rw [hx] at q1 kd
  rw [hy] at q2 kd
  have z1 : (ev == 0) = false := by simp; omega
  have z2 : ¬ ev = 0 := by omega
  obtain ⟨d0, d1, d2⟩ := kd
  have hxy : now = la → x = y := fun e => by rw [← hx, ← hy, e]
  have HXY := Lib.hid hxy
  clear hx hy hR hxy
  have c0 := hb.cell 0
  have c1 := hb.cell 1
  have c2 := hb.cell 2
  have c3 := hb.cell 3
  have f0 := hb.frozen 0
  have f1 := hb.frozen 1
  have f2 := hb.frozen 2
  have f3 := hb.frozen 3
  simp only [List.getElem?_toArray, List.getElem?_cons_zero, List.getElem?_cons_succ] at c0 c1 c2 c3
  rcases (by omega : la = now ∨ (la < now ∧ m < x - y) ∨ (la < now ∧ x - y ≤ m ∧ h + (x - y) < m) ∨ (la < now ∧ x - y ≤ m ∧ m ≤ h + (x - y))) with rfl | ⟨a, b⟩ | ⟨a, b, c⟩ | ⟨a, b, c⟩
  · obtain rfl := HXY.out rfl
    have hh : 0 < h := by omega
    have hq : min m (h + min (x - x) m) = h := by omega
    rw [hq]
    clear hH hq q1 q2
    go_enter Try.func18, Try.ntmps18
    go_wp2
    go_ret
    exact ⟨rfl, hb.set 2 _, grownBy_setCell (World.grownBy.refl w _) (by exact .inl rfl) _⟩
  all_goals
    obtain ⟨q, hq⟩ : ∃ q, min m (h + min (x - y) m) = q := ⟨_, rfl⟩
    rw [hq] at hH ⊢
    have w1 : IntKind.i64.wrap (h + m) = h + m := IntWalk.i64_in _ (by omega)
    have w2 : IntKind.i64.wrap (h + (x - y)) = h + (x - y) := IntWalk.i64_in _ (by omega)
    have t1 : (m == 0) = false := by simp; omega
    have t2 : (h + (x - y) == 0) = false := by simp; omega
    have HQ := Lib.hid hq
    clear hq
    go_enter Try.func18, Try.ntmps18
    go_wp2
    go_quiet (fail)
    go_wp2
    refine wp_region_still_tail 19 (by kernel_rfl) (by kernel_rfl) ?_
    change wpStill _ _ (World.drew _) (fun a' => wpList _ _ _ _ a' (World.drew _)) _ _
    simp only [List.take_succ_cons, List.take_zero, List.drop_succ_cons, List.drop_zero]
    repeat still_step
    try refine wpStill_nil ?_
    go_wp2
    go_ret
    exact ⟨rfl, Bu.eq ((((hb.drewN _).set 2 _).set 3 _).set 2 _) (by have := HQ.out; omega) rfl, grownBy_setCell (grownBy_setCell (grownBy_setCell (grownBy_drewN (World.grownBy.refl w _) _) (by exact .inl rfl) _) (by exact .inl rfl) _) (by exact .inl rfl) _⟩


set_option maxHeartbeats 1000000 in
theorem take_no (g : Nat) (m ev h la now : Int) (k : BuOk m ev h la now) (hH : refill m ev h la now = 0) (w : World) (hb : Bu 39 w g m ev h la) :
    Calls Try.prog 18 #[.pointer (some ⟨g, 0, none⟩), .int .i64 now] w fun e w' => e = .returned (.bool false) ∧ Bu 39 w' g m ev 0 now ∧ w.grownBy w' (some g) := by
  have kd := k.div
  obtain ⟨m0, m1, v0, v1, h0, h1, l0, l1, n1⟩ := k
  have q1 : now.tdiv ev = now / ev := Int.tdiv_eq_ediv_of_nonneg (by omega)
  have q2 : la.tdiv ev = la / ev := Int.tdiv_eq_ediv_of_nonneg (by omega)
  obtain ⟨x, hx⟩ : ∃ x, now / ev = x := ⟨_, rfl⟩
  obtain ⟨y, hy⟩ : ∃ y, la / ev = y := ⟨_, rfl⟩
  have hR : refill m ev h la now = min m (h + min (x - y) m) := by unfold refill; rw [hx, hy]
  rw [hR] at hH
  rw [hx] at q1 kd
  rw [hy] at q2 kd
  have z1 : (ev == 0) = false := by simp; omega
  have z2 : ¬ ev = 0 := by omega
  obtain ⟨d0, d1, d2⟩ := kd
  have hxy : now = la → x = y := fun e => by rw [← hx, ← hy, e]
  have HXY := Lib.hid hxy
  clear hx hy hR hxy
  have c0 := hb.cell 0
  have c1 := hb.cell 1
  have c2 := hb.cell 2
  have c3 := hb.cell 3
  have f0 := hb.frozen 0
  have f1 := hb.frozen 1
  have f2 := hb.frozen 2
  have f3 := hb.frozen 3
  simp only [List.getElem?_toArray, List.getElem?_cons_zero, List.getElem?_cons_succ] at c0 c1 c2 c3
  obtain ⟨rfl, hxe⟩ : h = 0 ∧ x - y = 0 := by omega
  have HX := Lib.hid hxe
  have w1 : IntKind.i64.wrap m = m := IntWalk.i64_in _ (by omega)
  have w2 : IntKind.i64.wrap (x - y) = x - y := IntWalk.i64_in _ (by omega)
  clear hxe hH
  rcases (by omega : la = now ∨ la < now) with rfl | a
  · clear q1 q2
    go_enter Try.func18, Try.ntmps18
    go_wp2
    go_ret
    exact ⟨rfl, hb, World.grownBy.refl w _⟩
  · have a1 : x - y < m := by have := HX.out; omega
    have a2 : x - y ≤ m := by omega
    have t2 : (x - y == 0) = true := by rw [HX.out]; rfl
    go_enter Try.func18, Try.ntmps18
    go_wp2
    go_quiet (fail)
    go_wp2
    refine wp_region_still_tail 19 (by kernel_rfl) (by kernel_rfl) ?_
    change wpStill _ _ (World.drew _) (fun a' => wpList _ _ _ _ a' (World.drew _)) _ _
    simp only [List.take_succ_cons, List.take_zero, List.drop_succ_cons, List.drop_zero]
    repeat still_step
    try refine wpStill_nil ?_
    go_wp2
    go_ret
    exact ⟨rfl, Bu.eq (((hb.drewN _).set 2 _).set 3 _) (by have := HX.out; omega) rfl, grownBy_setCell (grownBy_setCell (grownBy_drewN (World.grownBy.refl w _) _) (by exact .inl rfl) _) (by exact .inl rfl) _⟩

set_option maxHeartbeats 1000000 in
theorem rtake_yes (g : Nat) (m ev h la now : Int) (k : BuOk m ev h la now) (hH : 0 < refill m ev h la now) (w : World) (hb : Bu 76 w g m ev h la) :
    Calls Try.prog 23 #[.pointer (some ⟨g, 0, none⟩), .int .i64 now] w fun e w' => e = .returned (.bool true) ∧ Bu 76 w' g m ev (refill m ev h la now - 1) now ∧ w.grownBy w' (some g) := by
  have kd := k.div
  obtain ⟨m0, m1, v0, v1, h0, h1, l0, l1, n1⟩ := k
  have q1 : now.tdiv ev = now / ev := Int.tdiv_eq_ediv_of_nonneg (by omega)
  have q2 : la.tdiv ev = la / ev := Int.tdiv_eq_ediv_of_nonneg (by omega)
  obtain ⟨x, hx⟩ : ∃ x, now / ev = x := ⟨_, rfl⟩
  obtain ⟨y, hy⟩ : ∃ y, la / ev = y := ⟨_, rfl⟩
  have hR : refill m ev h la now = min m (h + min (x - y) m) := by unfold refill; rw [hx, hy]
  rw [hR] at hH ⊢
  rw [hx] at q1 kd
  rw [hy] at q2 kd
  have z1 : (ev == 0) = false := by simp; omega
  have z2 : ¬ ev = 0 := by omega
  obtain ⟨d0, d1, d2⟩ := kd
  have hxy : now = la → x = y := fun e => by rw [← hx, ← hy, e]
  have HXY := Lib.hid hxy
  clear hx hy hR hxy
  have c0 := hb.cell 0
  have c1 := hb.cell 1
  have c2 := hb.cell 2
  have c3 := hb.cell 3
  have f0 := hb.frozen 0
  have f1 := hb.frozen 1
  have f2 := hb.frozen 2
  have f3 := hb.frozen 3
  simp only [List.getElem?_toArray, List.getElem?_cons_zero, List.getElem?_cons_succ] at c0 c1 c2 c3
  rcases (by omega : la = now ∨ (la < now ∧ m < x - y) ∨ (la < now ∧ x - y ≤ m ∧ h + (x - y) < m) ∨ (la < now ∧ x - y ≤ m ∧ m ≤ h + (x - y))) with rfl | ⟨a, b⟩ | ⟨a, b, c⟩ | ⟨a, b, c⟩
  · obtain rfl := HXY.out rfl
    have hh : 0 < h := by omega
    have hq : min m (h + min (x - x) m) = h := by omega
    rw [hq]
    clear hH hq q1 q2
    go_enter Try.func23, Try.ntmps23
    go_wp2
    go_ret
    exact ⟨rfl, hb.set 2 _, grownBy_setCell (World.grownBy.refl w _) (by exact .inl rfl) _⟩
  all_goals
    obtain ⟨q, hq⟩ : ∃ q, min m (h + min (x - y) m) = q := ⟨_, rfl⟩
    rw [hq] at hH ⊢
    have w1 : IntKind.i64.wrap (h + m) = h + m := IntWalk.i64_in _ (by omega)
    have w2 : IntKind.i64.wrap (h + (x - y)) = h + (x - y) := IntWalk.i64_in _ (by omega)
    have t1 : (m == 0) = false := by simp; omega
    have t2 : (h + (x - y) == 0) = false := by simp; omega
    have HQ := Lib.hid hq
    clear hq
    go_enter Try.func23, Try.ntmps23
    go_wp2
    go_quiet (fail)
    go_wp2
    refine wp_region_still_tail 19 (by kernel_rfl) (by kernel_rfl) ?_
    change wpStill _ _ (World.drew _) (fun a' => wpList _ _ _ _ a' (World.drew _)) _ _
    simp only [List.take_succ_cons, List.take_zero, List.drop_succ_cons, List.drop_zero]
    repeat still_step
    try refine wpStill_nil ?_
    go_wp2
    go_ret
    exact ⟨rfl, Bu.eq ((((hb.drewN _).set 2 _).set 3 _).set 2 _) (by have := HQ.out; omega) rfl, grownBy_setCell (grownBy_setCell (grownBy_setCell (grownBy_drewN (World.grownBy.refl w _) _) (by exact .inl rfl) _) (by exact .inl rfl) _) (by exact .inl rfl) _⟩


set_option maxHeartbeats 1000000 in
theorem rtake_no (g : Nat) (m ev h la now : Int) (k : BuOk m ev h la now) (hH : refill m ev h la now = 0) (w : World) (hb : Bu 76 w g m ev h la) :
    Calls Try.prog 23 #[.pointer (some ⟨g, 0, none⟩), .int .i64 now] w fun e w' => e = .returned (.bool false) ∧ Bu 76 w' g m ev 0 now ∧ w.grownBy w' (some g) := by
  have kd := k.div
  obtain ⟨m0, m1, v0, v1, h0, h1, l0, l1, n1⟩ := k
  have q1 : now.tdiv ev = now / ev := Int.tdiv_eq_ediv_of_nonneg (by omega)
  have q2 : la.tdiv ev = la / ev := Int.tdiv_eq_ediv_of_nonneg (by omega)
  obtain ⟨x, hx⟩ : ∃ x, now / ev = x := ⟨_, rfl⟩
  obtain ⟨y, hy⟩ : ∃ y, la / ev = y := ⟨_, rfl⟩
  have hR : refill m ev h la now = min m (h + min (x - y) m) := by unfold refill; rw [hx, hy]
  rw [hR] at hH
  rw [hx] at q1 kd
  rw [hy] at q2 kd
  have z1 : (ev == 0) = false := by simp; omega
  have z2 : ¬ ev = 0 := by omega
  obtain ⟨d0, d1, d2⟩ := kd
  have hxy : now = la → x = y := fun e => by rw [← hx, ← hy, e]
  have HXY := Lib.hid hxy
  clear hx hy hR hxy
  have c0 := hb.cell 0
  have c1 := hb.cell 1
  have c2 := hb.cell 2
  have c3 := hb.cell 3
  have f0 := hb.frozen 0
  have f1 := hb.frozen 1
  have f2 := hb.frozen 2
  have f3 := hb.frozen 3
  simp only [List.getElem?_toArray, List.getElem?_cons_zero, List.getElem?_cons_succ] at c0 c1 c2 c3
  obtain ⟨rfl, hxe⟩ : h = 0 ∧ x - y = 0 := by omega
  have HX := Lib.hid hxe
  have w1 : IntKind.i64.wrap m = m := IntWalk.i64_in _ (by omega)
  have w2 : IntKind.i64.wrap (x - y) = x - y := IntWalk.i64_in _ (by omega)
  clear hxe hH
  rcases (by omega : la = now ∨ la < now) with rfl | a
  · clear q1 q2
    go_enter Try.func23, Try.ntmps23
    go_wp2
    go_ret
    exact ⟨rfl, hb, World.grownBy.refl w _⟩
  · have a1 : x - y < m := by have := HX.out; omega
    have a2 : x - y ≤ m := by omega
    have t2 : (x - y == 0) = true := by rw [HX.out]; rfl
    go_enter Try.func23, Try.ntmps23
    go_wp2
    go_quiet (fail)
    go_wp2
    refine wp_region_still_tail 19 (by kernel_rfl) (by kernel_rfl) ?_
    change wpStill _ _ (World.drew _) (fun a' => wpList _ _ _ _ a' (World.drew _)) _ _
    simp only [List.take_succ_cons, List.take_zero, List.drop_succ_cons, List.drop_zero]
    repeat still_step
    try refine wpStill_nil ?_
    go_wp2
    go_ret
    exact ⟨rfl, Bu.eq (((hb.drewN _).set 2 _).set 3 _) (by have := HX.out; omega) rfl, grownBy_setCell (grownBy_setCell (grownBy_drewN (World.grownBy.refl w _) _) (by exact .inl rfl) _) (by exact .inl rfl) _⟩


theorem take_nil (now : Int) (w : World) :
    Calls Try.prog 18 #[.pointer none, .int .i64 now] w fun e w' => e = .returned (.bool false) ∧ w = w' := by
  go_enter Try.func18, Try.ntmps18
  go_wp2
  go_ret
  exact ⟨rfl, rfl⟩
theorem take_zero (g : Nat) (m h la now : Int) (w : World) (hb : Bu 39 w g m 0 h la) :
    Calls Try.prog 18 #[.pointer (some ⟨g, 0, none⟩), .int .i64 now] w fun e w' => e = .returned (.bool false) ∧ w = w' := by
  have c1 := hb.cell 1
  simp only [List.getElem?_toArray, List.getElem?_cons_zero, List.getElem?_cons_succ] at c1
  go_enter Try.func18, Try.ntmps18
  go_wp2
  go_ret
  exact ⟨rfl, rfl⟩
theorem newbucket_no (m ev : Int) (h : m < 1 ∨ 1048576 < m ∨ ev < 1 ∨ 1048576 < ev) (w : World) :
    Calls Try.prog 21 #[.int .i64 m, .int .i64 ev] w fun e w' => e = .returned (.tuple #[.pointer none, .int .i64 1]) ∧ w = w' := by
  rcases (by omega : m < 1 ∨ (1 ≤ m ∧ 1048576 < m) ∨ (1 ≤ m ∧ m ≤ 1048576 ∧ ev < 1) ∨ (1 ≤ m ∧ m ≤ 1048576 ∧ 1 ≤ ev ∧ 1048576 < ev)) with a | ⟨a, b⟩ | ⟨a, b, c⟩ | ⟨a, b, c, d⟩
  all_goals
    go_enter Try.func21, Try.ntmps21
    go_wp2
    go_ret2
    exact ⟨rfl, rfl⟩
theorem rnewbucket_no (m ev : Int) (h : m < 1 ∨ 1048576 < m ∨ ev < 1 ∨ 1048576 < ev) (w : World) :
    Calls Try.prog 22 #[.int .i64 m, .int .i64 ev] w fun e w' => e = .returned (.tuple #[.pointer none, .int .i64 1]) ∧ w = w' := by
  rcases (by omega : m < 1 ∨ (1 ≤ m ∧ 1048576 < m) ∨ (1 ≤ m ∧ m ≤ 1048576 ∧ ev < 1) ∨ (1 ≤ m ∧ m ≤ 1048576 ∧ 1 ≤ ev ∧ 1048576 < ev)) with a | ⟨a, b⟩ | ⟨a, b, c⟩ | ⟨a, b, c, d⟩
  all_goals
    go_enter Try.func22, Try.ntmps22
    go_wp2
    go_ret2
    exact ⟨rfl, rfl⟩
theorem newbucket_ok (m ev : Int) (h0 : 1 ≤ m) (h1 : m ≤ 1048576) (h2 : 1 ≤ ev) (h3 : ev ≤ 1048576) (w : World) :
    Calls Try.prog 21 #[.int .i64 m, .int .i64 ev] w fun e w' => e = .returned (.tuple #[.pointer (some ⟨w.heap.size, 0, none⟩), .int .i64 0]) ∧ Bu 39 w' w.heap.size m ev m 0 ∧ Below w.heap.size w w' ∧ w.heap.size < w'.heap.size := by
  go_enter Try.func21, Try.ntmps21
  go_wp2
  go_ret2
  exact ⟨rfl, Bk.new w _ _, (Below.refl _ _).alloc (Nat.le_refl _) _, by simp⟩
theorem rnewbucket_ok (m ev : Int) (h0 : 1 ≤ m) (h1 : m ≤ 1048576) (h2 : 1 ≤ ev) (h3 : ev ≤ 1048576) (w : World) :
    Calls Try.prog 22 #[.int .i64 m, .int .i64 ev] w fun e w' => e = .returned (.tuple #[.pointer (some ⟨w.heap.size, 0, none⟩), .int .i64 0]) ∧ Bu 76 w' w.heap.size m ev m 0 ∧ Below w.heap.size w w' ∧ w.heap.size < w'.heap.size := by
  go_enter Try.func22, Try.ntmps22
  go_wp2
  go_ret2
  exact ⟨rfl, Bk.new w _ _, (Below.refl _ _).alloc (Nat.le_refl _) _, by simp⟩

end Go.Proofs.Ytlnodkfngomlmaa
