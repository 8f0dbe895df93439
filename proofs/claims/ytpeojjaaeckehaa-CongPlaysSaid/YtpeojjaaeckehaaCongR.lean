/- Proved: what the methods of the reference of chapter 16 do, each by its walk. Conditions: the window is a block of the caller's own, its numbers within their bounds. -/
import Derived.Test.YtpeojjaaeckehaaCong3
set_option linter.unusedVariables false
namespace Go.Proofs.Ytpeojjaaeckehaa
open Go.RowKit
def Cr (w : World) (g : Nat) (m : Int) (s : CS) : Prop := Bk w g 39 #[.int .i64 m, .int .i64 s.wi, .int .i64 s.bo, .int .i64 s.sa, .bool s.me, .int .u32 s.up]
theorem Cr.of {w : World} {g : Nat} {m wi bo sa up : Int} {me : Bool} {s : CS} (h : Bk w g 39 #[.int .i64 m, .int .i64 wi, .int .i64 bo, .int .i64 sa, .bool me, .int .u32 up]) (e1 : wi = s.wi) (e2 : bo = s.bo) (e3 : sa = s.sa) (e4 : me = s.me) (e5 : up = s.up) : Cr w g m s := by
  obtain ⟨a, b, c, d, e⟩ := s
  simp only at e1 e2 e3 e4 e5
  subst e1; subst e2; subst e3; subst e4; subst e5
  exact h
theorem rhalf_any (g : Nat) (m wi bo sa up fl : Int) (h0 : 1 ≤ m) (h1 : m ≤ 65535) (hf0 : -9223372036854775808 ≤ fl) (hf1 : fl ≤ 9223372036854775807) (me : Bool) (w : World) (hb : Bk w g 39 #[.int .i64 m, .int .i64 wi, .int .i64 bo, .int .i64 sa, .bool me, .int .u32 up]) :
    Calls Try.prog 23 #[.pointer (some ⟨g, 0, none⟩), .int .i64 fl] w fun e w' => e = .returned (.int .i64 (hf m fl)) ∧ w = w' := by
  have c0 := hb.cell 0
  simp only [List.getElem?_toArray, List.getElem?_cons_zero] at c0
  obtain ⟨q, hq⟩ : ∃ q, hf m fl = q := ⟨_, rfl⟩
  rw [hq]
  unfold hf at hq
  have HQ := Lib.hid hq
  rcases (by omega : fl ≤ 0 ∨ (0 < fl ∧ fl / 2 < 2 * m) ∨ (0 < fl ∧ 2 * m ≤ fl / 2)) with d | ⟨d, e⟩ | ⟨d, e⟩
  all_goals
    clear hq
    go_enter Try.func23, Try.ntmps23
    go_wp2
    go_ret
    exact ⟨ret_i64 (by have := HQ.out; omega), rfl⟩
set_option maxRecDepth 100000 in
set_option maxHeartbeats 2000000 in
theorem rgrow_pos (g : Nat) (m : Int) (s : CS) (n una : Int) (hn0 : -9223372036854775808 ≤ n) (hn1 : n ≤ 9223372036854775807) (hn : 0 < n) (k : CsOk m s) (hme : s.me = false) (w : World) (hb : Cr w g m s) :
    Calls Try.prog 12 #[.pointer (some ⟨g, 0, none⟩), .int .i64 n, .int .u32 una] w fun e w' => e = .returned (.bool false) ∧ Cr w' g m ⟨gw m s.wi s.bo (max 0 n), s.bo, 0, s.up, false⟩ ∧ w.grownBy w' (some g) := by
  obtain ⟨wi, bo, sa, up, me⟩ := s
  simp only at hme
  subst hme
  obtain ⟨m0, m1, w0, w1, b0, b1, s0, s1, u0, u1⟩ := k
  simp only at w0 w1 b0 b1 s0 s1 u0 u1
  unfold Cr at hb
  simp only at hb
  have c0 := hb.cell 0
  have c1 := hb.cell 1
  have c2 := hb.cell 2
  have c3 := hb.cell 3
  have c4 := hb.cell 4
  simp only [List.getElem?_toArray, List.getElem?_cons_zero, List.getElem?_cons_succ] at c0 c1 c2 c3 c4
  have f1 := hb.frozen 1
  have f3 := hb.frozen 3
  have hs := hb.set 3 (.int .i64 0)
  have hmm0 : 0 ≤ m * m := Int.mul_nonneg (by omega) (by omega)
  have hmm1 : m * m ≤ 65535 * 65535 := Int.mul_le_mul m1 m1 (by omega) (by omega)
  have hqe : (m * m).tdiv wi = m * m / wi := Int.tdiv_eq_ediv_of_nonneg hmm0
  have hq0 : 0 ≤ m * m / wi := Int.ediv_nonneg hmm0 (by omega)
  have hq1 : m * m / wi ≤ m * m := Int.ediv_le_self _ hmm0
  obtain ⟨q, hq⟩ : ∃ q, m * m / wi = q := ⟨_, rfl⟩
  rw [hq] at hqe hq0 hq1
  obtain ⟨mm, hmm⟩ : ∃ mm, m * m = mm := ⟨_, rfl⟩
  rw [hmm] at hqe hmm0 hmm1 hq1
  have hgw : gw m wi bo (max 0 n) = if wi < bo then min (wi + min n m) 16777216 else min (wi + max 1 q) 16777216 := by unfold gw; rw [hq, show max 0 n = n from by omega]
  have HGW := Lib.hid hgw
  have zw : ¬ wi = 0 := by omega
  have zw2 : (wi == 0) = false := by simp; omega
  clear hq hgw
  obtain ⟨qq, hqq⟩ : ∃ qq, (if (1 : Int) < q then q else 1) = qq := ⟨_, rfl⟩
  have hqm : max 1 q = qq := by rw [← hqq]; split <;> omega
  have hqb : 1 ≤ qq ∧ qq ≤ 4294836225 := by omega
  have HQM := Lib.hid hqm
  clear hqm
  rcases (by omega : (wi < bo ∧ n ≤ m) ∨ (wi < bo ∧ m < n) ∨ bo ≤ wi) with ⟨d, e⟩ | ⟨d, e⟩ | d
  all_goals
    have v1 : IntKind.i64.wrap (wi + m) = wi + m := IntWalk.i64_in _ (by omega)
    have v2 : IntKind.i64.wrap (wi + qq) = wi + qq := IntWalk.i64_in _ (by omega)
    have v5 : IntKind.i64.wrap mm = mm := IntWalk.i64_in _ (by omega)
    have v6 : IntKind.i64.wrap q = q := IntWalk.i64_in _ (by omega)
  case' inl => have v3 : IntKind.i64.wrap (wi + n) = wi + n := IntWalk.i64_in _ (by omega)
  · go_enter Try.func12, Try.ntmps12
    go_wp2
    go_quiet (fail)
    go_wp2
    refine wp_region_still_tail 14 (by kernel_rfl) (by kernel_rfl) ?_
    change wpStill _ _ (World.drew _) (fun a' => wpList _ _ _ _ a' (World.drew _)) _ _
    simp only [List.take_succ_cons, List.take_zero, List.drop_succ_cons, List.drop_zero]
    repeat still_step
    try refine wpStill_nil ?_
    go_wp2
    all_goals go_ret
    all_goals refine ⟨rfl, Cr.of (((hs.drewN _).set 1 _).set 1 _) ?_ rfl rfl rfl rfl, (grownBy_setCell (grownBy_setCell (grownBy_drewN (grownBy_setCell (World.grownBy.refl w _) (by exact .inl rfl) _) _) (by exact .inl rfl) _) (by exact .inl rfl) _)⟩
    all_goals
      show _ = gw _ _ _ _
      rw [HGW.out, if_pos d]
      omega
  · go_enter Try.func12, Try.ntmps12
    go_wp2
    go_quiet (fail)
    go_wp2
    refine wp_region_still_tail 14 (by kernel_rfl) (by kernel_rfl) ?_
    change wpStill _ _ (World.drew _) (fun a' => wpList _ _ _ _ a' (World.drew _)) _ _
    simp only [List.take_succ_cons, List.take_zero, List.drop_succ_cons, List.drop_zero]
    repeat still_step
    try refine wpStill_nil ?_
    go_wp2
    all_goals go_ret
    all_goals refine ⟨rfl, Cr.of (((hs.drewN _).set 1 _).set 1 _) ?_ rfl rfl rfl rfl, (grownBy_setCell (grownBy_setCell (grownBy_drewN (grownBy_setCell (World.grownBy.refl w _) (by exact .inl rfl) _) _) (by exact .inl rfl) _) (by exact .inl rfl) _)⟩
    all_goals
      show _ = gw _ _ _ _
      rw [HGW.out, if_pos d]
      omega
  · go_enter Try.func12, Try.ntmps12
    go_wp2
    go_quiet (fail)
    go_wp2
    refine wp_region_still_tail 23 (by kernel_rfl) (by kernel_rfl) ?_
    change wpStill _ _ (World.drew _) (fun a' => wpList _ _ _ _ a' (World.drew _)) _ _
    simp only [List.take_succ_cons, List.take_zero, List.drop_succ_cons, List.drop_zero]
    repeat still_step
    try refine wpStill_nil ?_
    go_wp2
    all_goals go_ret
    all_goals refine ⟨rfl, Cr.of (((hs.drewN _).set 1 _).set 1 _) ?_ rfl rfl rfl rfl, (grownBy_setCell (grownBy_setCell (grownBy_drewN (grownBy_setCell (World.grownBy.refl w _) (by exact .inl rfl) _) _) (by exact .inl rfl) _) (by exact .inl rfl) _)⟩
    all_goals
      show _ = gw _ _ _ _
      rw [HGW.out, if_neg (by omega), HQM.out]
      omega
set_option maxRecDepth 100000 in
set_option maxHeartbeats 2000000 in
theorem rgrow_neg (g : Nat) (m : Int) (s : CS) (n una : Int) (hn0 : -9223372036854775808 ≤ n) (hn1 : n ≤ 9223372036854775807) (hn : n ≤ 0) (k : CsOk m s) (hme : s.me = false) (w : World) (hb : Cr w g m s) :
    Calls Try.prog 12 #[.pointer (some ⟨g, 0, none⟩), .int .i64 n, .int .u32 una] w fun e w' => e = .returned (.bool false) ∧ Cr w' g m ⟨gw m s.wi s.bo (max 0 n), s.bo, 0, s.up, false⟩ ∧ w.grownBy w' (some g) := by
  obtain ⟨wi, bo, sa, up, me⟩ := s
  simp only at hme
  subst hme
  obtain ⟨m0, m1, w0, w1, b0, b1, s0, s1, u0, u1⟩ := k
  simp only at w0 w1 b0 b1 s0 s1 u0 u1
  unfold Cr at hb
  simp only at hb
  have c0 := hb.cell 0
  have c1 := hb.cell 1
  have c2 := hb.cell 2
  have c3 := hb.cell 3
  have c4 := hb.cell 4
  simp only [List.getElem?_toArray, List.getElem?_cons_zero, List.getElem?_cons_succ] at c0 c1 c2 c3 c4
  have f1 := hb.frozen 1
  have f3 := hb.frozen 3
  have hs := hb.set 3 (.int .i64 0)
  have hmm0 : 0 ≤ m * m := Int.mul_nonneg (by omega) (by omega)
  have hmm1 : m * m ≤ 65535 * 65535 := Int.mul_le_mul m1 m1 (by omega) (by omega)
  have hqe : (m * m).tdiv wi = m * m / wi := Int.tdiv_eq_ediv_of_nonneg hmm0
  have hq0 : 0 ≤ m * m / wi := Int.ediv_nonneg hmm0 (by omega)
  have hq1 : m * m / wi ≤ m * m := Int.ediv_le_self _ hmm0
  obtain ⟨q, hq⟩ : ∃ q, m * m / wi = q := ⟨_, rfl⟩
  rw [hq] at hqe hq0 hq1
  obtain ⟨mm, hmm⟩ : ∃ mm, m * m = mm := ⟨_, rfl⟩
  rw [hmm] at hqe hmm0 hmm1 hq1
  have hgw : gw m wi bo (max 0 n) = if wi < bo then min (wi + min 0 m) 16777216 else min (wi + max 1 q) 16777216 := by unfold gw; rw [hq, show max 0 n = 0 from by omega]
  have HGW := Lib.hid hgw
  have zw : ¬ wi = 0 := by omega
  have zw2 : (wi == 0) = false := by simp; omega
  clear hq hgw
  obtain ⟨qq, hqq⟩ : ∃ qq, (if (1 : Int) < q then q else 1) = qq := ⟨_, rfl⟩
  have hqm : max 1 q = qq := by rw [← hqq]; split <;> omega
  have hqb : 1 ≤ qq ∧ qq ≤ 4294836225 := by omega
  have HQM := Lib.hid hqm
  clear hqm
  rcases (by omega : wi < bo ∨ bo ≤ wi) with d | d
  all_goals
    have v1 : IntKind.i64.wrap (wi + m) = wi + m := IntWalk.i64_in _ (by omega)
    have v2 : IntKind.i64.wrap (wi + qq) = wi + qq := IntWalk.i64_in _ (by omega)
    have v5 : IntKind.i64.wrap mm = mm := IntWalk.i64_in _ (by omega)
    have v6 : IntKind.i64.wrap q = q := IntWalk.i64_in _ (by omega)
  case' inl => have v3 : IntKind.i64.wrap wi = wi := IntWalk.i64_in _ (by omega)
  · go_enter Try.func12, Try.ntmps12
    go_wp2
    go_quiet (fail)
    go_wp2
    refine wp_region_still_tail 14 (by kernel_rfl) (by kernel_rfl) ?_
    change wpStill _ _ (World.drew _) (fun a' => wpList _ _ _ _ a' (World.drew _)) _ _
    simp only [List.take_succ_cons, List.take_zero, List.drop_succ_cons, List.drop_zero]
    repeat still_step
    try refine wpStill_nil ?_
    go_wp2
    all_goals go_ret
    all_goals refine ⟨rfl, Cr.of (((hs.drewN _).set 1 _).set 1 _) ?_ rfl rfl rfl rfl, (grownBy_setCell (grownBy_setCell (grownBy_drewN (grownBy_setCell (World.grownBy.refl w _) (by exact .inl rfl) _) _) (by exact .inl rfl) _) (by exact .inl rfl) _)⟩
    all_goals
      show _ = gw _ _ _ _
      rw [HGW.out, if_pos d]
      omega
  · go_enter Try.func12, Try.ntmps12
    go_wp2
    go_quiet (fail)
    go_wp2
    refine wp_region_still_tail 23 (by kernel_rfl) (by kernel_rfl) ?_
    change wpStill _ _ (World.drew _) (fun a' => wpList _ _ _ _ a' (World.drew _)) _ _
    simp only [List.take_succ_cons, List.take_zero, List.drop_succ_cons, List.drop_zero]
    repeat still_step
    try refine wpStill_nil ?_
    go_wp2
    all_goals go_ret
    all_goals refine ⟨rfl, Cr.of (((hs.drewN _).set 1 _).set 1 _) ?_ rfl rfl rfl rfl, (grownBy_setCell (grownBy_setCell (grownBy_drewN (grownBy_setCell (World.grownBy.refl w _) (by exact .inl rfl) _) _) (by exact .inl rfl) _) (by exact .inl rfl) _)⟩
    all_goals
      show _ = gw _ _ _ _
      rw [HGW.out, if_neg (by omega), HQM.out]
      omega
end Go.Proofs.Ytpeojjaaeckehaa
