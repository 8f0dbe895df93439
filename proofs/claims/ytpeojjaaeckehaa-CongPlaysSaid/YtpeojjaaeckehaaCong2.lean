/- Proved: what Acked, Same, Lost, Window, Mending and New of package cong do, each by its walk. Conditions: the window is a block of the caller's own, its numbers within their bounds. -/
import Derived.Test.YtpeojjaaeckehaaCong
set_option linter.unusedVariables false
namespace Go.Proofs.Ytpeojjaaeckehaa
open Go.RowKit
theorem Bk.eq_ {w : World} {g : Nat} {T : TypeId} {a b : Array Value} (h : Bk w g T a) (e : a = b) : Bk w g T b := e ▸ h

theorem mends_over (g : Nat) (m : Int) (s : CS) (n una : Int) (hn0 : 0 ≤ n) (hn1 : n ≤ 9223372036854775807) (k : CsOk m s) (hme : s.me = true) (hs : ¬ sd una s.up < 0) (w : World) (hb : Co w g m s) :
    Calls Try.prog 22 #[.pointer (some ⟨g, 0, none⟩), .int .i64 n, .int .u32 una] w fun e w' => e = .returned (.bool false) ∧ Co w' g m ⟨min s.bo 16777216, s.bo, 0, s.up, false⟩ ∧ w.grownBy w' (some g) := by
  obtain ⟨wi, bo, sa, up, me⟩ := s
  simp only at hme hs
  subst hme
  unfold Co at hb
  simp only at hb
  have c4 := hb.cell 4
  simp only [List.getElem?_toArray, List.getElem?_cons_zero, List.getElem?_cons_succ] at c4
  have hd : decide (sd una up < 0) = false := decide_eq_false hs
  go_enter Try.func22, Try.ntmps22
  go_wp2_with (go_at_call 26; refine (less_any _ _ _).mono ?_; rintro e w' ⟨rfl, rfl⟩)
  refine (calm_any g m wi bo sa up true _ _ hb).mono ?_
  rintro e w2 ⟨rfl, hb2, hg2⟩
  unfold Co at hb2
  have c2 := hb2.cell 2
  simp only [List.getElem?_toArray, List.getElem?_cons_zero, List.getElem?_cons_succ] at c2
  go_wp2_with (go_at_call 20; refine (set_any g m wi bo 0 up _ false _ _ hb2).mono ?_; rintro e w5 ⟨rfl, hb5, hg5⟩)
  go_ret
  exact ⟨rfl, hb5, hg2.trans hg5⟩
set_option maxHeartbeats 1000000 in
theorem mends_on (g : Nat) (m : Int) (s : CS) (n una : Int) (hn0 : 0 ≤ n) (hn1 : n ≤ 9223372036854775807) (k : CsOk m s) (hme : s.me = true) (hs : sd una s.up < 0) (w : World) (hb : Co w g m s) :
    Calls Try.prog 22 #[.pointer (some ⟨g, 0, none⟩), .int .i64 n, .int .u32 una] w fun e w' => e = .returned (.bool true) ∧ Co w' g m ⟨min (max m (s.wi - n + m)) 16777216, s.bo, s.sa, s.up, true⟩ ∧ w.grownBy w' (some g) := by
  obtain ⟨wi, bo, sa, up, me⟩ := s
  simp only at hme hs
  subst hme
  obtain ⟨m0, m1, w0, w1, b0, b1, s0, s1, u0, u1⟩ := k
  simp only at w0 w1 b0 b1 s0 s1 u0 u1
  unfold Co at hb
  simp only at hb
  have c0 := hb.cell 0
  have c1 := hb.cell 1
  have c4 := hb.cell 4
  simp only [List.getElem?_toArray, List.getElem?_cons_zero, List.getElem?_cons_succ] at c0 c1 c4
  have hd : decide (sd una up < 0) = true := decide_eq_true hs
  have v1 : IntKind.i64.wrap (wi - n) = wi - n := IntWalk.i64_in _ (by omega)
  have v2 : IntKind.i64.wrap (wi - n + m) = wi - n + m := IntWalk.i64_in _ (by omega)
  obtain ⟨qq, hqq⟩ : ∃ qq, (if m < wi - n + m then wi - n + m else m) = qq := ⟨_, rfl⟩
  have hqm : max m (wi - n + m) = qq := by rw [← hqq]; split <;> omega
  have HQM := Lib.hid hqm
  clear hqm
  go_enter Try.func22, Try.ntmps22
  go_wp2_with (go_at_call 26; refine (less_any _ _ _).mono ?_; rintro e w' ⟨rfl, rfl⟩)
  refine wp_region_still_tail 17 (by kernel_rfl) (by kernel_rfl) ?_
  change wpStill _ _ (World.drew _) (fun a' => wpList _ _ _ _ a' (World.drew _)) _ _
  simp only [List.take_succ_cons, List.take_zero, List.drop_succ_cons, List.drop_zero]
  repeat still_step
  try refine wpStill_nil ?_
  go_wp2_with (go_at_call 20; refine (set_any g m wi bo sa up _ true _ _ hb.drew).mono ?_; rintro e w5 ⟨rfl, hb5, hg5⟩)
  go_ret
  refine ⟨rfl, ?_, (grownBy_drew (World.grownBy.refl w _)).trans hg5⟩
  show Bk _ _ _ _
  simp only
  rw [HQM.out]
  refine Bk.eq_ hb5 ?_
  rfl

/-- Which function an acknowledgement goes to. -/
def fid (me : Bool) : FuncId := match me with
  | true => 22
  | false => 24
theorem acked_any (g : Nat) (m : Int) (s : CS) (n una : Int) (hn0 : -9223372036854775808 ≤ n) (hn1 : n ≤ 9223372036854775807) (k : CsOk m s) (w : World) (hb : Co w g m s) :
    Calls Try.prog 10 #[.pointer (some ⟨g, 0, none⟩), .int .i64 n, .int .u32 una] w fun e w' => e = .returned (.bool (ackR una s)) ∧ Co w' g m (ackS m n una s) ∧ w.grownBy w' (some g) := by
  have hc : ∀ N : Int, 0 ≤ N → N ≤ 9223372036854775807 → max 0 n = N → Calls Try.prog (fid s.me) #[.pointer (some ⟨g, 0, none⟩), .int .i64 N, .int .u32 una] w fun e w' => e = .returned (.bool (ackR una s)) ∧ Co w' g m (ackS m n una s) ∧ w.grownBy w' (some g) := by
    intro N h0 h1 hN
    obtain ⟨wi, bo, sa, up, me⟩ := s
    cases me
    · simp only [ackR, ackS]
      rw [hN]
      exact grows_any g m _ N una h0 h1 k rfl w hb
    · simp only [ackR, ackS]
      rw [hN]
      by_cases h : sd una up < 0
      · rw [if_pos h, decide_eq_true h]
        exact mends_on g m _ N una h0 h1 k rfl h w hb
      · rw [if_neg h, decide_eq_false h]
        exact mends_over g m _ N una h0 h1 k rfl h w hb
  have c6 := hb.cell 6
  simp only [List.getElem?_toArray, List.getElem?_cons_zero, List.getElem?_cons_succ] at c6
  obtain ⟨wi, bo, sa, up, me⟩ := s
  have e1 := eql_fn
  cases me
  all_goals
    simp only [fv] at c6
    generalize ackR una _ = R at hc ⊢
    generalize ackS m n una _ = S at hc ⊢
    simp only [fid] at hc
    have HC := Lib.hid hc
    clear hc hb k
  · rcases (by omega : n ≤ 0 ∨ 0 < n) with d | d
    · go_enter Try.func10, Try.ntmps10
      go_wp2_with (go_at_call 24; refine (HC.out 0 (by omega) (by omega) (by omega)).mono ?_; rintro e w' ⟨rfl, h1, h2⟩)
      go_ret
      exact ⟨rfl, h1, h2⟩
    · go_enter Try.func10, Try.ntmps10
      go_wp2_with (go_at_call 24; refine (HC.out n (by omega) (by omega) (by omega)).mono ?_; rintro e w' ⟨rfl, h1, h2⟩)
      go_ret
      exact ⟨rfl, h1, h2⟩
  · rcases (by omega : n ≤ 0 ∨ 0 < n) with d | d
    · go_enter Try.func10, Try.ntmps10
      go_wp2_with (go_at_call 22; refine (HC.out 0 (by omega) (by omega) (by omega)).mono ?_; rintro e w' ⟨rfl, h1, h2⟩)
      go_ret
      exact ⟨rfl, h1, h2⟩
    · go_enter Try.func10, Try.ntmps10
      go_wp2_with (go_at_call 22; refine (HC.out n (by omega) (by omega) (by omega)).mono ?_; rintro e w' ⟨rfl, h1, h2⟩)
      go_ret
      exact ⟨rfl, h1, h2⟩
end Go.Proofs.Ytpeojjaaeckehaa
