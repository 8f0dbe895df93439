/- Proved: the law's own window, the methods of a nil window, and that every window keeps its bounds. Conditions: none but those bounds. -/
import Derived.Test.YtpeojjaaeckehaaCongS
set_option linter.unusedVariables false
namespace Go.Proofs.Ytpeojjaaeckehaa
open Go.RowKit
theorem known_any (w : World) :
    Calls Try.prog 7 #[] w fun e w' => e = .returned (.bool true) ∧ Below w.heap.size w w' := by
  have k0 : CsOk 100 ⟨200, 65535, 0, 0, false⟩ := ⟨by decide, by decide, by decide, by decide, by decide, by decide, by decide, by decide, by decide, by decide⟩
  have k1 : CsOk 100 ⟨300, 65535, 0, 0, false⟩ := ⟨by decide, by decide, by decide, by decide, by decide, by decide, by decide, by decide, by decide, by decide⟩
  have k2 : CsOk 100 ⟨300, 65535, 1, 0, false⟩ := ⟨by decide, by decide, by decide, by decide, by decide, by decide, by decide, by decide, by decide, by decide⟩
  have k3 : CsOk 100 ⟨300, 65535, 2, 0, false⟩ := ⟨by decide, by decide, by decide, by decide, by decide, by decide, by decide, by decide, by decide, by decide⟩
  go_enter Try.func7, Try.ntmps7
  go_wp2_with fail
  refine (new_ok 100 (by omega) (by omega) _).mono ?_
  rintro e w1 ⟨rfl, hb1, hB1⟩
  have hz1 := Bk.lt hb1
  go_wp2_with fail
  refine (acked_any _ 100 ⟨200, 65535, 0, 0, false⟩ 100 1 (by omega) (by omega) k0 _ hb1).mono ?_
  rintro e w2 ⟨he, hb2, hg2⟩
  have he : e = .returned (.bool false) := he
  subst he
  have hb2 : Co w2 w.heap.size 100 ⟨300, 65535, 0, 0, false⟩ := hb2
  go_wp2_with fail
  refine (window_any _ 100 _ _ hb2).mono ?_
  rintro e w' ⟨rfl, rfl⟩
  go_wp2_with fail
  refine (same_any _ 100 _ 300 500 (by omega) (by omega) (by omega) (by omega) k1 _ hb2).mono ?_
  rintro e w3 ⟨he, hb3, hg3⟩
  have he : e = .returned (.bool false) := he
  subst he
  have hb3 : Co w3 w.heap.size 100 ⟨300, 65535, 1, 0, false⟩ := hb3
  go_wp2_with fail
  refine (same_any _ 100 _ 300 500 (by omega) (by omega) (by omega) (by omega) k2 _ hb3).mono ?_
  rintro e w4 ⟨he, hb4, hg4⟩
  have he : e = .returned (.bool false) := he
  subst he
  have hb4 : Co w4 w.heap.size 100 ⟨300, 65535, 2, 0, false⟩ := hb4
  go_wp2_with fail
  refine (same_any _ 100 _ 300 500 (by omega) (by omega) (by omega) (by omega) k3 _ hb4).mono ?_
  rintro e w5 ⟨he, hb5, hg5⟩
  have he : e = .returned (.bool true) := he
  subst he
  have hb5 : Co w5 w.heap.size 100 ⟨500, 200, 3, 500, true⟩ := hb5
  go_wp2_with fail
  refine (window_any _ 100 _ _ hb5).mono ?_
  rintro e w' ⟨rfl, rfl⟩
  go_wp2_with fail
  refine (mending_any _ 100 _ _ hb5).mono ?_
  rintro e w' ⟨rfl, rfl⟩
  go_wp2
  go_ret
  have h2 := hg2.size
  have h3 := hg3.size
  have h4 := hg4.size
  have hr : ∀ i, some w.heap.size = some i → w.heap.size ≤ i := fun i e => by injection e with e; omega
  exact ⟨rfl, (((hB1.grown hg2 (by omega) hr).grown hg3 (by omega) hr).grown hg4 (by omega) hr).grown hg5 (by omega) hr⟩

theorem lost_nil (fl : Int) (w : World) : Calls Try.prog 15 #[.pointer none, .int .i64 fl] w fun e w' => e = .returned (.tuple #[]) ∧ w = w' := by
  go_enter Try.func15, Try.ntmps15
  go_wp2
  refine bodyPost_ret (results_none rfl _ _ _) rfl ?_
  exact ⟨rfl, rfl⟩
theorem acked_nil (n una : Int) (w : World) : Calls Try.prog 10 #[.pointer none, .int .i64 n, .int .u32 una] w fun e w' => e = .returned (.bool false) ∧ w = w' := by
  go_enter Try.func10, Try.ntmps10
  go_wp2
  go_ret
  exact ⟨rfl, rfl⟩
theorem same_nil (n una : Int) (w : World) : Calls Try.prog 13 #[.pointer none, .int .i64 n, .int .u32 una] w fun e w' => e = .returned (.bool false) ∧ w = w' := by
  go_enter Try.func13, Try.ntmps13
  go_wp2
  go_ret
  exact ⟨rfl, rfl⟩
theorem window_nil (w : World) : Calls Try.prog 9 #[.pointer none] w fun e w' => e = .returned (.int .i64 0) ∧ w = w' := by
  go_enter Try.func9, Try.ntmps9
  go_wp2
  go_ret
  exact ⟨rfl, rfl⟩
theorem mending_nil (w : World) : Calls Try.prog 17 #[.pointer none] w fun e w' => e = .returned (.bool false) ∧ w = w' := by
  go_enter Try.func17, Try.ntmps17
  go_wp2
  go_ret
  exact ⟨rfl, rfl⟩

theorem CsOk.new (m : Int) (h0 : 1 ≤ m) (h1 : m ≤ 65535) : CsOk m (newS m) := by unfold newS; constructor <;> (try simp only) <;> omega
theorem gw_bd (m wi bo n : Int) (m0 : 1 ≤ m) (m1 : m ≤ 65535) (w0 : m ≤ wi) (w1 : wi ≤ 16777216) (n0 : 0 ≤ n) : m ≤ gw m wi bo n ∧ gw m wi bo n ≤ 16777216 := by
  unfold gw
  generalize m * m / wi = q
  split <;> omega
theorem CsOk.ack {m : Int} {s : CS} (k : CsOk m s) (n una : Int) : CsOk m (ackS m n una s) ∧ (ackS m n una s).sa ≤ s.sa := by
  obtain ⟨wi, bo, sa, up, me⟩ := s
  obtain ⟨m0, m1, w0, w1, b0, b1, s0, s1, u0, u1⟩ := k
  simp only at w0 w1 b0 b1 s0 s1 u0 u1
  have hg := gw_bd m wi bo (max 0 n) m0 m1 w0 w1 (by omega)
  cases me
  · simp only [ackS]
    exact ⟨⟨m0, m1, hg.1, hg.2, b0, b1, by show (0 : Int) ≤ 0; omega, by show (0 : Int) ≤ 1000; omega, u0, u1⟩, s0⟩
  · simp only [ackS]
    split
    · refine ⟨⟨m0, m1, ?_, ?_, b0, b1, s0, s1, u0, u1⟩, Int.le_refl _⟩ <;> (try simp only) <;> omega
    · refine ⟨⟨m0, m1, ?_, ?_, b0, b1, by show (0 : Int) ≤ 0; omega, by show (0 : Int) ≤ 1000; omega, u0, u1⟩, s0⟩ <;> (try simp only) <;> omega
theorem CsOk.same {m : Int} {s : CS} (k : CsOk m s) (fl nx : Int) (h2 : fl ≤ 9223372036854775807) (hn0 : 0 ≤ nx) (hn1 : nx ≤ 4294967295) (hs : s.sa ≤ 900) : CsOk m (sameS m fl nx s) ∧ (sameS m fl nx s).sa ≤ s.sa + 1 := by
  obtain ⟨wi, bo, sa, up, me⟩ := s
  obtain ⟨m0, m1, w0, w1, b0, b1, s0, s1, u0, u1⟩ := k
  simp only at w0 w1 b0 b1 s0 s1 u0 u1 hs
  have hh := hf_bd m fl m0 m1 h2
  cases me
  · simp only [sameS]
    split
    · refine ⟨⟨m0, m1, ?_, ?_, ?_, hh.2, ?_, ?_, hn0, hn1⟩, ?_⟩ <;> (try simp only) <;> omega
    · refine ⟨⟨m0, m1, w0, w1, b0, b1, ?_, ?_, u0, u1⟩, ?_⟩ <;> (try simp only) <;> omega
  · simp only [sameS]
    refine ⟨⟨m0, m1, ?_, ?_, b0, b1, ?_, ?_, u0, u1⟩, ?_⟩ <;> (try simp only) <;> omega
theorem CsOk.lost {m : Int} {s : CS} (k : CsOk m s) (fl : Int) (h2 : fl ≤ 9223372036854775807) : CsOk m (lostS m fl s) ∧ (lostS m fl s).sa ≤ s.sa := by
  obtain ⟨wi, bo, sa, up, me⟩ := s
  obtain ⟨m0, m1, w0, w1, b0, b1, s0, s1, u0, u1⟩ := k
  simp only at w0 w1 b0 b1 s0 s1 u0 u1
  have hh := hf_bd m fl m0 m1 h2
  simp only [lostS]
  refine ⟨⟨m0, m1, ?_, ?_, ?_, hh.2, ?_, ?_, u0, u1⟩, ?_⟩ <;> (try simp only) <;> omega
end Go.Proofs.Ytpeojjaaeckehaa
