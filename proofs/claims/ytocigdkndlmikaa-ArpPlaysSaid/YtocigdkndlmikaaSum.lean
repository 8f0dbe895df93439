/- Proved: what fold, Part, Join and Sum of package octet and of its reference return, each by its walk. Conditions: the bytes lie in memory; the row is not longer than any slice can be. -/
import Derived.Test.YtocigdkndlmikaaRows
import Derived.Test.YtocigdkndlmikaaLib
import Derived.Test.YtocigdkndlmikaaPlain
import Derived.Deep.RegionLaw
import Derived.Deep.QuietTactic
import Derived.BigQuiet
set_option linter.unusedVariables false
namespace Go.Proofs.Ytocigdkndlmikaa
open Go.RowKit
theorem andNot_8_0 : bits .andNot .u64 8 0 = 8 := by decide
theorem andNot_8_8 : bits .andNot .u64 8 8 = 0 := by decide
attribute [local go_sem] and_i64_65535 and_i64_1 andNot_8_0 andNot_8_8

theorem ret_i64 {x y : Int} (h : x = y) : Ending.returned (.int .i64 x) = .returned (.int .i64 y) := by rw [h]

theorem eq_false_bool {p : Prop} [Decidable p] (h : ¬ p) : Ending.returned (.bool false) = .returned (.bool (decide p)) := by rw [decide_eq_false h]
theorem eq_true_bool {p : Prop} [Decidable p] (h : p) : Ending.returned (.bool true) = .returned (.bool (decide p)) := by rw [decide_eq_true h]

theorem same_any (A A2 : Option Addr) (n c m c2 B B2 : Nat) (l l2 : List Int) (hn : l.length = n) (hm : l2.length = m) (hmax : n ≤ 140737488355328) (hmax2 : m ≤ 140737488355328) (hb : Bs l) (hb2 : Bs l2) (w : World) (hr : RB w B A l) (hr2 : RB w B2 A2 l2) :
    Calls Try.prog 19 #[.slice A n c, .slice A2 m c2] w fun e w' => e = .returned (.bool (decide (l = l2))) ∧ ∃ k, w' = w.drewN k := by
  have Hn := Lib.hid hn
  have Hm := Lib.hid hm
  clear hn hm
  rcases (by omega : n < m ∨ m < n ∨ n = m) with h1 | h1 | h1
  · go_enter Try.func19, Try.ntmps19
    go_wp2
    go_ret
    exact ⟨eq_false_bool (fun e => by have := congrArg List.length e; rw [Hn.out, Hm.out] at this; omega), 0, rfl⟩
  · go_enter Try.func19, Try.ntmps19
    go_wp2
    go_ret
    exact ⟨eq_false_bool (fun e => by have := congrArg List.length e; rw [Hn.out, Hm.out] at this; omega), 0, rfl⟩
  subst h1
  go_enter Try.func19, Try.ntmps19
  go_wp2
  go_loopw [5] (fun i wr => ∃ k : Nat, k ≤ n ∧ i = .int .i64 k ∧ Hid (l.take k = l2.take k) ∧ ∃ j, wr = w.drewN j) (fun i _ => n - (intOf i).toNat)
  case atStart => exact ⟨0, Nat.zero_le _, rfl, by show l.take 0 = _; simp, 0, rfl⟩
  case round =>
    obtain ⟨k, hk, rfl, HE, j, rfl⟩ := hrel
    rcases Nat.lt_or_ge k n with c1 | c1
    · obtain ⟨b, off, rfl, _, hc⟩ := hr.at_ (k := k) (by rw [Hn.out]; exact c1)
      obtain ⟨b', off', rfl, _, hc'⟩ := hr2.at_ (k := k) (by rw [Hm.out]; exact c1)
      have hbx := hb.at_ k
      have hbx' := hb2.at_ k
      have g1 := take_succ_getD l k (by rw [Hn.out]; exact c1)
      have g2 := take_succ_getD l2 k (by rw [Hm.out]; exact c1)
      by_cases h : l[k]?.getD 0 = l2[k]?.getD 0
      · have HE' : Hid (l.take (k + 1) = l2.take (k + 1)) := by show _ = _; rw [g1, g2, HE.out, h]
        have hx : (l[k]?.getD 0 != l2[k]?.getD 0) = false := by rw [h]; simp
        clear g1 g2 h
        go_wp2
        go_quiet (fail)
        go_wp2
        go_roundw
        case rel => exact ⟨k + 1, by omega, by go_num, HE', j + nq, rfl⟩
        case measure => simp [intOf]; omega
      · have hx : (l[k]?.getD 0 != l2[k]?.getD 0) = true := by simpa using h
        have HF : Hid (¬ l = l2) := fun e => h (by rw [e])
        clear g1 g2 h
        go_wp2
        go_quiet (fail)
        go_wp2
        go_ret
        exact ⟨eq_false_bool HF.out, j + nq, World.drewN_drewN w j nq⟩
    · have HF : Hid (l = l2) := by
        show _ = _
        have := HE.out
        rwa [List.take_of_length_le (by rw [Hn.out]; omega), List.take_of_length_le (by rw [Hm.out]; omega)] at this
      go_wp2
      go_ret
      exact ⟨eq_true_bool HF.out, j, rfl⟩
end Go.Proofs.Ytocigdkndlmikaa
