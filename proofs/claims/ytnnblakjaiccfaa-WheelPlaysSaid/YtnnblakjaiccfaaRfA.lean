/- Proved: At of the reference's wheel. Conditions: the wheel lies in memory, its keys are apart. -/
import Derived.Test.YtnnblakjaiccfaaRf
set_option linter.unusedVariables false
set_option linter.unusedSimpArgs false
namespace Go.Proofs.Ytnnblakjaiccfaa
open Go.RowKit
theorem spotIs_at {S : Mt} {k z : Int} (hs : SpotIs S k z) (hn : (S.map (·.1)).Nodup) : (z = -1 ∧ getM S k = none) ∨ ∃ (i : Nat) (a : Int), z = i ∧ S[i]? = some (k, a) ∧ getM S k = some a := by
  rcases hs with ⟨rfl, h⟩ | ⟨i, t, rfl, h1, h2⟩
  · exact .inl ⟨rfl, getM_none_of h⟩
  · obtain ⟨t1, t2⟩ := t
    simp only at h2
    subst h2
    exact .inr ⟨i, t2, rfl, h1, getM_of hn (List.mem_of_getElem? h1)⟩
set_option maxHeartbeats 2000000 in
set_option maxRecDepth 100000 in
theorem rat_any (q : Nat) (A : Option Addr) (n c : Nat) (S : Mt) (k : Int) (w : World) (h : RfAt w q A n c S) (hn : n ≤ 100000) (hk : (S.map (·.1)).Nodup) :
    Calls Try.prog 25 #[.pointer (some ⟨q, 0, none⟩), .int .i64 k] w fun e w' => e = .returned (.tuple #[.int .i64 ((getM S k).getD 0), .bool (getM S k).isSome]) ∧ ∃ j, w' = w.drewN j := by
  have HH := Lib.hid h
  have HK := Lib.hid hk
  have HS := Lib.hid (spot_any q A n c S k w h hn)
  have hcl := h.cellL
  clear h hk
  go_enter Try.func25, Try.ntmps25
  go_wp2_with fail
  refine HS.out.mono ?_
  rintro e w' ⟨z, rfl, hs, j, rfl⟩
  rcases spotIs_at hs HK.out with ⟨rfl, hg⟩ | ⟨i, a, rfl, hi, hg⟩
  · have HG := Lib.hid hg
    clear hs hg
    go_wp2
    go_ret2
    exact ⟨by rw [HG.out]; rfl, j, rfl⟩
  · have HG := Lib.hid hg
    obtain ⟨g, off, hA, hg2, c0, c1⟩ := HH.out.at_ hi
    have hin : i < n := by have := (List.getElem?_eq_some_iff.1 hi).1; rw [HH.out.2.2.1] at this; exact this
    subst hA
    have y' : (i : Int) < n := by omega
    have y2 : decide ((i : Int) < 0) = false := decide_eq_false (by omega)
    have y3 : ¬ (i : Int) < 0 := by omega
    simp only at c0 c1
    clear hs hg hi
    go_wp2
    go_ret2
    exact ⟨by rw [HG.out]; rfl, j, rfl⟩
end Go.Proofs.Ytnnblakjaiccfaa
