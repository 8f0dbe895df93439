/- Proved: what a message is written as is read as it. Conditions: the message may be written. -/
import Derived.Test.YtlnodkfngomlmaaMsg
set_option linter.unusedVariables false
namespace Go.Proofs.Ytlnodkfngomlmaa
open Go.RowKit
theorem icmpB_read (t c s r : Int) (d : List Int) (ht0 : 0 ≤ t) (ht1 : t ≤ 255) (hc0 : 0 ≤ c) (hc1 : c ≤ 255) (hr0 : 0 ≤ r) (hr1 : r ≤ 4294967295) :
    at8 (icmpB t c s r d) 0 = t ∧ at8 (icmpB t c s r d) 1 = c ∧ rd4 (icmpB t c s r d) 4 = r ∧ (icmpB t c s r d).drop 8 = d := by
  have e : icmpB t c s r d = t % 256 :: c % 256 :: s / 256 % 256 :: s % 256 :: r / 16777216 % 256 :: r / 65536 % 256 :: r / 256 % 256 :: r % 256 :: d := by simp [icmpB, be]
  rw [e]
  refine ⟨?_, ?_, ?_, ?_⟩
  · simp [at8]; omega
  · simp [at8]; omega
  · simp [rd4, at8]; omega
  · simp
structure BackOk (L : List Int) (t c r : Int) (l : List Int) : Prop where
  len : L.length = 8 + l.length
  bs : Bs L
  sum : partC L = 65535
  err : decErr L = 0
  dt : dcT L = t
  dc : dcC L = c
  dr : dcR L = r
  dd : dcD L = l
theorem back_ok (t c r : Int) (l : List Int) (ht0 : 0 ≤ t) (ht1 : t ≤ 255) (hc0 : 0 ≤ c) (hc1 : c ≤ 255) (hr0 : 0 ≤ r) (hr1 : r ≤ 4294967295) (hb : Bs l) (hn : l.length ≤ 65507) : BackOk (icmpB t c (icmpSum t c r l) r l) t c r l := by
  have h0 : encErr t c l.length = 0 := encErr_ok (by omega) (by omega)
  have hs := encOut_sum t c r l hb h0
  unfold encOut at hs
  rw [if_pos h0] at hs
  obtain ⟨q0, q1, q2, q3⟩ := icmpB_read t c (icmpSum t c r l) r l ht0 ht1 hc0 hc1 hr0 hr1
  have he : decErr (icmpB t c (icmpSum t c r l) r l) = 0 := by
    unfold decErr; rw [if_neg (by rw [icmpB_len]; omega), if_pos hs]
  exact ⟨icmpB_len _ _ _ _ _, icmpB_bs _ _ _ _ hb, hs, he, by unfold dcT; rw [if_pos he, q0], by unfold dcC; rw [if_pos he, q1], by unfold dcR; rw [if_pos he, q2], by unfold dcD; rw [if_pos he, q3]⟩
theorem turned_err (L : List Int) (k : Nat) (v : Int) (hb : Bs L) (h8 : 8 ≤ L.length) (hk : k < L.length) (h0 : 0 ≤ v) (h1 : v < 256) (hne : v ≠ L[k]?.getD 0) (hs : partC L = 65535) : decErr (L.set k v) = 4 := by
  unfold decErr
  rw [if_neg (by rw [List.length_set]; omega), if_neg (partC_set L k v hb hk h0 h1 hne hs)]
end Go.Proofs.Ytlnodkfngomlmaa
