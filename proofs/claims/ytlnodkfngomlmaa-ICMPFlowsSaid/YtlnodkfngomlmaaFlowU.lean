/- Proved: whose flow some bytes are, by the reference's Flow, by its walk. Conditions: the bytes lie in memory. -/
import Derived.Test.YtlnodkfngomlmaaFlowS
import Derived.Test.YtlnodkfngomlmaaFlowT
import Derived.Deep.RegionHeld3
set_option linter.unusedVariables false
namespace Go.Proofs.Ytlnodkfngomlmaa
open Go.RowKit

theorem rflow_any (A : Option Addr) (n c B : Nat) (l : List Int) (hn : l.length = n) (hc : n ≤ c) (hmax : n ≤ 1000000) (hb : Bs l) (w : World) (hr : RB w B A l) (hB : B ≤ w.heap.size) :
    Calls Try.prog 29 #[.slice A n c] w (FlowRet w l) := by
  have a0 := at8_bd hb 0
  rcases Nat.lt_or_ge n 20 with h20 | h20
  · exact rflow_short A n c B l hn h20 hc hmax hb w hr hB
  by_cases v4 : (at8 l 0 / 16 != 4) = true
  · exact rflow_form1 A n c B l hn h20 v4 hc hmax hb w hr hB
  have v4 : (at8 l 0 / 16 != 4) = false := by simpa using v4
  by_cases hx : at8 l 0 % 16 * 4 < 20
  · exact rflow_form2 A n c B l hn h20 v4 hx hc hmax hb w hr hB
  obtain ⟨m, hmm⟩ : ∃ m : Nat, at8 l 0 % 16 * 4 - 20 = m := ⟨(at8 l 0 % 16 * 4 - 20).toNat, by omega⟩
  rcases Nat.lt_or_ge n (20 + m) with hl | hl
  · exact rflow_long A n c B l hn h20 v4 m hmm hl hc hmax hb w hr hB
  by_cases p17 : at8 l 9 = 17
  · rcases Nat.lt_or_ge n (20 + m + 4) with hf | hf
    · exact rflow_few17 A n c B l hn h20 v4 m hmm hl p17 hf hc hmax hb w hr hB
    by_cases o0 : (rd2 l 6 % 8192 == 0) = true
    · exact rflow_ports17 A n c B l hn h20 v4 m hmm hl p17 o0 hf hc hmax hb w hr hB
    · exact rflow_off17 A n c B l hn h20 v4 m hmm hl p17 (by simpa using o0) hf hc hmax hb w hr hB
  by_cases p6 : at8 l 9 = 6
  · rcases Nat.lt_or_ge n (20 + m + 4) with hf | hf
    · exact rflow_few6 A n c B l hn h20 v4 m hmm hl p6 hf hc hmax hb w hr hB
    by_cases o0 : (rd2 l 6 % 8192 == 0) = true
    · exact rflow_ports6 A n c B l hn h20 v4 m hmm hl p6 o0 hf hc hmax hb w hr hB
    · exact rflow_off6 A n c B l hn h20 v4 m hmm hl p6 (by simpa using o0) hf hc hmax hb w hr hB
  exact rflow_none A n c B l hn h20 v4 m hmm hl p17 p6 hc hmax hb w hr hB
end Go.Proofs.Ytlnodkfngomlmaa
