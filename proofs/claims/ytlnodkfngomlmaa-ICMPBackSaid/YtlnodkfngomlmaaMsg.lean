/- Proved: what icmp.Decode and its reference answer, whatever the bytes; that two messages of the same parts are the same. Conditions: the bytes lie in memory. -/
import Derived.Test.YtlnodkfngomlmaaDecR
import Derived.Test.YtlnodkfngomlmaaDecJ
set_option linter.unusedVariables false
namespace Go.Proofs.Ytlnodkfngomlmaa
open Go.RowKit
def dcT (l : List Int) : Int := if decErr l = 0 then at8 l 0 else 0
def dcC (l : List Int) : Int := if decErr l = 0 then at8 l 1 else 0
def dcR (l : List Int) : Int := if decErr l = 0 then rd4 l 4 else 0
def dcD (l : List Int) : List Int := if decErr l = 0 then l.drop 8 else []
theorem dcD_bs {l : List Int} (h : Bs l) : Bs (dcD l) := by unfold dcD; split; exact h.drop 8; exact Bs.nil
theorem dcD_len (l : List Int) : (dcD l).length ≤ l.length := by unfold dcD; split; rw [List.length_drop]; omega; simp
theorem decErr_cases (l : List Int) : (l.length < 8 ∧ decErr l = 2) ∨ (8 ≤ l.length ∧ partC l = 65535 ∧ decErr l = 0) ∨ (8 ≤ l.length ∧ partC l ≠ 65535 ∧ decErr l = 4) := by
  unfold decErr
  by_cases h : l.length < 8
  · exact .inl ⟨h, if_pos h⟩
  · rw [if_neg h]
    by_cases h2 : partC l = 65535
    · exact .inr (.inl ⟨by omega, h2, if_pos h2⟩)
    · exact .inr (.inr ⟨by omega, h2, if_neg h2⟩)
theorem decode_any (A : Option Addr) (n c B : Nat) (l : List Int) (hn : l.length = n) (hmax : n ≤ 1000000) (hb : Bs l) (w : World) (hr : RB w B A l) (hB : B ≤ w.heap.size) :
    Calls Try.prog 24 #[.slice A n c] w fun e w' => ∃ A' n' c', e = .returned (.tuple #[.agg #[.int .i64 (dcT l), .int .i64 (dcC l), .int .u32 (dcR l), .slice A' n' c'], .int .i64 (decErr l)]) ∧
      OB 5 w' w.heap.size A' n' c' (dcD l) ∧ Below w.heap.size w w' := by
  unfold dcT dcC dcR dcD
  rcases decErr_cases l with ⟨h, e⟩ | ⟨h, h2, e⟩ | ⟨h, h2, e⟩
  · rw [e, if_neg (by omega), if_neg (by omega), if_neg (by omega), if_neg (by omega)]
    exact (decode_short A n c (by omega) w).mono fun e w' ⟨h1, h2⟩ => ⟨none, 0, 0, h1, Ow.none_ _ _ _, h2⟩
  · rw [e, if_pos rfl, if_pos rfl, if_pos rfl, if_pos rfl]
    exact decode_ok A n c B l hn (by omega) hmax hb h2 w hr hB
  · rw [e, if_neg (by omega), if_neg (by omega), if_neg (by omega), if_neg (by omega)]
    exact (decode_sum A n c B l hn (by omega) hmax hb h2 w hr hB).mono fun e w' ⟨h1, h2⟩ => ⟨none, 0, 0, h1, Ow.none_ _ _ _, h2⟩
theorem rdecode_any (A : Option Addr) (n c B : Nat) (l : List Int) (hn : l.length = n) (hc : n ≤ c) (hmax : n ≤ 1000000) (hb : Bs l) (w : World) (hr : RB w B A l) (hB : B ≤ w.heap.size) :
    Calls Try.prog 25 #[.slice A n c] w fun e w' => ∃ A' n' c', e = .returned (.tuple #[.agg #[.int .i64 (dcT l), .int .i64 (dcC l), .int .u32 (dcR l), .slice A' n' c'], .int .i64 (decErr l)]) ∧
      OB 5 w' w.heap.size A' n' c' (dcD l) ∧ Below w.heap.size w w' := by
  unfold dcT dcC dcR dcD
  rcases decErr_cases l with ⟨h, e⟩ | ⟨h, h2, e⟩ | ⟨h, h2, e⟩
  · rw [e, if_neg (by omega), if_neg (by omega), if_neg (by omega), if_neg (by omega)]
    exact (rdecode_short A n c (by omega) w).mono fun e w' ⟨h1, h2⟩ => ⟨none, 0, 0, h1, Ow.none_ _ _ _, h2⟩
  · rw [e, if_pos rfl, if_pos rfl, if_pos rfl, if_pos rfl]
    by_cases hc8 : c = 8
    · subst hc8
      obtain rfl : n = 8 := by omega
      exact rdecode_just A B l hn hb h2 w hr hB
    · exact rdecode_more A n c B l hn (by omega) hc hc8 hmax hb h2 w hr hB
  · rw [e, if_neg (by omega), if_neg (by omega), if_neg (by omega), if_neg (by omega)]
    exact (rdecode_sum A n c B l hn (by omega) hmax hb h2 w hr hB).mono fun e w' ⟨h1, h2⟩ => ⟨none, 0, 0, h1, Ow.none_ _ _ _, h2⟩

theorem messages_any (t c r : Int) (A A2 : Option Addr) (n n2 c1 c2 B : Nat) (l : List Int) (hn : l.length = n) (hn2 : l.length = n2) (hmax : n ≤ 1000000) (hb : Bs l) (w : World) (hr : RB w B A l) (hr2 : RB w B A2 l) (hB : B ≤ w.heap.size) :
    Calls Try.prog 26 #[.agg #[.int .i64 t, .int .i64 c, .int .u32 r, .slice A n c1], .agg #[.int .i64 t, .int .i64 c, .int .u32 r, .slice A2 n2 c2]] w fun e w' => e = .returned (.bool true) ∧ Below w.heap.size w w' ∧ w.heap.size < w'.heap.size := by
  have HN := Lib.hid hn
  have HN2 := Lib.hid hn2
  obtain ⟨W, hW⟩ : ∃ W, (w.alloc (.cells #[.int .i64 t, .int .i64 c, .int .u32 r, .slice A n c1] 25)).alloc (.cells #[.int .i64 t, .int .i64 c, .int .u32 r, .slice A2 n2 c2] 25) = W := ⟨_, rfl⟩
  have hBW : Below w.heap.size w W := by rw [← hW]; exact ((Below.refl _ _).alloc (Nat.le_refl _) _).alloc (by simp) _
  have hz : w.heap.size < W.heap.size := by rw [← hW]; simp; omega
  have ha : RB W B A l := Rw.below hr (hBW.mono hB)
  have ha2 : RB W B A2 l := Rw.below hr2 (hBW.mono hB)
  have hm2 : n2 ≤ 1000000 := by omega
  have HW := Lib.hid hW
  clear hW hn hn2
  go_enter Try.func26, Try.ntmps26
  go_wp2_with fail
  rw [HW.out]
  refine (same_any A A2 n c1 n2 c2 _ _ l l HN.out HN2.out (by omega) (by omega) hb hb _ ha ha2).mono ?_
  rintro e w' ⟨rfl, k, rfl⟩
  go_wp2
  go_ret
  exact ⟨rfl, bel_drewN hBW k, hz⟩
end Go.Proofs.Ytlnodkfngomlmaa
