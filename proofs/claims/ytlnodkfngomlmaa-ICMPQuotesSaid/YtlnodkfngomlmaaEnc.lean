/- Proved: what icmp.Encode and its reference hand out, each by its walk. Conditions: the message is one that came in. -/
import Derived.Test.YtlnodkfngomlmaaRows
import Derived.Test.YtlnodkfngomlmaaMem
import Derived.Test.YtlnodkfngomlmaaScript
import Derived.Test.YtlnodkfngomlmaaBytes
set_option linter.unusedVariables false
namespace Go.Proofs.Ytlnodkfngomlmaa
open Go.RowKit

/-- The bytes of a message with a sum. -/
def icmpB (t c s r : Int) (d : List Int) : List Int := be 1 t ++ be 1 c ++ be 2 s ++ be 4 r ++ d
theorem icmpB_len (t c s r : Int) (d : List Int) : (icmpB t c s r d).length = 8 + d.length := by simp [icmpB, be_length]; omega
theorem icmpB_bs (t c s r : Int) {d : List Int} (h : Bs d) : Bs (icmpB t c s r d) := ((((be_bs _ _).append (be_bs _ _)).append (be_bs _ _)).append (be_bs _ _)).append h
def icmpSum (t c r : Int) (d : List Int) : Int := 65535 - partC (icmpB t c 0 r d)

theorem encf_any (gm : Nat) (t c r s : Int) (A : Option Addr) (n cap : Nat) (l : List Int) (hn : l.length = n) (hmax : n ≤ 70000) (hr0 : 0 ≤ r) (hr1 : r ≤ 4294967295) (w : World)
    (hm : Bk w gm 25 #[.int .i64 t, .int .i64 c, .int .u32 r, .slice A n cap]) (hd : RB w w.heap.size A l) :
    Calls Try.prog 32 #[.int .i64 s, .pointer (some ⟨gm, 0, none⟩)] w fun e w' => ∃ A' n' c', e = .returned (.slice A' n' c') ∧ OB 5 w' w.heap.size A' n' c' (icmpB t c s r l) ∧ Below w.heap.size w w' := by
  have hg := hm.lt
  have key : ∀ w', Below w.heap.size w w' → (w'.cell? ⟨gm, 0, none⟩ = some (.int .i64 t) ∧ w'.cell? ⟨gm, 1, none⟩ = some (.int .i64 c) ∧ w'.cell? ⟨gm, 2, none⟩ = some (.int .u32 r) ∧ w'.cell? ⟨gm, 3, none⟩ = some (.slice A n cap)) := fun w' hb =>
    ⟨(hm.below hb hg).cell 0, (hm.below hb hg).cell 1, (hm.below hb hg).cell 2, (hm.below hb hg).cell 3⟩
  have K := Lib.hid key
  have H := Lib.hid hn
  clear key hn
  have hB0 := (Below.refl w.heap.size w).alloc (Nat.le_refl _) (.cells #[.slice none 0 0] 67)
  have hW0 := wr_new w
  obtain ⟨c0, -, -, -⟩ := K.out _ hB0
  go_enter Try.func32, Try.ntmps32
  go_wp2_with fail
  refine (byte_any t w.heap.size w.heap.size _ (by simp) _ hW0 (by simp)).mono ?_
  rintro e w1 ⟨rfl, hW1, hK1⟩
  have hB1 := hB0.trans (hK1.below (by simp) hW0.wf)
  have hz1 := hB1.size
  obtain ⟨-, c1, -, -⟩ := K.out _ hB1
  clear c0
  go_wp2_with fail
  refine (byte_any c w.heap.size w.heap.size _ (by simp [be_length]) _ hW1 hz1).mono ?_
  rintro e w2 ⟨rfl, hW2, hK2⟩
  have hB2 := hB1.trans (hK2.below hz1 hW1.wf)
  have hz2 := hB2.size
  obtain ⟨-, -, c2, -⟩ := K.out _ hB2
  clear c1
  go_wp2_with fail
  refine (two_any s w.heap.size w.heap.size _ (by simp [be_length]) _ hW2 hz2).mono ?_
  rintro e w3 ⟨rfl, hW3, hK3⟩
  have hB3 := hB2.trans (hK3.below hz2 hW2.wf)
  have hz3 := hB3.size
  obtain ⟨-, -, c3, -⟩ := K.out _ hB3
  clear c2
  go_wp2_with fail
  refine (four_any r hr0 hr1 w.heap.size w.heap.size _ (by simp [be_length]) _ hW3 hz3).mono ?_
  rintro e w4 ⟨rfl, hW4, hK4⟩
  have hB4 := hB3.trans (hK4.below hz3 hW3.wf)
  have hz4 := hB4.size
  obtain ⟨-, -, -, c4⟩ := K.out _ hB4
  clear c3
  go_wp2_with fail
  refine (raw_any A n cap _ l H.out (by omega) w.heap.size w.heap.size _ (by simp [be_length]) _ (Rw.below hd hB4) hW4 hz4).mono ?_
  rintro e w5 ⟨rfl, hW5, hK5⟩
  have hB5 := hB4.trans (hK5.below hz4 hW4.wf)
  have hz5 := hB5.size
  clear c4
  go_wp2_with fail
  refine (bytes_any w.heap.size w.heap.size _ (by simp [be_length]; have := H.out; omega) _ hW5).mono ?_
  rintro e w6 ⟨A', n', c', rfl, hO, hB6⟩
  go_wp2
  go_ret
  exact ⟨A', n', c', rfl, Ow.mono hO hz5, hB5.trans (hB6.mono hz5)⟩

theorem encode_arg (t c r : Int) (A : Option Addr) (n cap : Nat) (h : t < 0 ∨ 255 < t ∨ c < 0 ∨ 255 < c) (w : World) :
    Calls Try.prog 12 #[.agg #[.int .i64 t, .int .i64 c, .int .u32 r, .slice A n cap]] w fun e w' => e = .returned (.tuple #[.slice none 0 0, .int .i64 1]) ∧ Below w.heap.size w w' := by
  rcases (by omega : t < 0 ∨ (0 ≤ t ∧ 255 < t) ∨ (0 ≤ t ∧ t ≤ 255 ∧ c < 0) ∨ (0 ≤ t ∧ t ≤ 255 ∧ 0 ≤ c ∧ 255 < c)) with d | ⟨d, d'⟩ | ⟨d, d', d''⟩ | ⟨d, d', d'', d3⟩
  all_goals
    go_enter Try.func12, Try.ntmps12
    go_wp2
    go_ret2
    exact ⟨rfl, (Below.refl _ _).alloc (Nat.le_refl _) _⟩
theorem rencode_arg (t c r : Int) (A : Option Addr) (n cap : Nat) (h : t < 0 ∨ 255 < t ∨ c < 0 ∨ 255 < c) (w : World) :
    Calls Try.prog 13 #[.agg #[.int .i64 t, .int .i64 c, .int .u32 r, .slice A n cap]] w fun e w' => e = .returned (.tuple #[.slice none 0 0, .int .i64 1]) ∧ Below w.heap.size w w' := by
  rcases (by omega : t < 0 ∨ (0 ≤ t ∧ 255 < t) ∨ (0 ≤ t ∧ t ≤ 255 ∧ c < 0) ∨ (0 ≤ t ∧ t ≤ 255 ∧ 0 ≤ c ∧ 255 < c)) with d | ⟨d, d'⟩ | ⟨d, d', d''⟩ | ⟨d, d', d'', d3⟩
  all_goals
    go_enter Try.func13, Try.ntmps13
    go_wp2
    go_ret2
    exact ⟨rfl, (Below.refl _ _).alloc (Nat.le_refl _) _⟩
theorem encode_long (t c r : Int) (A : Option Addr) (n cap : Nat) (ht0 : 0 ≤ t) (ht1 : t ≤ 255) (hc0 : 0 ≤ c) (hc1 : c ≤ 255) (h : 65507 < n) (w : World) :
    Calls Try.prog 12 #[.agg #[.int .i64 t, .int .i64 c, .int .u32 r, .slice A n cap]] w fun e w' => e = .returned (.tuple #[.slice none 0 0, .int .i64 5]) ∧ Below w.heap.size w w' := by
  go_enter Try.func12, Try.ntmps12
  go_wp2
  go_ret2
  exact ⟨rfl, (Below.refl _ _).alloc (Nat.le_refl _) _⟩
theorem rencode_long (t c r : Int) (A : Option Addr) (n cap : Nat) (ht0 : 0 ≤ t) (ht1 : t ≤ 255) (hc0 : 0 ≤ c) (hc1 : c ≤ 255) (h : 65507 < n) (w : World) :
    Calls Try.prog 13 #[.agg #[.int .i64 t, .int .i64 c, .int .u32 r, .slice A n cap]] w fun e w' => e = .returned (.tuple #[.slice none 0 0, .int .i64 5]) ∧ Below w.heap.size w w' := by
  go_enter Try.func13, Try.ntmps13
  go_wp2
  go_ret2
  exact ⟨rfl, (Below.refl _ _).alloc (Nat.le_refl _) _⟩

theorem encode_ok (t c r : Int) (A : Option Addr) (n cap : Nat) (l : List Int) (ht0 : 0 ≤ t) (ht1 : t ≤ 255) (hc0 : 0 ≤ c) (hc1 : c ≤ 255) (hn : l.length = n) (hmax : n ≤ 65507) (hr0 : 0 ≤ r) (hr1 : r ≤ 4294967295) (hb : Bs l) (w : World)
    (hd : RB w w.heap.size A l) :
    Calls Try.prog 12 #[.agg #[.int .i64 t, .int .i64 c, .int .u32 r, .slice A n cap]] w fun e w' => ∃ A' n' c', e = .returned (.tuple #[.slice A' n' c', .int .i64 0]) ∧
      OB 5 w' w.heap.size A' n' c' (icmpB t c (icmpSum t c r l) r l) ∧ Below w.heap.size w w' := by
  have hm := Bk.new w 25 #[.int .i64 t, .int .i64 c, .int .u32 r, .slice A n cap]
  have hB0 := (Below.refl w.heap.size w).alloc (Nat.le_refl _) (.cells #[.int .i64 t, .int .i64 c, .int .u32 r, .slice A n cap] 25)
  have hd0 : RB _ _ A l := Rw.more (Rw.below hd hB0) (B' := (w.alloc (.cells #[.int .i64 t, .int .i64 c, .int .u32 r, .slice A n cap] 25)).heap.size) (by simp)
  have H := Lib.hid hn
  clear hn
  go_enter Try.func12, Try.ntmps12
  go_wp2_with fail
  refine (encf_any _ t c r 0 A n cap l H.out (by omega) hr0 hr1 _ hm hd0).mono ?_
  rintro e w1 ⟨A1, n1, c1, rfl, hO1, hB1⟩
  have hz1 := hB1.size
  simp only [World.size_alloc] at hz1 hB1 hO1
  have hn1 := hO1.length
  rw [icmpB_len, H.out] at hn1
  have hm1 : Bk w1 w.heap.size 25 #[.int .i64 t, .int .i64 c, .int .u32 r, .slice A n cap] := hm.below hB1 (by simp)
  have hB1' : Below w.heap.size w w1 := hB0.trans (hB1.mono (by omega))
  have hd1 : RB w1 w1.heap.size A l := Rw.more (Rw.below hd hB1') hB1'.size
  have H1 := Lib.hid hn1
  clear hn1 hd0 hd
  go_wp2_with fail
  refine (sum_any A1 n1 c1 _ _ hO1.length (by have := H1.out; omega) (icmpB_bs _ _ _ _ hb) _ hO1.rb).mono ?_
  rintro e w2 ⟨rfl, rfl⟩
  go_wp2_with fail
  refine (encf_any _ t c r _ A n cap l H.out (by omega) hr0 hr1 _ hm1 hd1).mono ?_
  rintro e w2 ⟨A2, n2, c2, rfl, hO2, hB2⟩
  go_wp2
  go_ret2
  exact ⟨A2, n2, c2, rfl, Ow.mono hO2 hB1'.size, hB1'.trans (hB2.mono hB1'.size)⟩
end Go.Proofs.Ytlnodkfngomlmaa
