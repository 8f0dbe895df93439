/- Proved: what both read of bytes, in one; packets of neighbours are like themselves. Conditions: the bytes lie in memory. -/
import Derived.Test.YtocigdkndlmikaaDecR
import Derived.Test.YtocigdkndlmikaaArpQ
set_option linter.unusedVariables false
namespace Go.Proofs.Ytocigdkndlmikaa
open Go Go.RowKit
noncomputable section
open Classical in
def decR (l : List Int) : Array Value × Int := if 28 ≤ l.length then (if goodA l then (arpC l, 0) else (zeroC, 3)) else (zeroC, 2)
end
theorem decR_form (l : List Int) : ∃ (x0 x1 x2 x3 x4 x5 x6 x7 x8 x9 x10 x11 x12 x13 x14 er : Int), decR l = (#[.int .i64 x0, .int .u8 x1, .int .u8 x2, .int .u8 x3, .int .u8 x4, .int .u8 x5, .int .u8 x6, .int .u32 x7, .int .u8 x8, .int .u8 x9, .int .u8 x10, .int .u8 x11, .int .u8 x12, .int .u8 x13, .int .u32 x14], er) := by
  unfold decR
  split
  · split
    · exact ⟨_, _, _, _, _, _, _, _, _, _, _, _, _, _, _, _, rfl⟩
    · exact ⟨_, _, _, _, _, _, _, _, _, _, _, _, _, _, _, _, rfl⟩
  · exact ⟨_, _, _, _, _, _, _, _, _, _, _, _, _, _, _, _, rfl⟩
theorem dec_any (A : Option Addr) (n c B : Nat) (l : List Int) (hn : l.length = n) (hmax : n ≤ 1000000) (hb : Bs l) (w : World) (hr : RB w B A l) (hB : B ≤ w.heap.size) :
    Calls Try.prog 21 #[.slice A n c] w fun e w' => e = .returned (.tuple #[.agg (decR l).1, .int .i64 (decR l).2]) ∧ Below w.heap.size w w' := by
  rcases Nat.lt_or_ge n 28 with h | h
  · refine (dec_short A n c h w).mono ?_
    rintro e w' ⟨rfl, h2⟩
    unfold decR
    rw [if_neg (by omega)]
    exact ⟨rfl, h2⟩
  · refine (dec_long A n c B l hn h hmax hb w hr hB).mono ?_
    rintro e w' ⟨h1, h2⟩
    unfold decR
    rw [if_pos (by omega)]
    rcases h1 with ⟨g, rfl⟩ | ⟨g, rfl⟩
    · rw [if_pos g]; exact ⟨rfl, h2⟩
    · rw [if_neg g]; exact ⟨rfl, h2⟩
theorem rdec_any (A : Option Addr) (n c B : Nat) (l : List Int) (hn : l.length = n) (hc : n ≤ c) (hmax : n ≤ 1000000) (hb : Bs l) (w : World) (hr : RB w B A l) (hB : B ≤ w.heap.size) :
    Calls Try.prog 22 #[.slice A n c] w fun e w' => e = .returned (.tuple #[.agg (decR l).1, .int .i64 (decR l).2]) ∧ Below w.heap.size w w' := by
  rcases Nat.lt_or_ge n 28 with h | h
  · refine (rdec_short A n c h w).mono ?_
    rintro e w' ⟨rfl, h2⟩
    unfold decR
    rw [if_neg (by omega)]
    exact ⟨rfl, h2⟩
  · refine (rdec_long A n c B l hn h hc hmax hb w hr hB).mono ?_
    rintro e w' ⟨h1, h2⟩
    unfold decR
    rw [if_pos (by omega)]
    rcases h1 with ⟨g, rfl⟩ | ⟨g, rfl⟩
    · rw [if_pos g]; exact ⟨rfl, h2⟩
    · rw [if_neg g]; exact ⟨rfl, h2⟩
theorem be4_back (v : Int) (h0 : 0 ≤ v) (h1 : v ≤ 4294967295) : v / 256 ^ 3 % 256 * 16777216 + v / 256 ^ 2 % 256 * 65536 + v / 256 ^ 1 % 256 * 256 + v / 256 ^ 0 % 256 = v := by
  rw [show (256 : Int) ^ 3 = 16777216 from by decide, show (256 : Int) ^ 2 = 65536 from by decide, show (256 : Int) ^ 1 = 256 from by decide, show (256 : Int) ^ 0 = 1 from by decide]
  omega
/-- What was written is read. -/
theorem arp_back (op m0 m1 m2 m3 m4 m5 fr t0 t1 t2 t3 t4 t5 to_ : Int) (hop : op = 1 ∨ op = 2) (hf : okA fr) (ht : okA to_) (more : List Int) :
    decR (arpB op [m0, m1, m2, m3, m4, m5] fr [t0, t1, t2, t3, t4, t5] to_ ++ more) = (AC op m0 m1 m2 m3 m4 m5 fr t0 t1 t2 t3 t4 t5 to_, 0) := by
  have h6 : rd2 (arpB op [m0, m1, m2, m3, m4, m5] fr [t0, t1, t2, t3, t4, t5] to_ ++ more) 6 = op := by
    show op / 256 ^ 1 % 256 * 256 + op / 256 ^ 0 % 256 = op
    rcases hop with rfl | rfl <;> decide
  have h14 : rd4 (arpB op [m0, m1, m2, m3, m4, m5] fr [t0, t1, t2, t3, t4, t5] to_ ++ more) 14 = fr := be4_back fr hf.1 hf.2
  have h24 : rd4 (arpB op [m0, m1, m2, m3, m4, m5] fr [t0, t1, t2, t3, t4, t5] to_ ++ more) 24 = to_ := be4_back to_ ht.1 ht.2
  have hg : goodA (arpB op [m0, m1, m2, m3, m4, m5] fr [t0, t1, t2, t3, t4, t5] to_ ++ more) := by
    unfold goodA
    rw [h6]
    exact ⟨rfl, hop⟩
  unfold decR
  rw [if_pos (by simp [arpB, be_length]; omega), if_pos hg]
  unfold arpC
  rw [h6, h14, h24]
  rfl
set_option maxRecDepth 100000 in
theorem eql_arp (x0 x1 x2 x3 x4 x5 x6 x7 x8 x9 x10 x11 x12 x13 x14 : Int) (w : World) : (binOp .eql 43 (.agg #[.int .i64 x0, .int .u8 x1, .int .u8 x2, .int .u8 x3, .int .u8 x4, .int .u8 x5, .int .u8 x6, .int .u32 x7, .int .u8 x8, .int .u8 x9, .int .u8 x10, .int .u8 x11, .int .u8 x12, .int .u8 x13, .int .u32 x14]) (.agg #[.int .i64 x0, .int .u8 x1, .int .u8 x2, .int .u8 x3, .int .u8 x4, .int .u8 x5, .int .u8 x6, .int .u32 x7, .int .u8 x8, .int .u8 x9, .int .u8 x10, .int .u8 x11, .int .u8 x12, .int .u8 x13, .int .u32 x14])).run Try.prog w = .ok (.bool true) w := by
  have h := eqIn_mac 9997 x1 x2 x3 x4 x5 x6 w
  have h' := eqIn_mac 9997 x8 x9 x10 x11 x12 x13 w
  go_simp
end Go.Proofs.Ytocigdkndlmikaa
