/- Proved: a sum laid anew into a segment's bytes leaves bytes. Conditions: the bytes lie in memory of the call's own. -/
import Derived.Test.YtifeomdmbjinoaaSegF
import Derived.LoopTactic
set_option linter.unusedVariables false
set_option linter.unusedSimpArgs false
namespace Go.Proofs.Ytifeomdmbjinoaa
open Go.RowKit

def fixP (s : Sg) (n : Int) : List Int := [s.fr / 16777216, s.fr / 65536 % 256, s.fr / 256 % 256, s.fr % 256, s.to / 16777216, s.to / 65536 % 256, s.to / 256 % 256, s.to % 256, 0, 6, n / 256 % 256, n % 256]
theorem fixP_bs (s : Sg) (n : Int) (f0 : 0 ≤ s.fr) (f1 : s.fr ≤ 4294967295) (t0 : 0 ≤ s.to) (t1 : s.to ≤ 4294967295) : Bs (fixP s n) := by
  intro x hx
  simp only [fixP, List.mem_cons, List.not_mem_nil, or_false] at hx
  rcases hx with rfl | rfl | rfl | rfl | rfl | rfl | rfl | rfl | rfl | rfl | rfl | rfl <;> omega
set_option maxHeartbeats 8000000 in
set_option maxRecDepth 100000 in
theorem fix_any (s : Sg) (hwf : s.wf) (As : Option Addr) (ns cs : Nat) (A : Option Addr) (n c base : Nat) (l : List Int) (h18 : 18 ≤ n) (hmax : n ≤ 1000000) (hb : Bs l) (w : World) (hO : OB 5 w base A n c l) (hbase : base ≤ w.heap.size) :
    Calls Try.prog 26 #[.agg #[.int .u32 s.fr, .int .i64 s.fp, .int .u32 s.to, .int .i64 s.tp, .int .u32 s.seq, .int .u32 s.ack, .int .i64 s.fl, .int .i64 s.win, .int .i64 s.mss, .int .i64 s.sc, .slice As ns cs], .slice A n c] w fun e w' => ∃ l', e = .returned (.tuple #[]) ∧ OB 5 w' base A n c l' ∧ Bs l' ∧ w.grownBy w' (blk A) := by
  have HN := Lib.hid hO.length
  have HWF := Lib.hid hwf
  obtain ⟨f0, f1⟩ := hwf.1
  obtain ⟨t0, t1⟩ := hwf.2.2.1
  clear hwf
  obtain ⟨W0, hW0⟩ : ∃ W0, w.alloc (.cells #[.int .u32 s.fr, .int .i64 s.fp, .int .u32 s.to, .int .i64 s.tp, .int .u32 s.seq, .int .u32 s.ack, .int .i64 s.fl, .int .i64 s.win, .int .i64 s.mss, .int .i64 s.sc, .slice As ns cs] 26) = W0 := ⟨_, rfl⟩
  obtain ⟨W, hW⟩ : ∃ W, W0.alloc (.cells (by8 (fixP s n)).toArray 5) = W := ⟨_, rfl⟩
  have hz0 : W0.heap.size = w.heap.size + 1 := by rw [← hW0]; simp
  have hz : W.heap.size = w.heap.size + 1 + 1 := by rw [← hW, World.size_alloc, hz0]
  have hBW : Below w.heap.size w W := by rw [← hW, ← hW0]; exact ((Below.refl _ _).alloc (Nat.le_refl _) _).alloc (by simp) _
  have hrp : RB W W.heap.size (some ⟨w.heap.size + 1, 0, none⟩) (fixP s n) := by
    have := rw_lit W0 5 (by8 (fixP s n))
    rw [hW, hz0] at this
    rw [hz]; exact this
  have hr0 : RB W W.heap.size A l := Rw.more (Rw.below hO.rb hBW) hBW.size
  have HW : Hid ((w.alloc (.cells #[.int .u32 s.fr, .int .i64 s.fp, .int .u32 s.to, .int .i64 s.tp, .int .u32 s.seq, .int .u32 s.ack, .int .i64 s.fl, .int .i64 s.win, .int .i64 s.mss, .int .i64 s.sc, .slice As ns cs] 26)).alloc (.cells #[.int .u8 (s.fr / 16777216), .int .u8 (s.fr / 65536 % 256), .int .u8 (s.fr / 256 % 256), .int .u8 (s.fr % 256), .int .u8 (s.to / 16777216), .int .u8 (s.to / 65536 % 256), .int .u8 (s.to / 256 % 256), .int .u8 (s.to % 256), .int .u8 0, .int .u8 6, .int .u8 ((n : Int) / 256 % 256), .int .u8 ((n : Int) % 256)] 5) = W) := Lib.hid (by rw [hW0, ← hW]; rfl)
  have HZ := Lib.hid hz
  have HBP := Lib.hid (fixP_bs s n f0 f1 t0 t1)
  clear hW hW0 hz hz0
  go_enter Try.func26, Try.ntmps26
  go_wp2_with (first
    | (at_builtin; rw [HW.out]; refine ap8_new rfl (.tmp 46) (.tmp 47) rfl (by rw [HZ.out]; rfl) rfl hrp (Nat.le_refl _) rfl (by omega) ?_; intro A1 c1 w1 hO1 hB1 hz1 hc1)
    | (at_builtin; refine ap8 rfl (.tmp 48) (.tmp 49) rfl W.heap.size rfl hO1 rfl (Rw.below hr0 hB1) HN.out (by omega) (by omega) ?_; intro A2 c2 w2 hO2 hB2 hg2 hA2 hz2 hc2))
  have hOA : OB 5 w2 base A n c l := Ow.below (Ow.stays (Ow.stays hO hBW) hB1) hB2 (fun g hg => (Ow.lt (Ow.stays hO hBW) g hg).2)
  have hBw2 : Below w.heap.size w w2 := (hBW.trans (hB1.mono hBW.size)).trans (hB2.mono hBW.size)
  have hbp : Bs (fixP s n ++ l) := HBP.out.append hb
  obtain ⟨pl, hpl⟩ : ∃ pl, fixP s n ++ l = pl := ⟨_, rfl⟩
  rw [hpl] at hO2 hbp
  have HL := Lib.hid hO2.length
  have hrr := hO2.rb
  have HBW2 := Lib.hid hBw2
  clear hpl hO1 hrp hr0 hB1 hB2 hg2 hA2 hz1 hz2 hBW hBw2
  go_loop [4, 7] (fun v4 v7 => ∃ (k : Nat) (m : Int), k ≤ 12 + n + 1 ∧ 0 ≤ m ∧ m ≤ 65535 ∧ v4 = .int .i64 m ∧ v7 = .int .i64 k) (fun _ i => 14 + n - (intOf i).toNat)
  case atStart => exact ⟨0, 0, by omega, by omega, by omega, rfl, rfl⟩
  case round =>
    obtain ⟨k, m, hk, hm0, hm1, rfl, rfl⟩ := hrel
    rcases Nat.lt_or_ge k (12 + n) with hlt | hge
    · obtain ⟨b, off, rfl, hbB, e0⟩ := RB.at_ hrr (k := k) (by rw [HL.out]; exact hlt)
      have a0 := hbp.at_ k
      obtain ⟨x, hx⟩ : ∃ x, pl[k]?.getD 0 = x := ⟨_, rfl⟩
      rw [hx] at e0 a0
      clear hx
      have hlt' : (k : Int) < 12 + n := by omega
      rcases Nat.lt_or_ge (k + 1) (12 + n) with hl2 | hl2
      · obtain ⟨b', off', eb, _, e1⟩ := RB.at_ hrr (k := k + 1) (by rw [HL.out]; exact hl2)
        injection eb with eb; injection eb with eb1 eb2; subst eb1; subst eb2
        have a1 := hbp.at_ (k + 1)
        obtain ⟨y, hy⟩ : ∃ y, pl[k + 1]?.getD 0 = y := ⟨_, rfl⟩
        rw [hy] at e1 a1
        clear hy
        have hl2' : (k : Int) + 1 < 12 + n := by omega
        rcases (by omega : 65535 < m + x * 256 + y ∨ m + x * 256 + y ≤ 65535) with hs | hs
        · go_wp2
          go_round
          case rel => exact ⟨k + 2, m + x * 256 + y - 65535, by omega, by omega, by omega, rfl, by go_num⟩
          case measure => simp [intOf]; omega
        · go_wp2
          go_round
          case rel => exact ⟨k + 2, m + x * 256 + y, by omega, by omega, by omega, rfl, by go_num⟩
          case measure => simp [intOf]; omega
      · have hl2' : ¬ (k : Int) + 1 < 12 + n := by omega
        rcases (by omega : 65535 < m + x * 256 ∨ m + x * 256 ≤ 65535) with hs | hs
        · go_wp2
          go_round
          case rel => exact ⟨k + 2, m + x * 256 - 65535, by omega, by omega, by omega, rfl, by go_num⟩
          case measure => simp [intOf]; omega
        · go_wp2
          go_round
          case rel => exact ⟨k + 2, m + x * 256, by omega, by omega, by omega, rfl, by go_num⟩
          case measure => simp [intOf]; omega
    · have hge' : ¬ (k : Int) < 12 + n := by omega
      obtain ⟨g, rfl, hgg, e2, f2⟩ := hOA.lit_at (k := 16) (by omega)
      have h17 : (17 : Int) < n := by omega
      have h16 : (16 : Int) < n := by omega
      obtain ⟨q, hq⟩ : ∃ q, 65535 - m = q := ⟨_, rfl⟩
      have hO3 := hOA.store (k := 16) (by omega) (q / 256)
      obtain ⟨g', eg, _, e3, f3⟩ := hO3.lit_at (k := 17) (by omega)
      injection eg with eg; injection eg with eg; subst eg
      go_wp2
      go_end0
      have hG : w.grownBy w2 (blk (some ⟨g, 0, none⟩)) := ⟨HBW2.out.os, HBW2.out.tape, HBW2.out.output, HBW2.out.size, fun k hk _ => HBW2.out.block k hk⟩
      exact ⟨rfl, _, hO3.store (k := 17) (by omega) (q % 256), (hb.set 16 (by omega) (by omega)).set 17 (by omega) (by omega), grownBy_setCell (p := ⟨g, 17, none⟩) (grownBy_setCell (p := ⟨g, 16, none⟩) hG (.inl rfl) _) (.inl rfl) _⟩
def slen : Value → Nat
  | .slice _ n _ => n
  | _ => 0
end Go.Proofs.Ytifeomdmbjinoaa
