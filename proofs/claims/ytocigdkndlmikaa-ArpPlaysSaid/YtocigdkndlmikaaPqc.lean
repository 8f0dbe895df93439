/- Proved: the choice of a pivot, and whether a part of a row of addresses is sorted, by their walks. Conditions: the part lies in the row; it is of 13 to 16. -/
import Derived.Test.YtocigdkndlmikaaPqi
set_option linter.unusedVariables false
set_option linter.unusedSimpArgs false
namespace Go.Proofs.Ytocigdkndlmikaa
open Go.RowKit

theorem SR.below {w w' : World} {base g n c : Nat} {D : List Int} (h : SR w base g n c D) (hb : Below w.heap.size w w') : SR w' base g n c D := Ow.stays h hb
theorem SR.chg {w w' : World} {base g n c : Nat} {D : List Int} (h : SR w base g n c D) {p : Nat} (hc : Chg (fun b => b = p) w w') (hp : p ≠ g) : SR w' base g n c D := by
  refine Ow.kept (row := some p) h ⟨hc.os, hc.tape, hc.output, hc.size, fun x hx hne => hc.block x hx (fun e0 => hne (by rw [e0]))⟩ (.inr fun e => ?_)
  have e2 : g = p := by simpa [blk] using e
  exact hp e2.symm
def O2Post (w : World) (p : Nat) (s : Int) (a b : Nat) (e : Ending) (w' : World) : Prop :=
  ∃ (x y : Nat) (s' : Int), e = .returned (.tuple #[.int .i64 x, .int .i64 y]) ∧ ((x = a ∧ y = b) ∨ (x = b ∧ y = a)) ∧ s ≤ s' ∧ s' ≤ s + 1 ∧ Bk w' p 3 #[.int .i64 s'] ∧ Chg (fun b => b = p) w w'
set_option maxHeartbeats 4000000 in
set_option maxRecDepth 1000000 in
theorem order2_any (base g n c a b p : Nat) (s : Int) (D : List Int) (w : World) (h : SR w base g n c D) (hn : n ≤ 1000) (ha : a < n) (hb : b < n) (hs : 0 ≤ s ∧ s ≤ 10) (hp : Bk w p 3 #[.int .i64 s]) :
    Calls Try.prog 77 #[.slice (some ⟨g, 0, none⟩) n c, .int .i64 a, .int .i64 b, .pointer (some ⟨p, 0, none⟩)] w (O2Post w p s a b) := by
  obtain ⟨x, hx⟩ : ∃ x, gt D b = x := ⟨_, rfl⟩
  obtain ⟨y, hy⟩ : ∃ y, gt D a = y := ⟨_, rfl⟩
  have cb : w.cell? ⟨g, b, none⟩ = some (.int .u32 x) := by rw [← hx]; exact h.cell hb
  have ca : w.cell? ⟨g, a, none⟩ = some (.int .u32 y) := by rw [← hy]; exact h.cell ha
  have b1 : (a : Int) < (n : Int) := by omega
  have b2 : (b : Int) < (n : Int) := by omega
  have cp : w.cell? ⟨p, 0, none⟩ = some (.int .i64 s) := hp.cell 0
  have fp := hp.frozen 0
  have hw1 : IntKind.i64.wrap (s + 1) = s + 1 := IntWalk.i64_in _ (by omega)
  have HP := Lib.hid hp
  clear hx hy h hp
  by_cases l : x < y
  · have hl : decide (x < y) = true := decide_eq_true l
    clear l
    go_enter Try.func77, Try.ntmps77
    go_wp2_with fail
    go_quiet ((go_at_call 66; exact Calls.quiet_of_same (less_q x y hl _)))
    go_wp2_with fail
    go_ret2
    refine ⟨b, a, s + 1, rfl, .inr ⟨rfl, rfl⟩, by omega, by omega, ?_, ?_⟩
    · exact (HP.out.drewN _).set 0 (.int .i64 (s + 1))
    · exact ((Chg.refl _ _).drewN _).set1 _
  · have hl : decide (x < y) = false := decide_eq_false l
    clear l
    go_enter Try.func77, Try.ntmps77
    go_wp2_with fail
    go_quiet ((go_at_call 66; exact Calls.quiet_of_same (less_q x y hl _)))
    go_wp2_with fail
    go_ret2
    refine ⟨a, b, s, rfl, .inl ⟨rfl, rfl⟩, by omega, by omega, ?_, ?_⟩
    · exact HP.out.drewN _
    · exact (Chg.refl _ _).drewN _
def MdPost (w : World) (p : Nat) (s : Int) (a b d : Nat) (e : Ending) (w' : World) : Prop :=
  ∃ (x : Nat) (s' : Int), e = .returned (.int .i64 x) ∧ (x = a ∨ x = b ∨ x = d) ∧ s ≤ s' ∧ s' ≤ s + 3 ∧ Bk w' p 3 #[.int .i64 s'] ∧ Chg (fun b => b = p) w w'
set_option maxHeartbeats 4000000 in
set_option maxRecDepth 1000000 in
theorem median_any (base g n c a b d p : Nat) (s : Int) (D : List Int) (w : World) (h : SR w base g n c D) (hn : n ≤ 1000) (ha : a < n) (hb : b < n) (hd : d < n) (hs : 0 ≤ s ∧ s ≤ 1) (hp : Bk w p 3 #[.int .i64 s]) (hpg : p ≠ g) :
    Calls Try.prog 75 #[.slice (some ⟨g, 0, none⟩) n c, .int .i64 a, .int .i64 b, .int .i64 d, .pointer (some ⟨p, 0, none⟩)] w (MdPost w p s a b d) := by
  have H := Lib.hid h
  have HP := Lib.hid hp
  clear h hp
  go_enter Try.func75, Try.ntmps75
  go_wp2_with fail
  refine (order2_any base g n c a b p s D w H.out hn ha hb (by omega) HP.out).mono ?_
  rintro e1 w1 ⟨x1, y1, s1, rfl, hxy1, hs1, hs1', hb1, hc1⟩
  have H1 := Lib.hid (H.out.chg hc1 hpg)
  have HB1 := Lib.hid hb1
  have HC1 := Lib.hid hc1
  clear hb1 hc1
  go_wp2_with fail
  refine (order2_any base g n c y1 d p s1 D w1 H1.out hn (by omega) hd (by omega) HB1.out).mono ?_
  rintro e2 w2 ⟨x2, y2, s2, rfl, hxy2, hs2, hs2', hb2, hc2⟩
  have H2 := Lib.hid (H1.out.chg hc2 hpg)
  have HB2 := Lib.hid hb2
  have HC2 := Lib.hid hc2
  clear hb2 hc2
  go_wp2_with fail
  refine (order2_any base g n c x1 x2 p s2 D w2 H2.out hn (by omega) (by omega) (by omega) HB2.out).mono ?_
  rintro e3 w3 ⟨x3, y3, s3, rfl, hxy3, hs3, hs3', hb3, hc3⟩
  have HB3 := Lib.hid hb3
  have HC3 := Lib.hid hc3
  clear hb3 hc3
  go_wp2_with fail
  go_ret
  exact ⟨y3, s3, rfl, by omega, by omega, by omega, HB3.out, (HC1.out.trans HC2.out (fun x hx => .inl hx)).trans HC3.out (fun x hx => .inl hx)⟩
def PvPost (w : World) (a b : Nat) (e : Ending) (w' : World) : Prop :=
  ∃ (p : Nat) (hint : Int), e = .returned (.tuple #[.int .i64 p, .int .i64 hint]) ∧ a < p ∧ p < b ∧ (hint = 1 ∨ hint = 0) ∧ Below w.heap.size w w'
set_option maxHeartbeats 4000000 in
set_option maxRecDepth 1000000 in
theorem pivot_any (base g n c a b : Nat) (D : List Int) (w : World) (h : SR w base g n c D) (hn : n ≤ 1000) (h13 : a + 13 ≤ b) (h16 : b ≤ a + 16) (hb : b ≤ n) :
    Calls Try.prog 63 #[.slice (some ⟨g, 0, none⟩) n c, .int .i64 a, .int .i64 b] w (PvPost w a b) := by
  obtain ⟨W, hW⟩ : ∃ W, w.alloc (.cells #[.int .i64 0] 3) = W := ⟨_, rfl⟩
  have hbw : Below w.heap.size w W := by rw [← hW]; exact (Below.refl _ _).alloc (Nat.le_refl _) _
  have hbk : Bk W w.heap.size 3 #[.int .i64 0] := by rw [← hW]; exact Bk.new w _ _
  have H := Lib.hid (h.below hbw)
  have hne : w.heap.size ≠ g := by have := h.lt; omega
  have HW := Lib.hid hW
  have HBW := Lib.hid hbw
  have HBK := Lib.hid hbk
  have HE1 : Hid ((a : Int) + ((b : Int) - (a : Int)) / 4 = ((a + (b - a) / 4 : Nat) : Int)) := Lib.hid (by omega)
  have HE2 : Hid ((a : Int) + ((b : Int) - (a : Int)) / 4 * 2 = ((a + (b - a) / 4 * 2 : Nat) : Int)) := Lib.hid (by omega)
  have HE3 : Hid ((a : Int) + ((b : Int) - (a : Int)) / 4 * 3 = ((a + (b - a) / 4 * 3 : Nat) : Int)) := Lib.hid (by omega)
  clear hW hbw hbk h
  go_enter Try.func63, Try.ntmps63
  go_wp2_with fail
  rw [HW.out, HE1.out, HE2.out, HE3.out]
  refine (median_any base g n c (a + (b - a) / 4) (a + (b - a) / 4 * 2) (a + (b - a) / 4 * 3) w.heap.size 0 D W H.out hn (by omega) (by omega) (by omega) (by omega) HBK.out hne).mono ?_
  rintro e1 w1 ⟨x, s, rfl, hx, hs0, hs3, hb1, hc1⟩
  have cs : w1.cell? ⟨w.heap.size, 0, none⟩ = some (.int .i64 s) := hb1.cell 0
  have HB2 : Hid (Below w.heap.size w w1) := Lib.hid (HBW.out.trans ⟨hc1.os, hc1.tape, hc1.output, hc1.size, fun x hx => hc1.block x (Nat.lt_of_lt_of_le hx HBW.out.size) (by omega)⟩)
  have HX : Hid (a < x ∧ x < b) := Lib.hid (by omega)
  clear hb1 hc1 hx
  by_cases hz : s = 0
  · subst hz
    go_wp2_with fail
    go_ret2
    exact ⟨x, 1, rfl, HX.out.1, HX.out.2, .inl rfl, HB2.out⟩
  · have hz1 : (s == 0) = false := beq_eq_false_iff_ne.2 hz
    have hz2 : (s == 12) = false := beq_eq_false_iff_ne.2 (by omega)
    go_wp2_with fail
    go_ret2
    exact ⟨x, 0, rfl, HX.out.1, HX.out.2, .inr rfl, HB2.out⟩
theorem Srt.snoc {D : List Int} {a i : Nat} (h : Srt D a i) (ha : a < i) (hi : gt D (i - 1) ≤ gt D i) : Srt D a (i + 1) := fun x y h1 h2 h3 => by
  by_cases e : y = i
  · subst e
    by_cases e2 : x = y - 1
    · subst e2; exact hi
    · have := h x (y - 1) h1 (by omega) (by omega)
      omega
  · exact h x y h1 h2 (by omega)
def PiPost (w : World) (a b : Nat) (D : List Int) (e : Ending) (w' : World) : Prop :=
  ∃ v : Bool, e = .returned (.bool v) ∧ (v = true → Srt D a b) ∧ ∃ k, w' = w.drewN k
def PiRel (w : World) (a b : Nat) (D : List Int) (v7 : Value) (wr : World) : Prop := ∃ i : Nat, a + 1 ≤ i ∧ i ≤ b ∧ v7 = .int .i64 i ∧ Srt D a i ∧ ∃ k, wr = w.drewN k
set_option maxHeartbeats 4000000 in
set_option maxRecDepth 1000000 in
theorem partial_any (base g n c a b : Nat) (D : List Int) (w : World) (h : SR w base g n c D) (hn : n ≤ 1000) (h13 : a + 13 ≤ b) (h16 : b ≤ a + 16) (hb : b ≤ n) :
    Calls Try.prog 65 #[.slice (some ⟨g, 0, none⟩) n c, .int .i64 a, .int .i64 b] w (PiPost w a b D) := by
  have H := Lib.hid h
  clear h
  have h50 : (b : Int) - (a : Int) < 50 := by omega
  go_enter Try.func65, Try.ntmps65
  go_wp2_with fail
  go_loopw [7, 8, 9, 10] (fun v7 v8 _ _ wr => v7 = .int .i64 ((a : Int) + 1) ∧ v8 = .int .i64 0 ∧ wr = w) (fun _ _ _ _ _ => 0)
  case atStart => exact ⟨by go_num, rfl, rfl⟩
  case round =>
    obtain ⟨rfl, rfl, rfl⟩ := hrel
    go_wp2_with fail
    go_loopw [7] (fun v7 wr2 => PiRel wr a b D v7 wr2) (fun v7 _ => b - (intOf v7).toNat)
    case atStart => exact ⟨a + 1, Nat.le_refl _, by omega, by go_num, Srt.nil _ (Nat.le_refl _), 0, rfl⟩
    case round =>
      obtain ⟨i, h1, h2, rfl, hs, k, rfl⟩ := hrel
      have HS := Lib.hid hs
      clear hs
      rcases Nat.lt_or_ge i b with r | r
      · have t1 : decide ((i : Int) < (b : Int)) = true := decide_eq_true (by omega)
        have hwj : IntKind.i64.wrap ((i : Int) - 1) = ((i - 1 : Nat) : Int) := by rw [IntWalk.i64_in _ (by omega)]; omega
        obtain ⟨x, hx⟩ : ∃ x, gt D i = x := ⟨_, rfl⟩
        obtain ⟨y, hy⟩ : ∃ y, gt D (i - 1) = y := ⟨_, rfl⟩
        generalize hWq : World.drewN _ k = wq
        have hq := H.out.drewN k
        rw [hWq] at hq
        have ci : wq.cell? ⟨g, i, none⟩ = some (.int .u32 x) := by rw [← hx]; exact hq.cell (by omega)
        have ck : wq.cell? ⟨g, i - 1, none⟩ = some (.int .u32 y) := by rw [← hy]; exact hq.cell (by omega)
        have b1 : (i : Int) < (n : Int) := by omega
        have b2 : ((i - 1 : Nat) : Int) < (n : Int) := by omega
        have HX := Lib.hid hx
        have HY := Lib.hid hy
        have HWq := Lib.hid hWq
        clear hx hy hq hWq
        by_cases l : x < y
        · have hl : decide (x < y) = true := decide_eq_true l
          clear l
          go_wp2_with fail
          go_quiet ((go_at_call 66; exact Calls.quiet_of_same (less_q x y hl _)))
          go_wp2_with fail
          go_ret
          exact ⟨false, rfl, (fun h => by cases h), k + nq, by rw [← HWq.out]; exact World.drewN_drewN _ _ _⟩
        · have hl : decide (x < y) = false := decide_eq_false l
          have HL := Lib.hid l
          clear l
          go_wp2_with fail
          go_quiet ((go_at_call 66; exact Calls.quiet_of_same (less_q x y hl _)))
          go_wp2_with fail
          exact ⟨⟨i + 1, by omega, by omega, by rw [Int.natCast_succ], HS.out.snoc (by omega) (by rw [HX.out, HY.out]; have := HL.out; omega), k + nq, by rw [← HWq.out]; exact World.drewN_drewN _ _ _⟩, by simp only [intOf]; omega⟩
      · obtain rfl : i = b := by omega
        have t1 : decide ((i : Int) < (i : Int)) = false := decide_eq_false (by omega)
        go_wp2_with fail
        go_quiet (fail)
        go_wp2_with fail
        go_ret
        exact ⟨true, rfl, fun _ => HS.out, _, rfl⟩
end Go.Proofs.Ytocigdkndlmikaa
