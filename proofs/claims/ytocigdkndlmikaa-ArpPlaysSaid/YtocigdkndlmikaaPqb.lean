/- Proved: the scattering of a part of a row of addresses only exchanges places, by its walk. Conditions: the part lies in the row; it is of 13 to 16. -/
import Derived.Test.YtocigdkndlmikaaPqp
set_option linter.unusedVariables false
set_option linter.unusedSimpArgs false
namespace Go.Proofs.Ytocigdkndlmikaa
open Go.RowKit

def NxPost (w : World) (r : Nat) (e : Ending) (w' : World) : Prop :=
  ∃ v z' : Int, e = .returned (.int .u64 v) ∧ Bk w' r 116 #[.int .u64 z'] ∧ Chg (fun b => b = r) w w'
set_option maxHeartbeats 4000000 in
set_option maxRecDepth 1000000 in
theorem next_any (r : Nat) (z : Int) (w : World) (h : Bk w r 116 #[.int .u64 z]) :
    Calls Try.prog 73 #[.pointer (some ⟨r, 0, none⟩)] w (NxPost w r) := by
  have c0 : w.cell? ⟨r, 0, none⟩ = some (.int .u64 z) := h.cell 0
  have f0 := h.frozen 0
  have H := Lib.hid h
  clear h
  go_enter Try.func73, Try.ntmps73
  go_wp2_with fail
  go_region
  generalize hz1 : bits BinOp.xor IntKind.u64 z (IntKind.u64.wrap (z * 8192)) = z1
  generalize hW1 : (w.setCell _ _).drew = w1
  have H1 : Hid (Bk w1 r 116 #[.int .u64 z1] ∧ Chg (fun b => b = r) w w1) := Lib.hid ⟨by rw [← hW1]; exact (H.out.set 0 (.int .u64 z1)).drew, by rw [← hW1]; exact ((Chg.refl _ _).set1 _).drew_⟩
  have c1 : w1.cell? ⟨r, 0, none⟩ = some (.int .u64 z1) := H1.out.1.cell 0
  have f1 := H1.out.1.frozen 0
  clear hz1 hW1 c0 f0
  go_wp2_with fail
  go_region
  generalize hz2 : bits BinOp.xor IntKind.u64 z1 (z1 / 128) = z2
  generalize hW2 : (w1.setCell _ (.int .u64 _)).drew = w2
  have H2 : Hid (Bk w2 r 116 #[.int .u64 z2] ∧ Chg (fun b => b = r) w1 w2) := Lib.hid ⟨by rw [← hW2]; exact (H1.out.1.set 0 (.int .u64 z2)).drew, by rw [← hW2]; exact ((Chg.refl _ _).set1 _).drew_⟩
  have c2 : w2.cell? ⟨r, 0, none⟩ = some (.int .u64 z2) := H2.out.1.cell 0
  have f2 := H2.out.1.frozen 0
  clear hz2 hW2 c1 f1
  go_wp2_with fail
  go_region
  generalize hz3 : bits BinOp.xor IntKind.u64 z2 _ = z3
  generalize hW3 : (w2.setCell _ (.int .u64 _)).drew = w3
  have H3 : Hid (Bk w3 r 116 #[.int .u64 z3] ∧ Chg (fun b => b = r) w2 w3) := Lib.hid ⟨by rw [← hW3]; exact (H2.out.1.set 0 (.int .u64 z3)).drew, by rw [← hW3]; exact ((Chg.refl _ _).set1 _).drew_⟩
  have c3 : w3.cell? ⟨r, 0, none⟩ = some (.int .u64 z3) := H3.out.1.cell 0
  clear hz3 hW3 c2 f2
  go_wp2_with fail
  go_ret
  exact ⟨z3, z3, rfl, H3.out.1, (H1.out.2.trans H2.out.2 (fun x hx => .inl hx)).trans H3.out.2 (fun x hx => .inl hx)⟩
set_option maxRecDepth 100000 in
theorem len_lit (l k : Nat) (hl : (l = 16 ∧ k = 5) ∨ ((l = 13 ∨ l = 14 ∨ l = 15) ∧ k = 4)) (w : World) : Calls Try.prog 58 #[.int .u64 l] w fun e w' => e = .returned (.int .i64 k) ∧ w = w' := by
  have h64 : Calls Try.prog 70 #[.int .u64 l] w fun e w' => e = .returned (.int .i64 k) ∧ w = w' := by
    rcases hl with ⟨rfl, rfl⟩ | ⟨rfl | rfl | rfl, rfl⟩
    all_goals
      go_enter Try.func70, Try.ntmps70
      go_wp2
      go_ret
      exact ⟨by kernel_rfl, rfl⟩
  have H64 := Lib.hid h64
  clear h64 hl
  go_enter Try.func58, Try.ntmps58
  go_wp2_with fail
  refine H64.out.mono ?_
  rintro e w' ⟨rfl, rfl⟩
  go_wp2
  go_ret
  exact ⟨rfl, rfl⟩
set_option maxRecDepth 100000 in
theorem pow_lit (l M : Nat) (hl : (l = 16 ∧ M = 32) ∨ ((l = 13 ∨ l = 14 ∨ l = 15) ∧ M = 16)) (w : World) : Calls Try.prog 72 #[.int .i64 l] w fun e w' => e = .returned (.int .u64 M) ∧ w = w' := by
  have hw : IntKind.u64.wrap (l : Int) = l := by rw [IntKind.wrap_u64]; omega
  rcases hl with ⟨rfl, rfl⟩ | ⟨hl, rfl⟩
  · have HL := Lib.hid (len_lit 16 5 (.inl ⟨rfl, rfl⟩))
    go_enter Try.func72, Try.ntmps72
    go_wp2_with fail
    refine (HL.out _).mono ?_
    rintro e w' ⟨rfl, rfl⟩
    go_wp2
    go_ret
    exact ⟨rfl, rfl⟩
  · have HL := Lib.hid (len_lit l 4 (.inr ⟨hl, rfl⟩))
    clear hl
    go_enter Try.func72, Try.ntmps72
    go_wp2_with fail
    refine (HL.out _).mono ?_
    rintro e w' ⟨rfl, rfl⟩
    go_wp2
    go_ret
    exact ⟨rfl, rfl⟩
theorem and_le (E : Int) (k : Nat) (hk : k < 18446744073709551616) : ∃ o : Nat, bits BinOp.and IntKind.u64 E (k : Int) = (o : Int) ∧ o ≤ k := by
  refine ⟨(BitVec.ofInt 64 E).toNat &&& k, ?_, Nat.and_le_right⟩
  have hx : (BitVec.ofInt 64 E).toNat &&& k ≤ k := Nat.and_le_right
  have h2 : (BitVec.ofInt 64 (k : Int)).toNat = k := by
    rw [BitVec.ofInt_natCast, BitVec.toNat_ofNat]; exact Nat.mod_eq_of_lt (by omega)
  show IntKind.u64.wrap ((BitVec.ofInt 64 E &&& BitVec.ofInt 64 (k : Int)).toNat : Int) = _
  rw [BitVec.toNat_and, h2, IntKind.wrap_u64]
  omega
/-- Another block has turned. -/
theorem SRC.chg {w w' w2 : World} {base g n c : Nat} {D E : List Int} (h : SRC w base g n c D w' E) {p : Nat} (hc : Chg (fun b => b = p) w' w2) (hp : w.heap.size ≤ p) (hg : p ≠ g) : SRC w base g n c D w2 E :=
  ⟨h.1.chg hc hg, ⟨hc.os.trans h.2.os, hc.tape.trans h.2.tape, hc.output.trans h.2.output, Nat.le_trans h.2.size hc.size, fun x hx hne => (hc.block x (Nat.lt_of_lt_of_le hx h.2.size) (by omega)).trans (h.2.block x hx hne)⟩⟩
theorem SRC.below {w w' w2 : World} {base g n c : Nat} {D E : List Int} (h : SRC w base g n c D w' E) (hb : Below w'.heap.size w' w2) : SRC w base g n c D w2 E :=
  ⟨h.1.below hb, ⟨hb.os.trans h.2.os, hb.tape.trans h.2.tape, hb.output.trans h.2.output, Nat.le_trans h.2.size hb.size, fun x hx hne => (hb.block x (Nat.lt_of_lt_of_le hx h.2.size)).trans (h.2.block x hx hne)⟩⟩
def BkRel (w : World) (base g n c a b r q : Nat) (D : List Int) (v9 : Value) (wr : World) : Prop :=
  ∃ (i : Nat) (F : List Int) (z : Int), a + q ≤ i + 1 ∧ i ≤ a + q + 2 ∧ v9 = .int .i64 i ∧ SRC w base g n c D wr F ∧ Loc a b D F ∧ Bk wr r 116 #[.int .u64 z]
def BpPost (w : World) (base g n c a b : Nat) (D : List Int) (e : Ending) (w' : World) : Prop :=
  e = .returned (.tuple #[]) ∧ ∃ D', SRC w base g n c D w' D' ∧ Loc a b D D'
set_option maxHeartbeats 4000000 in
set_option maxRecDepth 1000000 in
theorem break_any (base g n c a b l M q : Nat) (D : List Int) (w : World) (h : SR w base g n c D) (hn : n ≤ 1000) (hl : b = a + l) (hb : b ≤ n) (hM : (l = 16 ∧ M = 32) ∨ ((l = 13 ∨ l = 14 ∨ l = 15) ∧ M = 16)) (hq : q = l / 4 * 2) :
    Calls Try.prog 62 #[.slice (some ⟨g, 0, none⟩) n c, .int .i64 a, .int .i64 b] w (BpPost w base g n c a b D) := by
  have hwl : IntKind.i64.wrap ((b : Int) - (a : Int)) = (l : Int) := by rw [IntWalk.i64_in _ (by omega)]; omega
  have hwu : IntKind.u64.wrap (l : Int) = (l : Int) := by rw [IntKind.wrap_u64]; omega
  have hl8 : (l : Int) ≥ 8 := by omega
  have hq4 : ((l : Int) / 4 * 2) = (q : Int) := by omega
  obtain ⟨W, hW⟩ : ∃ W, w.alloc (.cells #[.int .u64 (l : Int)] 116) = W := ⟨_, rfl⟩
  have hbw : Below w.heap.size w W := by rw [← hW]; exact (Below.refl _ _).alloc (Nat.le_refl _) _
  have hbk : Bk W w.heap.size 116 #[.int .u64 (l : Int)] := by rw [← hW]; exact Bk.new w _ _
  have H := Lib.hid h
  have hgl := h.lt
  have HW := Lib.hid hW
  have HBW := Lib.hid hbw
  have HBK := Lib.hid hbk
  have ha0 : a ≤ 1000 := by omega
  have hq16 : q ≤ 16 := by omega
  have hq5 : 5 ≤ q := by omega
  have HM := Lib.hid hM
  have HQ := Lib.hid hq
  have HL := Lib.hid hl
  clear hW hbw hbk h hM hq hl
  go_enter Try.func62, Try.ntmps62
  go_wp2_with fail
  rw [HW.out]
  refine (pow_lit l M HM.out _).mono ?_
  rintro e0 w0 ⟨rfl, rfl⟩
  have hq0 : 6 ≤ q := by have := HQ.out; have := HM.out; omega
  have hql : q + 1 < l := by have := HQ.out; have := HM.out; omega
  have hlm : l ≤ 16 := by have := HM.out; omega
  go_wp2_with fail
  go_loopw [9, 10] (fun v9 _ wr => BkRel w base g n c a b w.heap.size q D v9 wr) (fun v9 _ _ => a + q + 3 - (intOf v9).toNat)
  case atStart => exact ⟨a + q - 1, D, l, by omega, by omega, by go_num, ⟨H.out.below HBW.out, ⟨HBW.out.os, HBW.out.tape, HBW.out.output, HBW.out.size, fun x hx _ => HBW.out.block x hx⟩⟩, Loc.refl _ _ _, HBK.out⟩
  case round =>
    obtain ⟨i, F, z, h1, h2, rfl, hR, hL, hB⟩ := hrel
    have HR := Lib.hid hR
    have HLo := Lib.hid hL
    have HB := Lib.hid hB
    clear hR hL hB
    rcases Nat.lt_or_ge i (a + q + 2) with r | r
    · have r' : (i : Int) ≤ (a : Int) + (q : Int) + 1 := by omega
      clear r
      go_wp2_with fail
      refine (next_any w.heap.size z _ HB.out).mono ?_
      rintro e1 w1 ⟨v, z', rfl, hb1, hc1⟩
      have HR1 := Lib.hid (HR.out.chg hc1 (Nat.le_refl _) (by omega))
      have HB1 := Lib.hid hb1
      clear hb1 hc1
      have hMu : IntKind.u64.wrap ((M : Int) - 1) = ((M - 1 : Nat) : Int) := by have := HM.out; rw [IntKind.wrap_u64]; omega
      obtain ⟨o, ho, hoM⟩ := and_le v (M - 1) (by have := HM.out; omega)
      have hwo : IntKind.i64.wrap (o : Int) = (o : Int) := IntWalk.i64_in _ (by have := HM.out; omega)
      have HO : Hid (o < l ∨ (l ≤ o ∧ o < l + l)) := Lib.hid (by have := HM.out; omega)
      have ho64 : o ≤ 64 := by have := HM.out; omega
      clear hoM
      rcases HO.out with s | ⟨s, s2⟩
      · have s' : ¬ (o : Int) ≥ (l : Int) := by omega
        obtain ⟨m, hm⟩ : ∃ m, a + o = m := ⟨_, rfl⟩
        have hms : IntKind.i64.wrap ((a : Int) + (o : Int)) = (m : Int) := by rw [IntWalk.i64_in _ (by omega)]; omega
        have HML : Hid (a ≤ m ∧ m < b) := Lib.hid (by have := HL.out; omega)
        clear s hm
        go_wp2_with fail
        by_cases him : i = m
        · subst him
          obtain ⟨x, hx⟩ : ∃ x, gt F i = x := ⟨_, rfl⟩
          have b2 : (i : Int) < (n : Int) := by have := HML.out; omega
          have dj := HR1.out.1.cell (k := i) (by omega)
          have ej := HR1.out.1.frozen i
          rw [hx] at dj
          have HX := Lib.hid hx
          clear hx
          go_region
          go_wp2_with fail
          have hlF : F.length = n := HR1.out.1.len
          go_roundw
          case rel =>
            exact ⟨i + 1, swp F i i, z', by omega, by omega, by rw [Int.natCast_succ], (HR1.out.swap (by omega) (by omega) HX.out HX.out).drewN 1, HLo.out.trans (Loc.ex HML.out.1 HML.out.2 HML.out.1 HML.out.2 (by omega)), (HB1.out.chg (((Chg.refl _ _).set1 _).set1 _) (by omega)).drew⟩
          case measure => simp only [intOf]; omega
        · have HI : Hid (a ≤ i ∧ i < b) := Lib.hid (by have := HL.out; omega)
          obtain ⟨x, hx⟩ : ∃ x, gt F m = x := ⟨_, rfl⟩
          obtain ⟨y, hy⟩ : ∃ y, gt F i = y := ⟨_, rfl⟩
          have b1 : (m : Int) < (n : Int) := by have := HML.out; omega
          have b2 : (i : Int) < (n : Int) := by have := HI.out; omega
          have dj := HR1.out.1.cell (k := m) (by omega)
          have dk := HR1.out.1.cell (k := i) (by omega)
          have ej := HR1.out.1.frozen m
          have ek := HR1.out.1.frozen i
          rw [hx] at dj
          rw [hy] at dk
          have HX := Lib.hid hx
          have HY := Lib.hid hy
          clear hx hy
          go_region
          go_wp2_with fail
          have hlF : F.length = n := HR1.out.1.len
          go_roundw
          case rel =>
            exact ⟨i + 1, swp F i m, z', by omega, by omega, by rw [Int.natCast_succ], (HR1.out.swap (by omega) (by omega) HX.out HY.out).drewN 1, HLo.out.trans (Loc.ex HI.out.1 HI.out.2 HML.out.1 HML.out.2 (by omega)), (HB1.out.chg (F := fun x => x = g) (((Chg.refl _ _).set1 _).set1 _) (by omega)).drew⟩
          case measure => simp only [intOf]; omega
      · have s' : (o : Int) ≥ (l : Int) := by omega
        obtain ⟨o', ho'⟩ : ∃ o', o - l = o' := ⟨_, rfl⟩
        have hwp : IntKind.i64.wrap ((o : Int) - (l : Int)) = (o' : Int) := by rw [IntWalk.i64_in _ (by omega)]; omega
        obtain ⟨m, hm⟩ : ∃ m, a + o' = m := ⟨_, rfl⟩
        have hms : IntKind.i64.wrap ((a : Int) + (o' : Int)) = (m : Int) := by rw [IntWalk.i64_in _ (by omega)]; omega
        have HML : Hid (a ≤ m ∧ m < b) := Lib.hid (by have := HL.out; omega)
        clear s hm ho'
        go_wp2_with fail
        by_cases him : i = m
        · subst him
          obtain ⟨x, hx⟩ : ∃ x, gt F i = x := ⟨_, rfl⟩
          have b2 : (i : Int) < (n : Int) := by have := HML.out; omega
          have dj := HR1.out.1.cell (k := i) (by omega)
          have ej := HR1.out.1.frozen i
          rw [hx] at dj
          have HX := Lib.hid hx
          clear hx
          go_region
          go_wp2_with fail
          have hlF : F.length = n := HR1.out.1.len
          go_roundw
          case rel =>
            exact ⟨i + 1, swp F i i, z', by omega, by omega, by rw [Int.natCast_succ], (HR1.out.swap (by omega) (by omega) HX.out HX.out).drewN 1, HLo.out.trans (Loc.ex HML.out.1 HML.out.2 HML.out.1 HML.out.2 (by omega)), (HB1.out.chg (((Chg.refl _ _).set1 _).set1 _) (by omega)).drew⟩
          case measure => simp only [intOf]; omega
        · have HI : Hid (a ≤ i ∧ i < b) := Lib.hid (by have := HL.out; omega)
          obtain ⟨x, hx⟩ : ∃ x, gt F m = x := ⟨_, rfl⟩
          obtain ⟨y, hy⟩ : ∃ y, gt F i = y := ⟨_, rfl⟩
          have b1 : (m : Int) < (n : Int) := by have := HML.out; omega
          have b2 : (i : Int) < (n : Int) := by have := HI.out; omega
          have dj := HR1.out.1.cell (k := m) (by omega)
          have dk := HR1.out.1.cell (k := i) (by omega)
          have ej := HR1.out.1.frozen m
          have ek := HR1.out.1.frozen i
          rw [hx] at dj
          rw [hy] at dk
          have HX := Lib.hid hx
          have HY := Lib.hid hy
          clear hx hy
          go_region
          go_wp2_with fail
          have hlF : F.length = n := HR1.out.1.len
          go_roundw
          case rel =>
            exact ⟨i + 1, swp F i m, z', by omega, by omega, by rw [Int.natCast_succ], (HR1.out.swap (by omega) (by omega) HX.out HY.out).drewN 1, HLo.out.trans (Loc.ex HI.out.1 HI.out.2 HML.out.1 HML.out.2 (by omega)), (HB1.out.chg (F := fun x => x = g) (((Chg.refl _ _).set1 _).set1 _) (by omega)).drew⟩
          case measure => simp only [intOf]; omega
    · have r' : ¬ (i : Int) ≤ (a : Int) + (q : Int) + 1 := by omega
      go_wp2_with fail
      go_end0
      exact ⟨rfl, F, HR.out, HLo.out⟩
end Go.Proofs.Ytocigdkndlmikaa
