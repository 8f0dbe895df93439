/- Proved: what the reference's Encode hands out: the same bytes as segment.Encode. Conditions: the segment is one that came in. -/
import Derived.Test.YtifeomdmbjinoaaSegR
set_option linter.unusedVariables false
set_option linter.unusedSimpArgs false
namespace Go.Proofs.Ytifeomdmbjinoaa
open Go.RowKit

theorem be_2z : be 2 0 = [0, 0] := by simp [be]
theorem segB_put (s : Sg) (h x : Int) (h0 : 0 ≤ x) (h1 : x ≤ 65535) (o d : List Int) : segB s h x o d = ((segB s h 0 o d).set 16 (x / 256)).set 17 (x % 256) := by
  unfold segB segH
  rw [be_2 x, be_1 x, show x / 256 % 256 = x / 256 from by omega]
  simp [be]
theorem bel_undrew {B : Nat} {w w' : World} (h : Below B w.drew w') : Below B w w' := ⟨h.os, h.tape, h.output, h.size, h.block⟩
theorem grown_undrew {w w' : World} {row : Option Nat} (h : w.drew.grownBy w' row) : w.grownBy w' row := ⟨h.os, h.tape, h.output, h.size, h.block⟩
theorem Ow.ne_new {E : TypeId} {w : World} {base : Nat} {A : Option Addr} {n c : Nat} {xs : List Value} (h : Ow E w base A n c xs) : blk (some ⟨w.heap.size, 0, none⟩) ≠ blk A := fun e => by
  have := (Ow.lt h w.heap.size e.symm).2
  omega
/-- A row of bytes in a slot, on blocks from W0's end on. -/
def OptAt (v : Value) (w W0 : World) (l : List Int) : Prop := ∃ A n c, v = .slice A n c ∧ OB 5 w W0.heap.size A n c l ∧ Below W0.heap.size W0 w
set_option maxHeartbeats 4000000 in
set_option maxRecDepth 100000 in
theorem rencode_ok (s : Sg) (hwf : s.wf) (hg : s.good) (A : Option Addr) (n cap : Nat) (d : List Int) (hn : d.length = n) (hmax : 20 + (optB s.mss s.sc).length + n ≤ 65515) (hb : Bs d) (w : World) (hd : RB w w.heap.size A d) :
    Calls Try.prog 12 #[.agg #[.int .u32 s.fr, .int .i64 s.fp, .int .u32 s.to, .int .i64 s.tp, .int .u32 s.seq, .int .u32 s.ack, .int .i64 s.fl, .int .i64 s.win, .int .i64 s.mss, .int .i64 s.sc, .slice A n cap]] w fun e w' => ∃ A' n' c', e = .returned (.tuple #[.slice A' n' c', .int .i64 0]) ∧
      OB 5 w' w.heap.size A' n' c' (segAll s d) ∧ Below w.heap.size w w' := by
  obtain ⟨⟨a1, a2⟩, ⟨a3, a4⟩, ⟨a5, a6⟩, ⟨a7, a8⟩, ⟨a9, a10⟩, a11, a12⟩ := hg
  obtain ⟨hfr, -, hto, -, ⟨q0, q1⟩, ⟨k0, k1⟩, -⟩ := hwf
  have hom := optB_len s.mss s.sc
  have hob := optB_bs s.mss s.sc
  have hmb := mssB_len s.mss
  have hsb := scB_len s.sc
  have HN := Lib.hid hn
  obtain ⟨W0, hW0⟩ : ∃ W0, w.alloc (.cells #[.int .u32 s.fr, .int .i64 s.fp, .int .u32 s.to, .int .i64 s.tp, .int .u32 s.seq, .int .u32 s.ack, .int .i64 s.fl, .int .i64 s.win, .int .i64 s.mss, .int .i64 s.sc, .slice A n cap] 26) = W0 := ⟨_, rfl⟩
  have kb : Bk W0 w.heap.size 26 #[.int .u32 s.fr, .int .i64 s.fp, .int .u32 s.to, .int .i64 s.tp, .int .u32 s.seq, .int .u32 s.ack, .int .i64 s.fl, .int .i64 s.win, .int .i64 s.mss, .int .i64 s.sc, .slice A n cap] := by rw [← hW0]; exact Bk.new w _ _
  have hB0 : Below w.heap.size w W0 := by rw [← hW0]; exact (Below.refl _ _).alloc (Nat.le_refl _) _
  have zW : W0.heap.size = w.heap.size + 1 := by rw [← hW0]; simp
  have HZ := Lib.hid zW
  have HW0 := Lib.hid hW0
  have HB0 := Lib.hid hB0
  have HD := Lib.hid hd
  have KB := Lib.hid kb
  -- the segment's cells in every later world
  have key : ∀ w', Below W0.heap.size W0 w' → (w'.cell? ⟨w.heap.size, 0, none⟩ = some (.int .u32 s.fr) ∧ w'.cell? ⟨w.heap.size, 1, none⟩ = some (.int .i64 s.fp) ∧ w'.cell? ⟨w.heap.size, 2, none⟩ = some (.int .u32 s.to) ∧ w'.cell? ⟨w.heap.size, 3, none⟩ = some (.int .i64 s.tp) ∧
      w'.cell? ⟨w.heap.size, 4, none⟩ = some (.int .u32 s.seq) ∧ w'.cell? ⟨w.heap.size, 5, none⟩ = some (.int .u32 s.ack) ∧ w'.cell? ⟨w.heap.size, 6, none⟩ = some (.int .i64 s.fl) ∧ w'.cell? ⟨w.heap.size, 7, none⟩ = some (.int .i64 s.win) ∧
      w'.cell? ⟨w.heap.size, 8, none⟩ = some (.int .i64 s.mss) ∧ w'.cell? ⟨w.heap.size, 9, none⟩ = some (.int .i64 s.sc) ∧ w'.cell? ⟨w.heap.size, 10, none⟩ = some (.slice A n cap)) := fun w' hb' => by
    have kb' := kb.below hb' (by omega)
    exact ⟨kb'.cell 0, kb'.cell 1, kb'.cell 2, kb'.cell 3, kb'.cell 4, kb'.cell 5, kb'.cell 6, kb'.cell 7, kb'.cell 8, kb'.cell 9, kb'.cell 10⟩
  have K := Lib.hid key
  clear key hW0 hn hd kb hB0 zW
  obtain ⟨c0, c1, c2, c3, c4, c5, c6, c7, c8, c9, c10⟩ := K.out W0 (Below.refl _ _)
  have u0 : decide (s.fp < 0) = false := decide_eq_false (by omega)
  have v0 : decide (65535 < s.fp) = false := decide_eq_false (by omega)
  have u1 : decide (s.tp < 0) = false := decide_eq_false (by omega)
  have v1 : decide (65535 < s.tp) = false := decide_eq_false (by omega)
  have u2 : decide (s.win < 0) = false := decide_eq_false (by omega)
  have v2 : decide (65535 < s.win) = false := decide_eq_false (by omega)
  have u3 : decide (s.fl < 0) = false := decide_eq_false (by omega)
  have v3 : decide (63 < s.fl) = false := decide_eq_false (by omega)
  have u4 : decide (s.mss < 0) = false := decide_eq_false (by omega)
  have v4 : decide (65535 < s.mss) = false := decide_eq_false (by omega)
  have u5 : decide (s.sc < -1) = false := decide_eq_false (by omega)
  have v5 : decide (14 < s.sc) = false := decide_eq_false (by omega)
  go_enter Try.func12, Try.ntmps12
  go_upto_if 64 with (fail)
  rw [HW0.out]
  go_upto_if 67 with (fail)
  clear u0 u1 u2 u3 u4 u5 v0 v1 v2 v3 v4 v5
  go_cut [4] (fun s4 wx => OptAt s4 wx W0 (mssB s.mss))
  case first =>
    by_cases h1 : s.mss = 0
    · have t1 : (s.mss != 0) = false := by simp [h1]
      have HE : Hid (mssB s.mss = []) := Lib.hid (if_pos h1)
      clear h1
      go_wp2_with fail
      go_meet
      rw [HE.out]
      exact ⟨none, 0, 0, rfl, Ow.none_ _ _ _, Below.refl _ _⟩
    · have t1 : (s.mss != 0) = true := by simp [h1]
      have HE : Hid (mssB s.mss = [2, 4] ++ be 2 s.mss) := Lib.hid (if_neg h1)
      clear h1
      obtain ⟨W1, hW1⟩ : ∃ W1, W0.alloc (.cells #[.int .u8 2, .int .u8 4] 5) = W1 := ⟨_, rfl⟩
      have hO1 : OB 5 W1 W0.heap.size (some ⟨W0.heap.size, 0, none⟩) 2 2 [2, 4] := by rw [← hW1]; exact ob_lit W0 W0.heap.size [2, 4] (Nat.le_refl _) (by simp)
      have hB1 : Below W0.heap.size W0 W1 := by rw [← hW1]; exact (Below.refl _ _).alloc (Nat.le_refl _) _
      have c8a := (K.out _ hB1).2.2.2.2.2.2.2.2.1
      have c8b := c8a
      rw [← hW1] at c8b
      have HW1 := Lib.hid hW1
      clear hW1
      go_wp2_with fail
      rw [HW1.out]
      refine (rtwo_own s.mss _).mono ?_
      rintro e w2 ⟨rfl, hO2, hB2⟩
      have hO1' : OB _ _ _ _ _ _ _ := Ow.stays hO1 hB2
      have z1 : W0.heap.size ≤ w2.heap.size := Nat.le_trans hB1.size hB2.size
      clear c8a c8b
      go_wp2_with (first
        | (at_builtin; refine ap8 rfl (.tmp 68) (.tmp 71) rfl W0.heap.size rfl hO1' rfl hO2.rb (be_length 2 _) (by decide) z1 ?_; intro A3 c3' w3 hO3 hB3 hg3 hA3 hz3 hc3))
      go_meet
      rw [HE.out]
      exact ⟨A3, _, c3', rfl, hO3, (hB1.trans (hB2.mono hB1.size)).trans hB3⟩
  case rest =>
    obtain ⟨A4, m4, p4, rfl, hO4, hB4⟩ := hcut
    clear c0 c1 c2 c3 c4 c5 c6 c7 c8 c9 c10
    have l4 := hO4.length
    have hm4 : m4 ≤ 4 := by omega
    clear l4
    have c9 := (K.out _ hB4).2.2.2.2.2.2.2.2.2.1
    have z4 := hB4.size
    go_upto_if 75 with (fail)
    go_cut [4] (fun s4 wx => OptAt s4 wx W0 (optB s.mss s.sc))
    case first =>
      by_cases h1 : s.sc = -1
      · have t1 : (s.sc != -1) = false := by simp [h1]
        have HE : Hid (optB s.mss s.sc = mssB s.mss) := Lib.hid (by unfold optB scB; rw [if_pos h1, List.append_nil])
        clear h1
        go_wp2_with fail
        go_meet
        rw [HE.out]
        exact ⟨_, _, _, rfl, hO4, hB4⟩
      · have t1 : (s.sc != -1) = true := by simp [h1]
        have HE : Hid (optB s.mss s.sc = mssB s.mss ++ [1, 3, 3, s.sc % 256]) := Lib.hid (by unfold optB scB; rw [if_neg h1]; simp [be])
        clear h1
        go_wp2_with (first
          | (at_builtin; refine ap8_lit rfl (.tmp 76) (.tmp 80) rfl W0.heap.size rfl hO4 [1, 3, 3, s.sc % 256] rfl rfl rfl (by omega) (by omega) ?_; intro A3 c3' w3 hO3 hB3 hg3 hA3 hz3 hc3))
        go_meet
        rw [HE.out]
        exact ⟨A3, _, c3', rfl, hO3, hB4.trans hB3⟩
    case rest =>
      obtain ⟨Ao, mo, po, rfl, hOo, hBo⟩ := hcut
      have lo := hOo.length
      have hmo : 20 + mo + n ≤ 65515 := by omega
      have hmo8 : mo ≤ 8 := by omega
      have LO := Lib.hid lo
      rename World => Wc
      have zc := hBo.size
      clear lo c9 hB4 hO4 hm4 z4 hmax hmb hsb hom
      have K2 : Hid (∀ w', Below Wc.heap.size Wc w' → Below W0.heap.size W0 w') := Lib.hid fun w' h => hBo.trans (h.mono zc)
      have c10 := (K.out _ hBo).2.2.2.2.2.2.2.2.2.2
      have c1 := (K.out _ hBo).2.1
      have c3 := (K.out _ hBo).2.2.2.1
      go_upto_region 10 with (fail)
      go_cut [5] (fun s5 wx => OptAt s5 wx Wc (be 2 s.fp ++ be 2 s.tp))
      case first =>
        have hBC : Below Wc.heap.size Wc Wc := Below.refl _ _
        go_region_held3 (fun w' => w'.cell? ⟨w.heap.size, 1, none⟩ = some (.int .i64 s.fp) ∧ w'.cell? ⟨w.heap.size, 3, none⟩ = some (.int .i64 s.tp))
          (first | (with_reducible exact ⟨by assumption, by assumption⟩) | go_keep)
          (first
            | (go_at_call_of 36 (Value.int .i64 s.fp); refine (rtwo_own s.fp _).mono ?_; rintro e wA ⟨rfl, hOA, hBA⟩; (try have hBA := bel_undrew hBA); have hBC := hBC.trans (hBA.mono hBC.size); (try have hOB := Ow.stays hOB hBA); have bA1 := (K.out _ (K2.out _ hBC)).2.1; have bA3 := (K.out _ (K2.out _ hBC)).2.2.2.1)
            | (go_at_call_of 36 (Value.int .i64 s.tp); refine (rtwo_own s.tp _).mono ?_; rintro e wB ⟨rfl, hOB, hBB⟩; (try have hBB := bel_undrew hBB); (try have hOA := Ow.stays hOA hBB); have hBC := hBC.trans (hBB.mono hBC.size); have bB1 := (K.out _ (K2.out _ hBC)).2.1; have bB3 := (K.out _ (K2.out _ hBC)).2.2.2.1)
            | (have hOA : OB _ _ Wc.heap.size _ _ _ _ := Ow.mono hOA (by first | exact Nat.le_refl _ | exact hBC.size | (have := hBC.size; have := hBA.size; have := hBB.size; omega)); refine st8 rfl (.tmp 92) (.tmp 95) rfl Wc.heap.size rfl (by exact hOA) rfl (by exact hOB.rb) (be_length 2 _) (by decide) hBC.size ?_; intro A3 c3' w3 hO3 hB3 hg3 hA3 hz3 hc3; have hBC := hBC.trans hB3; have b31 := (K.out _ (K2.out _ hBC)).2.1; have b33 := (K.out _ (K2.out _ hBC)).2.2.2.1))
        all_goals
          go_wp2_with fail
          go_meet
          exact ⟨A3, _, c3', rfl, hO3, hBC⟩
      case rest =>
        obtain ⟨A5, m5, p5, rfl, hO5, hB5⟩ := hcut
        obtain rfl : 4 = m5 := by have := hO5.length; simpa [be_length] using this
        rename World => Wd
        have zd := hB5.size
        have c4 := (K.out _ (K2.out _ hB5)).2.2.2.2.1
        have c5 := (K.out _ (K2.out _ hB5)).2.2.2.2.2.1
        clear c1 c3 c10
        go_upto_region 11 with (fail)
        go_cut [5] (fun s5 wx => OptAt s5 wx Wc (be 2 s.fp ++ be 2 s.tp ++ be 4 s.seq ++ be 4 s.ack))
        case first =>
          have hBC := hB5
          go_region_held3 (fun w' => w'.cell? ⟨w.heap.size, 4, none⟩ = some (.int .u32 s.seq) ∧ w'.cell? ⟨w.heap.size, 5, none⟩ = some (.int .u32 s.ack))
            (first | (with_reducible exact ⟨by assumption, by assumption⟩) | go_keep)
            (first
              | (go_at_call_of 37 (Value.int .u32 s.seq); refine (rfour_own s.seq q0 q1 _).mono ?_; rintro e wS ⟨rfl, hOS, hBS⟩; (try have hBS := bel_undrew hBS); have hO5 := Ow.stays hO5 hBS; have hBC := hBC.trans (hBS.mono hBC.size); (try have hOK := Ow.stays hOK hBS); have bA1 := (K.out _ (K2.out _ hBC)).2.2.2.2.1; have bA3 := (K.out _ (K2.out _ hBC)).2.2.2.2.2.1)
              | (go_at_call_of 37 (Value.int .u32 s.ack); refine (rfour_own s.ack k0 k1 _).mono ?_; rintro e wK ⟨rfl, hOK, hBK⟩; (try have hBK := bel_undrew hBK); have hneK := Ow.ne_new hO5; (try have hO5 := Ow.stays hO5 hBK); have hBC := hBC.trans (hBK.mono hBC.size); (try have hOS := Ow.stays hOS hBK); (try have hO6 := Ow.stays hO6 hBK); have bB1 := (K.out _ (K2.out _ hBC)).2.2.2.2.1; have bB3 := (K.out _ (K2.out _ hBC)).2.2.2.2.2.1)
              | (refine st8 rfl (.tmp 97) (.tmp 100) rfl Wc.heap.size rfl (by exact hO5) rfl (by exact hOS.rb) (be_length 4 _) (by decide) hBC.size ?_; intro A6 c6' w6 hO6 hB6 hg6 hA6 hz6 hc6; (try have hB6 := bel_undrew hB6); (try have hg6 := grown_undrew hg6); have hBC := hBC.trans hB6; (try have hOK := Ow.kept hOK hg6 (.inr hneK)); have b31 := (K.out _ (K2.out _ hBC)).2.2.2.2.1; have b33 := (K.out _ (K2.out _ hBC)).2.2.2.2.2.1)
              | (refine st8 rfl (.tmp 101) (.tmp 104) rfl Wc.heap.size rfl (by exact hO6) rfl (by exact hOK.rb) (be_length 4 _) (by decide) hBC.size ?_; intro A7 c7' w7 hO7 hB7 hg7 hA7 hz7 hc7; (try have hB7 := bel_undrew hB7); have hBC := hBC.trans hB7; have b41 := (K.out _ (K2.out _ hBC)).2.2.2.2.1; have b43 := (K.out _ (K2.out _ hBC)).2.2.2.2.2.1))
          all_goals
            go_wp2_with fail
            go_meet
            exact ⟨A7, _, c7', rfl, hO7, hBC⟩
        case rest =>
          obtain ⟨A7, m7, p7, rfl, hO7, hB7⟩ := hcut
          obtain rfl : 12 = m7 := by have := hO7.length; simpa [be_length] using this
          rename World => We
          have ze := hB7.size
          have c6 := (K.out _ (K2.out _ hB7)).2.2.2.2.2.2.1
          clear c4 c5
          have hO7' : OB 5 We Wc.heap.size A7 12 p7 (be 2 s.fp ++ be 2 s.tp ++ be 4 s.seq ++ be 4 s.ack) := hO7
          have hOo7 : OB 5 We W0.heap.size Ao mo po (optB s.mss s.sc) := Ow.stays hOo hB7
          go_wp2_with (first
            | (at_builtin; refine ap8_lit rfl (.tmp 106) (.tmp 116) rfl Wc.heap.size rfl hO7' [(20 + (mo : Int)) / 4 * 16, s.fl] rfl rfl rfl (by omega) ze ?_; intro A8 c8' w8 hO8 hB8 hg8 hA8 hz8 hc8; have hBC8 := hB7.trans hB8; have c7 := (K.out _ (K2.out _ hBC8)).2.2.2.2.2.2.2.1))
          have z8 := hBC8.size
          clear c6
          refine (rtwo_own s.win _).mono ?_
          rintro e w9 ⟨rfl, hO9, hB9⟩
          have hBC9 := hBC8.trans (hB9.mono z8)
          have hO8' : OB _ _ _ _ _ _ _ := Ow.stays hO8 hB9
          clear c7
          go_wp2_with (first
            | (at_builtin; refine ap8 rfl (.tmp 118) (.tmp 121) rfl Wc.heap.size rfl hO8' rfl hO9.rb (be_length 2 _) (by omega) hBC9.size ?_; intro A10 c10' w10 hO10 hB10 hg10 hA10 hz10 hc10; have hBC10 := hBC9.trans hB10)
            | (at_builtin; refine ap8_lit rfl (.tmp 122) (.tmp 123) rfl Wc.heap.size rfl hO10 [0, 0, 0, 0] rfl rfl rfl (by omega) hBC10.size ?_; intro A11 c11' w11 hO11 hB11 hg11 hA11 hz11 hc11; have hBC11 := hBC10.trans hB11; have c10 := (K.out _ (K2.out _ hBC11)).2.2.2.2.2.2.2.2.2.2))
          have hO11' : OB 5 w11 Wc.heap.size A11 20 c11' (segH s ((20 + (mo : Int)) / 4 * 16) 0) := by
            have e : segH s ((20 + (mo : Int)) / 4 * 16) 0 = be 2 s.fp ++ be 2 s.tp ++ be 4 s.seq ++ be 4 s.ack ++ [(20 + (mo : Int)) / 4 * 16, s.fl] ++ be 2 s.win ++ [0, 0, 0, 0] := by
              unfold segH
              rw [be_1, be_1, show (20 + (mo : Int)) / 4 * 16 % 256 = (20 + (mo : Int)) / 4 * 16 from by omega, show s.fl % 256 = s.fl from by omega]
              simp [be]
            rw [e]
            exact hO11
          have z11 := hBC11.size
          have hBo11 := K2.out _ hBC11
          have hBw11 : Below w.heap.size w w11 := HB0.out.trans (hBo11.mono (by have := HZ.out; omega))
          have hoo : RB w11 Wc.heap.size Ao (optB s.mss s.sc) := Rw.below hOo.rb hBC11
          have hdd : RB w11 w.heap.size A d := Rw.below HD.out hBw11
          have HBW := Lib.hid hBw11
          have HOO := Lib.hid hoo
          have HDD := Lib.hid hdd
          have zw := HZ.out
          clear hBw11 hoo hdd hO11 hO8 hO8' hO9 hO10
          go_region_held3 (fun w' => w'.cell? ⟨w.heap.size, 10, none⟩ = some (.slice A n cap))
            (first | (with_reducible assumption) | go_keep)
            (first
              | (refine st8 rfl (.tmp 125) (.tmp 126) rfl Wc.heap.size rfl (by exact hO11') rfl (by exact HOO.out) LO.out (by omega) z11 ?_; intro A12 c12' w12 hO12 hB12 hg12 hA12 hz12 hc12; (try have hB12 := bel_undrew hB12); have hBC12 := hBC11.trans hB12; have c12 := (K.out _ (K2.out _ hBC12)).2.2.2.2.2.2.2.2.2.2)
              | (refine st8 rfl (.tmp 127) (.tmp 129) rfl Wc.heap.size rfl (by exact hO12) rfl (by exact Rw.below HDD.out (hB12.mono (by omega))) HN.out (by omega) hBC12.size ?_; intro A13 c13' w13 hO13 hB13 hg13 hA13 hz13 hc13; (try have hB13 := bel_undrew hB13); have hBC13 := hBC12.trans hB13; have c13 := (K.out _ (K2.out _ hBC13)).2.2.2.2.2.2.2.2.2.2))
          have c0 := (K.out _ (K2.out _ hBC13)).1
          have c2 := (K.out _ (K2.out _ hBC13)).2.2.1
          have z13 := hBC13.size
          have hO13' : OB 5 w13 Wc.heap.size A13 (20 + mo + n) c13' (segB s ((20 + (mo : Int)) / 4 * 16) 0 (optB s.mss s.sc) d) := hO13
          have hl13 := hO13'.length
          have HL13 := Lib.hid hl13
          have HBS : Hid (Bs (segB s ((20 + (mo : Int)) / 4 * 16) 0 (optB s.mss s.sc) d)) := Lib.hid (segB_bs _ _ _ hob hb)
          have hsb := segSum_bd s.fr s.to HBS.out
          obtain ⟨sm, hsm⟩ : ∃ sm, segSum s.fr s.to (segB s ((20 + (mo : Int)) / 4 * 16) 0 (optB s.mss s.sc) d) = sm := ⟨_, rfl⟩
          rw [hsm] at hsb
          have HSM := Lib.hid hsm
          have hBw13 : Below w.heap.size w w13 := HBW.out.trans ((hB12.trans hB13).mono (by omega))
          have HBW13 := Lib.hid hBw13
          clear hl13 hsm hO13 hO12 hBw13 c12 c13 c10
          go_wp2_with fail
          refine (summed_any s.fr s.to hfr hto _ _ c13' _ _ HL13.out (by omega) HBS.out _ (by exact hO13'.rb) (Nat.le_refl _)).mono ?_
          rintro e w14 ⟨rfl, hB14⟩
          rw [HSM.out]
          have hO13a : OB 5 w14 Wc.heap.size A13 (20 + mo + n) c13' _ := Ow.stays hO13' hB14
          have hBw14 : Below w.heap.size w w14 := HBW13.out.trans (hB14.mono HBW13.out.size)
          have HBW14 := Lib.hid hBw14
          obtain ⟨g, rfl, hg, e2, f2⟩ := hO13a.lit_at (k := 16) (by omega)
          have hO14 := hO13a.store (k := 16) (by omega) (sm / 256)
          obtain ⟨g', eg, _, e3, f3⟩ := hO14.lit_at (k := 17) (by omega)
          obtain rfl : g = g' := by injection eg with eg; injection eg with eg
          have hO15 := hO14.store (k := 17) (by omega) (sm % 256)
          have HO15 := Lib.hid hO15
          clear eg hBw14 hO15 hO14 hO13a c0 c2
          go_wp2_with fail
          go_ret2
          refine ⟨some ⟨g, 0, none⟩, 20 + mo + n, c13', rfl, ?_, ?_⟩
          · have e : segAll s d = ((segB s ((20 + (mo : Int)) / 4 * 16) 0 (optB s.mss s.sc) d).set 16 (sm / 256)).set 17 (sm % 256) := by
              unfold segAll segHd
              rw [LO.out, HSM.out]
              exact segB_put s _ sm hsb.1 hsb.2 _ _
            rw [e]
            exact Ow.mono HO15.out (by omega)
          · exact (HBW14.out.setCell (show w.heap.size ≤ g by omega) _).setCell (show w.heap.size ≤ g by omega) _
end Go.Proofs.Ytifeomdmbjinoaa
