/- Proved: how options are read: the plain law, and what segment.read does, by its walk. Conditions: the bytes lie in memory, apart from the segment. -/
import Derived.Test.YtifeomdmbjinoaaSegF
import Derived.Test.YtifeomdmbjinoaaRdAt
import Derived.Test.YtifeomdmbjinoaaRdSt
import Derived.Deep.QuietTactic
import Derived.BigQuiet
import Derived.StillTailTactics
set_option linter.unusedVariables false
set_option linter.unusedSimpArgs false
namespace Go.Proofs.Ytifeomdmbjinoaa
open Go.RowKit

/-- What options from a place on tell: MSS and Scale, or that they are ill made. -/
def parse (o : List Int) (i : Nat) (m k : Int) : Option (Int × Int) :=
  if _h : i < o.length then
    if at8 o i = 0 then some (m, k)
    else if at8 o i = 1 then parse o (i + 1) m k
    else if _h2 : i + 1 < o.length ∧ 2 ≤ at8 o (i + 1) ∧ i + (at8 o (i + 1)).toNat ≤ o.length then
      if at8 o i = 2 then (if at8 o (i + 1) = 4 then parse o (i + 4) (rd2 o (i + 2)) k else none)
      else if at8 o i = 3 then (if at8 o (i + 1) = 3 then parse o (i + 3) m (min 14 (at8 o (i + 2))) else none)
      else parse o (i + (at8 o (i + 1)).toNat) m k
    else none
  else some (m, k)
termination_by o.length - i
decreasing_by all_goals omega

section
variable {o : List Int} {i : Nat} {m k : Int}
theorem parse_end (h : o.length ≤ i) : parse o i m k = some (m, k) := by rw [parse, dif_neg (by omega)]
theorem parse_zero (h : i < o.length) (h0 : at8 o i = 0) : parse o i m k = some (m, k) := by rw [parse, dif_pos h, if_pos h0]
theorem parse_one (h : i < o.length) (h0 : at8 o i = 1) : parse o i m k = parse o (i + 1) m k := by rw [parse, dif_pos h, if_neg (by omega), if_pos h0]
theorem parse_bad (h : i < o.length) (h0 : 2 ≤ at8 o i) (hb : o.length ≤ i + 1 ∨ at8 o (i + 1) < 2 ∨ o.length < i + (at8 o (i + 1)).toNat) : parse o i m k = none := by
  rw [parse, dif_pos h, if_neg (by omega), if_neg (by omega), dif_neg (by omega)]
theorem parse_two (h : i + 1 < o.length) (h0 : at8 o i = 2) (h1 : at8 o (i + 1) = 4) (h2 : i + 4 ≤ o.length) : parse o i m k = parse o (i + 4) (rd2 o (i + 2)) k := by
  rw [parse, dif_pos (by omega), if_neg (by omega), if_neg (by omega), dif_pos ⟨h, by omega, by omega⟩, if_pos h0, if_pos h1]
theorem parse_two_no (h : i + 1 < o.length) (h0 : at8 o i = 2) (hl : 2 ≤ at8 o (i + 1)) (hl2 : i + (at8 o (i + 1)).toNat ≤ o.length) (h1 : at8 o (i + 1) ≠ 4) : parse o i m k = none := by
  rw [parse, dif_pos (by omega), if_neg (by omega), if_neg (by omega), dif_pos ⟨h, by omega, by omega⟩, if_pos h0, if_neg h1]
theorem parse_three (h : i + 1 < o.length) (h0 : at8 o i = 3) (h1 : at8 o (i + 1) = 3) (h2 : i + 3 ≤ o.length) : parse o i m k = parse o (i + 3) m (min 14 (at8 o (i + 2))) := by
  rw [parse, dif_pos (by omega), if_neg (by omega), if_neg (by omega), dif_pos ⟨h, by omega, by omega⟩, if_neg (by omega), if_pos h0, if_pos h1]
theorem parse_three_no (h : i + 1 < o.length) (h0 : at8 o i = 3) (hl : 2 ≤ at8 o (i + 1)) (hl2 : i + (at8 o (i + 1)).toNat ≤ o.length) (h1 : at8 o (i + 1) ≠ 3) : parse o i m k = none := by
  rw [parse, dif_pos (by omega), if_neg (by omega), if_neg (by omega), dif_pos ⟨h, by omega, by omega⟩, if_neg (by omega), if_pos h0, if_neg h1]
theorem parse_other (h : i + 1 < o.length) (h0 : 4 ≤ at8 o i) (hl : 2 ≤ at8 o (i + 1)) (hl2 : i + (at8 o (i + 1)).toNat ≤ o.length) : parse o i m k = parse o (i + (at8 o (i + 1)).toNat) m k := by
  rw [parse, dif_pos (by omega), if_neg (by omega), if_neg (by omega), dif_pos ⟨h, by omega, by omega⟩, if_neg (by omega), if_neg (by omega)]
end

/-- What became of the segment at block gs: it was read, or the options are ill made; nothing else has turned. -/
def ReadPost (gs : Nat) (s : Sg) (A0 : Option Addr) (n0 c0 : Nat) (R : Option (Int × Int)) (w : World) (e : Ending) (w' : World) : Prop :=
  (∃ m k, R = some (m, k) ∧ e = .returned (.bool true) ∧ Bk w' gs 26 #[.int .u32 s.fr, .int .i64 s.fp, .int .u32 s.to, .int .i64 s.tp, .int .u32 s.seq, .int .u32 s.ack, .int .i64 s.fl, .int .i64 s.win, .int .i64 m, .int .i64 k, .slice A0 n0 c0] ∧ w.grownBy w' (some gs)) ∨
  (R = none ∧ e = .returned (.bool false) ∧ w.grownBy w' (some gs))

set_option maxHeartbeats 4000000 in
set_option maxRecDepth 100000 in
theorem read_any (gs : Nat) (s : Sg) (A0 : Option Addr) (n0 c0 : Nat) (A : Option Addr) (n c B : Nat) (o : List Int) (hn : o.length = n) (hc : n ≤ c) (hmax : n ≤ 100000) (hb : Bs o) (w : World) (hr : RB w B A o) (hB : B ≤ w.heap.size) (hA : blk A ≠ some gs)
    (hs : Bk w gs 26 #[.int .u32 s.fr, .int .i64 s.fp, .int .u32 s.to, .int .i64 s.tp, .int .u32 s.seq, .int .u32 s.ack, .int .i64 s.fl, .int .i64 s.win, .int .i64 s.mss, .int .i64 s.sc, .slice A0 n0 c0]) :
    Calls Try.prog 46 #[.pointer (some ⟨gs, 0, none⟩), .slice A n c] w (ReadPost gs s A0 n0 c0 (parse o 0 s.mss s.sc) w) := by
  have HN := Lib.hid hn
  obtain ⟨R, hR⟩ : ∃ R, parse o 0 s.mss s.sc = R := ⟨_, rfl⟩
  have HR := Lib.hid hR
  rw [hR]
  clear hn hR
  go_enter Try.func46, Try.ntmps46
  go_wp2
  go_step3
  go_wp2
  go_step3
  go_wp2
  go_loopw [5] (fun i wr => ∃ (j : Nat) (m k : Int), j ≤ n ∧ i = .int .i64 j ∧ Hid (parse o j m k = R) ∧ Hid (Bk wr gs 26 #[.int .u32 s.fr, .int .i64 s.fp, .int .u32 s.to, .int .i64 s.tp, .int .u32 s.seq, .int .u32 s.ack, .int .i64 s.fl, .int .i64 s.win, .int .i64 m, .int .i64 k, .slice A0 n0 c0]) ∧ Hid (w.grownBy wr (some gs))) (fun i _ => n - (intOf i).toNat)
  case atStart => exact ⟨0, s.mss, s.sc, Nat.zero_le _, rfl, HR, hs, World.grownBy.refl w _⟩
  case round =>
    obtain ⟨j, m, k, hj, rfl, HP, HS, HG⟩ := hrel
    have hrr := Rw.grownNe hr HG.out hB hA
    rcases Nat.lt_or_ge j n with c1 | c1
    · obtain ⟨b, off, rfl, hbB, e0⟩ := RB.at_ hrr (k := j) (by rw [HN.out]; exact c1)
      have a0 := hb.at_ j
      change wr.cell? ⟨b, off + j, none⟩ = some (.int .u8 (at8 o j)) at e0
      change 0 ≤ at8 o j ∧ at8 o j < 256 at a0
      obtain ⟨x, hx⟩ : ∃ x, at8 o j = x := ⟨_, rfl⟩
      rw [hx] at e0 a0
      have HX := Lib.hid hx
      clear hx
      rcases (by omega : x = 0 ∨ x = 1 ∨ 2 ≤ x) with rfl | rfl | hx2
      · have HE := Lib.hid (HP.out.symm.trans (parse_zero (by rw [HN.out]; exact c1) HX.out))
        go_wp2
        go_ret
        exact .inl ⟨m, k, HE.out, rfl, HS.out, HG.out⟩
      · have HP2 : Hid (parse o (j + 1) m k = R) := Lib.hid ((parse_one (by rw [HN.out]; exact c1) HX.out).symm.trans HP.out)
        go_wp2
        go_roundw
        case rel => exact ⟨j + 1, m, k, by omega, by go_num, HP2, HS, HG⟩
        case measure => simp [intOf]; omega
      · have tx0 : (x == 0) = false := by simp; omega
        have tx1 : (x == 1) = false := by simp; omega
        rcases Nat.lt_or_ge (j + 1) n with c2 | c2
        · obtain ⟨b', off', eb, _, e1⟩ := RB.at_ hrr (k := j + 1) (by rw [HN.out]; exact c2)
          injection eb with eb; injection eb with eb1 eb2; subst eb1; subst eb2
          have a1 := hb.at_ (j + 1)
          change wr.cell? ⟨b, off + (j + 1), none⟩ = some (.int .u8 (at8 o (j + 1))) at e1
          change 0 ≤ at8 o (j + 1) ∧ at8 o (j + 1) < 256 at a1
          obtain ⟨y, hy⟩ : ∃ y : Nat, at8 o (j + 1) = y := ⟨(at8 o (j + 1)).toNat, by omega⟩
          rw [hy] at e1 a1
          have HY := Lib.hid hy
          clear hy
          have hn1 : (j : Int) + 1 < n := by omega
          rcases (by omega : y < 2 ∨ (2 ≤ y ∧ n < j + y) ∨ (2 ≤ y ∧ j + y ≤ n)) with c3 | ⟨c3, c4⟩ | ⟨c3, c4⟩
          · have HE := Lib.hid (HP.out.symm.trans (parse_bad (by rw [HN.out]; exact c1) (by rw [HX.out]; exact hx2) (.inr (.inl (by rw [HY.out]; omega)))))
            go_wp2
            go_ret
            exact .inr ⟨HE.out, rfl, HG.out⟩
          · have HE := Lib.hid (HP.out.symm.trans (parse_bad (by rw [HN.out]; exact c1) (by rw [HX.out]; exact hx2) (.inr (.inr (by rw [HY.out, HN.out]; simp; omega)))))
            go_wp2
            go_ret
            exact .inr ⟨HE.out, rfl, HG.out⟩
          · rcases (by omega : x = 2 ∨ x = 3 ∨ 4 ≤ x) with rfl | rfl | hx4
            · rcases (by omega : y = 4 ∨ y ≠ 4) with rfl | c5
              · obtain ⟨b', off', eb, _, e2⟩ := RB.at_ hrr (k := j + 2) (by rw [HN.out]; omega)
                injection eb with eb; injection eb with eb1 eb2; subst eb1; subst eb2
                obtain ⟨b', off', eb, _, e3⟩ := RB.at_ hrr (k := j + 3) (by rw [HN.out]; omega)
                injection eb with eb; injection eb with eb1 eb2; subst eb1; subst eb2
                have a2 := hb.at_ (j + 2)
                have a3 := hb.at_ (j + 3)
                change wr.cell? ⟨b, off + (j + 2), none⟩ = some (.int .u8 (at8 o (j + 2))) at e2
                change wr.cell? ⟨b, off + (j + 3), none⟩ = some (.int .u8 (at8 o (j + 3))) at e3
                change 0 ≤ at8 o (j + 2) ∧ at8 o (j + 2) < 256 at a2
                change 0 ≤ at8 o (j + 3) ∧ at8 o (j + 3) < 256 at a3
                have hP2 := HP.out.symm.trans (parse_two (o := o) (i := j) (m := m) (k := k) (by rw [HN.out]; exact c2) HX.out HY.out (by rw [HN.out]; exact c4))
                unfold rd2 at hP2
                rw [show j + 2 + 1 = j + 3 from rfl] at hP2
                obtain ⟨x2, h2⟩ : ∃ v, at8 o (j + 2) = v := ⟨_, rfl⟩
                obtain ⟨x3, h3⟩ : ∃ v, at8 o (j + 3) = v := ⟨_, rfl⟩
                rw [h2, h3] at hP2
                rw [h2] at e2 a2
                rw [h3] at e3 a3
                rw [← Nat.add_assoc] at e2 e3
                have HP2 := Lib.hid hP2.symm
                have o1 := or_i64_8 x2 x3 (by omega) (by omega) (by omega) (by omega)
                have v0 : IntKind.i64.wrap (x2 * 256) = x2 * 256 := IntWalk.i64_in _ (by omega)
                have v2 : IntKind.i64.wrap x2 = x2 := IntWalk.i64_in _ (by omega)
                have v3 : IntKind.i64.wrap x3 = x3 := IntWalk.i64_in _ (by omega)
                have s8 := HS.out.cell 8
                have f8 := HS.out.frozen 8
                simp only [List.getElem?_toArray, List.getElem?_cons_zero, List.getElem?_cons_succ] at s8
                have HS2 := Lib.hid (HS.out.set 8 (.int .i64 (x2 * 256 + x3)))
                have HG2 := Lib.hid (grownBy_setCell HG.out (p := ⟨gs, 8, none⟩) (.inl rfl) (.int .i64 (x2 * 256 + x3)))
                clear h2 h3 hP2
                go_wp2
                refine wp_region_still_tail 13 (by kernel_rfl) (by kernel_rfl) ?_
                change wpStill _ _ (World.drew _) (fun a' => wpList _ _ _ _ a' (World.drew _)) _ _
                simp only [List.take_succ_cons, List.take_zero, List.drop_succ_cons, List.drop_zero]
                repeat still_step
                try refine wpStill_nil ?_
                go_wp2
                go_roundw
                case rel => exact ⟨j + 4, x2 * 256 + x3, k, by omega, by go_num, HP2, HS2.out, grownBy_drew HG2.out⟩
                case measure => simp [intOf]; omega
              · have HE := Lib.hid (HP.out.symm.trans (parse_two_no (by rw [HN.out]; exact c2) HX.out (by rw [HY.out]; omega) (by rw [HY.out, HN.out]; simp; omega) (by rw [HY.out]; omega)))
                have ty : ((y : Int) != 4) = true := by simp; omega
                go_wp2
                go_ret
                exact .inr ⟨HE.out, rfl, HG.out⟩
            · rcases (by omega : y = 3 ∨ y ≠ 3) with rfl | c5
              · obtain ⟨b', off', eb, _, e2⟩ := RB.at_ hrr (k := j + 2) (by rw [HN.out]; omega)
                injection eb with eb; injection eb with eb1 eb2; subst eb1; subst eb2
                have a2 := hb.at_ (j + 2)
                change wr.cell? ⟨b, off + (j + 2), none⟩ = some (.int .u8 (at8 o (j + 2))) at e2
                change 0 ≤ at8 o (j + 2) ∧ at8 o (j + 2) < 256 at a2
                have hP2 := HP.out.symm.trans (parse_three (o := o) (i := j) (m := m) (k := k) (by rw [HN.out]; exact c2) HX.out HY.out (by rw [HN.out]; exact c4))
                obtain ⟨x2, h2⟩ : ∃ v, at8 o (j + 2) = v := ⟨_, rfl⟩
                rw [h2] at hP2
                rw [h2] at e2 a2
                rw [← Nat.add_assoc] at e2
                have HP2 := Lib.hid hP2.symm
                have s9 := HS.out.cell 9
                have f9 := HS.out.frozen 9
                simp only [List.getElem?_toArray, List.getElem?_cons_zero, List.getElem?_cons_succ] at s9
                clear h2 hP2
                rcases (by omega : 14 < x2 ∨ x2 ≤ 14) with c6 | c6
                · have hm : min 14 x2 = 14 := by omega
                  rw [hm] at HP2
                  have HS2 := Lib.hid (HS.out.set 9 (.int .i64 14))
                  have HG2 := Lib.hid (grownBy_setCell HG.out (p := ⟨gs, 9, none⟩) (.inl rfl) (.int .i64 14))
                  clear hm
                  go_wp2
                  go_roundw
                  case rel => exact ⟨j + 3, m, 14, by omega, by go_num, HP2, HS2.out, HG2.out⟩
                  case measure => simp [intOf]; omega
                · have hm : min 14 x2 = x2 := by omega
                  rw [hm] at HP2
                  have HS2 := Lib.hid (HS.out.set 9 (.int .i64 x2))
                  have HG2 := Lib.hid (grownBy_setCell HG.out (p := ⟨gs, 9, none⟩) (.inl rfl) (.int .i64 x2))
                  clear hm
                  go_wp2
                  go_roundw
                  case rel => exact ⟨j + 3, m, x2, by omega, by go_num, HP2, HS2.out, HG2.out⟩
                  case measure => simp [intOf]; omega
              · have HE := Lib.hid (HP.out.symm.trans (parse_three_no (by rw [HN.out]; exact c2) HX.out (by rw [HY.out]; omega) (by rw [HY.out, HN.out]; simp; omega) (by rw [HY.out]; omega)))
                have ty : ((y : Int) != 3) = true := by simp; omega
                go_wp2
                go_ret
                exact .inr ⟨HE.out, rfl, HG.out⟩
            · have tx2 : (x == 2) = false := by simp; omega
              have tx3 : (x == 3) = false := by simp; omega
              have hP2 := HP.out.symm.trans (parse_other (o := o) (i := j) (m := m) (k := k) (by rw [HN.out]; exact c2) (by rw [HX.out]; exact hx4) (by rw [HY.out]; omega) (by rw [HY.out, HN.out]; simp; omega))
              rw [HY.out, Int.toNat_natCast] at hP2
              have HP2 := Lib.hid hP2.symm
              clear hP2
              go_wp2
              go_roundw
              case rel => exact ⟨j + y, m, k, by omega, by go_num, HP2, HS, HG⟩
              case measure => simp [intOf]; omega
        · have HE := Lib.hid (HP.out.symm.trans (parse_bad (by rw [HN.out]; exact c1) (by rw [HX.out]; exact hx2) (.inl (by rw [HN.out]; exact c2))))
          go_wp2
          go_ret
          exact .inr ⟨HE.out, rfl, HG.out⟩
    · have HE := Lib.hid (HP.out.symm.trans (parse_end (by rw [HN.out]; exact c1)))
      go_wp2
      go_ret
      exact .inl ⟨m, k, HE.out, rfl, HS.out, HG.out⟩
end Go.Proofs.Ytifeomdmbjinoaa
