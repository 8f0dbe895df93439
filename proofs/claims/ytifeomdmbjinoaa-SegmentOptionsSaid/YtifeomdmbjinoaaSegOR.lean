/- Proved: what the reference's options tell, by its walk. Conditions: the bytes lie in memory. -/
import Derived.Test.YtifeomdmbjinoaaSegO
set_option linter.unusedVariables false
set_option linter.unusedSimpArgs false
namespace Go.Proofs.Ytifeomdmbjinoaa
open Go.RowKit
theorem get2_i (p : Int) (A : Option Addr) (n c B : Nat) (l : List Int) (k : Nat) (hp : p = (k : Int)) (hn : l.length = n) (hk : k + 2 ≤ n) (hmax : n ≤ 140737488355328) (hb : Bs l) (w : World) (hr : RB w B A l) :
    Calls Try.prog 49 #[.slice A n c, .int .i64 p] w fun e w' => e = .returned (.int .i64 (rd2 l k)) ∧ ∃ j, w' = w.drewN j := by
  subst hp
  exact get2_any A n c B l k hn hk hmax hb w hr
/-- What is told of options. -/
def OptPost (R : Option (Int × Int)) (w : World) (e : Ending) (w' : World) : Prop :=
  (∃ m k q, R = some (m, k) ∧ e = .returned (.tuple #[.int .i64 m, .int .i64 k, .bool true]) ∧ w' = w.drewN q) ∨
  (∃ q, R = none ∧ e = .returned (.tuple #[.int .i64 0, .int .i64 0, .bool false]) ∧ w' = w.drewN q)
set_option maxHeartbeats 4000000 in
set_option maxRecDepth 100000 in
theorem options_any' (A : Option Addr) (n c B : Nat) (o : List Int) (hn : o.length = n) (hmax : n ≤ 100000) (hb : Bs o) (w : World) (hr : RB w B A o) :
    Calls Try.prog 48 #[.slice A n c] w (OptPost (parse o 0 0 (-1)) w) := by
  have HN := Lib.hid hn
  obtain ⟨R, hR⟩ : ∃ R, parse o 0 0 (-1) = R := ⟨_, rfl⟩
  have HR := Lib.hid hR
  rw [hR]
  clear hn hR
  go_enter Try.func48, Try.ntmps48
  go_wp2
  go_loopw [5, 6, 7] (fun v5 v6 i wr => ∃ (j : Nat) (m k : Int) (q : Nat), j ≤ n ∧ i = .int .i64 j ∧ v5 = .int .i64 m ∧ v6 = .int .i64 k ∧ Hid (parse o j m k = R) ∧ wr = w.drewN q) (fun _ _ i _ => n - (intOf i).toNat)
  case atStart => exact ⟨0, 0, -1, 0, Nat.zero_le _, rfl, rfl, rfl, HR, rfl⟩
  case round =>
    obtain ⟨j, m, k, q, hj, rfl, rfl, rfl, HP, rfl⟩ := hrel
    have hrr : RB (w.drewN q) B A o := hr
    rcases Nat.lt_or_ge j n with c1 | c1
    · obtain ⟨b, off, rfl, hbB, e0⟩ := RB.at_ hr (k := j) (by rw [HN.out]; exact c1)
      have a0 := hb.at_ j
      change w.cell? ⟨b, off + j, none⟩ = some (.int .u8 (at8 o j)) at e0
      change 0 ≤ at8 o j ∧ at8 o j < 256 at a0
      obtain ⟨x, hx⟩ : ∃ x, at8 o j = x := ⟨_, rfl⟩
      rw [hx] at e0 a0
      have HX := Lib.hid hx
      clear hx
      rcases (by omega : x = 0 ∨ x = 1 ∨ 2 ≤ x) with rfl | rfl | hx2
      · have HE := Lib.hid (HP.out.symm.trans (parse_zero (by rw [HN.out]; exact c1) HX.out))
        go_wp2
        go_ret3
        exact .inl ⟨m, k, q, HE.out, rfl, rfl⟩
      · have HP2 : Hid (parse o (j + 1) m k = R) := Lib.hid ((parse_one (by rw [HN.out]; exact c1) HX.out).symm.trans HP.out)
        go_wp2
        go_roundw
        case rel => exact ⟨j + 1, m, k, q, by omega, by go_num, rfl, rfl, HP2, rfl⟩
        case measure => simp [intOf]; omega
      · have tx0 : (x == 0) = false := by simp; omega
        have tx0' : (x != 0) = true := by simp; omega
        have tx1 : (x == 1) = false := by simp; omega
        rcases Nat.lt_or_ge (j + 1) n with c2 | c2
        · obtain ⟨b', off', eb, _, e1⟩ := RB.at_ hr (k := j + 1) (by rw [HN.out]; exact c2)
          injection eb with eb; injection eb with eb1 eb2; subst eb1; subst eb2
          have a1 := hb.at_ (j + 1)
          change w.cell? ⟨b, off + (j + 1), none⟩ = some (.int .u8 (at8 o (j + 1))) at e1
          change 0 ≤ at8 o (j + 1) ∧ at8 o (j + 1) < 256 at a1
          obtain ⟨y, hy⟩ : ∃ y : Nat, at8 o (j + 1) = y := ⟨(at8 o (j + 1)).toNat, by omega⟩
          rw [hy] at e1 a1
          have HY := Lib.hid hy
          clear hy
          have hn1 : (j : Int) + 1 < n := by omega
          rcases (by omega : y < 2 ∨ (2 ≤ y ∧ n < j + y) ∨ (2 ≤ y ∧ j + y ≤ n)) with c3 | ⟨c3, c4⟩ | ⟨c3, c4⟩
          · have HE := Lib.hid (HP.out.symm.trans (parse_bad (by rw [HN.out]; exact c1) (by rw [HX.out]; exact hx2) (.inr (.inl (by rw [HY.out]; omega)))))
            go_wp2
            go_ret3
            exact .inr ⟨q, HE.out, rfl, rfl⟩
          · have HE := Lib.hid (HP.out.symm.trans (parse_bad (by rw [HN.out]; exact c1) (by rw [HX.out]; exact hx2) (.inr (.inr (by rw [HY.out, HN.out]; simp; omega)))))
            go_wp2
            go_ret3
            exact .inr ⟨q, HE.out, rfl, rfl⟩
          · rcases (by omega : x = 2 ∨ x = 3 ∨ 4 ≤ x) with rfl | rfl | hx4
            · rcases (by omega : y = 4 ∨ y ≠ 4) with rfl | c5
              · have hP2 := HP.out.symm.trans (parse_two (o := o) (i := j) (m := m) (k := k) (by rw [HN.out]; exact c2) HX.out HY.out (by rw [HN.out]; exact c4))
                have HP2 := Lib.hid hP2.symm
                have hrd := rd2_bd hb (j + 2)
                clear hP2
                go_wp2_with fail
                refine (get2_i _ _ n c B o (j + 2) (by omega) HN.out (by omega) (by omega) hb _ (by exact hrr)).mono ?_
                rintro e w' ⟨rfl, q2, rfl⟩
                go_wp2
                go_roundw
                case rel => exact ⟨j + 4, rd2 o (j + 2), k, q + q2, by omega, by go_num, rfl, rfl, HP2, rfl⟩
                case measure => simp [intOf]; omega
              · have HE := Lib.hid (HP.out.symm.trans (parse_two_no (by rw [HN.out]; exact c2) HX.out (by rw [HY.out]; omega) (by rw [HY.out, HN.out]; simp; omega) (by rw [HY.out]; omega)))
                have ty : ((y : Int) != 4) = true := by simp; omega
                go_wp2
                go_ret3
                exact .inr ⟨q, HE.out, rfl, rfl⟩
            · rcases (by omega : y = 3 ∨ y ≠ 3) with rfl | c5
              · obtain ⟨b', off', eb, _, e2⟩ := RB.at_ hr (k := j + 2) (by rw [HN.out]; omega)
                injection eb with eb; injection eb with eb1 eb2; subst eb1; subst eb2
                have a2 := hb.at_ (j + 2)
                change w.cell? ⟨b, off + (j + 2), none⟩ = some (.int .u8 (at8 o (j + 2))) at e2
                change 0 ≤ at8 o (j + 2) ∧ at8 o (j + 2) < 256 at a2
                have hP2 := HP.out.symm.trans (parse_three (o := o) (i := j) (m := m) (k := k) (by rw [HN.out]; exact c2) HX.out HY.out (by rw [HN.out]; exact c4))
                obtain ⟨x2, h2⟩ : ∃ v, at8 o (j + 2) = v := ⟨_, rfl⟩
                rw [h2] at hP2
                rw [h2] at e2 a2
                have HP2 := Lib.hid hP2.symm
                clear h2 hP2
                rcases (by omega : x2 < 14 ∨ 14 ≤ x2) with c6 | c6
                · have hm : min 14 x2 = x2 := by omega
                  rw [hm] at HP2
                  clear hm
                  go_wp2
                  go_roundw
                  case rel => exact ⟨j + 3, m, x2, q, by omega, by go_num, rfl, rfl, HP2, rfl⟩
                  case measure => simp [intOf]; omega
                · have hm : min 14 x2 = 14 := by omega
                  rw [hm] at HP2
                  clear hm
                  go_wp2
                  go_roundw
                  case rel => exact ⟨j + 3, m, 14, q, by omega, by go_num, rfl, rfl, HP2, rfl⟩
                  case measure => simp [intOf]; omega
              · have HE := Lib.hid (HP.out.symm.trans (parse_three_no (by rw [HN.out]; exact c2) HX.out (by rw [HY.out]; omega) (by rw [HY.out, HN.out]; simp; omega) (by rw [HY.out]; omega)))
                have ty : ((y : Int) != 3) = true := by simp; omega
                go_wp2
                go_ret3
                exact .inr ⟨q, HE.out, rfl, rfl⟩
            · have tx2 : (x == 2) = false := by simp; omega
              have tx3 : (x == 3) = false := by simp; omega
              have hP2 := HP.out.symm.trans (parse_other (o := o) (i := j) (m := m) (k := k) (by rw [HN.out]; exact c2) (by rw [HX.out]; exact hx4) (by rw [HY.out]; omega) (by rw [HY.out, HN.out]; simp; omega))
              rw [HY.out, Int.toNat_natCast] at hP2
              have HP2 := Lib.hid hP2.symm
              clear hP2
              go_wp2
              go_roundw
              case rel => exact ⟨j + y, m, k, q, by omega, by go_num, rfl, rfl, HP2, rfl⟩
              case measure => simp [intOf]; omega
        · have HE := Lib.hid (HP.out.symm.trans (parse_bad (by rw [HN.out]; exact c1) (by rw [HX.out]; exact hx2) (.inl (by rw [HN.out]; exact c2))))
          go_wp2
          go_ret3
          exact .inr ⟨q, HE.out, rfl, rfl⟩
    · have HE := Lib.hid (HP.out.symm.trans (parse_end (by rw [HN.out]; exact c1)))
      go_wp2
      go_ret3
      exact .inl ⟨m, k, q, HE.out, rfl, rfl⟩
end Go.Proofs.Ytifeomdmbjinoaa
