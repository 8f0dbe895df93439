/- Proved: whether a packet's options are well made, by ipv4.good and by the reference's Options, each by its walk. Conditions: the options lie in memory. -/
import Derived.Test.YtcjkhonapafndaaSum
import Derived.LoopTactic
import Derived.WalkMore
import Derived.Deep.LoopGhost
set_option linter.unusedVariables false
set_option linter.unusedSimpArgs false
namespace Go.Proofs.Ytcjkhonapafndaa
open Go.RowKit

/-- The byte at a place. -/
def b8 (l : List Int) (i : Nat) : Int := l[i]?.getD 0
theorem b8_bd {l : List Int} (h : Bs l) (i : Nat) : 0 ≤ b8 l i ∧ b8 l i < 256 := h.at_ i
def zeros (l : List Int) (i : Nat) : Bool := (l.drop i).all fun x => decide (x = 0)
theorem zeros_step {l : List Int} {i : Nat} (h : i < l.length) : zeros l i = (decide (b8 l i = 0) && zeros l (i + 1)) := by
  unfold zeros b8
  rw [List.drop_eq_getElem_cons h, List.getElem?_eq_getElem h]
  rfl
theorem zeros_end {l : List Int} {i : Nat} (h : l.length ≤ i) : zeros l i = true := by
  unfold zeros
  rw [List.drop_eq_nil_of_le h]; rfl
/-- Options from a place on. -/
def goodF : Nat → List Int → Nat → Bool
  | 0, _, _ => true
  | k + 1, l, i => if i < l.length then
      (if b8 l i = 0 then zeros l i else if b8 l i = 1 then goodF k l (i + 1)
       else if l.length ≤ i + 1 ∨ b8 l (i + 1) < 2 ∨ (l.length : Int) < i + b8 l (i + 1) then false else goodF k l (i + (b8 l (i + 1)).toNat)) else true
def goodO (l : List Int) : Bool := goodF (l.length + 1) l 0
theorem goodF_end {k : Nat} {l : List Int} {i : Nat} (h : l.length ≤ i) : goodF k l i = true := by
  cases k with
  | zero => rfl
  | succ k => unfold goodF; rw [if_neg (by omega)]
theorem goodF_zero {k : Nat} {l : List Int} {i : Nat} (h : i < l.length) (h0 : b8 l i = 0) : goodF (k + 1) l i = zeros l i := by
  rw [goodF, if_pos h, if_pos h0]
theorem goodF_one {k : Nat} {l : List Int} {i : Nat} (h : i < l.length) (h1 : b8 l i = 1) : goodF (k + 1) l i = goodF k l (i + 1) := by
  rw [goodF, if_pos h, if_neg (by omega), if_pos h1]
theorem goodF_bad {k : Nat} {l : List Int} {i : Nat} (h : i < l.length) (h0 : b8 l i ≠ 0) (h1 : b8 l i ≠ 1) (h2 : l.length ≤ i + 1 ∨ b8 l (i + 1) < 2 ∨ (l.length : Int) < i + b8 l (i + 1)) : goodF (k + 1) l i = false := by
  rw [goodF, if_pos h, if_neg h0, if_neg h1, if_pos h2]
theorem goodF_more {k : Nat} {l : List Int} {i : Nat} (h : i < l.length) (h0 : b8 l i ≠ 0) (h1 : b8 l i ≠ 1) (h2 : i + 1 < l.length) (h3 : 2 ≤ b8 l (i + 1)) (h4 : (i : Int) + b8 l (i + 1) ≤ l.length) : goodF (k + 1) l i = goodF k l (i + (b8 l (i + 1)).toNat) := by
  rw [goodF, if_pos h, if_neg h0, if_neg h1, if_neg (by omega)]

set_option maxHeartbeats 4000000 in
set_option maxRecDepth 100000 in
theorem good_any (A : Option Addr) (n c B : Nat) (l : List Int) (hn : l.length = n) (hc : n ≤ c) (hmax : n ≤ 140737488355328) (hb : Bs l) (w : World) (hr : RB w B A l) :
    Calls Try.prog 56 #[.slice A n c] w fun e w' => e = .returned (.bool (goodO l)) ∧ w = w' := by
  have HN := Lib.hid hn
  obtain ⟨R, hR⟩ : ∃ R, goodO l = R := ⟨_, rfl⟩
  rw [hR]
  have HR := Lib.hid hR
  clear hn hR
  go_enter Try.func56, Try.ntmps56
  go_wp2
  go_step3
  go_wp2
  go_step3
  go_wp2
  go_loop [3] (fun i => ∃ j f : Nat, j ≤ n ∧ i = .int .i64 j ∧ Hid (goodF f l j = R) ∧ n ≤ j + f) (fun i => n - (intOf i).toNat)
  case atStart => exact ⟨0, n + 1, Nat.zero_le _, rfl, Lib.hid (by rw [← HN.out]; exact HR.out), by omega⟩
  case round =>
    obtain ⟨j, f, hj, rfl, HG, hf⟩ := hrel
    rcases Nat.lt_or_ge j n with c0 | c0
    · obtain ⟨f, rfl⟩ : ∃ f', f = f' + 1 := ⟨f - 1, by omega⟩
      obtain ⟨b, off, rfl, _, hx⟩ := hr.at_ (k := j) (by rw [HN.out]; exact c0)
      have hx0 := b8_bd hb j
      obtain ⟨x, hxx⟩ : ∃ x, b8 l j = x := ⟨_, rfl⟩
      have hx' : w.cell? ⟨b, off + j, none⟩ = some (.int .u8 x) := by rw [← hxx]; exact hx
      rw [hxx] at hx0
      have HX := Lib.hid hxx
      have c1 : (j : Int) < n := by omega
      clear hx hxx
      rcases (by omega : x = 0 ∨ x = 1 ∨ (x ≠ 0 ∧ x ≠ 1)) with rfl | rfl | ⟨d0, d1⟩
      · have HZ : Hid (zeros l j = R) := Lib.hid (by rw [← HG.out]; exact (goodF_zero (by rw [HN.out]; exact c0) HX.out).symm)
        clear HG
        have c2 : (j : Int) ≤ n := by omega
        have c3 : (n : Int) - j = ((n - j : Nat) : Int) := by omega
        go_wp2
        go_loop [54] (fun i => ∃ m : Nat, m ≤ n - j ∧ i = .int .i64 m ∧ Hid (zeros l (j + m) = R)) (fun i => n - (intOf i).toNat)
        case atStart => exact ⟨0, Nat.zero_le _, rfl, HZ⟩
        case round =>
          obtain ⟨m, hm, rfl, HM⟩ := hrel
          rcases Nat.lt_or_ge m (n - j) with e0 | e0
          · obtain ⟨b', off', e', _, hy⟩ := hr.at_ (k := j + m) (by rw [HN.out]; omega)
            injection e' with e'; injection e' with ea eb; subst ea; subst eb
            obtain ⟨y, hyy⟩ : ∃ y, b8 l (j + m) = y := ⟨_, rfl⟩
            have hy' : w.cell? ⟨b, off + j + m, none⟩ = some (.int .u8 y) := by rw [← hyy, Nat.add_assoc]; exact hy
            have HY := Lib.hid hyy
            have HS := Lib.hid (zeros_step (l := l) (i := j + m) (by rw [HN.out]; omega))
            have e1 : (m : Int) < ((n - j : Nat) : Int) := by omega
            clear hy hyy
            rcases Decidable.em (y = 0) with rfl | e2
            · have HM2 : Hid (zeros l (j + (m + 1)) = R) := Lib.hid (by rw [← HM.out, HS.out, HY.out]; simp [Nat.add_assoc])
              clear HS
              go_wp2
              go_round
              case rel => exact ⟨m + 1, by omega, by go_num, HM2⟩
              case measure => simp [intOf]; omega
            · have HT : Hid (R = false) := Lib.hid (by rw [← HM.out, HS.out, HY.out, decide_eq_false e2]; rfl)
              have e3 : (y != 0) = true := by simpa using e2
              clear HS
              go_wp2
              try rw [Exit.noGoto_ret]
              go_ret
              exact ⟨by rw [HT.out]; rfl, rfl⟩
          · have HT : Hid (R = true) := Lib.hid (by rw [← HM.out]; exact zeros_end (by rw [HN.out]; omega))
            have e1 : ¬ (m : Int) < ((n - j : Nat) : Int) := by omega
            go_wp2
            try rw [Exit.noGoto_ret]
            go_ret
            exact ⟨by rw [HT.out]; rfl, rfl⟩
      · have HG2 : Hid (goodF f l (j + 1) = R) := Lib.hid (by rw [← HG.out]; exact (goodF_one (by rw [HN.out]; exact c0) HX.out).symm)
        clear HG
        go_wp2
        go_round
        case rel => exact ⟨j + 1, f, by omega, by go_num, HG2, by omega⟩
        case measure => simp [intOf]; omega
      · rcases (by rw [HN.out]; omega : l.length ≤ j + 1 ∨ j + 1 < n) with e0 | e0
        · have HT : Hid (R = false) := Lib.hid (by rw [← HG.out]; exact goodF_bad (by rw [HN.out]; exact c0) (by rw [HX.out]; exact d0) (by rw [HX.out]; exact d1) (.inl e0))
          have e1 : (n : Int) ≤ j + 1 := by rw [HN.out] at e0; omega
          have e2 : (x == 0) = false := by simpa using d0
          have e3 : (x == 1) = false := by simpa using d1
          clear HG e0
          go_wp2
          try rw [Exit.noGoto_ret]
          go_ret
          exact ⟨by rw [HT.out]; rfl, rfl⟩
        · have e1 : ¬ (n : Int) ≤ j + 1 := by omega
          have e1' : (j : Int) + 1 < n := by omega
          have e2 : (x == 0) = false := by simpa using d0
          have e3 : (x == 1) = false := by simpa using d1
          obtain ⟨b', off', e', _, hy⟩ := hr.at_ (k := j + 1) (by rw [HN.out]; omega)
          injection e' with e'; injection e' with ea eb; subst ea; subst eb
          have hy0 := b8_bd hb (j + 1)
          obtain ⟨y, hyy⟩ : ∃ y, b8 l (j + 1) = y := ⟨_, rfl⟩
          have hy' : w.cell? ⟨b, off + (j + 1), none⟩ = some (.int .u8 y) := by rw [← hyy]; exact hy
          rw [hyy] at hy0
          have hjn : ((j : Int) + 1).toNat = j + 1 := by omega
          have HY := Lib.hid hyy
          clear hy hyy
          rcases (by omega : y < 2 ∨ (2 ≤ y ∧ (n : Int) < j + y) ∨ (2 ≤ y ∧ (j : Int) + y ≤ n)) with f0 | ⟨f0, f1⟩ | ⟨f0, f1⟩
          · have HT : Hid (R = false) := Lib.hid (by rw [← HG.out]; exact goodF_bad (by rw [HN.out]; exact c0) (by rw [HX.out]; exact d0) (by rw [HX.out]; exact d1) (.inr (.inl (by rw [HY.out]; exact f0))))
            have f2 : decide (y < 2) = true := by simpa using f0
            clear HG
            go_wp2
            try rw [Exit.noGoto_ret]
            go_ret
            exact ⟨by rw [HT.out]; rfl, rfl⟩
          · have HT : Hid (R = false) := Lib.hid (by rw [← HG.out]; exact goodF_bad (by rw [HN.out]; exact c0) (by rw [HX.out]; exact d0) (by rw [HX.out]; exact d1) (.inr (.inr (by rw [HY.out, HN.out]; exact f1))))
            have f2 : decide (y < 2) = false := by simp; omega
            clear HG
            go_wp2
            try rw [Exit.noGoto_ret]
            go_ret
            exact ⟨by rw [HT.out]; rfl, rfl⟩
          · have HG2 : Hid (goodF f l (j + y.toNat) = R) := Lib.hid (by
              rw [← HG.out, goodF_more (by rw [HN.out]; exact c0) (by rw [HX.out]; exact d0) (by rw [HX.out]; exact d1) (by rw [HN.out]; exact e0) (by rw [HY.out]; exact f0) (by rw [HY.out, HN.out]; exact f1), HY.out])
            have f2 : decide (y < 2) = false := by simp; omega
            have f3 : ¬ (n : Int) < j + y := by omega
            have f4 : (j : Int) + y = ((j + y.toNat : Nat) : Int) := by omega
            clear HG
            go_wp2
            go_round
            case rel => exact ⟨j + y.toNat, f, by omega, by first | (rw [f4]) | go_num, HG2, by omega⟩
            case measure => simp [intOf]; omega
    · have HT : Hid (R = true) := Lib.hid (by rw [← HG.out]; exact goodF_end (by rw [HN.out]; exact c0))
      have c1 : ¬ (j : Int) < n := by omega
      go_wp2
      try rw [Exit.noGoto_ret]
      go_ret
      exact ⟨by rw [HT.out]; rfl, rfl⟩
set_option maxHeartbeats 4000000 in
set_option maxRecDepth 100000 in
theorem ropt_any (A : Option Addr) (n c B : Nat) (l : List Int) (hn : l.length = n) (hc : n ≤ c) (hmax : n ≤ 140737488355328) (hb : Bs l) (w : World) (hr : RB w B A l) :
    Calls Try.prog 55 #[.slice A n c] w fun e w' => e = .returned (.bool (goodO l)) ∧ w = w' := by
  have HN := Lib.hid hn
  obtain ⟨R, hR⟩ : ∃ R, goodO l = R := ⟨_, rfl⟩
  rw [hR]
  have HR := Lib.hid hR
  clear hn hR
  go_enter Try.func55, Try.ntmps55
  go_wp2
  go_loop [3] (fun i => ∃ j f : Nat, j ≤ n ∧ i = .int .i64 j ∧ Hid (goodF f l j = R) ∧ n ≤ j + f) (fun i => n - (intOf i).toNat)
  case atStart => exact ⟨0, n + 1, Nat.zero_le _, rfl, Lib.hid (by rw [← HN.out]; exact HR.out), by omega⟩
  case round =>
    obtain ⟨j, f, hj, rfl, HG, hf⟩ := hrel
    rcases Nat.lt_or_ge j n with c0 | c0
    · obtain ⟨f, rfl⟩ : ∃ f', f = f' + 1 := ⟨f - 1, by omega⟩
      obtain ⟨b, off, rfl, _, hx⟩ := hr.at_ (k := j) (by rw [HN.out]; exact c0)
      have hx0 := b8_bd hb j
      obtain ⟨x, hxx⟩ : ∃ x, b8 l j = x := ⟨_, rfl⟩
      have hx' : w.cell? ⟨b, off + j, none⟩ = some (.int .u8 x) := by rw [← hxx]; exact hx
      rw [hxx] at hx0
      have HX := Lib.hid hxx
      have c1 : (j : Int) < n := by omega
      clear hx hxx
      rcases (by omega : x = 0 ∨ x = 1 ∨ (x ≠ 0 ∧ x ≠ 1)) with rfl | rfl | ⟨d0, d1⟩
      · have HZ : Hid (zeros l j = R) := Lib.hid (by rw [← HG.out]; exact (goodF_zero (by rw [HN.out]; exact c0) HX.out).symm)
        clear HG
        have c2 : (j : Int) ≤ n := by omega
        have c3 : (n : Int) - j = ((n - j : Nat) : Int) := by omega
        go_wp2
        go_loop [4] (fun i => ∃ m : Nat, j ≤ m ∧ m ≤ n ∧ i = .int .i64 m ∧ Hid (zeros l m = R)) (fun i => n - (intOf i).toNat)
        case atStart => exact ⟨j, Nat.le_refl _, hj, rfl, HZ⟩
        case round =>
          obtain ⟨m, hjm, hm, rfl, HM⟩ := hrel
          rcases Nat.lt_or_ge m n with e0 | e0
          · obtain ⟨b', off', e', _, hy⟩ := hr.at_ (k := m) (by rw [HN.out]; omega)
            injection e' with e'; injection e' with ea eb; subst ea; subst eb
            obtain ⟨y, hyy⟩ : ∃ y, b8 l m = y := ⟨_, rfl⟩
            have hy' : w.cell? ⟨b, off + m, none⟩ = some (.int .u8 y) := by rw [← hyy]; exact hy
            have HY := Lib.hid hyy
            have HS := Lib.hid (zeros_step (l := l) (i := m) (by rw [HN.out]; omega))
            have e1 : (m : Int) < n := by omega
            clear hy hyy
            rcases Decidable.em (y = 0) with rfl | e2
            · have HM2 : Hid (zeros l (m + 1) = R) := Lib.hid (by rw [← HM.out, HS.out, HY.out]; simp)
              clear HS
              go_wp2
              go_round
              case rel => exact ⟨m + 1, by omega, by omega, by go_num, HM2⟩
              case measure => simp [intOf]; omega
            · have HT : Hid (R = false) := Lib.hid (by rw [← HM.out, HS.out, HY.out, decide_eq_false e2]; rfl)
              have e3 : (y != 0) = true := by simpa using e2
              clear HS
              go_wp2
              go_ret
              exact ⟨by rw [HT.out]; rfl, rfl⟩
          · have HT : Hid (R = true) := Lib.hid (by rw [← HM.out]; exact zeros_end (by rw [HN.out]; omega))
            have e1 : ¬ (m : Int) < n := by omega
            go_wp2
            skip
            go_ret
            exact ⟨by rw [HT.out]; rfl, rfl⟩
      · have HG2 : Hid (goodF f l (j + 1) = R) := Lib.hid (by rw [← HG.out]; exact (goodF_one (by rw [HN.out]; exact c0) HX.out).symm)
        clear HG
        go_wp2
        go_round
        case rel => exact ⟨j + 1, f, by omega, by go_num, HG2, by omega⟩
        case measure => simp [intOf]; omega
      · rcases (by rw [HN.out]; omega : l.length ≤ j + 1 ∨ j + 1 < n) with e0 | e0
        · have HT : Hid (R = false) := Lib.hid (by rw [← HG.out]; exact goodF_bad (by rw [HN.out]; exact c0) (by rw [HX.out]; exact d0) (by rw [HX.out]; exact d1) (.inl e0))
          have e1 : (n : Int) ≤ j + 1 := by rw [HN.out] at e0; omega
          have e2 : (x == 0) = false := by simpa using d0
          have e3 : (x == 1) = false := by simpa using d1
          clear HG e0
          go_wp2
          skip
          go_ret
          exact ⟨by rw [HT.out]; rfl, rfl⟩
        · have e1 : ¬ (n : Int) ≤ j + 1 := by omega
          have e1' : (j : Int) + 1 < n := by omega
          have e2 : (x == 0) = false := by simpa using d0
          have e3 : (x == 1) = false := by simpa using d1
          obtain ⟨b', off', e', _, hy⟩ := hr.at_ (k := j + 1) (by rw [HN.out]; omega)
          injection e' with e'; injection e' with ea eb; subst ea; subst eb
          have hy0 := b8_bd hb (j + 1)
          obtain ⟨y, hyy⟩ : ∃ y, b8 l (j + 1) = y := ⟨_, rfl⟩
          have hy' : w.cell? ⟨b, off + (j + 1), none⟩ = some (.int .u8 y) := by rw [← hyy]; exact hy
          rw [hyy] at hy0
          have hjn : ((j : Int) + 1).toNat = j + 1 := by omega
          have HY := Lib.hid hyy
          clear hy hyy
          rcases (by omega : y < 2 ∨ (2 ≤ y ∧ (n : Int) < j + y) ∨ (2 ≤ y ∧ (j : Int) + y ≤ n)) with f0 | ⟨f0, f1⟩ | ⟨f0, f1⟩
          · have HT : Hid (R = false) := Lib.hid (by rw [← HG.out]; exact goodF_bad (by rw [HN.out]; exact c0) (by rw [HX.out]; exact d0) (by rw [HX.out]; exact d1) (.inr (.inl (by rw [HY.out]; exact f0))))
            have f2 : decide (y < 2) = true := by simpa using f0
            clear HG
            go_wp2
            skip
            go_ret
            exact ⟨by rw [HT.out]; rfl, rfl⟩
          · have HT : Hid (R = false) := Lib.hid (by rw [← HG.out]; exact goodF_bad (by rw [HN.out]; exact c0) (by rw [HX.out]; exact d0) (by rw [HX.out]; exact d1) (.inr (.inr (by rw [HY.out, HN.out]; exact f1))))
            have f2 : decide (y < 2) = false := by simp; omega
            clear HG
            go_wp2
            skip
            go_ret
            exact ⟨by rw [HT.out]; rfl, rfl⟩
          · have HG2 : Hid (goodF f l (j + y.toNat) = R) := Lib.hid (by
              rw [← HG.out, goodF_more (by rw [HN.out]; exact c0) (by rw [HX.out]; exact d0) (by rw [HX.out]; exact d1) (by rw [HN.out]; exact e0) (by rw [HY.out]; exact f0) (by rw [HY.out, HN.out]; exact f1), HY.out])
            have f2 : decide (y < 2) = false := by simp; omega
            have f3 : ¬ (n : Int) < j + y := by omega
            have f4 : (j : Int) + y = ((j + y.toNat : Nat) : Int) := by omega
            clear HG
            go_wp2
            go_round
            case rel => exact ⟨j + y.toNat, f, by omega, by first | (rw [f4]) | go_num, HG2, by omega⟩
            case measure => simp [intOf]; omega
    · have HT : Hid (R = true) := Lib.hid (by rw [← HG.out]; exact goodF_end (by rw [HN.out]; exact c0))
      have c1 : ¬ (j : Int) < n := by omega
      go_wp2
      skip
      go_ret
      exact ⟨by rw [HT.out]; rfl, rfl⟩
end Go.Proofs.Ytcjkhonapafndaa
