/- Proved: Wait, Back, Calm and Seen of clock.Clock and of its reference, each by its walk. Conditions: the clock is a block of the caller's own, its numbers within their bounds. -/
import Derived.Test.YtdgacljllbiddaaWalks
set_option linter.unusedVariables false
namespace Go.Proofs.Ytdgacljllbiddaa
open Go.RowKit

/-- What is waited ahead of any doubling. -/
def baseF (s : Bool) (sm vy : Int) : Int := match s with | true => max 10 (min 600 (sm / 8 + max 1 vy)) | false => 30
/-- k times doubled, up to the most. -/
def dblN : Nat → Int → Int
  | 0, x => x
  | k + 1, x => min 600 (2 * dblN k x)
theorem baseF_bd (s : Bool) (sm vy : Int) : 10 ≤ baseF s sm vy ∧ baseF s sm vy ≤ 600 := by
  cases s <;> simp only [baseF] <;> omega
theorem dblN_bd {x : Int} (h : 10 ≤ x ∧ x ≤ 600) : ∀ k, 10 ≤ dblN k x ∧ dblN k x ≤ 600
  | 0 => h
  | k + 1 => by have := dblN_bd h k; simp only [dblN]; omega
theorem dblN_top {x : Int} {k : Nat} (h : dblN k x = 600) : ∀ j, dblN (k + j) x = 600
  | 0 => h
  | j + 1 => by have := dblN_top h j; rw [← Nat.add_assoc]; simp only [dblN]; omega
theorem dblN_top' {x : Int} {k m : Nat} (h : dblN k x = 600) (hk : k ≤ m) : dblN m x = 600 := by
  have := dblN_top h (m - k); rwa [show k + (m - k) = m from by omega] at this
theorem drewN_add (w : World) (a b : Nat) : (w.drewN a).drewN b = w.drewN (a + b) := by
  unfold World.drewN; simp [Nat.add_assoc]

theorem wait_any (g : Nat) (s : Bool) (sm vy : Int) (bk : Nat) (hok : CkOk s sm vy) (hbk : bk ≤ 1000) (w : World) (hb : Ck 25 w g s sm vy bk) :
    Calls Try.prog 9 #[.pointer (some ⟨g, 0, none⟩)] w fun e w' => e = .returned (.int .i64 (dblN bk (baseF s sm vy))) ∧ ∃ k, w' = w.drewN k := by
  have c0 := hb.cell 0
  have c1 := hb.cell 1
  have c2 := hb.cell 2
  have c3 := hb.cell 3
  simp only [List.getElem?_toArray, List.getElem?_cons_zero, List.getElem?_cons_succ] at c0 c1 c2 c3
  cases s
  case false =>
    go_enter Try.func9, Try.ntmps9
    go_wp2
    go_loop [3, 4] (fun v i => ∃ k : Nat, k ≤ bk ∧ i = .int .i64 k ∧ v = .int .i64 (dblN k 30)) (fun _ i => bk - (intOf i).toNat)
    case atStart => exact ⟨0, Nat.zero_le _, rfl, rfl⟩
    case round =>
      obtain ⟨k, hk, rfl, rfl⟩ := hrel
      have hd := dblN_bd (x := 30) (by omega) k
      rcases (by omega : bk ≤ k ∨ (k < bk ∧ 600 ≤ dblN k 30) ∨ (k < bk ∧ dblN k 30 < 600)) with c | ⟨c, c'⟩ | ⟨c, c'⟩
      · go_wp2
        go_ret
        exact ⟨by rw [show bk = k from by omega]; rfl, 0, rfl⟩
      · go_wp2
        go_ret
        exact ⟨by rw [show dblN k 30 = 600 from by omega]; rw [baseF, dblN_top' (k := k) (m := bk) (by omega) (by omega)]; rfl, 0, rfl⟩
      · go_wp2
        go_round
        case rel => exact ⟨k + 1, by omega, by go_num, by rw [dblN]; go_num⟩
        case measure => simp [intOf]; omega
  case true =>
    simp only [CkOk] at hok
    obtain ⟨k0, k1, k2, k3⟩ := hok
    have hB := baseF_bd true sm vy
    obtain ⟨x, hx⟩ : ∃ x, baseF true sm vy = x := ⟨_, rfl⟩
    rw [hx] at hB ⊢
    have Hx := Lib.hid hx
    clear hx
    go_enter Try.func9, Try.ntmps9
    go_wp2
    go_quiet (fail)
    rw [show (if 10 < if (sm / 8 + if 1 < vy then vy else 1) < 600 then sm / 8 + if 1 < vy then vy else 1 else 600 then if (sm / 8 + if 1 < vy then vy else 1) < 600 then sm / 8 + if 1 < vy then vy else 1 else 600 else 10) = x from by
      rw [← Hx.out, baseF]; repeat' split
      all_goals omega]
    generalize (if (sm / 8 + if 1 < vy then vy else 1) < 600 then sm / 8 + if 1 < vy then vy else 1 else 600) = p1
    generalize (sm / 8 + if 1 < vy then vy else 1) = p2
    generalize (if 1 < vy then vy else 1) = p3
    go_wp2
    go_loop [3, 4] (fun v i => ∃ k : Nat, k ≤ bk ∧ i = .int .i64 k ∧ v = .int .i64 (dblN k x)) (fun _ i => bk - (intOf i).toNat)
    case atStart => exact ⟨0, Nat.zero_le _, rfl, rfl⟩
    case round =>
      obtain ⟨k, hk, rfl, rfl⟩ := hrel
      have hd := dblN_bd hB k
      rcases (by omega : bk ≤ k ∨ (k < bk ∧ 600 ≤ dblN k x) ∨ (k < bk ∧ dblN k x < 600)) with c | ⟨c, c'⟩ | ⟨c, c'⟩
      · go_wp2
        go_ret
        exact ⟨by rw [show bk = k from by omega]; rfl, _, rfl⟩
      · go_wp2
        go_ret
        exact ⟨by rw [show dblN k x = 600 from by omega]; rw [dblN_top' (k := k) (m := bk) (by omega) (by omega)]; rfl, _, rfl⟩
      · go_wp2
        go_round
        case rel => exact ⟨k + 1, by omega, by go_num, by rw [dblN]; go_num⟩
        case measure => simp [intOf]; omega

theorem grownBy_drewN {w w' : World} {row : Option Nat} (h : w.grownBy w' row) (k : Nat) : w.grownBy (w'.drewN k) row := ⟨h.os, h.tape, h.output, h.size, h.block⟩
theorem dblN_six {x : Int} (h : 10 ≤ x ∧ x ≤ 600) : dblN 6 x = 600 := by simp only [dblN]; omega
theorem dblN_lt {x : Int} (h : 10 ≤ x ∧ x ≤ 600) {k : Nat} (hk : dblN k x < 600) : k < 6 := by
  rcases Nat.lt_or_ge k 6 with c | c
  · exact c
  · have := dblN_top' (dblN_six h) c; omega
def backF (bk : Nat) (x : Int) : Nat := if dblN bk x < 600 then bk + 1 else bk

theorem back_any (g : Nat) (s : Bool) (sm vy : Int) (bk : Nat) (hok : CkOk s sm vy) (hbk : bk ≤ 6) (w : World) (hb : Ck 25 w g s sm vy bk) :
    Calls Try.prog 10 #[.pointer (some ⟨g, 0, none⟩)] w fun e w' => e = .returned (.tuple #[]) ∧ Ck 25 w' g s sm vy (backF bk (baseF s sm vy)) ∧ w.grownBy w' (some g) := by
  have c3 := hb.cell 3
  have f3 := hb.frozen 3
  simp only [List.getElem?_toArray, List.getElem?_cons_zero, List.getElem?_cons_succ] at c3
  have hB := baseF_bd s sm vy
  have hd := dblN_bd hB bk
  obtain ⟨x, hx⟩ : ∃ x, dblN bk (baseF s sm vy) = x := ⟨_, rfl⟩
  have hbf : backF bk (baseF s sm vy) = if x < 600 then bk + 1 else bk := by rw [backF, hx]
  have hwt := wait_any g s sm vy bk hok (by omega) w hb
  rw [hx] at hd hwt
  rw [hbf]
  have Hx := Lib.hid hx
  clear hx hbf
  rcases (by omega : x < 600 ∨ 600 ≤ x) with c | c
  · rw [if_pos c]
    go_enter Try.func10, Try.ntmps10
    go_wp2_with (go_at_call 9; refine hwt.mono ?_; rintro e w' ⟨rfl, k, rfl⟩)
    go_end0
    exact ⟨rfl, Ck.eq ((hb.drewN k).set 3 _) rfl rfl rfl (by omega), grownBy_setCell (grownBy_drewN (World.grownBy.refl w _) k) (by exact .inl rfl) _⟩
  · rw [if_neg (by omega)]
    go_enter Try.func10, Try.ntmps10
    go_wp2_with (go_at_call 9; refine hwt.mono ?_; rintro e w' ⟨rfl, k, rfl⟩)
    go_end0
    exact ⟨rfl, hb.drewN k, grownBy_drewN (World.grownBy.refl w _) k⟩

theorem calm_any (g : Nat) (s : Bool) (sm vy bk : Int) (w : World) (hb : Ck 25 w g s sm vy bk) :
    Calls Try.prog 11 #[.pointer (some ⟨g, 0, none⟩)] w fun e w' => e = .returned (.tuple #[]) ∧ Ck 25 w' g s sm vy 0 ∧ w.grownBy w' (some g) := by
  have c3 := hb.cell 3
  have f3 := hb.frozen 3
  simp only [List.getElem?_toArray, List.getElem?_cons_zero, List.getElem?_cons_succ] at c3
  go_enter Try.func11, Try.ntmps11
  go_wp2
  go_end0
  exact ⟨rfl, hb.set 3 _, grownBy_setCell (World.grownBy.refl w _) (by exact .inl rfl) _⟩

theorem seen_any (g : Nat) (s : Bool) (sm vy bk : Int) (w : World) (hb : Ck 25 w g s sm vy bk) :
    Calls Try.prog 12 #[.pointer (some ⟨g, 0, none⟩)] w fun e w' => e = .returned (.tuple #[.int .i64 sm, .int .i64 vy]) ∧ ∃ k, w' = w.drewN k := by
  have c1 := hb.cell 1
  have c2 := hb.cell 2
  simp only [List.getElem?_toArray, List.getElem?_cons_zero, List.getElem?_cons_succ] at c1 c2
  go_enter Try.func12, Try.ntmps12
  go_wp2
  go_quiet (fail)
  go_wp2
  go_ret2
  exact ⟨rfl, _, rfl⟩

/-! THE REFERENCE -/
theorem rsample_new (g : Nat) (bk t : Int) (w : World) (hb : Ck 35 w g false 0 0 bk) :
    Calls Try.prog 13 #[.pointer (some ⟨g, 0, none⟩), .int .i64 t] w fun e w' => e = .returned (.tuple #[]) ∧ Ck 35 w' g true (8 * clampR t) (2 * clampR t) 0 ∧ w.grownBy w' (some g) := by
  have c0 := hb.cell 0
  have c1 := hb.cell 1
  have c2 := hb.cell 2
  have c3 := hb.cell 3
  have f0 := hb.frozen 0
  have f1 := hb.frozen 1
  have f2 := hb.frozen 2
  have f3 := hb.frozen 3
  simp only [List.getElem?_toArray, List.getElem?_cons_zero, List.getElem?_cons_succ] at c0 c1 c2 c3
  rcases (by omega : t ≤ 1 ∨ (1 < t ∧ t < 1048576) ∨ 1048576 ≤ t) with d | ⟨d, d'⟩ | d
  all_goals
    go_enter Try.func13, Try.ntmps13
    go_wp2
    all_goals refine bodyPost_ret (results_none rfl _ _ _) rfl ?_
    all_goals exact ⟨rfl, Ck.eq ((((hb.set 3 _).set 0 _).set 1 _).set 2 _) rfl (by unfold clampR; omega) (by unfold clampR; omega) rfl,
      grownBy_setCell (grownBy_setCell (grownBy_setCell (grownBy_setCell (World.grownBy.refl w _) (by exact .inl rfl) _) (by exact .inl rfl) _) (by exact .inl rfl) _) (by exact .inl rfl) _⟩

set_option maxHeartbeats 1000000 in
theorem rsample_old (g : Nat) (sm vy bk t : Int) (hok : CkOk true sm vy) (w : World) (hb : Ck 35 w g true sm vy bk) :
    Calls Try.prog 13 #[.pointer (some ⟨g, 0, none⟩), .int .i64 t] w fun e w' => e = .returned (.tuple #[]) ∧ Ck 35 w' g true (smF true sm t) (vyF true sm vy t) 0 ∧ w.grownBy w' (some g) := by
  have c0 := hb.cell 0
  have c1 := hb.cell 1
  have c2 := hb.cell 2
  have c3 := hb.cell 3
  have f0 := hb.frozen 0
  have f1 := hb.frozen 1
  have f2 := hb.frozen 2
  have f3 := hb.frozen 3
  simp only [List.getElem?_toArray, List.getElem?_cons_zero, List.getElem?_cons_succ] at c0 c1 c2 c3
  simp only [CkOk] at hok
  obtain ⟨k0, k1, k2, k3⟩ := hok
  have W1 : IntKind.i64.wrap (-(1 - sm / 8)) = -(1 - sm / 8) := IntWalk.i64_in _ (by omega)
  have W2 : IntKind.i64.wrap (-(1048576 - sm / 8)) = -(1048576 - sm / 8) := IntWalk.i64_in _ (by omega)
  have W3 : 1 ≤ t → t ≤ 1048576 → IntKind.i64.wrap (-(t - sm / 8)) = -(t - sm / 8) := fun _ _ => IntWalk.i64_in _ (by omega)
  rcases (by omega : (t ≤ 1 ∧ 1 - sm / 8 < -(1 - sm / 8)) ∨ (t ≤ 1 ∧ -(1 - sm / 8) ≤ 1 - sm / 8) ∨ (1 < t ∧ t < 1048576 ∧ t - sm / 8 < -(t - sm / 8)) ∨ (1 < t ∧ t < 1048576 ∧ -(t - sm / 8) ≤ t - sm / 8) ∨ (1048576 < t ∧ 1048576 - sm / 8 < -(1048576 - sm / 8)) ∨ (1048576 < t ∧ -(1048576 - sm / 8) ≤ 1048576 - sm / 8) ∨ (t = 1048576 ∧ t - sm / 8 < -(t - sm / 8)) ∨ (t = 1048576 ∧ -(t - sm / 8) ≤ t - sm / 8)) with ⟨d, e⟩ | ⟨d, e⟩ | ⟨d, d', e⟩ | ⟨d, d', e⟩ | ⟨d, e⟩ | ⟨d, e⟩ | ⟨rfl, e⟩ | ⟨rfl, e⟩
  all_goals try (exfalso; omega)
  all_goals
    try have W3 := W3 (by omega) (by omega)
    go_enter Try.func13, Try.ntmps13
    go_wp2
    refine wp_region_still_tail 18 (by kernel_rfl) (by kernel_rfl) ?_
    change wpStill _ _ (World.drew _) (fun a' => wpList _ _ _ _ a' (World.drew _)) _ _
    simp only [List.take_succ_cons, List.take_zero, List.drop_succ_cons, List.drop_zero]
    repeat still_step
    try refine wpStill_nil ?_
    go_wp2
    go_end0
    refine ⟨rfl, Ck.eq (((hb.set 3 _).set 1 _).set 2 _).drew rfl ?_ ?_ rfl, ?_⟩
    · simp only [smF, clampR]; omega
    · simp only [vyF, clampR]; omega
    · exact grownBy_drew (grownBy_setCell (grownBy_setCell (grownBy_setCell (World.grownBy.refl w _) (by exact .inl rfl) _) (by exact .inl rfl) _) (by exact .inl rfl) _)

theorem rback_any (g : Nat) (s : Bool) (sm vy : Int) (bk : Nat) (hbk : bk ≤ 64) (w : World) (hb : Ck 35 w g s sm vy bk) :
    Calls Try.prog 14 #[.pointer (some ⟨g, 0, none⟩)] w fun e w' => e = .returned (.tuple #[]) ∧ Ck 35 w' g s sm vy ((min (bk + 1) 64 : Nat) : Int) ∧ w.grownBy w' (some g) := by
  have c3 := hb.cell 3
  have f3 := hb.frozen 3
  simp only [List.getElem?_toArray, List.getElem?_cons_zero, List.getElem?_cons_succ] at c3
  obtain ⟨q, hq⟩ : ∃ q : Int, ((min (bk + 1) 64 : Nat) : Int) = q := ⟨_, rfl⟩
  rw [hq]
  have Hq := Lib.hid hq
  clear hq
  rcases (by omega : bk < 63 ∨ bk = 63 ∨ bk = 64) with c | rfl | rfl
  all_goals
    go_enter Try.func14, Try.ntmps14
    go_wp2
    all_goals go_end0
    all_goals exact ⟨rfl, Ck.eq (hb.set 3 _) rfl rfl rfl (by have := Hq.out; omega), grownBy_setCell (World.grownBy.refl w _) (by exact .inl rfl) _⟩

theorem rcalm_any (g : Nat) (s : Bool) (sm vy bk : Int) (w : World) (hb : Ck 35 w g s sm vy bk) :
    Calls Try.prog 15 #[.pointer (some ⟨g, 0, none⟩)] w fun e w' => e = .returned (.tuple #[]) ∧ Ck 35 w' g s sm vy 0 ∧ w.grownBy w' (some g) := by
  have c3 := hb.cell 3
  have f3 := hb.frozen 3
  simp only [List.getElem?_toArray, List.getElem?_cons_zero, List.getElem?_cons_succ] at c3
  go_enter Try.func15, Try.ntmps15
  go_wp2
  go_end0
  exact ⟨rfl, hb.set 3 _, grownBy_setCell (World.grownBy.refl w _) (by exact .inl rfl) _⟩

theorem rwait_any (g : Nat) (s : Bool) (sm vy : Int) (bk : Nat) (hok : CkOk s sm vy) (hbk : bk ≤ 1000) (w : World) (hb : Ck 35 w g s sm vy bk) :
    Calls Try.prog 16 #[.pointer (some ⟨g, 0, none⟩)] w fun e w' => e = .returned (.int .i64 (dblN bk (baseF s sm vy))) ∧ ∃ k, w' = w.drewN k := by
  have c0 := hb.cell 0
  have c1 := hb.cell 1
  have c2 := hb.cell 2
  have c3 := hb.cell 3
  simp only [List.getElem?_toArray, List.getElem?_cons_zero, List.getElem?_cons_succ] at c0 c1 c2 c3
  cases s
  case false =>
    go_enter Try.func16, Try.ntmps16
    go_wp2
    go_loop [3, 4] (fun v i => ∃ k : Nat, k ≤ bk ∧ i = .int .i64 k ∧ v = .int .i64 (dblN k 30)) (fun _ i => bk - (intOf i).toNat)
    case atStart => exact ⟨0, Nat.zero_le _, rfl, rfl⟩
    case round =>
      obtain ⟨k, hk, rfl, rfl⟩ := hrel
      have hd := dblN_bd (x := 30) (by omega) k
      rcases (by omega : bk ≤ k ∨ (k < bk ∧ 600 ≤ dblN k 30) ∨ (k < bk ∧ dblN k 30 < 600)) with c | ⟨c, c'⟩ | ⟨c, c'⟩
      · go_wp2
        go_ret
        exact ⟨by rw [show bk = k from by omega]; rfl, 0, rfl⟩
      · go_wp2
        go_ret
        exact ⟨by rw [show dblN k 30 = 600 from by omega]; rw [baseF, dblN_top' (k := k) (m := bk) (by omega) (by omega)]; rfl, 0, rfl⟩
      · go_wp2
        all_goals go_round
        case rel => exact ⟨k + 1, by omega, by go_num, by rw [dblN]; go_num⟩
        case measure => simp [intOf]; omega
  case true =>
    simp only [CkOk] at hok
    obtain ⟨k0, k1, k2, k3⟩ := hok
    have hB := baseF_bd true sm vy
    obtain ⟨x, hx⟩ : ∃ x, baseF true sm vy = x := ⟨_, rfl⟩
    rw [hx] at hB ⊢
    have Hx := Lib.hid hx
    clear hx
    go_enter Try.func16, Try.ntmps16
    go_wp2
    go_quiet (fail)
    obtain ⟨p1, hp1⟩ : ∃ p, (sm / 8 + if vy < 1 then 1 else vy) = p := ⟨_, rfl⟩
    have hp2 : p1 = sm / 8 + max 1 vy := by rw [← hp1]; split <;> omega
    have hp3 : x = max 10 (min 600 p1) := by rw [← Hx.out, hp2, baseF]
    rw [hp1]
    clear hp1 hp2
    have Hp3 := Lib.hid hp3
    clear hp3
    generalize (if vy < 1 then 1 else vy) = p3
    rcases (by omega : p1 ≤ 10 ∨ (10 < p1 ∧ p1 < 600) ∨ p1 = 600 ∨ 600 < p1) with d | ⟨d, d'⟩ | rfl | d
    all_goals
      go_wp2
      go_loop [3, 4] (fun v i => ∃ k : Nat, k ≤ bk ∧ i = .int .i64 k ∧ v = .int .i64 (dblN k x)) (fun _ i => bk - (intOf i).toNat)
      case atStart => exact ⟨0, Nat.zero_le _, rfl, by rw [dblN, Hp3.out]; congr 1 <;> omega⟩
      case round =>
        obtain ⟨k, hk, rfl, rfl⟩ := hrel
        have hd := dblN_bd hB k
        rcases (by omega : bk ≤ k ∨ (k < bk ∧ 600 ≤ dblN k x) ∨ (k < bk ∧ dblN k x < 600)) with c | ⟨c, c'⟩ | ⟨c, c'⟩
        · go_wp2
          go_ret
          exact ⟨by rw [show bk = k from by omega]; rfl, _, rfl⟩
        · go_wp2
          go_ret
          exact ⟨by rw [show dblN k x = 600 from by omega]; rw [dblN_top' (k := k) (m := bk) (by omega) (by omega)]; rfl, _, rfl⟩
        · go_wp2
          all_goals go_round
          case rel => exact ⟨k + 1, by omega, by go_num, by rw [dblN]; go_num⟩
          case measure => simp [intOf]; omega
end Go.Proofs.Ytdgacljllbiddaa
