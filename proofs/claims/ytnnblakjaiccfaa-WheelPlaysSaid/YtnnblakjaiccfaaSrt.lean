/- Proved: the closure that Due sorts by: the tick first, then the key, by its walk. Conditions: none. -/
import Derived.Test.YtnnblakjaiccfaaWh
set_option linter.unusedVariables false
set_option linter.unusedSimpArgs false
namespace Go.Proofs.Ytnnblakjaiccfaa
open Go.RowKit

def cmpI (a b : Int) : Int := if a < b then -1 else if b < a then 1 else 0
def cmpT (x y : Int × Int) : Int := if cmpI x.2 y.2 ≠ 0 then cmpI x.2 y.2 else cmpI x.1 y.1
theorem nan_any (a : Int) (w : World) : Calls Try.prog 31 #[.int .i64 a] w fun e w' => e = .returned (.bool false) ∧ w' = w := by
  have h : (a != a) = false := by simp
  go_enter Try.func31, Try.ntmps31
  go_wp2
  go_ret
  exact ⟨rfl, rfl⟩
theorem compare_any (a b : Int) (w : World) : Calls Try.prog 22 #[.int .i64 a, .int .i64 b] w fun e w' => e = .returned (.int .i64 (cmpI a b)) ∧ w' = w := by
  unfold cmpI
  rcases (by omega : a < b ∨ (b < a ∧ ¬ a < b) ∨ (¬ a < b ∧ ¬ b < a)) with d | ⟨d, d2⟩ | ⟨d, d2⟩
  · rw [if_pos d]
    have e1 : decide (a < b) = true := decide_eq_true d
    go_enter Try.func22, Try.ntmps22
    go_wp2_with (go_at_call 31; refine (nan_any _ _).mono ?_; rintro e w' ⟨rfl, rfl⟩)
    go_ret
    exact ⟨rfl, rfl⟩
  · rw [if_neg d2, if_pos d]
    have e1 : decide (a < b) = false := decide_eq_false d2
    have e2 : decide (b < a) = true := decide_eq_true d
    go_enter Try.func22, Try.ntmps22
    go_wp2_with (go_at_call 31; refine (nan_any _ _).mono ?_; rintro e w' ⟨rfl, rfl⟩)
    go_ret
    exact ⟨rfl, rfl⟩
  · rw [if_neg d, if_neg d2]
    have e1 : decide (a < b) = false := decide_eq_false d
    have e2 : decide (b < a) = false := decide_eq_false d2
    go_enter Try.func22, Try.ntmps22
    go_wp2_with (go_at_call 31; refine (nan_any _ _).mono ?_; rintro e w' ⟨rfl, rfl⟩)
    go_ret
    exact ⟨rfl, rfl⟩
theorem cmpI_eq (x y : Int × Int) : cmpT x y = if cmpI x.2 y.2 ≠ 0 then cmpI x.2 y.2 else cmpI x.1 y.1 := rfl
/-- cmp.Or of two numbers that lie in a new row. -/
theorem or_any (a b : Int) (g : Nat) (w : World) (hg : Bk w g 3 #[.int .i64 a, .int .i64 b]) :
    Calls Try.prog 21 #[.slice (some ⟨g, 0, none⟩) 2 2] w fun e w' => e = .returned (.int .i64 (if a ≠ 0 then a else b)) ∧ w' = w := by
  have c0 : w.cell? ⟨g, 0, none⟩ = some (.int .i64 a) := hg.cell 0
  have c1 : w.cell? ⟨g, 1, none⟩ = some (.int .i64 b) := hg.cell 1
  by_cases ha : a = 0
  · subst ha
    rw [if_neg (by simp)]
    by_cases hb : b = 0
    · subst hb
      go_enter Try.func21, Try.ntmps21
      go_wp2
      go_loop [8] (fun i => ∃ j : Nat, j ≤ 2 ∧ i = .int .i64 j) (fun i => 2 - (intOf i).toNat)
      case atStart => exact ⟨0, Nat.zero_le _, rfl⟩
      case round =>
        obtain ⟨j, hj, rfl⟩ := hrel
        rcases (by omega : j = 0 ∨ j = 1 ∨ j = 2) with rfl | rfl | rfl
        · go_wp2
          go_round
          case rel => exact ⟨1, by omega, by go_num⟩
          case measure => simp [intOf]
        · go_wp2
          go_round
          case rel => exact ⟨2, by omega, by go_num⟩
          case measure => simp [intOf]
        · go_wp2
          go_ret
          exact ⟨rfl, rfl⟩
    · have hb' : (b != 0) = true := by simpa using hb
      go_enter Try.func21, Try.ntmps21
      go_wp2
      go_loop [8] (fun i => ∃ j : Nat, j ≤ 1 ∧ i = .int .i64 j) (fun i => 2 - (intOf i).toNat)
      case atStart => exact ⟨0, Nat.zero_le _, rfl⟩
      case round =>
        obtain ⟨j, hj, rfl⟩ := hrel
        rcases (by omega : j = 0 ∨ j = 1) with rfl | rfl
        · go_wp2
          go_round
          case rel => exact ⟨1, by omega, by go_num⟩
          case measure => simp [intOf]
        · go_wp2
          go_ret
          exact ⟨rfl, rfl⟩
  · rw [if_pos ha]
    have ha' : (a != 0) = true := by simpa using ha
    go_enter Try.func21, Try.ntmps21
    go_wp2
    go_loop [8] (fun i => i = .int .i64 0) (fun i => 2 - (intOf i).toNat)
    case atStart => rfl
    case round =>
      subst hrel
      go_wp2
      go_ret
      exact ⟨rfl, rfl⟩
theorem cmpT_or (x y : Int × Int) : (if cmpI x.2 y.2 ≠ 0 then cmpI x.2 y.2 else cmpI x.1 y.1) = cmpT x y := rfl
set_option maxHeartbeats 2000000 in
set_option maxRecDepth 100000 in
theorem due1_any (x y : Int × Int) (w : World) : Calls Try.prog 20 #[.agg #[.int .i64 x.1, .int .i64 x.2], .agg #[.int .i64 y.1, .int .i64 y.2]] w fun e w' => e = .returned (.int .i64 (cmpT x y)) ∧
    w' = (((w.alloc (.cells #[.int .i64 x.1, .int .i64 x.2] 54)).alloc (.cells #[.int .i64 y.1, .int .i64 y.2] 54)).alloc (.cells #[.int .i64 (cmpI x.2 y.2), .int .i64 (cmpI x.1 y.1)] 3)).drew := by
  obtain ⟨W, hW⟩ : ∃ W, (w.alloc (.cells #[.int .i64 x.1, .int .i64 x.2] 54)).alloc (.cells #[.int .i64 y.1, .int .i64 y.2] 54) = W := ⟨_, rfl⟩
  obtain ⟨gx, hgx⟩ : ∃ gx, w.heap.size = gx := ⟨_, rfl⟩
  have hx : Bk W gx 54 #[.int .i64 x.1, .int .i64 x.2] := by rw [← hW, ← hgx]; exact (Bk.new w _ _).alloc _
  have hy : Bk W (gx + 1) 54 #[.int .i64 y.1, .int .i64 y.2] := by
    rw [← hW]
    have := Bk.new (w.alloc (.cells #[.int .i64 x.1, .int .i64 x.2] 54)) 54 #[.int .i64 y.1, .int .i64 y.2]
    rwa [World.size_alloc, hgx] at this
  have x0 : W.drew.cell? ⟨gx, 0, none⟩ = some (.int .i64 x.1) := hx.cell 0
  have x1 : W.drew.cell? ⟨gx, 1, none⟩ = some (.int .i64 x.2) := hx.cell 1
  have y0 : W.drew.cell? ⟨gx + 1, 0, none⟩ = some (.int .i64 y.1) := hy.cell 0
  have y1 : W.drew.cell? ⟨gx + 1, 1, none⟩ = some (.int .i64 y.2) := hy.cell 1
  rw [hW]
  have HW := Lib.hid hW
  have HG := Lib.hid hgx
  have hor := or_any (cmpI x.2 y.2) (cmpI x.1 y.1) W.heap.size ((W.alloc (.cells #[.int .i64 (cmpI x.2 y.2), .int .i64 (cmpI x.1 y.1)] 3)).drew) (Bk.new W _ _)
  rw [cmpT_or] at hor
  have h1 := fun w => compare_any x.2 y.2 w
  have h0 := fun w => compare_any x.1 y.1 w
  generalize cmpI x.2 y.2 = c1 at hor h1 ⊢
  generalize cmpI x.1 y.1 = c0 at hor h0 ⊢
  generalize cmpT x y = ct at hor ⊢
  have hlx : gx < W.heap.size := hx.lt
  have hly : gx + 1 < W.heap.size := hy.lt
  have zx0 : (W.alloc (.cells #[.int .i64 c1, .int .i64 c0] 3)).drew.cell? ⟨gx, 0, none⟩ = some (.int .i64 x.1) := (World.cell?_alloc_lt W _ ⟨gx, 0, none⟩ hlx).trans x0
  have zx1 : (W.alloc (.cells #[.int .i64 c1, .int .i64 c0] 3)).drew.cell? ⟨gx, 1, none⟩ = some (.int .i64 x.2) := (World.cell?_alloc_lt W _ ⟨gx, 1, none⟩ hlx).trans x1
  have zy0 : (W.alloc (.cells #[.int .i64 c1, .int .i64 c0] 3)).drew.cell? ⟨gx + 1, 0, none⟩ = some (.int .i64 y.1) := (World.cell?_alloc_lt W _ ⟨gx + 1, 0, none⟩ hly).trans y0
  have zy1 : (W.alloc (.cells #[.int .i64 c1, .int .i64 c0] 3)).drew.cell? ⟨gx + 1, 1, none⟩ = some (.int .i64 y.2) := (World.cell?_alloc_lt W _ ⟨gx + 1, 1, none⟩ hly).trans y1
  have HOR := Lib.hid hor
  have H1 := Lib.hid h1
  have H0 := Lib.hid h0
  clear hW hx hy hgx hor h1 h0
  go_enter Try.func20, Try.ntmps20
  go_wp2_with fail
  rw [HW.out, HG.out]
  go_region_held3 (fun w' => w'.cell? ⟨gx, 0, none⟩ = some (.int .i64 x.1) ∧ w'.cell? ⟨gx, 1, none⟩ = some (.int .i64 x.2) ∧ w'.cell? ⟨gx + 1, 0, none⟩ = some (.int .i64 y.1) ∧ w'.cell? ⟨gx + 1, 1, none⟩ = some (.int .i64 y.2))
    (first | (with_reducible exact ⟨by assumption, by assumption, by assumption, by assumption⟩) | go_keep)
    (first
      | (go_at_call 22; (with_reducible refine (H1.out _).mono ?_); rintro e w' ⟨rfl, rfl⟩)
      | (go_at_call 22; (with_reducible refine (H0.out _).mono ?_); rintro e w' ⟨rfl, rfl⟩)
      | (go_at_call 21; (with_reducible refine HOR.out.mono ?_); rintro e w' ⟨rfl, rfl⟩))
  clear zx0 zx1 zy0 zy1 x0 x1 y0 y1
  go_wp2
  go_ret
  exact ⟨rfl, rfl⟩
end Go.Proofs.Ytnnblakjaiccfaa
