/- Proved: a part of a row of addresses is parted by a pivot, by its walk. Conditions: the part lies in the row; the pivot behind its first. -/
import Derived.Test.YtocigdkndlmikaaPqc
set_option linter.unusedVariables false
set_option linter.unusedSimpArgs false
namespace Go.Proofs.Ytocigdkndlmikaa
open Go.RowKit

theorem Prt.start (F : List Int) (a b : Nat) : Prt F a b (a + 1) (b - 1) := ⟨fun k h1 h2 => by omega, fun k h1 h2 => by omega⟩
theorem Prt.up {F : List Int} {a b i j : Nat} (h : Prt F a b i j) (hi : gt F i < gt F a) : Prt F a b (i + 1) j := ⟨fun k h1 h2 => by
  by_cases e : k = i
  · subst e; exact hi
  · exact h.lo k h1 (by omega), h.hi⟩
theorem Prt.dn {F : List Int} {a b i j : Nat} (h : Prt F a b i j) (hj : gt F a ≤ gt F j) : Prt F a b i (j - 1) := ⟨h.lo, fun k h1 h2 => by
  by_cases e : k = j
  · subst e; exact hj
  · exact h.hi k (by omega) h2⟩
/-- While it is parted. -/
structure PtS (w : World) (base g n c a b : Nat) (D F : List Int) (i j : Nat) (wr : World) : Prop where
  row : SRC w base g n c D wr F
  loc : Loc a b D F
  prt : Prt F a b i j
  bd : a + 1 ≤ i ∧ i ≤ j + 1 ∧ a ≤ j ∧ j < b
  bn : b ≤ n
section
variable {w wr : World} {base g n c a b i j : Nat} {D F : List Int}
theorem PtS.drewN (h : PtS w base g n c a b D F i j wr) (k : Nat) : PtS w base g n c a b D F i j (wr.drewN k) := ⟨h.row.drewN k, h.loc, h.prt, h.bd, h.bn⟩
theorem PtS.cell (h : PtS w base g n c a b D F i j wr) {k : Nat} (hk : k < b) : wr.cell? ⟨g, k, none⟩ = some (.int .u32 (gt F k)) := h.row.1.cell (by have := h.bn; omega)
theorem PtS.frozen (h : PtS w base g n c a b D F i j wr) (k : Nat) : wr.frozen? ⟨g, k, none⟩ = false := h.row.1.frozen k
theorem PtS.up (h : PtS w base g n c a b D F i j wr) (hij : i ≤ j) (hi : gt F i < gt F a) : PtS w base g n c a b D F (i + 1) j wr := ⟨h.row, h.loc, h.prt.up hi, by have := h.bd; omega, h.bn⟩
theorem PtS.dn (h : PtS w base g n c a b D F i j wr) (hij : i ≤ j) (_ : a ≤ j) (hj : gt F a ≤ gt F j) : PtS w base g n c a b D F i (j - 1) wr := ⟨h.row, h.loc, h.prt.dn hj, by have := h.bd; omega, h.bn⟩
theorem PtS.ex (h : PtS w base g n c a b D F i j wr) (hij : i < j) {x y : Int} (hx : gt F j = x) (hy : gt F i = y) (h1 : gt F a ≤ gt F i) (h2 : gt F j < gt F a) (k : Nat) :
    PtS w base g n c a b D (swp F i j) (i + 1) (j - 1) (((wr.setCell ⟨g, i, none⟩ (.int .u32 x)).setCell ⟨g, j, none⟩ (.int .u32 y)).drewN k) := by
  have hb := h.bd
  have hn := h.bn
  have hl : F.length = n := h.row.1.len
  exact ⟨(h.row.swap (by omega) (by omega) hx hy).drewN k, h.loc.trans (Loc.ex (by omega) (by omega) (by omega) (by omega) (by omega)), h.prt.ex (by omega) hij (by omega) (by omega) h1 h2, by omega, hn⟩
def PtPost (w : World) (base g n c a b : Nat) (D : List Int) (e : Ending) (w' : World) : Prop :=
  ∃ (m : Nat) (v : Bool) (D' : List Int), e = .returned (.tuple #[.int .i64 m, .bool v]) ∧ a ≤ m ∧ m < b ∧ SRC w base g n c D w' D' ∧ Loc a b D D' ∧ Part D' a b m
theorem PtS.fin (h : PtS w base g n c a b D F i j wr) (hij : i = j + 1) {x y : Int} (hx : gt F a = x) (hy : gt F j = y) (v : Bool) (k : Nat) :
    PtPost w base g n c a b D (.returned (.tuple #[.int .i64 j, .bool v])) (((wr.setCell ⟨g, j, none⟩ (.int .u32 x)).setCell ⟨g, a, none⟩ (.int .u32 y)).drewN k) := by
  have hb := h.bd
  have hn := h.bn
  have hl : F.length = n := h.row.1.len
  exact ⟨j, v, swp F j a, rfl, by omega, by omega, (h.row.swap (by omega) (by omega) hx hy).drewN k, h.loc.trans (Loc.ex (by omega) (by omega) (by omega) (by omega) (by omega)), h.prt.end_ (by omega) hij (by omega) (by omega)⟩
end
set_option maxHeartbeats 4000000 in
set_option maxRecDepth 1000000 in
theorem part_any (base g n c a b p : Nat) (D : List Int) (w : World) (h : SR w base g n c D) (hn : n ≤ 1000) (hap : a < p) (hpb : p < b) (hb : b ≤ n) :
    Calls Try.prog 68 #[.slice (some ⟨g, 0, none⟩) n c, .int .i64 a, .int .i64 b, .int .i64 p] w (PtPost w base g n c a b D) := by
  obtain ⟨x, hx⟩ : ∃ x, gt D p = x := ⟨_, rfl⟩
  obtain ⟨y, hy⟩ : ∃ y, gt D a = y := ⟨_, rfl⟩
  have b1 : (p : Int) < (n : Int) := by omega
  have b2 : (a : Int) < (n : Int) := by omega
  have dj := h.cell (k := p) (by omega)
  have dk := h.cell (k := a) (by omega)
  have ej := h.frozen p
  have ek := h.frozen a
  rw [hx] at dj
  rw [hy] at dk
  have hl : D.length = n := h.len
  have HS0 : Hid (PtS w base g n c a b D (swp D a p) (a + 1) (b - 1) (((w.setCell ⟨g, a, none⟩ (.int .u32 x)).setCell ⟨g, p, none⟩ (.int .u32 y)).drewN 1)) := Lib.hid
    ⟨((SRC.refl h).swap (by omega) (by omega) hx hy).drewN 1, Loc.ex (by omega) (by omega) (by omega) (by omega) (by omega), Prt.start _ _ _, by omega, hb⟩
  have hwb : IntKind.i64.wrap ((b : Int) - 1) = ((b - 1 : Nat) : Int) := by rw [IntWalk.i64_in _ (by omega)]; omega
  clear hx hy h hl
  go_enter Try.func68, Try.ntmps68
  go_wp2_with fail
  go_region
  obtain ⟨W0, hW0⟩ : ∃ W0, ((w.setCell ⟨g, a, none⟩ (.int .u32 x)).setCell ⟨g, p, none⟩ (.int .u32 y)).drew = W0 := ⟨_, rfl⟩
  rw [hW0]
  have HSA : Hid (PtS w base g n c a b D (swp D a p) (a + 1) (b - 1) W0) := Lib.hid (by rw [← hW0]; exact HS0.out)
  clear dj dk ej ek b1 b2 HS0 hW0
  go_wp2_with fail
  clear hwb
  obtain ⟨i, hi⟩ : ∃ i, a + 1 = i := ⟨_, rfl⟩
  obtain ⟨j, hj⟩ : ∃ j, b - 1 = j := ⟨_, rfl⟩
  obtain ⟨F, hF⟩ : ∃ F, swp D a p = F := ⟨_, rfl⟩
  have HS : Hid (PtS w base g n c a b D F i j W0) := Lib.hid (by rw [← hi, ← hj, ← hF]; exact HSA.out)
  have hi' : (a : Int) + 1 = (i : Int) := by omega
  rw [hi', hj]
  clear hi hi' hj hF HSA
  go_loopw [10] (fun v10 wr2 => ∃ i' : Nat, i ≤ i' ∧ v10 = .int .i64 i' ∧ PtS w base g n c a b D F i' j wr2) (fun v10 _ => j + 1 - (intOf v10).toNat)
  case atStart => exact ⟨i, Nat.le_refl _, rfl, HS.out⟩
  case round =>
    clear HS
    obtain ⟨i2, gi, rfl, hS⟩ := hrel
    obtain ⟨g1, g2, g3, g4⟩ := hS.bd
    have HS := Lib.hid hS
    clear hS
    rcases Nat.lt_or_ge j i2 with q | q
    · have t1 : decide (i2 ≤ j) = false := decide_eq_false (by omega)
      have HE : Hid (gt F a ≤ gt F i2 ∨ i2 = j + 1) := Lib.hid (.inr (by omega))
      clear q
      go_wp2_with fail
      go_quiet (fail)
      generalize hWq : World.drewN _ _ = wq
      have HQ : Hid (PtS w base g n c a b D F i2 j wq) := Lib.hid (by rw [← hWq]; exact HS.out.drewN _)
      clear hWq HS
      go_wp2_with fail
      go_loopw [11] (fun v11 wr2 => ∃ j' : Nat, j' ≤ j ∧ v11 = .int .i64 j' ∧ PtS w base g n c a b D F i2 j' wr2 ∧ (gt F a ≤ gt F i2 ∨ i2 = j' + 1)) (fun v11 _ => (intOf v11).toNat)
      case atStart => exact ⟨j, Nat.le_refl _, rfl, HQ.out, HE.out⟩
      case round =>
        clear HQ HE g1 g2 g3 g4
        obtain ⟨j2, gj, rfl, hS, hE⟩ := hrel
        obtain ⟨g1, g2, g3, g4⟩ := hS.bd
        have HS := Lib.hid hS
        have HE := Lib.hid hE
        clear hS hE
        rcases Nat.lt_or_ge j2 i2 with q | q
        · have t1 : decide (i2 ≤ j2) = false := decide_eq_false (by omega)
          have t3 : (i2 : Int) > (j2 : Int) := by omega
          have t4 : decide (j2 < i2) = true := decide_eq_true (by omega)
          go_wp2_with fail
          go_quiet (fail)
          generalize hWq : World.drewN _ _ = wq
          have HQ : Hid (PtS w base g n c a b D F i2 j2 wq) := Lib.hid (by rw [← hWq]; exact HS.out.drewN _)
          clear hWq HS
          go_wp2_with fail
          by_cases hja : j2 = a
          · subst hja
            have HF2 : Hid (i2 = j2 + 1) := Lib.hid (by omega)
            obtain ⟨x, hx⟩ : ∃ x, gt F j2 = x := ⟨_, rfl⟩
            have b2 : (j2 : Int) < (n : Int) := by omega
            have dj := HQ.out.cell (k := j2) (by omega)
            have ej := HQ.out.frozen j2
            rw [hx] at dj
            have HX := Lib.hid hx
            clear hx t1 t3 t4 q
            go_region
            go_wp2_with fail
            go_ret2
            exact PtS.fin HQ.out HF2.out HX.out HX.out true 1
          · have HF2 : Hid (i2 = j2 + 1) := Lib.hid (by omega)
            obtain ⟨x, hx⟩ : ∃ x, gt F j2 = x := ⟨_, rfl⟩
            obtain ⟨y, hy⟩ : ∃ y, gt F a = y := ⟨_, rfl⟩
            have b1 : (j2 : Int) < (n : Int) := by omega
            have b2 : (a : Int) < (n : Int) := by omega
            have dj := HQ.out.cell (k := j2) (by omega)
            have dk := HQ.out.cell (k := a) (by omega)
            have ej := HQ.out.frozen j2
            have ek := HQ.out.frozen a
            rw [hx] at dj
            rw [hy] at dk
            have HX := Lib.hid hx
            have HY := Lib.hid hy
            clear hx hy t1 t3 t4 q
            go_region
            go_wp2_with fail
            go_ret2
            exact PtS.fin HQ.out HF2.out HY.out HX.out true 1
        · have t1 : decide ((i2 : Int) ≤ (j2 : Int)) = true := decide_eq_true (by omega)
          obtain ⟨x, hx⟩ : ∃ x, gt F j2 = x := ⟨_, rfl⟩
          obtain ⟨y, hy⟩ : ∃ y, gt F a = y := ⟨_, rfl⟩
          have ci := HS.out.cell (k := j2) (by omega)
          have ck := HS.out.cell (k := a) (by omega)
          rw [hx] at ci
          rw [hy] at ck
          have b1 : (j2 : Int) < (n : Int) := by omega
          have b2 : (a : Int) < (n : Int) := by omega
          have hwj : IntKind.i64.wrap ((j2 : Int) - 1) = ((j2 - 1 : Nat) : Int) := by rw [IntWalk.i64_in _ (by omega)]; omega
          have HX := Lib.hid hx
          have HY := Lib.hid hy
          clear hx hy
          by_cases l : x < y
          · have hl : decide (x < y) = true := decide_eq_true l
            have t3 : ¬ (i2 : Int) > (j2 : Int) := by omega
            have t4 : decide (j2 < i2) = false := decide_eq_false (by omega)
            have HL : Hid (gt F j2 < gt F a) := Lib.hid (by rw [HX.out, HY.out]; exact l)
            clear l
            go_wp2_with fail
            go_quiet ((go_at_call 66; exact Calls.quiet_of_same (less_q x y hl _)))
            generalize hWq : World.drewN _ _ = wq
            have HQ : Hid (PtS w base g n c a b D F i2 j2 wq) := Lib.hid (by rw [← hWq]; exact HS.out.drewN _)
            clear hWq HS ci ck hl t1 b1 b2 HX HY hwj
            go_wp2_with fail
            have hlt : i2 < j2 := Nat.lt_of_le_of_ne q (fun e => by
              rcases HE.out with h | h
              · have := HL.out; subst e; omega
              · omega)
            have HC : Hid (gt F a ≤ gt F i2) := Lib.hid (HE.out.elim id (fun e => by omega))
            obtain ⟨x, hx⟩ : ∃ x, gt F j2 = x := ⟨_, rfl⟩
            obtain ⟨y, hy⟩ : ∃ y, gt F i2 = y := ⟨_, rfl⟩
            have b1 : (j2 : Int) < (n : Int) := by omega
            have b2 : (i2 : Int) < (n : Int) := by omega
            have dj := HQ.out.cell (k := j2) (by omega)
            have dk := HQ.out.cell (k := i2) (by omega)
            have ej := HQ.out.frozen j2
            have ek := HQ.out.frozen i2
            rw [hx] at dj
            rw [hy] at dk
            have HX := Lib.hid hx
            have HY := Lib.hid hy
            have hwj : IntKind.i64.wrap ((j2 : Int) - 1) = ((j2 - 1 : Nat) : Int) := by rw [IntWalk.i64_in _ (by omega)]; omega
            clear hx hy t3 t4 q
            go_region
            go_wp2_with fail
            obtain ⟨W1, hW1⟩ : ∃ W1, ((wq.setCell ⟨g, i2, none⟩ (.int .u32 x)).setCell ⟨g, j2, none⟩ (.int .u32 y)).drew = W1 := ⟨_, rfl⟩
            rw [hW1]
            have HS2 : Hid (PtS w base g n c a b D (swp F i2 j2) (i2 + 1) (j2 - 1) W1) := Lib.hid (by rw [← hW1]; exact HQ.out.ex hlt HX.out HY.out HC.out HL.out 1)
            clear HQ HE HC HL HX HY dj dk ej ek b1 b2 hwj hW1
            go_loopw [10, 11] (fun v10 v11 wr2 => ∃ (i j : Nat) (F : List Int), v10 = .int .i64 i ∧ v11 = .int .i64 j ∧ PtS w base g n c a b D F i j wr2) (fun v10 v11 _ => (intOf v11).toNat + 1 - (intOf v10).toNat)
            case atStart => exact ⟨i2 + 1, j2 - 1, swp F i2 j2, by rw [Int.natCast_succ], by first | rfl | omega, HS2.out⟩
            case round =>
              clear HS2 hlt g1 g2 g3 g4 gi gj
              obtain ⟨i, j, F, rfl, rfl, hS⟩ := hrel
              have HS := Lib.hid hS
              clear hS
              go_wp2_with fail
              go_loopw [10] (fun v10 wr2 => ∃ i' : Nat, i ≤ i' ∧ v10 = .int .i64 i' ∧ PtS w base g n c a b D F i' j wr2) (fun v10 _ => j + 1 - (intOf v10).toNat)
              case atStart => exact ⟨i, Nat.le_refl _, rfl, HS.out⟩
              case round =>
                clear HS
                obtain ⟨i2, gi, rfl, hS⟩ := hrel
                obtain ⟨g1, g2, g3, g4⟩ := hS.bd
                have HS := Lib.hid hS
                clear hS
                rcases Nat.lt_or_ge j i2 with q | q
                · have t1 : decide (i2 ≤ j) = false := decide_eq_false (by omega)
                  have HE : Hid (gt F a ≤ gt F i2 ∨ i2 = j + 1) := Lib.hid (.inr (by omega))
                  clear q
                  go_wp2_with fail
                  go_quiet (fail)
                  generalize hWq : World.drewN _ _ = wq
                  have HQ : Hid (PtS w base g n c a b D F i2 j wq) := Lib.hid (by rw [← hWq]; exact HS.out.drewN _)
                  clear hWq HS
                  go_wp2_with fail
                  go_loopw [11] (fun v11 wr2 => ∃ j' : Nat, j' ≤ j ∧ v11 = .int .i64 j' ∧ PtS w base g n c a b D F i2 j' wr2 ∧ (gt F a ≤ gt F i2 ∨ i2 = j' + 1)) (fun v11 _ => (intOf v11).toNat)
                  case atStart => exact ⟨j, Nat.le_refl _, rfl, HQ.out, HE.out⟩
                  case round =>
                    clear HQ HE g1 g2 g3 g4
                    obtain ⟨j2, gj, rfl, hS, hE⟩ := hrel
                    obtain ⟨g1, g2, g3, g4⟩ := hS.bd
                    have HS := Lib.hid hS
                    have HE := Lib.hid hE
                    clear hS hE
                    rcases Nat.lt_or_ge j2 i2 with q | q
                    · have t1 : decide (i2 ≤ j2) = false := decide_eq_false (by omega)
                      have t3 : (i2 : Int) > (j2 : Int) := by omega
                      have t4 : decide (j2 < i2) = true := decide_eq_true (by omega)
                      go_wp2_with fail
                      go_quiet (fail)
                      generalize hWq : World.drewN _ _ = wq
                      have HQ : Hid (PtS w base g n c a b D F i2 j2 wq) := Lib.hid (by rw [← hWq]; exact HS.out.drewN _)
                      clear hWq HS
                      go_wp2_with fail
                      by_cases hja : j2 = a
                      · subst hja
                        have HF2 : Hid (i2 = j2 + 1) := Lib.hid (by omega)
                        obtain ⟨x, hx⟩ : ∃ x, gt F j2 = x := ⟨_, rfl⟩
                        have b2 : (j2 : Int) < (n : Int) := by omega
                        have dj := HQ.out.cell (k := j2) (by omega)
                        have ej := HQ.out.frozen j2
                        rw [hx] at dj
                        have HX := Lib.hid hx
                        clear hx t1 t3 t4 q
                        go_region
                        go_wp2_with fail
                        go_ret2
                        exact PtS.fin HQ.out HF2.out HX.out HX.out false 1
                      · have HF2 : Hid (i2 = j2 + 1) := Lib.hid (by omega)
                        obtain ⟨x, hx⟩ : ∃ x, gt F j2 = x := ⟨_, rfl⟩
                        obtain ⟨y, hy⟩ : ∃ y, gt F a = y := ⟨_, rfl⟩
                        have b1 : (j2 : Int) < (n : Int) := by omega
                        have b2 : (a : Int) < (n : Int) := by omega
                        have dj := HQ.out.cell (k := j2) (by omega)
                        have dk := HQ.out.cell (k := a) (by omega)
                        have ej := HQ.out.frozen j2
                        have ek := HQ.out.frozen a
                        rw [hx] at dj
                        rw [hy] at dk
                        have HX := Lib.hid hx
                        have HY := Lib.hid hy
                        clear hx hy t1 t3 t4 q
                        go_region
                        go_wp2_with fail
                        go_ret2
                        exact PtS.fin HQ.out HF2.out HY.out HX.out false 1
                    · have t1 : decide ((i2 : Int) ≤ (j2 : Int)) = true := decide_eq_true (by omega)
                      obtain ⟨x, hx⟩ : ∃ x, gt F j2 = x := ⟨_, rfl⟩
                      obtain ⟨y, hy⟩ : ∃ y, gt F a = y := ⟨_, rfl⟩
                      have ci := HS.out.cell (k := j2) (by omega)
                      have ck := HS.out.cell (k := a) (by omega)
                      rw [hx] at ci
                      rw [hy] at ck
                      have b1 : (j2 : Int) < (n : Int) := by omega
                      have b2 : (a : Int) < (n : Int) := by omega
                      have hwj : IntKind.i64.wrap ((j2 : Int) - 1) = ((j2 - 1 : Nat) : Int) := by rw [IntWalk.i64_in _ (by omega)]; omega
                      have HX := Lib.hid hx
                      have HY := Lib.hid hy
                      clear hx hy
                      by_cases l : x < y
                      · have hl : decide (x < y) = true := decide_eq_true l
                        have t3 : ¬ (i2 : Int) > (j2 : Int) := by omega
                        have t4 : decide (j2 < i2) = false := decide_eq_false (by omega)
                        have HL : Hid (gt F j2 < gt F a) := Lib.hid (by rw [HX.out, HY.out]; exact l)
                        clear l
                        go_wp2_with fail
                        go_quiet ((go_at_call 66; exact Calls.quiet_of_same (less_q x y hl _)))
                        generalize hWq : World.drewN _ _ = wq
                        have HQ : Hid (PtS w base g n c a b D F i2 j2 wq) := Lib.hid (by rw [← hWq]; exact HS.out.drewN _)
                        clear hWq HS ci ck hl t1 b1 b2 HX HY hwj
                        go_wp2_with fail
                        have hlt : i2 < j2 := Nat.lt_of_le_of_ne q (fun e => by
                          rcases HE.out with h | h
                          · have := HL.out; subst e; omega
                          · omega)
                        have HC : Hid (gt F a ≤ gt F i2) := Lib.hid (HE.out.elim id (fun e => by omega))
                        obtain ⟨x, hx⟩ : ∃ x, gt F j2 = x := ⟨_, rfl⟩
                        obtain ⟨y, hy⟩ : ∃ y, gt F i2 = y := ⟨_, rfl⟩
                        have b1 : (j2 : Int) < (n : Int) := by omega
                        have b2 : (i2 : Int) < (n : Int) := by omega
                        have dj := HQ.out.cell (k := j2) (by omega)
                        have dk := HQ.out.cell (k := i2) (by omega)
                        have ej := HQ.out.frozen j2
                        have ek := HQ.out.frozen i2
                        rw [hx] at dj
                        rw [hy] at dk
                        have HX := Lib.hid hx
                        have HY := Lib.hid hy
                        have hwj : IntKind.i64.wrap ((j2 : Int) - 1) = ((j2 - 1 : Nat) : Int) := by rw [IntWalk.i64_in _ (by omega)]; omega
                        clear hx hy t3 t4 q
                        go_region
                        go_wp2_with fail
                        go_roundw
                        case rel => exact ⟨i2 + 1, j2 - 1, swp F i2 j2, by rw [Int.natCast_succ], by first | rfl | omega, HQ.out.ex hlt HX.out HY.out HC.out HL.out 1⟩
                        case measure => simp only [intOf]; omega
                      · have hl : decide (x < y) = false := decide_eq_false l
                        have HL : Hid (gt F a ≤ gt F j2) := Lib.hid (by rw [HX.out, HY.out]; omega)
                        clear l
                        go_wp2_with fail
                        go_quiet ((go_at_call 66; exact Calls.quiet_of_same (less_q x y hl _)))
                        go_wp2_with fail
                        exact ⟨⟨j2 - 1, by omega, by first | rfl | omega, (HS.out.dn q g3 HL.out).drewN _, HE.out.imp id fun e => by omega⟩, by simp only [intOf]; omega⟩
                · have t1 : decide ((i2 : Int) ≤ (j : Int)) = true := decide_eq_true (by omega)
                  obtain ⟨x, hx⟩ : ∃ x, gt F i2 = x := ⟨_, rfl⟩
                  obtain ⟨y, hy⟩ : ∃ y, gt F a = y := ⟨_, rfl⟩
                  have ci := HS.out.cell (k := i2) (by omega)
                  have ck := HS.out.cell (k := a) (by omega)
                  rw [hx] at ci
                  rw [hy] at ck
                  have b1 : (i2 : Int) < (n : Int) := by omega
                  have b2 : (a : Int) < (n : Int) := by omega
                  have HX := Lib.hid hx
                  have HY := Lib.hid hy
                  clear hx hy
                  by_cases l : x < y
                  · have hl : decide (x < y) = true := decide_eq_true l
                    have HL := Lib.hid l
                    clear l
                    go_wp2_with fail
                    go_quiet ((go_at_call 66; exact Calls.quiet_of_same (less_q x y hl _)))
                    go_wp2_with fail
                    exact ⟨⟨i2 + 1, by omega, by rw [Int.natCast_succ], (HS.out.up q (by rw [HX.out, HY.out]; exact HL.out)).drewN _⟩, by simp only [intOf]; omega⟩
                  · have hl : decide (x < y) = false := decide_eq_false l
                    have HE : Hid (gt F a ≤ gt F i2 ∨ i2 = j + 1) := Lib.hid (.inl (by rw [HX.out, HY.out]; omega))
                    clear l
                    go_wp2_with fail
                    go_quiet ((go_at_call 66; exact Calls.quiet_of_same (less_q x y hl _)))
                    generalize hWq : World.drewN _ _ = wq
                    have HQ : Hid (PtS w base g n c a b D F i2 j wq) := Lib.hid (by rw [← hWq]; exact HS.out.drewN _)
                    clear hWq HS ci ck hl t1 b1 b2 HX HY q
                    go_wp2_with fail
                    go_loopw [11] (fun v11 wr2 => ∃ j' : Nat, j' ≤ j ∧ v11 = .int .i64 j' ∧ PtS w base g n c a b D F i2 j' wr2 ∧ (gt F a ≤ gt F i2 ∨ i2 = j' + 1)) (fun v11 _ => (intOf v11).toNat)
                    case atStart => exact ⟨j, Nat.le_refl _, rfl, HQ.out, HE.out⟩
                    case round =>
                      clear HQ HE g1 g2 g3 g4
                      obtain ⟨j2, gj, rfl, hS, hE⟩ := hrel
                      obtain ⟨g1, g2, g3, g4⟩ := hS.bd
                      have HS := Lib.hid hS
                      have HE := Lib.hid hE
                      clear hS hE
                      rcases Nat.lt_or_ge j2 i2 with q | q
                      · have t1 : decide (i2 ≤ j2) = false := decide_eq_false (by omega)
                        have t3 : (i2 : Int) > (j2 : Int) := by omega
                        have t4 : decide (j2 < i2) = true := decide_eq_true (by omega)
                        go_wp2_with fail
                        go_quiet (fail)
                        generalize hWq : World.drewN _ _ = wq
                        have HQ : Hid (PtS w base g n c a b D F i2 j2 wq) := Lib.hid (by rw [← hWq]; exact HS.out.drewN _)
                        clear hWq HS
                        go_wp2_with fail
                        by_cases hja : j2 = a
                        · subst hja
                          have HF2 : Hid (i2 = j2 + 1) := Lib.hid (by omega)
                          obtain ⟨x, hx⟩ : ∃ x, gt F j2 = x := ⟨_, rfl⟩
                          have b2 : (j2 : Int) < (n : Int) := by omega
                          have dj := HQ.out.cell (k := j2) (by omega)
                          have ej := HQ.out.frozen j2
                          rw [hx] at dj
                          have HX := Lib.hid hx
                          clear hx t1 t3 t4 q
                          go_region
                          go_wp2_with fail
                          go_ret2
                          exact PtS.fin HQ.out HF2.out HX.out HX.out false 1
                        · have HF2 : Hid (i2 = j2 + 1) := Lib.hid (by omega)
                          obtain ⟨x, hx⟩ : ∃ x, gt F j2 = x := ⟨_, rfl⟩
                          obtain ⟨y, hy⟩ : ∃ y, gt F a = y := ⟨_, rfl⟩
                          have b1 : (j2 : Int) < (n : Int) := by omega
                          have b2 : (a : Int) < (n : Int) := by omega
                          have dj := HQ.out.cell (k := j2) (by omega)
                          have dk := HQ.out.cell (k := a) (by omega)
                          have ej := HQ.out.frozen j2
                          have ek := HQ.out.frozen a
                          rw [hx] at dj
                          rw [hy] at dk
                          have HX := Lib.hid hx
                          have HY := Lib.hid hy
                          clear hx hy t1 t3 t4 q
                          go_region
                          go_wp2_with fail
                          go_ret2
                          exact PtS.fin HQ.out HF2.out HY.out HX.out false 1
                      · have t1 : decide ((i2 : Int) ≤ (j2 : Int)) = true := decide_eq_true (by omega)
                        obtain ⟨x, hx⟩ : ∃ x, gt F j2 = x := ⟨_, rfl⟩
                        obtain ⟨y, hy⟩ : ∃ y, gt F a = y := ⟨_, rfl⟩
                        have ci := HS.out.cell (k := j2) (by omega)
                        have ck := HS.out.cell (k := a) (by omega)
                        rw [hx] at ci
                        rw [hy] at ck
                        have b1 : (j2 : Int) < (n : Int) := by omega
                        have b2 : (a : Int) < (n : Int) := by omega
                        have hwj : IntKind.i64.wrap ((j2 : Int) - 1) = ((j2 - 1 : Nat) : Int) := by rw [IntWalk.i64_in _ (by omega)]; omega
                        have HX := Lib.hid hx
                        have HY := Lib.hid hy
                        clear hx hy
                        by_cases l : x < y
                        · have hl : decide (x < y) = true := decide_eq_true l
                          have t3 : ¬ (i2 : Int) > (j2 : Int) := by omega
                          have t4 : decide (j2 < i2) = false := decide_eq_false (by omega)
                          have HL : Hid (gt F j2 < gt F a) := Lib.hid (by rw [HX.out, HY.out]; exact l)
                          clear l
                          go_wp2_with fail
                          go_quiet ((go_at_call 66; exact Calls.quiet_of_same (less_q x y hl _)))
                          generalize hWq : World.drewN _ _ = wq
                          have HQ : Hid (PtS w base g n c a b D F i2 j2 wq) := Lib.hid (by rw [← hWq]; exact HS.out.drewN _)
                          clear hWq HS ci ck hl t1 b1 b2 HX HY hwj
                          go_wp2_with fail
                          have hlt : i2 < j2 := Nat.lt_of_le_of_ne q (fun e => by
                            rcases HE.out with h | h
                            · have := HL.out; subst e; omega
                            · omega)
                          have HC : Hid (gt F a ≤ gt F i2) := Lib.hid (HE.out.elim id (fun e => by omega))
                          obtain ⟨x, hx⟩ : ∃ x, gt F j2 = x := ⟨_, rfl⟩
                          obtain ⟨y, hy⟩ : ∃ y, gt F i2 = y := ⟨_, rfl⟩
                          have b1 : (j2 : Int) < (n : Int) := by omega
                          have b2 : (i2 : Int) < (n : Int) := by omega
                          have dj := HQ.out.cell (k := j2) (by omega)
                          have dk := HQ.out.cell (k := i2) (by omega)
                          have ej := HQ.out.frozen j2
                          have ek := HQ.out.frozen i2
                          rw [hx] at dj
                          rw [hy] at dk
                          have HX := Lib.hid hx
                          have HY := Lib.hid hy
                          have hwj : IntKind.i64.wrap ((j2 : Int) - 1) = ((j2 - 1 : Nat) : Int) := by rw [IntWalk.i64_in _ (by omega)]; omega
                          clear hx hy t3 t4 q
                          go_region
                          go_wp2_with fail
                          go_roundw
                          case rel => exact ⟨i2 + 1, j2 - 1, swp F i2 j2, by rw [Int.natCast_succ], by first | rfl | omega, HQ.out.ex hlt HX.out HY.out HC.out HL.out 1⟩
                          case measure => simp only [intOf]; omega
                        · have hl : decide (x < y) = false := decide_eq_false l
                          have HL : Hid (gt F a ≤ gt F j2) := Lib.hid (by rw [HX.out, HY.out]; omega)
                          clear l
                          go_wp2_with fail
                          go_quiet ((go_at_call 66; exact Calls.quiet_of_same (less_q x y hl _)))
                          go_wp2_with fail
                          exact ⟨⟨j2 - 1, by omega, by first | rfl | omega, (HS.out.dn q g3 HL.out).drewN _, HE.out.imp id fun e => by omega⟩, by simp only [intOf]; omega⟩
          · have hl : decide (x < y) = false := decide_eq_false l
            have HL : Hid (gt F a ≤ gt F j2) := Lib.hid (by rw [HX.out, HY.out]; omega)
            clear l
            go_wp2_with fail
            go_quiet ((go_at_call 66; exact Calls.quiet_of_same (less_q x y hl _)))
            go_wp2_with fail
            exact ⟨⟨j2 - 1, by omega, by first | rfl | omega, (HS.out.dn q g3 HL.out).drewN _, HE.out.imp id fun e => by omega⟩, by simp only [intOf]; omega⟩
    · have t1 : decide ((i2 : Int) ≤ (j : Int)) = true := decide_eq_true (by omega)
      obtain ⟨x, hx⟩ : ∃ x, gt F i2 = x := ⟨_, rfl⟩
      obtain ⟨y, hy⟩ : ∃ y, gt F a = y := ⟨_, rfl⟩
      have ci := HS.out.cell (k := i2) (by omega)
      have ck := HS.out.cell (k := a) (by omega)
      rw [hx] at ci
      rw [hy] at ck
      have b1 : (i2 : Int) < (n : Int) := by omega
      have b2 : (a : Int) < (n : Int) := by omega
      have HX := Lib.hid hx
      have HY := Lib.hid hy
      clear hx hy
      by_cases l : x < y
      · have hl : decide (x < y) = true := decide_eq_true l
        have HL := Lib.hid l
        clear l
        go_wp2_with fail
        go_quiet ((go_at_call 66; exact Calls.quiet_of_same (less_q x y hl _)))
        go_wp2_with fail
        exact ⟨⟨i2 + 1, by omega, by rw [Int.natCast_succ], (HS.out.up q (by rw [HX.out, HY.out]; exact HL.out)).drewN _⟩, by simp only [intOf]; omega⟩
      · have hl : decide (x < y) = false := decide_eq_false l
        have HE : Hid (gt F a ≤ gt F i2 ∨ i2 = j + 1) := Lib.hid (.inl (by rw [HX.out, HY.out]; omega))
        clear l
        go_wp2_with fail
        go_quiet ((go_at_call 66; exact Calls.quiet_of_same (less_q x y hl _)))
        generalize hWq : World.drewN _ _ = wq
        have HQ : Hid (PtS w base g n c a b D F i2 j wq) := Lib.hid (by rw [← hWq]; exact HS.out.drewN _)
        clear hWq HS ci ck hl t1 b1 b2 HX HY q
        go_wp2_with fail
        go_loopw [11] (fun v11 wr2 => ∃ j' : Nat, j' ≤ j ∧ v11 = .int .i64 j' ∧ PtS w base g n c a b D F i2 j' wr2 ∧ (gt F a ≤ gt F i2 ∨ i2 = j' + 1)) (fun v11 _ => (intOf v11).toNat)
        case atStart => exact ⟨j, Nat.le_refl _, rfl, HQ.out, HE.out⟩
        case round =>
          clear HQ HE g1 g2 g3 g4
          obtain ⟨j2, gj, rfl, hS, hE⟩ := hrel
          obtain ⟨g1, g2, g3, g4⟩ := hS.bd
          have HS := Lib.hid hS
          have HE := Lib.hid hE
          clear hS hE
          rcases Nat.lt_or_ge j2 i2 with q | q
          · have t1 : decide (i2 ≤ j2) = false := decide_eq_false (by omega)
            have t3 : (i2 : Int) > (j2 : Int) := by omega
            have t4 : decide (j2 < i2) = true := decide_eq_true (by omega)
            go_wp2_with fail
            go_quiet (fail)
            generalize hWq : World.drewN _ _ = wq
            have HQ : Hid (PtS w base g n c a b D F i2 j2 wq) := Lib.hid (by rw [← hWq]; exact HS.out.drewN _)
            clear hWq HS
            go_wp2_with fail
            by_cases hja : j2 = a
            · subst hja
              have HF2 : Hid (i2 = j2 + 1) := Lib.hid (by omega)
              obtain ⟨x, hx⟩ : ∃ x, gt F j2 = x := ⟨_, rfl⟩
              have b2 : (j2 : Int) < (n : Int) := by omega
              have dj := HQ.out.cell (k := j2) (by omega)
              have ej := HQ.out.frozen j2
              rw [hx] at dj
              have HX := Lib.hid hx
              clear hx t1 t3 t4 q
              go_region
              go_wp2_with fail
              go_ret2
              exact PtS.fin HQ.out HF2.out HX.out HX.out true 1
            · have HF2 : Hid (i2 = j2 + 1) := Lib.hid (by omega)
              obtain ⟨x, hx⟩ : ∃ x, gt F j2 = x := ⟨_, rfl⟩
              obtain ⟨y, hy⟩ : ∃ y, gt F a = y := ⟨_, rfl⟩
              have b1 : (j2 : Int) < (n : Int) := by omega
              have b2 : (a : Int) < (n : Int) := by omega
              have dj := HQ.out.cell (k := j2) (by omega)
              have dk := HQ.out.cell (k := a) (by omega)
              have ej := HQ.out.frozen j2
              have ek := HQ.out.frozen a
              rw [hx] at dj
              rw [hy] at dk
              have HX := Lib.hid hx
              have HY := Lib.hid hy
              clear hx hy t1 t3 t4 q
              go_region
              go_wp2_with fail
              go_ret2
              exact PtS.fin HQ.out HF2.out HY.out HX.out true 1
          · have t1 : decide ((i2 : Int) ≤ (j2 : Int)) = true := decide_eq_true (by omega)
            obtain ⟨x, hx⟩ : ∃ x, gt F j2 = x := ⟨_, rfl⟩
            obtain ⟨y, hy⟩ : ∃ y, gt F a = y := ⟨_, rfl⟩
            have ci := HS.out.cell (k := j2) (by omega)
            have ck := HS.out.cell (k := a) (by omega)
            rw [hx] at ci
            rw [hy] at ck
            have b1 : (j2 : Int) < (n : Int) := by omega
            have b2 : (a : Int) < (n : Int) := by omega
            have hwj : IntKind.i64.wrap ((j2 : Int) - 1) = ((j2 - 1 : Nat) : Int) := by rw [IntWalk.i64_in _ (by omega)]; omega
            have HX := Lib.hid hx
            have HY := Lib.hid hy
            clear hx hy
            by_cases l : x < y
            · have hl : decide (x < y) = true := decide_eq_true l
              have t3 : ¬ (i2 : Int) > (j2 : Int) := by omega
              have t4 : decide (j2 < i2) = false := decide_eq_false (by omega)
              have HL : Hid (gt F j2 < gt F a) := Lib.hid (by rw [HX.out, HY.out]; exact l)
              clear l
              go_wp2_with fail
              go_quiet ((go_at_call 66; exact Calls.quiet_of_same (less_q x y hl _)))
              generalize hWq : World.drewN _ _ = wq
              have HQ : Hid (PtS w base g n c a b D F i2 j2 wq) := Lib.hid (by rw [← hWq]; exact HS.out.drewN _)
              clear hWq HS ci ck hl t1 b1 b2 HX HY hwj
              go_wp2_with fail
              have hlt : i2 < j2 := Nat.lt_of_le_of_ne q (fun e => by
                rcases HE.out with h | h
                · have := HL.out; subst e; omega
                · omega)
              have HC : Hid (gt F a ≤ gt F i2) := Lib.hid (HE.out.elim id (fun e => by omega))
              obtain ⟨x, hx⟩ : ∃ x, gt F j2 = x := ⟨_, rfl⟩
              obtain ⟨y, hy⟩ : ∃ y, gt F i2 = y := ⟨_, rfl⟩
              have b1 : (j2 : Int) < (n : Int) := by omega
              have b2 : (i2 : Int) < (n : Int) := by omega
              have dj := HQ.out.cell (k := j2) (by omega)
              have dk := HQ.out.cell (k := i2) (by omega)
              have ej := HQ.out.frozen j2
              have ek := HQ.out.frozen i2
              rw [hx] at dj
              rw [hy] at dk
              have HX := Lib.hid hx
              have HY := Lib.hid hy
              have hwj : IntKind.i64.wrap ((j2 : Int) - 1) = ((j2 - 1 : Nat) : Int) := by rw [IntWalk.i64_in _ (by omega)]; omega
              clear hx hy t3 t4 q
              go_region
              go_wp2_with fail
              obtain ⟨W1, hW1⟩ : ∃ W1, ((wq.setCell ⟨g, i2, none⟩ (.int .u32 x)).setCell ⟨g, j2, none⟩ (.int .u32 y)).drew = W1 := ⟨_, rfl⟩
              rw [hW1]
              have HS2 : Hid (PtS w base g n c a b D (swp F i2 j2) (i2 + 1) (j2 - 1) W1) := Lib.hid (by rw [← hW1]; exact HQ.out.ex hlt HX.out HY.out HC.out HL.out 1)
              clear HQ HE HC HL HX HY dj dk ej ek b1 b2 hwj hW1
              go_loopw [10, 11] (fun v10 v11 wr2 => ∃ (i j : Nat) (F : List Int), v10 = .int .i64 i ∧ v11 = .int .i64 j ∧ PtS w base g n c a b D F i j wr2) (fun v10 v11 _ => (intOf v11).toNat + 1 - (intOf v10).toNat)
              case atStart => exact ⟨i2 + 1, j2 - 1, swp F i2 j2, by rw [Int.natCast_succ], by first | rfl | omega, HS2.out⟩
              case round =>
                clear HS2 hlt g1 g2 g3 g4 gi gj
                obtain ⟨i, j, F, rfl, rfl, hS⟩ := hrel
                have HS := Lib.hid hS
                clear hS
                go_wp2_with fail
                go_loopw [10] (fun v10 wr2 => ∃ i' : Nat, i ≤ i' ∧ v10 = .int .i64 i' ∧ PtS w base g n c a b D F i' j wr2) (fun v10 _ => j + 1 - (intOf v10).toNat)
                case atStart => exact ⟨i, Nat.le_refl _, rfl, HS.out⟩
                case round =>
                  clear HS
                  obtain ⟨i2, gi, rfl, hS⟩ := hrel
                  obtain ⟨g1, g2, g3, g4⟩ := hS.bd
                  have HS := Lib.hid hS
                  clear hS
                  rcases Nat.lt_or_ge j i2 with q | q
                  · have t1 : decide (i2 ≤ j) = false := decide_eq_false (by omega)
                    have HE : Hid (gt F a ≤ gt F i2 ∨ i2 = j + 1) := Lib.hid (.inr (by omega))
                    clear q
                    go_wp2_with fail
                    go_quiet (fail)
                    generalize hWq : World.drewN _ _ = wq
                    have HQ : Hid (PtS w base g n c a b D F i2 j wq) := Lib.hid (by rw [← hWq]; exact HS.out.drewN _)
                    clear hWq HS
                    go_wp2_with fail
                    go_loopw [11] (fun v11 wr2 => ∃ j' : Nat, j' ≤ j ∧ v11 = .int .i64 j' ∧ PtS w base g n c a b D F i2 j' wr2 ∧ (gt F a ≤ gt F i2 ∨ i2 = j' + 1)) (fun v11 _ => (intOf v11).toNat)
                    case atStart => exact ⟨j, Nat.le_refl _, rfl, HQ.out, HE.out⟩
                    case round =>
                      clear HQ HE g1 g2 g3 g4
                      obtain ⟨j2, gj, rfl, hS, hE⟩ := hrel
                      obtain ⟨g1, g2, g3, g4⟩ := hS.bd
                      have HS := Lib.hid hS
                      have HE := Lib.hid hE
                      clear hS hE
                      rcases Nat.lt_or_ge j2 i2 with q | q
                      · have t1 : decide (i2 ≤ j2) = false := decide_eq_false (by omega)
                        have t3 : (i2 : Int) > (j2 : Int) := by omega
                        have t4 : decide (j2 < i2) = true := decide_eq_true (by omega)
                        go_wp2_with fail
                        go_quiet (fail)
                        generalize hWq : World.drewN _ _ = wq
                        have HQ : Hid (PtS w base g n c a b D F i2 j2 wq) := Lib.hid (by rw [← hWq]; exact HS.out.drewN _)
                        clear hWq HS
                        go_wp2_with fail
                        by_cases hja : j2 = a
                        · subst hja
                          have HF2 : Hid (i2 = j2 + 1) := Lib.hid (by omega)
                          obtain ⟨x, hx⟩ : ∃ x, gt F j2 = x := ⟨_, rfl⟩
                          have b2 : (j2 : Int) < (n : Int) := by omega
                          have dj := HQ.out.cell (k := j2) (by omega)
                          have ej := HQ.out.frozen j2
                          rw [hx] at dj
                          have HX := Lib.hid hx
                          clear hx t1 t3 t4 q
                          go_region
                          go_wp2_with fail
                          go_ret2
                          exact PtS.fin HQ.out HF2.out HX.out HX.out false 1
                        · have HF2 : Hid (i2 = j2 + 1) := Lib.hid (by omega)
                          obtain ⟨x, hx⟩ : ∃ x, gt F j2 = x := ⟨_, rfl⟩
                          obtain ⟨y, hy⟩ : ∃ y, gt F a = y := ⟨_, rfl⟩
                          have b1 : (j2 : Int) < (n : Int) := by omega
                          have b2 : (a : Int) < (n : Int) := by omega
                          have dj := HQ.out.cell (k := j2) (by omega)
                          have dk := HQ.out.cell (k := a) (by omega)
                          have ej := HQ.out.frozen j2
                          have ek := HQ.out.frozen a
                          rw [hx] at dj
                          rw [hy] at dk
                          have HX := Lib.hid hx
                          have HY := Lib.hid hy
                          clear hx hy t1 t3 t4 q
                          go_region
                          go_wp2_with fail
                          go_ret2
                          exact PtS.fin HQ.out HF2.out HY.out HX.out false 1
                      · have t1 : decide ((i2 : Int) ≤ (j2 : Int)) = true := decide_eq_true (by omega)
                        obtain ⟨x, hx⟩ : ∃ x, gt F j2 = x := ⟨_, rfl⟩
                        obtain ⟨y, hy⟩ : ∃ y, gt F a = y := ⟨_, rfl⟩
                        have ci := HS.out.cell (k := j2) (by omega)
                        have ck := HS.out.cell (k := a) (by omega)
                        rw [hx] at ci
                        rw [hy] at ck
                        have b1 : (j2 : Int) < (n : Int) := by omega
                        have b2 : (a : Int) < (n : Int) := by omega
                        have hwj : IntKind.i64.wrap ((j2 : Int) - 1) = ((j2 - 1 : Nat) : Int) := by rw [IntWalk.i64_in _ (by omega)]; omega
                        have HX := Lib.hid hx
                        have HY := Lib.hid hy
                        clear hx hy
                        by_cases l : x < y
                        · have hl : decide (x < y) = true := decide_eq_true l
                          have t3 : ¬ (i2 : Int) > (j2 : Int) := by omega
                          have t4 : decide (j2 < i2) = false := decide_eq_false (by omega)
                          have HL : Hid (gt F j2 < gt F a) := Lib.hid (by rw [HX.out, HY.out]; exact l)
                          clear l
                          go_wp2_with fail
                          go_quiet ((go_at_call 66; exact Calls.quiet_of_same (less_q x y hl _)))
                          generalize hWq : World.drewN _ _ = wq
                          have HQ : Hid (PtS w base g n c a b D F i2 j2 wq) := Lib.hid (by rw [← hWq]; exact HS.out.drewN _)
                          clear hWq HS ci ck hl t1 b1 b2 HX HY hwj
                          go_wp2_with fail
                          have hlt : i2 < j2 := Nat.lt_of_le_of_ne q (fun e => by
                            rcases HE.out with h | h
                            · have := HL.out; subst e; omega
                            · omega)
                          have HC : Hid (gt F a ≤ gt F i2) := Lib.hid (HE.out.elim id (fun e => by omega))
                          obtain ⟨x, hx⟩ : ∃ x, gt F j2 = x := ⟨_, rfl⟩
                          obtain ⟨y, hy⟩ : ∃ y, gt F i2 = y := ⟨_, rfl⟩
                          have b1 : (j2 : Int) < (n : Int) := by omega
                          have b2 : (i2 : Int) < (n : Int) := by omega
                          have dj := HQ.out.cell (k := j2) (by omega)
                          have dk := HQ.out.cell (k := i2) (by omega)
                          have ej := HQ.out.frozen j2
                          have ek := HQ.out.frozen i2
                          rw [hx] at dj
                          rw [hy] at dk
                          have HX := Lib.hid hx
                          have HY := Lib.hid hy
                          have hwj : IntKind.i64.wrap ((j2 : Int) - 1) = ((j2 - 1 : Nat) : Int) := by rw [IntWalk.i64_in _ (by omega)]; omega
                          clear hx hy t3 t4 q
                          go_region
                          go_wp2_with fail
                          go_roundw
                          case rel => exact ⟨i2 + 1, j2 - 1, swp F i2 j2, by rw [Int.natCast_succ], by first | rfl | omega, HQ.out.ex hlt HX.out HY.out HC.out HL.out 1⟩
                          case measure => simp only [intOf]; omega
                        · have hl : decide (x < y) = false := decide_eq_false l
                          have HL : Hid (gt F a ≤ gt F j2) := Lib.hid (by rw [HX.out, HY.out]; omega)
                          clear l
                          go_wp2_with fail
                          go_quiet ((go_at_call 66; exact Calls.quiet_of_same (less_q x y hl _)))
                          go_wp2_with fail
                          exact ⟨⟨j2 - 1, by omega, by first | rfl | omega, (HS.out.dn q g3 HL.out).drewN _, HE.out.imp id fun e => by omega⟩, by simp only [intOf]; omega⟩
                  · have t1 : decide ((i2 : Int) ≤ (j : Int)) = true := decide_eq_true (by omega)
                    obtain ⟨x, hx⟩ : ∃ x, gt F i2 = x := ⟨_, rfl⟩
                    obtain ⟨y, hy⟩ : ∃ y, gt F a = y := ⟨_, rfl⟩
                    have ci := HS.out.cell (k := i2) (by omega)
                    have ck := HS.out.cell (k := a) (by omega)
                    rw [hx] at ci
                    rw [hy] at ck
                    have b1 : (i2 : Int) < (n : Int) := by omega
                    have b2 : (a : Int) < (n : Int) := by omega
                    have HX := Lib.hid hx
                    have HY := Lib.hid hy
                    clear hx hy
                    by_cases l : x < y
                    · have hl : decide (x < y) = true := decide_eq_true l
                      have HL := Lib.hid l
                      clear l
                      go_wp2_with fail
                      go_quiet ((go_at_call 66; exact Calls.quiet_of_same (less_q x y hl _)))
                      go_wp2_with fail
                      exact ⟨⟨i2 + 1, by omega, by rw [Int.natCast_succ], (HS.out.up q (by rw [HX.out, HY.out]; exact HL.out)).drewN _⟩, by simp only [intOf]; omega⟩
                    · have hl : decide (x < y) = false := decide_eq_false l
                      have HE : Hid (gt F a ≤ gt F i2 ∨ i2 = j + 1) := Lib.hid (.inl (by rw [HX.out, HY.out]; omega))
                      clear l
                      go_wp2_with fail
                      go_quiet ((go_at_call 66; exact Calls.quiet_of_same (less_q x y hl _)))
                      generalize hWq : World.drewN _ _ = wq
                      have HQ : Hid (PtS w base g n c a b D F i2 j wq) := Lib.hid (by rw [← hWq]; exact HS.out.drewN _)
                      clear hWq HS ci ck hl t1 b1 b2 HX HY q
                      go_wp2_with fail
                      go_loopw [11] (fun v11 wr2 => ∃ j' : Nat, j' ≤ j ∧ v11 = .int .i64 j' ∧ PtS w base g n c a b D F i2 j' wr2 ∧ (gt F a ≤ gt F i2 ∨ i2 = j' + 1)) (fun v11 _ => (intOf v11).toNat)
                      case atStart => exact ⟨j, Nat.le_refl _, rfl, HQ.out, HE.out⟩
                      case round =>
                        clear HQ HE g1 g2 g3 g4
                        obtain ⟨j2, gj, rfl, hS, hE⟩ := hrel
                        obtain ⟨g1, g2, g3, g4⟩ := hS.bd
                        have HS := Lib.hid hS
                        have HE := Lib.hid hE
                        clear hS hE
                        rcases Nat.lt_or_ge j2 i2 with q | q
                        · have t1 : decide (i2 ≤ j2) = false := decide_eq_false (by omega)
                          have t3 : (i2 : Int) > (j2 : Int) := by omega
                          have t4 : decide (j2 < i2) = true := decide_eq_true (by omega)
                          go_wp2_with fail
                          go_quiet (fail)
                          generalize hWq : World.drewN _ _ = wq
                          have HQ : Hid (PtS w base g n c a b D F i2 j2 wq) := Lib.hid (by rw [← hWq]; exact HS.out.drewN _)
                          clear hWq HS
                          go_wp2_with fail
                          by_cases hja : j2 = a
                          · subst hja
                            have HF2 : Hid (i2 = j2 + 1) := Lib.hid (by omega)
                            obtain ⟨x, hx⟩ : ∃ x, gt F j2 = x := ⟨_, rfl⟩
                            have b2 : (j2 : Int) < (n : Int) := by omega
                            have dj := HQ.out.cell (k := j2) (by omega)
                            have ej := HQ.out.frozen j2
                            rw [hx] at dj
                            have HX := Lib.hid hx
                            clear hx t1 t3 t4 q
                            go_region
                            go_wp2_with fail
                            go_ret2
                            exact PtS.fin HQ.out HF2.out HX.out HX.out false 1
                          · have HF2 : Hid (i2 = j2 + 1) := Lib.hid (by omega)
                            obtain ⟨x, hx⟩ : ∃ x, gt F j2 = x := ⟨_, rfl⟩
                            obtain ⟨y, hy⟩ : ∃ y, gt F a = y := ⟨_, rfl⟩
                            have b1 : (j2 : Int) < (n : Int) := by omega
                            have b2 : (a : Int) < (n : Int) := by omega
                            have dj := HQ.out.cell (k := j2) (by omega)
                            have dk := HQ.out.cell (k := a) (by omega)
                            have ej := HQ.out.frozen j2
                            have ek := HQ.out.frozen a
                            rw [hx] at dj
                            rw [hy] at dk
                            have HX := Lib.hid hx
                            have HY := Lib.hid hy
                            clear hx hy t1 t3 t4 q
                            go_region
                            go_wp2_with fail
                            go_ret2
                            exact PtS.fin HQ.out HF2.out HY.out HX.out false 1
                        · have t1 : decide ((i2 : Int) ≤ (j2 : Int)) = true := decide_eq_true (by omega)
                          obtain ⟨x, hx⟩ : ∃ x, gt F j2 = x := ⟨_, rfl⟩
                          obtain ⟨y, hy⟩ : ∃ y, gt F a = y := ⟨_, rfl⟩
                          have ci := HS.out.cell (k := j2) (by omega)
                          have ck := HS.out.cell (k := a) (by omega)
                          rw [hx] at ci
                          rw [hy] at ck
                          have b1 : (j2 : Int) < (n : Int) := by omega
                          have b2 : (a : Int) < (n : Int) := by omega
                          have hwj : IntKind.i64.wrap ((j2 : Int) - 1) = ((j2 - 1 : Nat) : Int) := by rw [IntWalk.i64_in _ (by omega)]; omega
                          have HX := Lib.hid hx
                          have HY := Lib.hid hy
                          clear hx hy
                          by_cases l : x < y
                          · have hl : decide (x < y) = true := decide_eq_true l
                            have t3 : ¬ (i2 : Int) > (j2 : Int) := by omega
                            have t4 : decide (j2 < i2) = false := decide_eq_false (by omega)
                            have HL : Hid (gt F j2 < gt F a) := Lib.hid (by rw [HX.out, HY.out]; exact l)
                            clear l
                            go_wp2_with fail
                            go_quiet ((go_at_call 66; exact Calls.quiet_of_same (less_q x y hl _)))
                            generalize hWq : World.drewN _ _ = wq
                            have HQ : Hid (PtS w base g n c a b D F i2 j2 wq) := Lib.hid (by rw [← hWq]; exact HS.out.drewN _)
                            clear hWq HS ci ck hl t1 b1 b2 HX HY hwj
                            go_wp2_with fail
                            have hlt : i2 < j2 := Nat.lt_of_le_of_ne q (fun e => by
                              rcases HE.out with h | h
                              · have := HL.out; subst e; omega
                              · omega)
                            have HC : Hid (gt F a ≤ gt F i2) := Lib.hid (HE.out.elim id (fun e => by omega))
                            obtain ⟨x, hx⟩ : ∃ x, gt F j2 = x := ⟨_, rfl⟩
                            obtain ⟨y, hy⟩ : ∃ y, gt F i2 = y := ⟨_, rfl⟩
                            have b1 : (j2 : Int) < (n : Int) := by omega
                            have b2 : (i2 : Int) < (n : Int) := by omega
                            have dj := HQ.out.cell (k := j2) (by omega)
                            have dk := HQ.out.cell (k := i2) (by omega)
                            have ej := HQ.out.frozen j2
                            have ek := HQ.out.frozen i2
                            rw [hx] at dj
                            rw [hy] at dk
                            have HX := Lib.hid hx
                            have HY := Lib.hid hy
                            have hwj : IntKind.i64.wrap ((j2 : Int) - 1) = ((j2 - 1 : Nat) : Int) := by rw [IntWalk.i64_in _ (by omega)]; omega
                            clear hx hy t3 t4 q
                            go_region
                            go_wp2_with fail
                            go_roundw
                            case rel => exact ⟨i2 + 1, j2 - 1, swp F i2 j2, by rw [Int.natCast_succ], by first | rfl | omega, HQ.out.ex hlt HX.out HY.out HC.out HL.out 1⟩
                            case measure => simp only [intOf]; omega
                          · have hl : decide (x < y) = false := decide_eq_false l
                            have HL : Hid (gt F a ≤ gt F j2) := Lib.hid (by rw [HX.out, HY.out]; omega)
                            clear l
                            go_wp2_with fail
                            go_quiet ((go_at_call 66; exact Calls.quiet_of_same (less_q x y hl _)))
                            go_wp2_with fail
                            exact ⟨⟨j2 - 1, by omega, by first | rfl | omega, (HS.out.dn q g3 HL.out).drewN _, HE.out.imp id fun e => by omega⟩, by simp only [intOf]; omega⟩
            · have hl : decide (x < y) = false := decide_eq_false l
              have HL : Hid (gt F a ≤ gt F j2) := Lib.hid (by rw [HX.out, HY.out]; omega)
              clear l
              go_wp2_with fail
              go_quiet ((go_at_call 66; exact Calls.quiet_of_same (less_q x y hl _)))
              go_wp2_with fail
              exact ⟨⟨j2 - 1, by omega, by first | rfl | omega, (HS.out.dn q g3 HL.out).drewN _, HE.out.imp id fun e => by omega⟩, by simp only [intOf]; omega⟩
end Go.Proofs.Ytocigdkndlmikaa
