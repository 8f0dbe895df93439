/- Proved: World.Do asks one side; the law's call hands out what it is told. Conditions: as each law says. -/
import Derived.OwnWalk
import Derived.Test.YtaeafkdfbcppgaaGreatT46
set_option linter.unusedSectionVars false
set_option linter.unusedSimpArgs false
set_option linter.unusedVariables false
namespace Go.Proofs.YtaeafkdfbcppgaaGreat
open Go.RowKit
theorem FlR.keep1 {K K' : Nat → Nat} {w w' : World} {x : Value} {fl : Option (Int × List Int)} {g : Nat} {T : TypeId} {cs : Array Value} (h : FlR K w x fl) (hb : Bk w g T cs) (h1 : T ≠ 86) (h2 : T ≠ 5) (hc : Chg (fun b => b = g) w w') (hK : ∀ b, b < w.heap.size → K' b = K b) : FlR K' w' x fl := by
 obtain ⟨gA, gc, k, cells, e1, e2, e3, e4⟩ := h
 refine ⟨gA, gc, k, cells, e1, e2.chg hc (fun b hb' e => mr_apart e2 hb (Ne.symm h1) (by rw [hb', e])), fun b hb' => (hK b (e2.lt b hb').2).trans (e3 b hb'), ?_⟩
 rcases fl with _ | ⟨to_, l⟩
 ·exact e4
 ·obtain ⟨e, v, e5, A, n, c, e6, e7, e8, e9⟩ := e4
  exact ⟨e, v, e5, A, n, c, e6, ow_keep e7 hc (fun b hb' e => hb.ow_ne e7 h2 (by rw [hb', e])), fun b hb' => (hK b (Ow.lt e7 b hb').2).trans (e8 b hb'), e9⟩
theorem FlR.below {K K' : Nat → Nat} {w w' : World} {x : Value} {fl : Option (Int × List Int)} (h : FlR K w x fl) (hb : Below w.heap.size w w') (hK : ∀ b, b < w.heap.size → K' b = K b) : FlR K' w' x fl :=
 h.keep (Chg.of_below (F := fun _ => False) hb) (fun _ _ _ => .inl id) (fun b hb _ => hK b hb)
def WdR (t : Nat) (K : Nat → Nat) (w : World) (W st0 st1 : Nat) (now last : Int) (begun : Bool) (side : Int) (L : List (List Int)) (Q : Value → (Nat → Nat) → World → Prop) (dv : Value) (w' : World) : Prop :=
 ∃ K' x', Q dv K' w' ∧ Bk w' W 72 (wrC st0 st1 now (nextDraw last begun) true x') ∧ FlR K' w' x' (flO side L) ∧
  (∀ b, b < w.heap.size → K' b = K b) ∧ (∀ b, w.heap.size ≤ b → sideK t (K' b) ∨ K' b = 40 ∨ K' b = 31) ∧ Chg (fun b => sideK t (K b) ∨ b = W ∨ K b = 31) w w'
theorem WcR.wd {t : Nat} {K K1 : Nat → Nat} {w w1 w2 : World} {W T st0 st1 : Nat} {now last : Int} {begun : Bool} {side : Int} {L : List (List Int)} {n a p : Int} {Q : Value → (Nat → Nat) → World → Prop} (h : WcR t K1 w1 W T st0 st1 now last begun side L n a p Q w2) (hb : Below w.heap.size w w1) (k0 : ∀ b, b < w.heap.size → K1 b = K b) (k1 : ∀ b, w.heap.size ≤ b → K1 b = 40) (hT : w.heap.size ≤ T) :
  ∃ y z dA dn dc, Bk w2 T 80 #[y, z] ∧ WdR t K w W st0 st1 now last begun side L Q (.slice dA dn dc) w2 ∧ RowV w2 w.heap.size 65 6 y (retC 0 n a p (.slice dA dn dc)).toList ∧ RowV w2 w.heap.size 3 1 z [.int .i64 side] := by
 obtain ⟨K', dA, dn, dc, x', y, z, h1, h2, h3, h4, h5, h6, h7, h8, h9⟩ := h
 have hs := hb.size
 refine ⟨y, z, dA, dn, dc, h4, ⟨K', x', h1, h2, h3, fun b hb => (h7 b (by omega)).trans (k0 b hb), fun b hb => ?_, (Chg.of_below (F := fun b => sideK t (K b) ∨ b = W ∨ K b = 31) hb).trans h9 (fun b e => ?_)⟩, h5.mono hs, h6.mono hs⟩
 ·rcases Nat.lt_or_ge b w1.heap.size with h | h
  ·right; left; rw [h7 b h]; exact k1 b hb
  ·exact h8 b h
 ·rcases Nat.lt_or_ge b w.heap.size with h | h
  ·left
   rcases e with e | e | e | e
   ·exact .inl (by rw [← k0 b h]; exact e)
   ·exact .inr (.inl e)
   ·exact .inr (.inr (by rw [← k0 b h]; exact e))
   ·omega
  ·exact .inr h
theorem WdR.step {t : Nat} {K : Nat → Nat} {w w1 w2 : World} {W st0 st1 : Nat} {now last : Int} {begun : Bool} {side : Int} {L : List (List Int)} {Q : Value → (Nat → Nat) → World → Prop} {dv : Value} {g : Nat} {T : TypeId} {cs : Array Value} (h : WdR t K w W st0 st1 now last begun side L Q dv w1) (hQs : Stab t Q) (hb : Bk w1 g T cs) (h1 : T ≠ 86) (h2 : T ≠ 5) (h3 : T ≠ 72) (hg : g < w.heap.size) (hkg : ¬ sideK t (K g)) (hkg2 : K g = 40) (hc : Chg (fun b => b = g) w1 w2) :
  ∃ K' x', Q dv K' w2 ∧ Bk w2 W 72 (wrC st0 st1 now (nextDraw last begun) true x') ∧ FlR K' w2 x' (flO side L) ∧
  (∀ b, b < w.heap.size → K' b = K b) ∧ (∀ b, w.heap.size ≤ b → sideK t (K' b) ∨ K' b = 40 ∨ K' b = 31) ∧ Chg (fun b => sideK t (K b) ∨ b = W ∨ K b = 31 ∨ b = g) w w2 := by
 obtain ⟨K', x', q1, q2, q3, q4, q5, q6⟩ := h
 have q3' := q3.keep1 (K' := K') hb h1 h2 hc (fun _ _ => rfl)
 refine ⟨K', x', hQs _ _ _ _ _ _ q1 hc (fun b _ hs e => ?_) (fun _ _ _ => rfl), q2.chg hc (fun e => Bk.ne_ hb q2 h3 e.symm), q3', q4, q5, (q6.mono (fun b _ e => ?_)).trans hc (fun b e => .inl (.inr (.inr (.inr e))))⟩
 ·subst e; rw [q4 _ hg] at hs; exact hkg hs
 ·rcases e with e | e | e
  ·exact .inl e
  ·exact .inr (.inl e)
  ·exact .inr (.inr (.inl e))
theorem WdR.drewN_ {t : Nat} {K : Nat → Nat} {w w1 : World} {W st0 st1 : Nat} {now last : Int} {begun : Bool} {side : Int} {L : List (List Int)} {Q : Value → (Nat → Nat) → World → Prop} {dv : Value} (h : WdR t K w W st0 st1 now last begun side L Q dv w1) (hQs : Stab t Q) (nq : Nat) : WdR t K w W st0 st1 now last begun side L Q dv (w1.drewN nq) := by
 obtain ⟨K', x', q1, q2, q3, q4, q5, q6⟩ := h
 exact ⟨K', x', hQs _ _ _ _ _ (fun _ => False) q1 ((Chg.refl _ w1).drewN nq) (fun _ _ _ e => e) (fun _ _ _ => rfl), q2.drewN nq, FlR.keep (K' := K') q3 ((Chg.refl (fun _ => False) w1).drewN nq) (fun _ _ _ => .inl id) (fun _ _ _ => rfl), q4, q5, q6.drewN nq⟩
set_option maxHeartbeats 8000000 in
set_option maxRecDepth 100000 in
theorem wdo_of (t : Nat) (ht : t ≤ 20) (K : Nat → Nat) (w : World) (W st0 st1 : Nat) (now last : Int) (begun : Bool) (side : Int) (kd fd a p n : Int) (vA : Option Addr) (vn vc : Nat) (L : List (List Int)) (rn ra rp : Int) (Q : Value → (Nat → Nat) → World → Prop)
  (hW : W < w.heap.size) (hQs : Stab t Q) (HC : ∀ K1 w1 T gt gw, (∀ b, b < w.heap.size → K1 b = K b) → (∀ b, w.heap.size ≤ b → K1 b = 40) → Below w.heap.size w w1 → Bk w1 gt 84 #[bp T] → Bk w1 gw 33 #[bp W] → Bk w1 T 80 #[nilS, nilS] → w.heap.size ≤ T → w.heap.size ≤ gt → w.heap.size ≤ gw →
   Calls Tryz.prog 55 #[bp W, .agg #[.int .i64 1, .int .i64 side, .int .i64 kd, .int .i64 0, .int .i64 fd, .int .u32 a, .int .i64 p, .int .i64 n, .slice vA vn vc, .int .i64 0, .int .i64 0, .int .i64 0, .int .i64 0, .int .u8 0], toV gt gw] w1 fun e w' => e = .returned (.int .i64 0) ∧ WcR t K1 w1 W T st0 st1 now last begun side L rn ra rp Q w') :
  Calls Tryz.prog 11 #[bp W, .agg #[.int .i64 1, .int .i64 side, .int .i64 kd, .int .i64 0, .int .i64 fd, .int .u32 a, .int .i64 p, .int .i64 n, .slice vA vn vc, .int .i64 0, .int .i64 0, .int .i64 0, .int .i64 0, .int .u8 0]] w fun e w' => ∃ gy cy gz cz dA dn dc, e = .returned (.tuple #[.slice (some ⟨gy, 0, none⟩) 1 cy, .slice (some ⟨gz, 0, none⟩) 1 cz, .int .i64 0]) ∧ WdR t K w W st0 st1 now last begun side L Q (.slice dA dn dc) w' ∧
   Mr 65 6 w' w.heap.size (some ⟨gy, 0, none⟩) 1 cy (retC 0 rn ra rp (.slice dA dn dc)).toList ∧ Mr 3 1 w' w.heap.size (some ⟨gz, 0, none⟩) 1 cz [.int .i64 side] := by
 have heq : ∀ w, (binOp .eql 77 (.func (.func 55) #[bp W] #[]) Value.nilFunc).run Tryz.prog w = .ok (.bool false) w := fun w => by kernel_rfl
 obtain ⟨W0, hW0⟩ : ∃ W0, w.alloc (.cells #[.int .i64 1, .int .i64 side, .int .i64 kd, .int .i64 0, .int .i64 fd, .int .u32 a, .int .i64 p, .int .i64 n, .slice vA vn vc, .int .i64 0, .int .i64 0, .int .i64 0, .int .i64 0, .int .u8 0] 41) = W0 := ⟨_, rfl⟩
 have hB0 : Below w.heap.size w W0 := by rw [← hW0]; exact (Below.refl _ _).alloc (Nat.le_refl _) _
 have hz0 : W0.heap.size = w.heap.size + 1 := by rw [← hW0]; simp
 have hs0 : Bk W0 w.heap.size 41 #[.int .i64 1, .int .i64 side, .int .i64 kd, .int .i64 0, .int .i64 fd, .int .u32 a, .int .i64 p, .int .i64 n, .slice vA vn vc, .int .i64 0, .int .i64 0, .int .i64 0, .int .i64 0, .int .u8 0] := by rw [← hW0]; exact Bk.new _ _ _
 have y0 : W0.cell? ⟨w.heap.size, 0, none⟩ = some (.int .i64 1) := hs0.cell 0
 have HS := Lib.hid (step_call W W0)
 have HX := Lib.hid (And.intro hB0 (And.intro hz0 (And.intro hs0 ht)))
 have HCC := Lib.hid HC
 have HQS := Lib.hid hQs
 have hWL := Lib.hid hW
 have HW0 := Lib.hid hW0
 clear hW0 hB0 hz0 hs0 HC ht hQs hW
 go_enter Tryz.func11, Tryz.ntmps11
 go_wp2_with fail
 rw [HW0.out]
 refine HS.out.mono ?_
 rintro e1 w1 ⟨rfl, hB1⟩
 obtain ⟨W2, hW2⟩ : ∃ W2, w1.alloc (.cells #[nilS, nilS] 80) = W2 := ⟨_, rfl⟩
 obtain ⟨T, hT⟩ : ∃ T, w1.heap.size = T := ⟨_, rfl⟩
 obtain ⟨W3, hW3⟩ : ∃ W3, (W2.drew.alloc (.cells #[bp W] 33)).alloc (.cells #[bp T] 84) = W3 := ⟨_, rfl⟩
 obtain ⟨gw, hgw⟩ : ∃ g, W2.drew.heap.size = g := ⟨_, rfl⟩
 obtain ⟨hB0, hz0, hs0, ht⟩ := HX.out
 have hB01 : Below w.heap.size w w1 := hB0.trans (hB1.mono (by omega))
 have hB12 : Below w1.heap.size w1 W2 := by rw [← hW2]; exact (Below.refl _ _).alloc (Nat.le_refl _) _
 have hB23 : Below W2.drew.heap.size W2.drew W3 := by rw [← hW3]; exact ((Below.refl _ _).alloc (Nat.le_refl _) _).alloc (by simp) _
 have hT2 : Bk W2 T 80 #[nilS, nilS] := by rw [← hW2, ← hT]; exact Bk.new _ _ _
 have hT3 : Bk W3 T 80 #[nilS, nilS] := hT2.drew.below hB23 hT2.drew.lt
 have hgw3 : Bk W3 gw 33 #[bp W] := by rw [← hW3, ← hgw]; exact (Bk.new _ _ _).alloc _
 have hgt3 : Bk W3 (gw + 1) 84 #[bp T] := by
  rw [← hW3, ← hgw]
  have := Bk.new (W2.drew.alloc (.cells #[bp W] 33)) 84 #[bp T]
  rwa [World.size_alloc] at this
 have hl1 := hB01.size
 have hl0 := hB1.size
 have hl2 := hB12.size
 have e3 : W2.drew.heap.size = W2.heap.size := rfl
 have hBw3 : Below w.heap.size w W3 := (hB01.trans (hB12.mono hl1)).drew.trans (hB23.mono (by omega))
 have hs2 : Bk W2 w.heap.size 41 #[.int .i64 1, .int .i64 side, .int .i64 kd, .int .i64 0, .int .i64 fd, .int .u32 a, .int .i64 p, .int .i64 n, .slice vA vn vc, .int .i64 0, .int .i64 0, .int .i64 0, .int .i64 0, .int .u8 0] := (hs0.below hB1 hs0.lt).below hB12 (by omega)
 have hs3 : Bk W3 w.heap.size 41 #[.int .i64 1, .int .i64 side, .int .i64 kd, .int .i64 0, .int .i64 fd, .int .u32 a, .int .i64 p, .int .i64 n, .slice vA vn vc, .int .i64 0, .int .i64 0, .int .i64 0, .int .i64 0, .int .u8 0] := hs2.drew.below hB23 hs2.drew.lt
 have HG : Hid (Calls Tryz.prog 25 #[bp W, bp T] W2.drew fun e w' => e = .returned (.func (.func 61) #[] #[bp (gw + 1), bp gw]) ∧ w' = W3) := Lib.hid (by
  rw [← hgw]
  exact (gather_any W T W2.drew).mono (fun e w' q => ⟨q.1, q.2.trans hW3⟩))
 obtain ⟨K1, k0, k1⟩ : ∃ K1 : Nat → Nat, (∀ b, b < w.heap.size → K1 b = K b) ∧ ∀ b, w.heap.size ≤ b → K1 b = 40 := ⟨fun b => if b < w.heap.size then K b else 40, fun b hb => if_pos hb, fun b hb => if_neg (by omega)⟩
 have hq1 : w.heap.size ≤ T := by omega
 have hq2 : w.heap.size ≤ gw := by omega
 have hcal := HCC.out K1 W3 T (gw + 1) gw k0 k1 hBw3 hgt3 hgw3 hT3 hq1 (by omega) hq2
 unfold toV at hcal
 have HCAL := Lib.hid hcal
 have HP4 : Hid (∀ w', WcR t K1 W3 W T st0 st1 now last begun side L rn ra rp Q w' → w'.cell? ⟨w.heap.size, 0, none⟩ = some (.int .i64 1) ∧ w'.cell? ⟨w.heap.size, 1, none⟩ = some (.int .i64 side) ∧ w'.cell? ⟨w.heap.size, 2, none⟩ = some (.int .i64 kd) ∧ w'.cell? ⟨w.heap.size, 3, none⟩ = some (.int .i64 0) ∧ w'.cell? ⟨w.heap.size, 4, none⟩ = some (.int .i64 fd) ∧ w'.cell? ⟨w.heap.size, 5, none⟩ = some (.int .u32 a) ∧ w'.cell? ⟨w.heap.size, 6, none⟩ = some (.int .i64 p) ∧ w'.cell? ⟨w.heap.size, 7, none⟩ = some (.int .i64 n) ∧ w'.cell? ⟨w.heap.size, 8, none⟩ = some (.slice vA vn vc) ∧ w'.cell? ⟨w.heap.size, 9, none⟩ = some (.int .i64 0) ∧ w'.cell? ⟨w.heap.size, 10, none⟩ = some (.int .i64 0) ∧ w'.cell? ⟨w.heap.size, 11, none⟩ = some (.int .i64 0) ∧ w'.cell? ⟨w.heap.size, 12, none⟩ = some (.int .i64 0) ∧ w'.cell? ⟨w.heap.size, 13, none⟩ = some (.int .u8 0)) := Lib.hid fun w' h => by
  obtain ⟨_, _, _, _, _, _, _, _, _, _, _, _, _, _, _, hc⟩ := h
  have q := hs3.chg hc (fun e => by
   rcases e with e | e | e | e
   ·rw [k1 _ (Nat.le_refl _)] at e
    rcases e with h | h
    ·exact absurd h.2 (by omega)
    ·omega
   ·have := hWL.out; omega
   ·rw [k1 _ (Nat.le_refl _)] at e; cases e
   ·omega)
  exact ⟨q.cell 0, q.cell 1, q.cell 2, q.cell 3, q.cell 4, q.cell 5, q.cell 6, q.cell 7, q.cell 8, q.cell 9, q.cell 10, q.cell 11, q.cell 12, q.cell 13⟩
 have HEND := Lib.hid (fun w2 (h : WcR t K1 W3 W T st0 st1 now last begun side L rn ra rp Q w2) => h.wd hBw3 k0 k1 hq1)
 have HW2 : Hid (w1.alloc (.cells #[.slice none 0 0, .slice none 0 0] 80) = W2) := Lib.hid hW2
 have HT := Lib.hid hT
 have z0 : W2.drew.cell? ⟨w.heap.size, 0, none⟩ = some (.int .i64 1) := hs2.drew.cell 0
 have x0 : W3.cell? ⟨w.heap.size, 0, none⟩ = some (.int .i64 1) := hs3.cell 0
 have z1 : W2.drew.cell? ⟨w.heap.size, 1, none⟩ = some (.int .i64 side) := hs2.drew.cell 1
 have x1 : W3.cell? ⟨w.heap.size, 1, none⟩ = some (.int .i64 side) := hs3.cell 1
 have z2 : W2.drew.cell? ⟨w.heap.size, 2, none⟩ = some (.int .i64 kd) := hs2.drew.cell 2
 have x2 : W3.cell? ⟨w.heap.size, 2, none⟩ = some (.int .i64 kd) := hs3.cell 2
 have z3 : W2.drew.cell? ⟨w.heap.size, 3, none⟩ = some (.int .i64 0) := hs2.drew.cell 3
 have x3 : W3.cell? ⟨w.heap.size, 3, none⟩ = some (.int .i64 0) := hs3.cell 3
 have z4 : W2.drew.cell? ⟨w.heap.size, 4, none⟩ = some (.int .i64 fd) := hs2.drew.cell 4
 have x4 : W3.cell? ⟨w.heap.size, 4, none⟩ = some (.int .i64 fd) := hs3.cell 4
 have z5 : W2.drew.cell? ⟨w.heap.size, 5, none⟩ = some (.int .u32 a) := hs2.drew.cell 5
 have x5 : W3.cell? ⟨w.heap.size, 5, none⟩ = some (.int .u32 a) := hs3.cell 5
 have z6 : W2.drew.cell? ⟨w.heap.size, 6, none⟩ = some (.int .i64 p) := hs2.drew.cell 6
 have x6 : W3.cell? ⟨w.heap.size, 6, none⟩ = some (.int .i64 p) := hs3.cell 6
 have z7 : W2.drew.cell? ⟨w.heap.size, 7, none⟩ = some (.int .i64 n) := hs2.drew.cell 7
 have x7 : W3.cell? ⟨w.heap.size, 7, none⟩ = some (.int .i64 n) := hs3.cell 7
 have z8 : W2.drew.cell? ⟨w.heap.size, 8, none⟩ = some (.slice vA vn vc) := hs2.drew.cell 8
 have x8 : W3.cell? ⟨w.heap.size, 8, none⟩ = some (.slice vA vn vc) := hs3.cell 8
 have z9 : W2.drew.cell? ⟨w.heap.size, 9, none⟩ = some (.int .i64 0) := hs2.drew.cell 9
 have x9 : W3.cell? ⟨w.heap.size, 9, none⟩ = some (.int .i64 0) := hs3.cell 9
 have z10 : W2.drew.cell? ⟨w.heap.size, 10, none⟩ = some (.int .i64 0) := hs2.drew.cell 10
 have x10 : W3.cell? ⟨w.heap.size, 10, none⟩ = some (.int .i64 0) := hs3.cell 10
 have z11 : W2.drew.cell? ⟨w.heap.size, 11, none⟩ = some (.int .i64 0) := hs2.drew.cell 11
 have x11 : W3.cell? ⟨w.heap.size, 11, none⟩ = some (.int .i64 0) := hs3.cell 11
 have z12 : W2.drew.cell? ⟨w.heap.size, 12, none⟩ = some (.int .i64 0) := hs2.drew.cell 12
 have x12 : W3.cell? ⟨w.heap.size, 12, none⟩ = some (.int .i64 0) := hs3.cell 12
 have z13 : W2.drew.cell? ⟨w.heap.size, 13, none⟩ = some (.int .u8 0) := hs2.drew.cell 13
 have x13 : W3.cell? ⟨w.heap.size, 13, none⟩ = some (.int .u8 0) := hs3.cell 13
 clear y0 hB0 hz0 hs0 ht hB1 hB01 hB12 hB23 hT2 hT3 hgw3 hgt3 hl0 hl1 hl2 e3 hBw3 hs2 hs3 k0 k1 hq1 hq2 hcal hW2 hW3 hT hgw
 go_upto_region 7 with (fail)
 rw [HW2.out, HT.out]
 go_region_held3 (fun w' => w'.cell? ⟨w.heap.size, 0, none⟩ = some (.int .i64 1) ∧ w'.cell? ⟨w.heap.size, 1, none⟩ = some (.int .i64 side) ∧ w'.cell? ⟨w.heap.size, 2, none⟩ = some (.int .i64 kd) ∧ w'.cell? ⟨w.heap.size, 3, none⟩ = some (.int .i64 0) ∧ w'.cell? ⟨w.heap.size, 4, none⟩ = some (.int .i64 fd) ∧ w'.cell? ⟨w.heap.size, 5, none⟩ = some (.int .u32 a) ∧ w'.cell? ⟨w.heap.size, 6, none⟩ = some (.int .i64 p) ∧ w'.cell? ⟨w.heap.size, 7, none⟩ = some (.int .i64 n) ∧ w'.cell? ⟨w.heap.size, 8, none⟩ = some (.slice vA vn vc) ∧ w'.cell? ⟨w.heap.size, 9, none⟩ = some (.int .i64 0) ∧ w'.cell? ⟨w.heap.size, 10, none⟩ = some (.int .i64 0) ∧ w'.cell? ⟨w.heap.size, 11, none⟩ = some (.int .i64 0) ∧ w'.cell? ⟨w.heap.size, 12, none⟩ = some (.int .i64 0) ∧ w'.cell? ⟨w.heap.size, 13, none⟩ = some (.int .u8 0))
  (first | (with_reducible exact ⟨by assumption, by assumption, by assumption, by assumption, by assumption, by assumption, by assumption, by assumption, by assumption, by assumption, by assumption, by assumption, by assumption, by assumption⟩) | go_keep)
  (first
  | (go_at_call 25; refine HG.out.mono ?_; rintro e3 w3 ⟨rfl, rfl⟩)
  | (go_at_call 55; refine HCAL.out.mono ?_; rintro e4 w4 ⟨rfl, hR4⟩; obtain ⟨p0, p1, p2, p3, p4, p5, p6, p7, p8, p9, p10, p11, p12, p13⟩ := HP4.out w4 hR4))
 obtain ⟨y, z, dA, dn, dc, hT4, hD4, ⟨gy, cy, rfl, hgy, hy4⟩, ⟨gz, cz, rfl, hgz, hz4⟩⟩ := HEND.out w4 hR4
 have u0 : w4.cell? ⟨T, 0, none⟩ = some (.slice (some ⟨gy, 0, none⟩) 1 cy) := hT4.cell 0
 have u1 : w4.cell? ⟨T, 1, none⟩ = some (.slice (some ⟨gz, 0, none⟩) 1 cz) := hT4.cell 1
 have hst4 : ∀ nq, WdR t K w W st0 st1 now last begun side L Q (.slice dA dn dc) (w4.drewN nq) := fun nq => hD4.drewN_ HQS.out nq
 have hy5 := hy4.rebase (base' := w.heap.size) (fun b e => by
  have e2 : gy = b := by simpa [blk] using e
  omega)
 have hz5 := hz4.rebase (base' := w.heap.size) (fun b e => by
  have e2 : gz = b := by simpa [blk] using e
  omega)
 have HF := Lib.hid (And.intro hst4 (And.intro hy5 hz5))
 clear hR4 hT4 hD4 hgy hy4 hgz hz4 hst4 hy5 hz5 z0 x0 p0 z1 x1 p1 z2 x2 p2 z3 x3 p3 z4 x4 p4 z5 x5 p5 z6 x6 p6 z7 x7 p7 z8 x8 p8 z9 x9 p9 z10 x10 p10 z11 x11 p11 z12 x12 p12 z13 x13 p13
 go_wp2_with fail
 go_quiet (fail)
 go_wp2
 go_ret3
 exact ⟨gy, cy, gz, cz, dA, dn, dc, rfl, HF.out.1 nq, HF.out.2.1.drewN nq, HF.out.2.2.drewN nq⟩
end Go.Proofs.YtaeafkdfbcppgaaGreat
