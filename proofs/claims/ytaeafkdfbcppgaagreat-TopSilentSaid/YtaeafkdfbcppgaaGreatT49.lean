/- Proved: a frame arrives at one side, and what it sends for it is laid; a tick passes in a world of which each side sends nothing; Settle of two ticks, where three frames arrive one after the other. Conditions: as each law says. -/
import Derived.Test.YtaeafkdfbcppgaaGreatT48
set_option linter.unusedSectionVars false
set_option linter.unusedSimpArgs false
set_option linter.unusedVariables false
namespace Go.Proofs.YtaeafkdfbcppgaaGreat
open Go.RowKit
def SkQ (t : Nat) (K : Nat → Nat) (w : World) (L : List (List Int)) (Q : Value → (Nat → Nat) → World → Prop) (e : Ending) (w' : World) : Prop :=
 ∃ K' x, e = .returned (.tuple #[nilS, x]) ∧ Q nilS K' w' ∧ FrR K' w' w.heap.size x L ∧ (∀ b, b < w.heap.size → K' b = K b) ∧ (∀ b, w.heap.size ≤ b → sideK t (K' b) ∨ K' b = 40) ∧ Chg (fun b => sideK t (K b)) w w'
theorem gather_none (side : Int) (fA : Option Addr) (fc : Nat) (gt gw : Nat) (w : World) :
  Calls Tryz.prog 61 #[.int .i64 side, nilS, .slice fA 0 fc, bp gt, bp gw] w fun e w' => e = .returned (.tuple #[]) ∧ w = w' := by
 go_enter Tryz.func61, Tryz.ntmps61
 go_wp2
 refine wp_loop_rounds 1 ?_; rw [rounds_succ]
 go_wp2
 refine wp_loop_rounds 1 ?_; rw [rounds_succ]
 go_wp2
 go_end0
 exact ⟨rfl, rfl⟩
def GfR (w : World) (W s0 s1 : Nat) (now last : Int) (begun : Bool) (gA : Option Addr) (side : Int) (vs : List Value) (w' : World) : Prop :=
 match vs with | [v] => LayP w W s0 s1 now last begun gA 0 [] (1 - side) v w' | _ => w = w'
theorem gather_fr (W s0 s1 : Nat) (now last : Int) (begun : Bool) (gA : Option Addr) (gc : Nat) (side : Int) (hsd : 0 ≤ side ∧ side ≤ 1) (gt gw : Nat) (fA : Option Addr) (fc m : Nat) (vs : List Value) (hmv : vs.length = m) (hm1 : m ≤ 1) (w : World) (hw : Bk w gw 33 #[bp W]) (hb : Bk w W 72 (wrC s0 s1 now last begun (.slice gA 0 gc))) (hm : Mr 86 2 w 0 gA 0 gc []) (hne : blk gA ≠ some W) (hf : Of 37 w 0 fA m fc vs) (hvs : ∀ v ∈ vs, ∃ A n c, v = .slice A n c) :
  Calls Tryz.prog 61 #[.int .i64 side, nilS, .slice fA m fc, bp gt, bp gw] w fun e w' => e = .returned (.tuple #[]) ∧ GfR w W s0 s1 now last begun gA side vs w' := by
 rcases vs with _ | ⟨v, _ | ⟨v2, vs⟩⟩
 ·obtain rfl : m = 0 := hmv.symm
  exact gather_none side fA fc gt gw w
 ·obtain rfl : m = 1 := hmv.symm
  obtain ⟨A, n, c, rfl⟩ := hvs v (by simp)
  exact gather_frame W s0 s1 now last begun gA 0 gc [] (by omega) side hsd gt gw fA fc A n c w hw hb hm hne hf
 ·exact absurd hmv (by simp only [List.length_cons]; omega)
theorem ar_end {t : Nat} (ht : t ≤ 20) {K K1 K2 : Nat → Nat} {w w1 w2 w3 : World} {W st0 st1 : Nat} {now last : Int} {begun : Bool} {side : Int} {L : List (List Int)} {Q : Value → (Nat → Nat) → World → Prop} {dv : Value} {gA : Option Addr} {gc : Nat} {vs : List Value}
  (hQs : Stab t Q) (hQ : Q dv K2 w2) (k0 : ∀ b, b < w.heap.size → K1 b = K b) (k1 : ∀ b, w.heap.size ≤ b → K1 b = 40) (c01 : Chg (fun b => b = W) w w1) (j1 : ∀ b, b < w1.heap.size → K2 b = K1 b) (j2 : ∀ b, w1.heap.size ≤ b → sideK t (K2 b) ∨ K2 b = 40) (c12 : Chg (fun b => sideK t (K1 b)) w1 w2)
  (hrows : RowsAt w2 (fun b => K2 b = 40 ∧ w1.heap.size ≤ b) vs L) (hL : L.length ≤ 1) (hKW : K W = 30) (hW : W < w.heap.size) (hg : ∀ b, blk gA = some b → b < w.heap.size ∧ K b = 31)
  (hb2 : Bk w2 W 72 (wrC st0 st1 now (nextDraw last begun) true (.slice gA 0 gc))) (hm2 : Mr 86 2 w2 0 gA 0 gc [])
  (hG : GfR w2 W st0 st1 now (nextDraw last begun) true gA side vs w3) : WdR t K w W st0 st1 now last begun side L Q dv w3 := by
 have s1 := c01.size
 have s2 := c12.size
 have n30 : ¬ sideK t 30 := by
  rintro (h | h)
  ·exact absurd h.2 (by omega)
  ·omega
 have n31 : ¬ sideK t 31 := by
  rintro (h | h)
  ·exact absurd h.2 (by omega)
  ·omega
 have kb : ∀ b, b < w.heap.size → K2 b = K b := fun b hb => (j1 b (by omega)).trans (k0 b hb)
 have h02 : Chg (fun b => sideK t (K b) ∨ b = W ∨ K b = 31) w w2 := (c01.mono (G := fun b => sideK t (K b) ∨ b = W ∨ K b = 31) (fun _ _ e => .inr (.inl e))).trans c12 (fun b e => by
  rcases Nat.lt_or_ge b w.heap.size with h | h
  ·exact .inl (.inl (by rw [← k0 b h]; exact e))
  ·exact .inr h)
 have hup : ∀ b, w.heap.size ≤ b → b < w2.heap.size → sideK t (K2 b) ∨ K2 b = 40 ∨ K2 b = 31 := fun b hb _ => by
  rcases Nat.lt_or_ge b w1.heap.size with h' | h'
  ·right; left; rw [j1 b h']; exact k1 b hb
  ·exact (j2 b h').imp id .inl
 rcases L with _ | ⟨l, _ | ⟨l2, L⟩⟩
 ·rcases vs with _ | ⟨v, vs⟩
  ·have e : w2 = w3 := hG
   subst e
   refine ⟨K2, _, hQ, hb2, ⟨gA, gc, 0, [], rfl, hm2, fun b hb => ?_, rfl⟩, kb, fun b hb => ?_, h02⟩
   ·rw [kb b (hg b hb).1]; exact (hg b hb).2
   ·rcases Nat.lt_or_ge b w1.heap.size with h' | h'
    ·right; left; rw [j1 b h']; exact k1 b hb
    ·exact (j2 b h').imp id .inl
  ·exact hrows.elim
 ·rcases vs with _ | ⟨v, _ | ⟨v2, vs⟩⟩
  ·exact hrows.elim
  ·obtain ⟨g, fc', hW3, hm3, hg3, hc3⟩ := hG
   obtain ⟨K3, h3, h4, h5⟩ : ∃ K3 : Nat → Nat, (∀ b, b < w2.heap.size → K3 b = K2 b) ∧ (∀ b, w2.heap.size ≤ b → K3 b = 40 ∨ K3 b = 31) ∧ (w2.heap.size ≤ g → K3 g = 31) := ⟨fun b => if b < w2.heap.size then K2 b else if b = g then 31 else 40, fun b hb => if_pos hb, fun b hb => by
    dsimp only
    rw [if_neg (by omega)]
    split
    ·exact .inr rfl
    ·exact .inl rfl, fun h => by dsimp only; rw [if_neg (by omega), if_pos rfl]⟩
   have hKg : K3 g = 31 := by
    rcases hg3 with e | e
    ·rw [h3 g (by have := (hg g e).1; omega), kb g (hg g e).1]; exact (hg g e).2
    ·exact h5 e
   refine ⟨K3, _, hQs _ _ _ _ _ _ hQ hc3 (fun b hb hs e => ?_) (fun b hb _ => h3 b hb), hW3, ⟨some ⟨g, 0, none⟩, fc', 1, _, rfl, hm3, fun b hb => ?_, rfl, v, rfl, ?_⟩, fun b hb => (h3 b (by omega)).trans (kb b hb), fun b hb => ?_, h02.trans hc3 (fun b e => ?_)⟩
   ·rcases e with e | e
    ·subst e; rw [kb _ hW, hKW] at hs; exact n30 hs
    ·rw [kb _ (hg b e).1, (hg b e).2] at hs; exact n31 hs
   ·have e : g = b := by simpa [blk] using hb
    rw [← e]; exact hKg
   ·refine (RowsAt.cap hrows).1.keep (fun b hb hl => hc3.block b hl (fun e => ?_)) (fun b hb => ?_)
    ·have h8 := hb.1.2
     rcases e with e | e
     ·omega
     ·have := (hg b e).1; omega
    ·show K3 b = 40
     rw [h3 b hb.2]; exact hb.1.1
   ·rcases Nat.lt_or_ge b w2.heap.size with h | h
    ·rw [h3 b h]; exact hup b hb h
    ·right; exact h4 b h
   ·rcases e with e | e
    ·exact .inl (.inr (.inl e))
    ·exact .inl (.inr (.inr (hg b e).2))
  ·exact hrows.2.elim
 ·exact absurd hL (by simp only [List.length_cons]; omega)
set_option maxHeartbeats 8000000 in
set_option maxRecDepth 100000 in
theorem arrives_0 (t : Nat) (ht : t ≤ 20) (K : Nat → Nat) (w : World) (W gt gw st0 st1 : Nat) (now last : Int) (begun : Bool) (gA : Option Addr) (gc : Nat) (vA : Option Addr) (vn vc : Nat) (L : List (List Int)) (Q : Value → (Nat → Nat) → World → Prop)
  (hb : Bk w W 72 (wrC st0 st1 now last begun (.slice gA 0 gc))) (hKW : K W = 30) (hm : Mr 86 2 w 0 gA 0 gc []) (hg : ∀ b, blk gA = some b → K b = 31) (hgw : Bk w gw 33 #[bp W]) (hKw : K gw = 40) (hL : L.length ≤ 1) (hQs : Stab t Q)
  (hSk : ∀ K1 w1, (∀ b, b < w.heap.size → K1 b = K b) → (∀ b, w.heap.size ≤ b → K1 b = 40) → Chg (fun b => b = W) w w1 → Calls Tryz.prog 113 #[bp st0, .slice vA vn vc, .int .i64 now, .int .i64 (nextDraw last begun)] w1 (SkQ t K1 w1 L Q)) :
  Calls Tryz.prog 52 #[bp W, .agg #[.int .i64 0, .slice vA vn vc], toV gt gw] w fun e w' => e = .returned (.tuple #[]) ∧ WdR t K w W st0 st1 now last begun 0 L Q nilS w' := by
 obtain ⟨W0, hW0⟩ : ∃ W0, w.alloc (.cells #[.int .i64 0, .slice vA vn vc] 86) = W0 := ⟨_, rfl⟩
 have hB0 : Below w.heap.size w W0 := by rw [← hW0]; exact (Below.refl _ _).alloc (Nat.le_refl _) _
 have hf0 : Bk W0 w.heap.size 86 #[.int .i64 0, .slice vA vn vc] := by rw [← hW0]; exact Bk.new _ _ _
 have hz0 : W0.heap.size = w.heap.size + 1 := by rw [← hW0]; simp
 have hb0 := hb.below hB0 hb.lt
 have hWl := hb.lt
 have hne0 : w.heap.size ≠ W := by omega
 have hix : ∀ w, (Instr.indexAt 69 (.pointer (some ⟨W, 0, none⟩)) (.int .i64 0)).run Tryz.prog w = .ok (.pointer (some ⟨W, 0, none⟩)) w := ix_side W 0 0 (.inl rfl)
 obtain ⟨K1, k0, k1⟩ : ∃ K1 : Nat → Nat, (∀ b, b < w.heap.size → K1 b = K b) ∧ ∀ b, w.heap.size ≤ b → K1 b = 40 := ⟨fun b => if b < w.heap.size then K b else 40, fun b hb => if_pos hb, fun b hb => if_neg (by omega)⟩
 have HD0 := Lib.hid (draw_any W st0 st1 now last begun (.slice gA 0 gc) W0.drew hb0.drew)
 have n30 : ¬ sideK t 30 := by
  rintro (h | h)
  ·exact absurd h.2 (by omega)
  ·omega
 have n31 : ¬ sideK t 31 := by
  rintro (h | h)
  ·exact absurd h.2 (by omega)
  ·omega
 have n40 : ¬ sideK t 40 := by
  rintro (h | h)
  ·exact absurd h.2 (by omega)
  ·omega
 have hP1 : Hid (∀ w', Bk w' W 72 (wrC st0 st1 now (nextDraw last begun) true (.slice gA 0 gc)) → Chg (fun b => b = W) W0.drew w' → w'.cell? ⟨w.heap.size, 0, none⟩ = some (.int .i64 0) ∧ w'.cell? ⟨w.heap.size, 1, none⟩ = some (.slice vA vn vc) ∧ w'.cell? ⟨W, 0, none⟩ = some (bp st0) ∧ w'.cell? ⟨W, 2, none⟩ = some (.int .i64 now)) := Lib.hid fun w' h1 h2 => ⟨(hf0.drew.chg h2 hne0).cell 0, (hf0.drew.chg h2 hne0).cell 1, h1.cell 0, h1.cell 2⟩
 have hP2 : Hid (∀ w1 w', Bk w1 W 72 (wrC st0 st1 now (nextDraw last begun) true (.slice gA 0 gc)) → Chg (fun b => b = W) W0.drew w1 → Chg (fun b => sideK t (K1 b)) w1 w' → w'.cell? ⟨w.heap.size, 0, none⟩ = some (.int .i64 0) ∧ w'.cell? ⟨w.heap.size, 1, none⟩ = some (.slice vA vn vc) ∧ w'.cell? ⟨W, 0, none⟩ = some (bp st0) ∧ w'.cell? ⟨W, 2, none⟩ = some (.int .i64 now)) := Lib.hid fun w1 w' h1 h2 h3 => by
  have a1 := (hf0.drew.chg h2 hne0).chg h3 (fun e => by rw [k1 _ (Nat.le_refl _)] at e; exact n40 e)
  have a2 := h1.chg h3 (fun e => by rw [k0 _ hWl, hKW] at e; exact n30 e)
  exact ⟨a1.cell 0, a1.cell 1, a2.cell 0, a2.cell 2⟩
 have HSK := Lib.hid (fun w1 (hc : Chg (fun b => b = W) W0.drew w1) => hSk K1 w1 k0 k1 ((Chg.of_below (F := fun b => b = W) hB0).drew_.trans hc (fun _ e => .inl e)))
 have y0 : W0.drew.cell? ⟨w.heap.size, 0, none⟩ = some (.int .i64 0) := hf0.cell 0
 have y1 : W0.drew.cell? ⟨w.heap.size, 1, none⟩ = some (.slice vA vn vc) := hf0.cell 1
 have yW : W0.drew.cell? ⟨W, 0, none⟩ = some (bp st0) := hb0.cell 0
 have yn : W0.drew.cell? ⟨W, 2, none⟩ = some (.int .i64 now) := hb0.cell 2
 have HX := Lib.hid (And.intro hB0 (And.intro hb (And.intro hKW (And.intro hm (And.intro hg (And.intro hgw (And.intro hKw (And.intro hL (And.intro hQs (And.intro ht (And.intro k0 (And.intro k1 (And.intro hWl (And.intro n30 (And.intro n31 n40)))))))))))))))
 have HW0 := Lib.hid hW0
 clear hW0 hB0 hf0 hz0 hb0 hne0 k0 k1 n30 n31 n40 hb hKW hm hg hgw hKw hL hQs ht hSk hWl
 unfold toV
 go_enter Tryz.func52, Tryz.ntmps52
 go_upto_region 1 with (fail)
 rw [HW0.out]
 go_region_held3 (fun w' => w'.cell? ⟨w.heap.size, 0, none⟩ = some (.int .i64 0) ∧ w'.cell? ⟨w.heap.size, 1, none⟩ = some (.slice vA vn vc) ∧ w'.cell? ⟨W, 0, none⟩ = some (bp st0) ∧ w'.cell? ⟨W, 2, none⟩ = some (.int .i64 now))
  (first | (with_reducible exact ⟨by assumption, by assumption, by assumption, by assumption⟩) | go_keep)
  (first
  | (go_at_call 114; refine HD0.out.mono ?_; rintro e1 w1 ⟨rfl, hb1, hc1⟩; obtain ⟨p0, p1, p2, p3⟩ := hP1.out w1 hb1 hc1)
  | (go_at_call 113; refine (HSK.out w1 hc1).mono ?_; rintro e2 w2 ⟨K2, xx, rfl, hQ2, ⟨fA, fc, vs, rfl, hof2, hrw2, hfk2⟩, j1, j2, hc2⟩; obtain ⟨q0, q1, q2, q3⟩ := hP2.out w1 w2 hb1 hc1 hc2))
 obtain ⟨hB0, hb, hKW, hm, hg, hgw, hKw, hL, hQs, ht, k0, k1, hWl, n30, n31, n40⟩ := HX.out
 have hcw1 : Chg (fun b => b = W) w w1 := (Chg.of_below (F := fun b => b = W) hB0).drew_.trans hc1 (fun _ e => .inl e)
 have hgl : ∀ b, blk gA = some b → b < w.heap.size ∧ K b = 31 := fun b e => ⟨(hm.lt b e).2, hg b e⟩
 have gne : blk gA ≠ some W := fun e => by have := hg W e; rw [hKW] at this; cases this
 have hb2 := hb1.chg hc2 (fun e => by rw [k0 _ hWl, hKW] at e; exact n30 e)
 have hm2 : Mr 86 2 w2 0 gA 0 gc [] := (hm.chg hcw1 (fun b e q => gne (by rw [e, q]))).chg hc2 (fun b e q => by rw [k0 _ (hgl b e).1, (hgl b e).2] at q; exact n31 q)
 have hgw2 := (hgw.chg hcw1 (fun e => by rw [e, hKW] at hKw; cases hKw)).chg hc2 (fun q => by rw [k0 _ hgw.lt, hKw] at q; exact n40 q)
 have HGA := Lib.hid (gather_fr W st0 st1 now (nextDraw last begun) true gA gc 0 (by omega) gt gw fA fc L.length vs hof2.length hL w2 hgw2 hb2 hm2 gne hof2 (RowsAt.slices hrw2))
 have HEND := Lib.hid (fun w' (h : GfR w2 W st0 st1 now (nextDraw last begun) true gA 0 vs w') => ar_end (side := 0) (w3 := w') ht hQs hQ2 k0 k1 hcw1 j1 j2 hc2 hrw2 hL hKW hWl hgl hb2 hm2 h)
 clear hB0 hb hKW hm hg hgw hKw hL hQs ht k0 k1 hWl n30 n31 n40 hcw1 hgl gne hb2 hm2 hgw2 hQ2 hof2 hrw2 hfk2 j1 j2 hc2 hb1 hc1 y0 y1 yW yn p0 p1 p2 p3 q1 q2 q3
 go_wp2_with fail
 refine HGA.out.mono ?_
 rintro e3 w3 ⟨rfl, hG3⟩
 have HF := Lib.hid (HEND.out w3 hG3)
 clear hG3
 go_wp2_with fail
 go_end0
 exact ⟨rfl, HF.out⟩
set_option maxHeartbeats 8000000 in
set_option maxRecDepth 100000 in
theorem arrives_1 (t : Nat) (ht : t ≤ 20) (K : Nat → Nat) (w : World) (W gt gw st0 st1 : Nat) (now last : Int) (begun : Bool) (gA : Option Addr) (gc : Nat) (vA : Option Addr) (vn vc : Nat) (L : List (List Int)) (Q : Value → (Nat → Nat) → World → Prop)
  (hb : Bk w W 72 (wrC st0 st1 now last begun (.slice gA 0 gc))) (hKW : K W = 30) (hm : Mr 86 2 w 0 gA 0 gc []) (hg : ∀ b, blk gA = some b → K b = 31) (hgw : Bk w gw 33 #[bp W]) (hKw : K gw = 40) (hL : L.length ≤ 1) (hQs : Stab t Q)
  (hSk : ∀ K1 w1, (∀ b, b < w.heap.size → K1 b = K b) → (∀ b, w.heap.size ≤ b → K1 b = 40) → Chg (fun b => b = W) w w1 → Calls Tryz.prog 113 #[bp st1, .slice vA vn vc, .int .i64 now, .int .i64 (nextDraw last begun)] w1 (SkQ t K1 w1 L Q)) :
  Calls Tryz.prog 52 #[bp W, .agg #[.int .i64 1, .slice vA vn vc], toV gt gw] w fun e w' => e = .returned (.tuple #[]) ∧ WdR t K w W st0 st1 now last begun 1 L Q nilS w' := by
 obtain ⟨W0, hW0⟩ : ∃ W0, w.alloc (.cells #[.int .i64 1, .slice vA vn vc] 86) = W0 := ⟨_, rfl⟩
 have hB0 : Below w.heap.size w W0 := by rw [← hW0]; exact (Below.refl _ _).alloc (Nat.le_refl _) _
 have hf0 : Bk W0 w.heap.size 86 #[.int .i64 1, .slice vA vn vc] := by rw [← hW0]; exact Bk.new _ _ _
 have hz0 : W0.heap.size = w.heap.size + 1 := by rw [← hW0]; simp
 have hb0 := hb.below hB0 hb.lt
 have hWl := hb.lt
 have hne0 : w.heap.size ≠ W := by omega
 have hix : ∀ w, (Instr.indexAt 69 (.pointer (some ⟨W, 0, none⟩)) (.int .i64 1)).run Tryz.prog w = .ok (.pointer (some ⟨W, 1, none⟩)) w := ix_side W 0 1 (.inr rfl)
 obtain ⟨K1, k0, k1⟩ : ∃ K1 : Nat → Nat, (∀ b, b < w.heap.size → K1 b = K b) ∧ ∀ b, w.heap.size ≤ b → K1 b = 40 := ⟨fun b => if b < w.heap.size then K b else 40, fun b hb => if_pos hb, fun b hb => if_neg (by omega)⟩
 have HD0 := Lib.hid (draw_any W st0 st1 now last begun (.slice gA 0 gc) W0.drew hb0.drew)
 have n30 : ¬ sideK t 30 := by
  rintro (h | h)
  ·exact absurd h.2 (by omega)
  ·omega
 have n31 : ¬ sideK t 31 := by
  rintro (h | h)
  ·exact absurd h.2 (by omega)
  ·omega
 have n40 : ¬ sideK t 40 := by
  rintro (h | h)
  ·exact absurd h.2 (by omega)
  ·omega
 have hP1 : Hid (∀ w', Bk w' W 72 (wrC st0 st1 now (nextDraw last begun) true (.slice gA 0 gc)) → Chg (fun b => b = W) W0.drew w' → w'.cell? ⟨w.heap.size, 0, none⟩ = some (.int .i64 1) ∧ w'.cell? ⟨w.heap.size, 1, none⟩ = some (.slice vA vn vc) ∧ w'.cell? ⟨W, 1, none⟩ = some (bp st1) ∧ w'.cell? ⟨W, 2, none⟩ = some (.int .i64 now)) := Lib.hid fun w' h1 h2 => ⟨(hf0.drew.chg h2 hne0).cell 0, (hf0.drew.chg h2 hne0).cell 1, h1.cell 1, h1.cell 2⟩
 have hP2 : Hid (∀ w1 w', Bk w1 W 72 (wrC st0 st1 now (nextDraw last begun) true (.slice gA 0 gc)) → Chg (fun b => b = W) W0.drew w1 → Chg (fun b => sideK t (K1 b)) w1 w' → w'.cell? ⟨w.heap.size, 0, none⟩ = some (.int .i64 1) ∧ w'.cell? ⟨w.heap.size, 1, none⟩ = some (.slice vA vn vc) ∧ w'.cell? ⟨W, 1, none⟩ = some (bp st1) ∧ w'.cell? ⟨W, 2, none⟩ = some (.int .i64 now)) := Lib.hid fun w1 w' h1 h2 h3 => by
  have a1 := (hf0.drew.chg h2 hne0).chg h3 (fun e => by rw [k1 _ (Nat.le_refl _)] at e; exact n40 e)
  have a2 := h1.chg h3 (fun e => by rw [k0 _ hWl, hKW] at e; exact n30 e)
  exact ⟨a1.cell 0, a1.cell 1, a2.cell 1, a2.cell 2⟩
 have HSK := Lib.hid (fun w1 (hc : Chg (fun b => b = W) W0.drew w1) => hSk K1 w1 k0 k1 ((Chg.of_below (F := fun b => b = W) hB0).drew_.trans hc (fun _ e => .inl e)))
 have y0 : W0.drew.cell? ⟨w.heap.size, 0, none⟩ = some (.int .i64 1) := hf0.cell 0
 have y1 : W0.drew.cell? ⟨w.heap.size, 1, none⟩ = some (.slice vA vn vc) := hf0.cell 1
 have yW : W0.drew.cell? ⟨W, 1, none⟩ = some (bp st1) := hb0.cell 1
 have yn : W0.drew.cell? ⟨W, 2, none⟩ = some (.int .i64 now) := hb0.cell 2
 have HX := Lib.hid (And.intro hB0 (And.intro hb (And.intro hKW (And.intro hm (And.intro hg (And.intro hgw (And.intro hKw (And.intro hL (And.intro hQs (And.intro ht (And.intro k0 (And.intro k1 (And.intro hWl (And.intro n30 (And.intro n31 n40)))))))))))))))
 have HW0 := Lib.hid hW0
 clear hW0 hB0 hf0 hz0 hb0 hne0 k0 k1 n30 n31 n40 hb hKW hm hg hgw hKw hL hQs ht hSk hWl
 unfold toV
 go_enter Tryz.func52, Tryz.ntmps52
 go_upto_region 1 with (fail)
 rw [HW0.out]
 go_region_held3 (fun w' => w'.cell? ⟨w.heap.size, 0, none⟩ = some (.int .i64 1) ∧ w'.cell? ⟨w.heap.size, 1, none⟩ = some (.slice vA vn vc) ∧ w'.cell? ⟨W, 1, none⟩ = some (bp st1) ∧ w'.cell? ⟨W, 2, none⟩ = some (.int .i64 now))
  (first | (with_reducible exact ⟨by assumption, by assumption, by assumption, by assumption⟩) | go_keep)
  (first
  | (go_at_call 114; refine HD0.out.mono ?_; rintro e1 w1 ⟨rfl, hb1, hc1⟩; obtain ⟨p0, p1, p2, p3⟩ := hP1.out w1 hb1 hc1)
  | (go_at_call 113; refine (HSK.out w1 hc1).mono ?_; rintro e2 w2 ⟨K2, xx, rfl, hQ2, ⟨fA, fc, vs, rfl, hof2, hrw2, hfk2⟩, j1, j2, hc2⟩; obtain ⟨q0, q1, q2, q3⟩ := hP2.out w1 w2 hb1 hc1 hc2))
 obtain ⟨hB0, hb, hKW, hm, hg, hgw, hKw, hL, hQs, ht, k0, k1, hWl, n30, n31, n40⟩ := HX.out
 have hcw1 : Chg (fun b => b = W) w w1 := (Chg.of_below (F := fun b => b = W) hB0).drew_.trans hc1 (fun _ e => .inl e)
 have hgl : ∀ b, blk gA = some b → b < w.heap.size ∧ K b = 31 := fun b e => ⟨(hm.lt b e).2, hg b e⟩
 have gne : blk gA ≠ some W := fun e => by have := hg W e; rw [hKW] at this; cases this
 have hb2 := hb1.chg hc2 (fun e => by rw [k0 _ hWl, hKW] at e; exact n30 e)
 have hm2 : Mr 86 2 w2 0 gA 0 gc [] := (hm.chg hcw1 (fun b e q => gne (by rw [e, q]))).chg hc2 (fun b e q => by rw [k0 _ (hgl b e).1, (hgl b e).2] at q; exact n31 q)
 have hgw2 := (hgw.chg hcw1 (fun e => by rw [e, hKW] at hKw; cases hKw)).chg hc2 (fun q => by rw [k0 _ hgw.lt, hKw] at q; exact n40 q)
 have HGA := Lib.hid (gather_fr W st0 st1 now (nextDraw last begun) true gA gc 1 (by omega) gt gw fA fc L.length vs hof2.length hL w2 hgw2 hb2 hm2 gne hof2 (RowsAt.slices hrw2))
 have HEND := Lib.hid (fun w' (h : GfR w2 W st0 st1 now (nextDraw last begun) true gA 1 vs w') => ar_end (side := 1) (w3 := w') ht hQs hQ2 k0 k1 hcw1 j1 j2 hc2 hrw2 hL hKW hWl hgl hb2 hm2 h)
 clear hB0 hb hKW hm hg hgw hKw hL hQs ht k0 k1 hWl n30 n31 n40 hcw1 hgl gne hb2 hm2 hgw2 hQ2 hof2 hrw2 hfk2 j1 j2 hc2 hb1 hc1 y0 y1 yW yn p0 p1 p2 p3 q1 q2 q3
 go_wp2_with fail
 refine HGA.out.mono ?_
 rintro e3 w3 ⟨rfl, hG3⟩
 have HF := Lib.hid (HEND.out w3 hG3)
 clear hG3
 go_wp2_with fail
 go_end0
 exact ⟨rfl, HF.out⟩
open Go.RowKit
def PsR (K : Nat → Nat) (w : World) (W st0 st1 : Nat) (now last : Int) (begun : Bool) (Q0 Q1 : Value → (Nat → Nat) → World → Prop) (gA : Option Addr) (gc : Nat) (w' : World) : Prop :=
 ∃ K', Q0 nilS K' w' ∧ Q1 nilS K' w' ∧ Bk w' W 72 (wrC st0 st1 (now + 1) (nextDraw (nextDraw last begun) true) true (.slice gA 0 gc)) ∧ Mr 86 2 w' 0 gA 0 gc [] ∧
  (∀ b, b < w.heap.size → K' b = K b) ∧ (∀ b, w.heap.size ≤ b → sideK 0 (K' b) ∨ sideK 10 (K' b) ∨ K' b = 40) ∧ Chg (fun b => sideK 0 (K b) ∨ sideK 10 (K b) ∨ b = W) w w'
theorem FrR.none {K : Nat → Nat} {w : World} {B : Nat} {x : Value} (h : FrR K w B x []) : ∃ A c, x = .slice A 0 c := by
 obtain ⟨fA, fc, vs, h1, _⟩ := h
 exact ⟨fA, fc, h1⟩
set_option maxHeartbeats 8000000 in
set_option maxRecDepth 100000 in
theorem passes_q (K : Nat → Nat) (W st0 st1 tb wb : Nat) (now last : Int) (begun : Bool) (gA : Option Addr) (gc : Nat) (hnow : 0 ≤ now ∧ now ≤ 4611686018427387904) (w : World) (hb : Bk w W 72 (wrC st0 st1 now last begun (.slice gA 0 gc))) (hKW : K W = 30) (hm : Mr 86 2 w 0 gA 0 gc []) (hg : ∀ b, blk gA = some b → K b = 31)
  (Q0 Q1 : Value → (Nat → Nat) → World → Prop) (hQs : Stab 0 Q0)
  (T0 : ∀ K1 w1, (∀ b, b < w.heap.size → K1 b = K b) → (∀ b, w.heap.size ≤ b → K1 b = 40) → Chg (fun b => b = W) w w1 → Calls Tryz.prog 116 #[bp st0, .int .i64 (now + 1), .int .i64 (nextDraw last begun)] w1 (SkQ 0 K1 w1 [] Q0))
  (T1 : ∀ K1 w1, (∀ b, b < w.heap.size → K1 b = K b) → (∀ b, w.heap.size ≤ b → sideK 0 (K1 b) ∨ K1 b = 40) → Chg (fun b => b = W ∨ sideK 0 (K b)) w w1 → Calls Tryz.prog 116 #[bp st1, .int .i64 (now + 1), .int .i64 (nextDraw (nextDraw last begun) true)] w1 (SkQ 10 K1 w1 [] Q1)) :
  Calls Tryz.prog 54 #[bp W, toV tb wb] w fun e w' => e = .returned (.tuple #[]) ∧ PsR K w W st0 st1 now last begun Q0 Q1 gA gc w' := by
 have hw1 : IntKind.i64.wrap (now + 1) = now + 1 := IntWalk.i64_in _ (by omega)
 have hw2 : wrap64 (now + 1) = now + 1 := by simp only [wrap64]; omega
 have x0 : w.cell? ⟨W, 0, none⟩ = some (bp st0) := hb.cell 0
 have x1 : w.cell? ⟨W, 1, none⟩ = some (bp st1) := hb.cell 1
 have x2 : w.cell? ⟨W, 2, none⟩ = some (.int .i64 now) := hb.cell 2
 have f2 := hb.frozen 2
 obtain ⟨w1, hw⟩ : ∃ w1, w.setCell ⟨W, 2, none⟩ (.int .i64 (now + 1)) = w1 := ⟨_, rfl⟩
 have hb1 : Bk w1 W 72 (wrC st0 st1 (now + 1) last begun (.slice gA 0 gc)) := by rw [← hw]; exact hb.set 2 _
 have hc1 : Chg (fun b => b = W) w w1 := by rw [← hw]; exact (Chg.refl _ w).set1 _
 have i0 : ∀ w, (Instr.index 69 (.agg #[bp st0, bp st1]) (.int .i64 0)).run Tryz.prog w = .ok (bp st0) w := fun w => (ix_sides st0 st1 w).1
 have i1 : ∀ w, (Instr.index 69 (.agg #[bp st0, bp st1]) (.int .i64 1)).run Tryz.prog w = .ok (bp st1) w := fun w => (ix_sides st0 st1 w).2
 obtain ⟨K1, k0, k1⟩ : ∃ K1 : Nat → Nat, (∀ b, b < w.heap.size → K1 b = K b) ∧ ∀ b, w.heap.size ≤ b → K1 b = 40 := ⟨fun b => if b < w.heap.size then K b else 40, fun b hb => if_pos hb, fun b hb => if_neg (by omega)⟩
 have n30 : ¬ sideK 0 30 := by unfold sideK hostK; omega
 have m30 : ¬ sideK 10 30 := by unfold sideK hostK; omega
 have n31 : ¬ sideK 0 31 := by unfold sideK hostK; omega
 have m31 : ¬ sideK 10 31 := by unfold sideK hostK; omega
 have HW := Lib.hid hw
 have y2 : w1.cell? ⟨W, 2, none⟩ = some (.int .i64 (now + 1)) := hb1.cell 2
 have HB1 := Lib.hid hb1
 have HC1 := Lib.hid hc1
 have HX := Lib.hid (And.intro hb.lt (And.intro hKW (And.intro hm (And.intro hg (And.intro hQs (And.intro k0 (And.intro k1 (And.intro n30 (And.intro m30 (And.intro n31 m31))))))))))
 have HT0 : Hid (∀ v0, Chg (fun b => b = W) w v0 → Calls Tryz.prog 116 #[bp st0, .int .i64 (now + 1), .int .i64 (nextDraw last begun)] v0 (SkQ 0 K1 v0 [] Q0)) := Lib.hid (fun v0 h => T0 K1 v0 k0 k1 h)
 have HT1 := Lib.hid T1
 clear hw hb1 hc1 T0 T1 hb k0 k1 n30 m30 n31 m31 hKW hm hg hQs
 go_enter Tryz.func54, Tryz.ntmps54
 unfold toV
 go_wp2_with fail
 rw [HW.out]
 refine wp_loop_rounds 3 ?_
 rw [rounds_succ]
 go_wp2_with fail
 have HD0 := Lib.hid (draw_any W st0 st1 (now + 1) last begun (.slice gA 0 gc) w1.drew (HB1.out.drew))
 have yy0 : w1.drew.cell? ⟨W, 2, none⟩ = some (.int .i64 (now + 1)) := HB1.out.cell 2
 go_region_held3 (fun w' => w'.cell? ⟨W, 2, none⟩ = some (.int .i64 (now + 1)))
  (first | (with_reducible assumption) | go_keep)
  (first
  | (go_at_call 114; refine HD0.out.mono ?_; rintro e0 v0 ⟨rfl, hbd0, hcd0⟩; have hbn0 : v0.cell? ⟨W, 2, none⟩ = some (.int .i64 (now + 1)) := hbd0.cell 2; have hcc0 : Chg (fun b => b = W) w v0 := (HC1.out.drewN 1).trans hcd0 (fun x e => .inl e))
  | (go_at_call 116; refine (HT0.out _ hcc0).mono ?_; rintro e0 uw0 ⟨K2, z0, rfl, hq0, hf0, j1, j2, hct0⟩; have hbt0 := hbd0.chg hct0 (fun e => by rw [HX.out.2.2.2.2.2.1 _ HX.out.1, HX.out.2.1] at e; exact HX.out.2.2.2.2.2.2.2.1 e); have hbu0 : uw0.cell? ⟨W, 2, none⟩ = some (.int .i64 (now + 1)) := hbt0.cell 2))
 obtain ⟨fA0, fc0, rfl⟩ := hf0.none
 obtain ⟨hWl, hKW, hm, hg, hQs, k0, k1, n30, m30, n31, m31⟩ := HX.out
 have hsz0 := hcc0.size
 have hszt0 := hct0.size
 have hkb : ∀ b, b < w.heap.size → K2 b = K b := fun b hb => (j1 b (by omega)).trans (k0 b hb)
 have hku : ∀ b, w.heap.size ≤ b → sideK 0 (K2 b) ∨ K2 b = 40 := fun b hb => by
  rcases Nat.lt_or_ge b v0.heap.size with h | h
  ·right; rw [j1 b h]; exact k1 b hb
  ·exact j2 b h
 have hcu : Chg (fun b => b = W ∨ sideK 0 (K b)) w uw0 := (hcc0.mono (G := fun b => b = W ∨ sideK 0 (K b)) (fun _ _ e => .inl e)).trans hct0 (fun b e => by
  rcases Nat.lt_or_ge b w.heap.size with h | h
  ·exact .inl (.inr (by rw [← k0 b h]; exact e))
  ·exact .inr h)
 have HBU0 := Lib.hid hbt0
 have HCU0 := Lib.hid hcu
 have HQ0 := Lib.hid hq0
 have HK2 := Lib.hid (And.intro hkb hku)
 have HT1' : Hid (∀ v1, Chg (fun b => b = W) uw0 v1 → ∃ K3 : Nat → Nat, (∀ b, b < uw0.heap.size → K3 b = K2 b) ∧ (∀ b, uw0.heap.size ≤ b → K3 b = 40) ∧ (∀ b, b < w.heap.size → K3 b = K b) ∧ (∀ b, w.heap.size ≤ b → sideK 0 (K3 b) ∨ K3 b = 40) ∧ Calls Tryz.prog 116 #[bp st1, .int .i64 (now + 1), .int .i64 (nextDraw (nextDraw last begun) true)] v1 (SkQ 10 K3 v1 [] Q1)) := Lib.hid fun v1 hc => by
  obtain ⟨K3, a0, a1⟩ : ∃ K3 : Nat → Nat, (∀ b, b < uw0.heap.size → K3 b = K2 b) ∧ ∀ b, uw0.heap.size ≤ b → K3 b = 40 := ⟨fun b => if b < uw0.heap.size then K2 b else 40, fun b hb => if_pos hb, fun b hb => if_neg (by omega)⟩
  have b0 : ∀ b, b < w.heap.size → K3 b = K b := fun b hb => (a0 b (by omega)).trans (hkb b hb)
  have b1 : ∀ b, w.heap.size ≤ b → sideK 0 (K3 b) ∨ K3 b = 40 := fun b hb => by
   rcases Nat.lt_or_ge b uw0.heap.size with h | h
   ·rw [a0 b h]; exact hku b hb
   ·right; exact a1 b h
  exact ⟨K3, a0, a1, b0, b1, HT1.out K3 v1 b0 b1 (hcu.trans hc (fun b e => .inl (.inl e)))⟩
 clear hbd0 hcd0 hbn0 hcc0 hbt0 hbu0 yy0 hWl hKW hm hg hQs k0 k1 n30 m30 n31 m31 hsz0 hszt0 hkb hku hcu hq0 hf0 j1 j2 hct0
 go_wp2_with fail
 refine (gather_none _ _ _ _ _ _).mono ?_
 rintro g0 k0 ⟨rfl, rfl⟩
 go_wp2_with fail
 rw [rounds_succ]
 go_wp2_with fail
 have HD1 := Lib.hid (draw_any W st0 st1 (now + 1) (nextDraw last begun) true (.slice gA 0 gc) uw0.drew (HBU0.out.drew))
 have yy1 : uw0.drew.cell? ⟨W, 2, none⟩ = some (.int .i64 (now + 1)) := HBU0.out.cell 2
 go_region_held3 (fun w' => w'.cell? ⟨W, 2, none⟩ = some (.int .i64 (now + 1)))
  (first | (with_reducible assumption) | go_keep)
  (first
  | (go_at_call 114; refine HD1.out.mono ?_; rintro e1 v1 ⟨rfl, hbd1, hcd1⟩; have hbn1 : v1.cell? ⟨W, 2, none⟩ = some (.int .i64 (now + 1)) := hbd1.cell 2; have hcc1 : Chg (fun b => b = W) uw0 v1 := (Chg.refl _ uw0).drew_.trans hcd1 (fun x e => .inl e); obtain ⟨K3, a0, a1, b0, b1, hcal1⟩ := HT1'.out v1 hcc1)
  | (go_at_call 116; refine hcal1.mono ?_; rintro e1 uw1 ⟨K4, z1, rfl, hq1, hf1, j1, j2, hct1⟩; have hbt1 := hbd1.chg hct1 (fun e => by rw [b0 _ HX.out.1, HX.out.2.1] at e; exact HX.out.2.2.2.2.2.2.2.2.1 e); have hbu1 : uw1.cell? ⟨W, 2, none⟩ = some (.int .i64 (now + 1)) := hbt1.cell 2))
 obtain ⟨fA1, fc1, rfl⟩ := hf1.none
 have HF : Hid (PsR K w W st0 st1 now last begun Q0 Q1 gA gc uw1) := Lib.hid (by
  obtain ⟨hWl, hKW, hm, hg, hQs, k0, k1, n30, m30, n31, m31⟩ := HX.out
  have hcu := HCU0.out
  have s0 := hcu.size
  have s1 := hcc1.size
  have s2 := hct1.size
  have gne : ∀ b, blk gA = some b → b ≠ W := fun b e e2 => by have := hg b e; rw [e2, hKW] at this; cases this
  have hm1 : Mr 86 2 uw1 0 gA 0 gc [] := ((hm.chg hcu (fun b e q => by
   rcases q with q | q
   ·exact gne b e q
   ·rw [hg b e] at q; exact n31 q)).chg hcc1 (fun b e q => gne b e q)).chg hct1 (fun b e q => by rw [b0 b (hm.lt b e).2, hg b e] at q; exact m31 q)
  have hck : Chg (fun b => b = W ∨ sideK 10 (K3 b)) uw0 uw1 := (hcc1.mono (G := fun b => b = W ∨ sideK 10 (K3 b)) (fun _ _ e => .inl e)).trans hct1 (fun b e => .inl (.inr e))
  have hcw : Chg (fun b => sideK 0 (K b) ∨ sideK 10 (K b) ∨ b = W) w v1 := (hcu.mono (G := fun b => sideK 0 (K b) ∨ sideK 10 (K b) ∨ b = W) (fun b _ e => e.elim (fun e => .inr (.inr e)) (fun e => .inl e))).trans hcc1 (fun b e => .inl (.inr (.inr e)))
  have hcf : Chg (fun b => sideK 0 (K b) ∨ sideK 10 (K b) ∨ b = W) w uw1 := hcw.trans hct1 (fun b e => by
   rcases Nat.lt_or_ge b w.heap.size with h | h
   ·exact .inl (.inr (.inl (by rw [← b0 b h]; exact e)))
   ·exact .inr h)
  have hq4 : Q0 nilS K4 uw1 := hQs _ _ _ _ _ _ HQ0.out hck (fun b hb hs e => by
   rcases e with e | e
   ·subst e; rw [HK2.out.1 _ hWl, hKW] at hs; exact n30 hs
   ·rw [a0 b hb] at e
    revert hs e
    unfold sideK hostK
    omega) (fun b hb _ => (j1 b (by omega)).trans (a0 b hb))
  refine ⟨K4, hq4, hq1, hbt1, hm1, fun b hb => (j1 b (by omega)).trans (b0 b hb), fun b hb => ?_, hcf⟩
  rcases Nat.lt_or_ge b v1.heap.size with h | h
  ·rw [j1 b h]
   exact (b1 b hb).imp id .inr
  ·exact .inr (j2 b h))
 clear hbd1 hcd1 hbn1 hbt1 hbu1 yy1 hcc1 hcal1 a0 a1 b0 b1 hq1 hf1 j1 j2 hct1
 go_wp2_with fail
 refine (gather_none _ _ _ _ _ _).mono ?_
 rintro g1 k1 ⟨rfl, rfl⟩
 go_wp2_with fail
 rw [rounds_succ]
 go_wp2
 go_end0
 exact ⟨rfl, HF.out⟩
open Go.RowKit
def Rd1 (W tb wb : Nat) (B : World → Prop) (w : World) : Prop :=
 (∃ g gc, w.cell? ⟨W, 5, none⟩ = some (.slice (some ⟨g, 0, none⟩) 1 gc)) ∧ Calls Tryz.prog 53 #[bp W, .int .i64 0] w fun e w2 => ∃ to_ A n c, e = .returned (.agg #[.int .i64 to_, .slice A n c]) ∧
  Calls Tryz.prog 52 #[bp W, .agg #[.int .i64 to_, .slice A n c], toV tb wb] w2 fun e w3 => e = .returned (.tuple #[]) ∧ B w3
def Rd2 (W tb wb : Nat) (B : World → Prop) (w : World) : Prop :=
 (∃ A gc, w.cell? ⟨W, 5, none⟩ = some (.slice A 0 gc)) ∧ Calls Tryz.prog 54 #[bp W, toV tb wb] w fun e w3 => e = .returned (.tuple #[]) ∧ B w3
def Rd3 (W T : Nat) (F : World → Prop) (w : World) : Prop :=
 (∃ A gc, w.cell? ⟨W, 5, none⟩ = some (.slice A 0 gc)) ∧ w.cell? ⟨T, 0, none⟩ = some nilS ∧ w.cell? ⟨T, 1, none⟩ = some nilS ∧ ∀ nq, F (w.drewN nq)
set_option maxHeartbeats 8000000 in
set_option maxRecDepth 100000 in
theorem settle_two (W : Nat) (w : World) (hW : W < w.heap.size) (F : World → Prop)
  (H : ∀ T tb wb w2, Below w.heap.size w w2 → w.heap.size ≤ T → w.heap.size ≤ tb → w.heap.size ≤ wb → Bk w2 T 80 #[nilS, nilS] → Bk w2 tb 84 #[bp T] → Bk w2 wb 33 #[bp W] →
   Rd1 W tb wb (Rd1 W tb wb (Rd1 W tb wb (Rd2 W tb wb (Rd2 W tb wb (Rd3 W T F))))) w2) :
  Calls Tryz.prog 21 #[bp W, .int .i64 2] w fun e w' => e = .returned (.tuple #[nilS, nilS]) ∧ F w' := by
 obtain ⟨w1, hw1⟩ : ∃ w1, w.alloc (.cells #[nilS, nilS] 80) = w1 := ⟨_, rfl⟩
 have h1 : Below w.heap.size w w1 := by rw [← hw1]; exact (Below.refl _ _).alloc (Nat.le_refl _) _
 have hz1 : w1.heap.size = w.heap.size + 1 := by rw [← hw1]; simp
 have k1 : Bk w1 w.heap.size 80 #[nilS, nilS] := by rw [← hw1]; exact Bk.new _ _ _
 obtain ⟨w2, hw2⟩ : ∃ w2, (w1.alloc (.cells #[bp W] 33)).alloc (.cells #[bp w.heap.size] 84) = w2 := ⟨_, rfl⟩
 have h2 : Below w1.heap.size w1 w2 := by rw [← hw2]; exact ((Below.refl _ _).alloc (Nat.le_refl _) _).alloc (by rw [World.size_alloc]; omega) _
 have hgw : Bk w2 w1.heap.size 33 #[bp W] := by rw [← hw2]; exact (Bk.new _ _ _).alloc _
 have hgt : Bk w2 (w1.heap.size + 1) 84 #[bp w.heap.size] := by
  rw [← hw2]
  have := Bk.new (w1.alloc (.cells #[bp W] 33)) 84 #[bp w.heap.size]
  rwa [World.size_alloc] at this
 have HG : Hid (Calls Tryz.prog 25 #[bp W, bp w.heap.size] w1 fun e w' => e = .returned (toV (w1.heap.size + 1) w1.heap.size) ∧ w' = w2) := Lib.hid ((gather_any W w.heap.size w1).mono (fun e w' q => ⟨q.1, q.2.trans hw2⟩))
 have HW1 : Hid (w.alloc (.cells #[.slice none 0 0, .slice none 0 0] 80) = w1) := Lib.hid hw1
 have HR := Lib.hid (H w.heap.size (w1.heap.size + 1) w1.heap.size w2 (h1.trans (h2.mono (by omega))) (Nat.le_refl _) (by omega) (by omega) (k1.below h2 k1.lt) hgt hgw)
 clear hw1 hw2 h1 h2 k1 hgw hgt hz1 H
 go_enter Tryz.func21, Tryz.ntmps21
 go_wp2_with fail
 rw [HW1.out]
 refine HG.out.mono ?_
 rintro e1 w3 ⟨rfl, rfl⟩
 obtain ⟨⟨g0, c0, z0⟩, r0⟩ := HR.out
 have R0 := Lib.hid r0
 unfold toV
 clear r0
 go_wp2_with fail
 refine wp_loop_rounds 3 ?_; rw [rounds_succ]
 go_wp2_with fail
 refine wp_loop_rounds 4 ?_; rw [rounds_succ]
 go_wp2_with fail
 refine R0.out.mono ?_
 rintro f1 u1 ⟨t1, A1, n1, d1, rfl, q1⟩
 unfold toV at q1
 have Q1 := Lib.hid q1
 clear q1 z0
 go_wp2_with fail
 refine Q1.out.mono ?_
 rintro h1 v1 ⟨rfl, ⟨g1, c1, z1⟩, r1⟩
 have R1 := Lib.hid r1
 clear r1
 go_wp2_with fail
 rw [rounds_succ]
 go_wp2_with fail
 refine R1.out.mono ?_
 rintro f2 u2 ⟨t2, A2, n2, d2, rfl, q2⟩
 unfold toV at q2
 have Q2 := Lib.hid q2
 clear q2 z1
 go_wp2_with fail
 refine Q2.out.mono ?_
 rintro h2 v2 ⟨rfl, ⟨g2, c2, z2⟩, r2⟩
 have R2 := Lib.hid r2
 clear r2
 go_wp2_with fail
 rw [rounds_succ]
 go_wp2_with fail
 refine R2.out.mono ?_
 rintro f3 u3 ⟨t3, A3, n3, d3, rfl, q3⟩
 unfold toV at q3
 have Q3 := Lib.hid q3
 clear q3 z2
 go_wp2_with fail
 refine Q3.out.mono ?_
 rintro h3 v3 ⟨rfl, ⟨g3, c3, z3⟩, r3⟩
 have R3 := Lib.hid r3
 clear r3
 go_wp2_with fail
 rw [rounds_succ]
 go_wp2_with fail
 have P4 := R3.out
 unfold toV at P4
 refine P4.mono ?_
 clear P4 z3
 rintro h4 v4 ⟨rfl, ⟨g4, c4, z4⟩, r4⟩
 have R4 := Lib.hid r4
 clear r4
 go_wp2_with fail
 rw [rounds_succ]
 go_wp2_with fail
 refine wp_loop_rounds 1 ?_; rw [rounds_succ]
 go_wp2_with fail
 have P5 := R4.out
 unfold toV at P5
 refine P5.mono ?_
 clear P5 z4
 rintro h5 v5 ⟨rfl, ⟨g5, c5, z5⟩, r5⟩
 have R5 := Lib.hid r5
 clear r5
 go_wp2_with fail
 rw [rounds_succ]
 go_wp2_with fail
 refine wp_loop_rounds 1 ?_; rw [rounds_succ]
 have y0 := R5.out.1
 have y1 := R5.out.2.1
 go_wp2_with fail
 go_quiet (fail)
 clear z5 y0 y1
 go_wp2
 go_ret2
 exact ⟨rfl, R5.out.2.2 _⟩
end Go.Proofs.YtaeafkdfbcppgaaGreat
