/- Proved: a world of two sides, and what keeps it: a call of a side, a frame that arrives, a tick; the calls of known(), one by one, over a world of two sides. Conditions: as each law says. -/
import Derived.Test.YtaeafkdfbcppgaaGreatT44
import Derived.Test.YtaeafkdfbcppgaaGreatT45
import Derived.Test.YtaeafkdfbcppgaaGreatT49
set_option linter.unusedSectionVars false
set_option linter.unusedSimpArgs false
set_option linter.unusedVariables false
namespace Go.Proofs.YtaeafkdfbcppgaaGreat
open Go.RowKit
abbrev SayR := HV → List En → Option (Int × List Dg) → Option (Nat × Bool × Int) → Prop
def SiR (t st sm : Nat) (d : HD) (R : SayR) (K : Nat → Nat) (w : World) : Prop := ∃ v S P so, R v S P so ∧ SdS t K w st sm d v S P so
theorem SiR.keep {t st sm : Nat} {d : HD} {R : SayR} {K K' : Nat → Nat} {w w' : World} {G : Nat → Prop} (h : SiR t st sm d R K w) (hc : Chg G w w') (hG : ∀ b, b < w.heap.size → sideK t (K b) → ¬ G b) (hK : ∀ b, b < w.heap.size → sideK t (K b) → K' b = K b) : SiR t st sm d R K' w' := by
 obtain ⟨v, S, P, so, hr, hs⟩ := h
 exact ⟨v, S, P, so, hr, hs.keep hc hG hK⟩
theorem SiR.stab {t st sm : Nat} {d : HD} {R : SayR} : Stab t (fun _ K w => SiR t st sm d R K w) := fun _ _ _ _ _ _ h hc hG hK => SiR.keep h hc hG hK
structure WB (w0 : World) (K : Nat → Nat) (w : World) (W st0 st1 : Nat) (now last : Int) (begun : Bool) (fl : Option (Int × List Int)) : Prop where
 kw : K W = 30
 lo : ∀ b, b < w0.heap.size → K b = 40
 bel : Below w0.heap.size w0 w
 bk : ∃ x, Bk w W 72 (wrC st0 st1 now last begun x) ∧ FlR K w x fl
theorem WB.wd {w0 : World} {K : Nat → Nat} {w w' : World} {W st0 st1 : Nat} {now last : Int} {begun : Bool} {fl : Option (Int × List Int)} {side : Int} {L : List (List Int)} {Q : Value → (Nat → Nat) → World → Prop} {dv : Value} (t : Nat) (ht : t ≤ 20) (h : WB w0 K w W st0 st1 now last begun fl) (r : WdR t K w W st0 st1 now last begun side L Q dv w') :
  ∃ K', Q dv K' w' ∧ WB w0 K' w' W st0 st1 now (nextDraw last begun) true (flO side L) ∧ (∀ b, b < w.heap.size → K' b = K b) ∧ Chg (fun b => sideK t (K b) ∨ b = W ∨ K b = 31) w w' := by
 obtain ⟨K', x', q1, q2, q3, q4, q5, q6⟩ := r
 obtain ⟨x, hb, _⟩ := h.bk
 have hs := h.bel.size
 refine ⟨K', q1, ⟨(q4 W hb.lt).trans h.kw, fun b hb => (q4 b (by omega)).trans (h.lo b hb), h.bel.trans (q6.below (fun b e => ?_) hs), ⟨x', q2, q3⟩⟩, q4, q6⟩
 by_cases hl : b < w0.heap.size
 ·exfalso
  have h40 := h.lo b hl
  have h30 := h.kw
  rcases e with e | e | e
  ·rw [h40] at e; unfold sideK hostK at e; omega
  ·subst e; omega
  ·omega
 ·omega
theorem mr_cap {E : TypeId} {k : Nat} {w : World} {base : Nat} {g n c : Nat} {xs : List Value} (h : Mr E k w base (some ⟨g, 0, none⟩) n c xs) : n ≤ c ∧ c ≤ maxLen := by
 rcases h.2 with ⟨h1, h2⟩ | ⟨g', cap, cur, h1, h2, h3, h4, h5, h6, h7⟩
 ·injection h1 with h1; cases h1
 ·injection h1 with _ _ h1
  subst h1
  exact ⟨h4, h5⟩
theorem WB.drewN {w0 : World} {K : Nat → Nat} {w : World} {W st0 st1 : Nat} {now last : Int} {begun : Bool} {fl : Option (Int × List Int)} (h : WB w0 K w W st0 st1 now last begun fl) (n : Nat) : WB w0 K (w.drewN n) W st0 st1 now last begun fl := by
 obtain ⟨x, hb, hf⟩ := h.bk
 exact ⟨h.kw, h.lo, bel_drewN h.bel n, x, hb.drewN n, FlR.keep (K' := K) hf ((Chg.refl (fun _ => False) w).drewN n) (fun _ _ _ => .inl id) (fun _ _ _ => rfl)⟩
theorem WB.below {w0 : World} {K K' : Nat → Nat} {w w' : World} {W st0 st1 : Nat} {now last : Int} {begun : Bool} {fl : Option (Int × List Int)} (h : WB w0 K w W st0 st1 now last begun fl) (hb : Below w.heap.size w w') (hK : ∀ b, b < w.heap.size → K' b = K b) : WB w0 K' w' W st0 st1 now last begun fl := by
 obtain ⟨x, hx, hf⟩ := h.bk
 have hs := h.bel.size
 exact ⟨(hK W hx.lt).trans h.kw, fun b hb => (hK b (by omega)).trans (h.lo b hb), h.bel.trans (hb.mono hs), x, hx.below hb hx.lt, hf.below hb hK⟩
theorem two_call_0 (w0 : World) (K : Nat → Nat) (w : World) (W st0 st1 : Nat) (now last : Int) (begun : Bool) (kd fd a p n : Int) (vA : Option Addr) (vn vc : Nat) (L : List (List Int)) (rn ra rp : Int) (Q : Value → (Nat → Nat) → World → Prop) (h : WB w0 K w W st0 st1 now last begun none) (hL : L.length ≤ 1) (hQs : Stab 0 Q)
  (hDo : ∀ K3 w3, (∀ b, b < w.heap.size → K3 b = K b) → Chg (fun b => b = W) w w3 → Calls Tryz.prog 117 #[bp st0, .agg (callC kd fd a p n (.slice vA vn vc) now (nextDraw last begun))] w3 (DoR 0 K3 w3 L rn ra rp Q)) :
  Calls Tryz.prog 22 #[bp W, .int .i64 0, .agg #[.int .i64 kd, .int .i64 0, .int .i64 fd, .int .u32 a, .int .i64 p, .int .i64 n, .slice vA vn vc, .int .i64 0, .int .i64 0]] w fun e w' => ∃ dA dn dc K', e = .returned (.tuple #[.agg (retC 0 rn ra rp (.slice dA dn dc)), .bool true]) ∧
   Q (.slice dA dn dc) K' w' ∧ WB w0 K' w' W st0 st1 now (nextDraw last begun) true (flO 0 L) ∧ (∀ b, b < w.heap.size → K' b = K b) ∧ Chg (fun b => sideK 0 (K b) ∨ b = W ∨ K b = 31) w w' := by
 obtain ⟨x, hb, gA, gc, k, cells, rfl, hm, hg, hk⟩ := h.bk
 have hk' : k = 0 := hk
 subst hk'
 have hn := hm.nil_of
 subst hn
 have hwl := hb.lt
 refine (lcall_of 0 (by omega) K w W st0 st1 now last begun 0 kd fd a p n vA vn vc L rn ra rp Q hwl hQs (fun K1 w1 a1 a2 a3 => wdo_of 0 (by omega) K1 w1 W st0 st1 now last begun 0 kd fd a p n vA vn vc L rn ra rp Q (by have := a3.size; omega) hQs (fun K2 w2 T gt gw b1 b2 b3 b4 b5 b6 b7 b8 b9 => ?_))).mono ?_
 ·have s1 := a3.size
  have s2 := b3.size
  have hB : Below w.heap.size w w2 := a3.trans (b3.mono s1)
  have hKb : ∀ b, b < w.heap.size → K2 b = K b := fun b hb => (b1 b (by omega)).trans (a1 b hb)
  exact wcall_0 0 (by omega) K2 w2 W T gt gw st0 st1 now last begun gA gc kd fd a p n vA vn vc L rn ra rp Q (hb.below hB hwl) ((hKb W hwl).trans h.kw) (hm.stays hB) (fun b e => (hKb b (hm.lt b e).2).trans (hg b e)) b4 b5 b6 (b2 T b7) (b2 gt b8) (b2 gw b9) hL hQs
   (fun K3 w3 c1 c2 c3 => hDo K3 w3 (fun b hb => (c1 b (by omega)).trans (hKb b hb)) ((Chg.of_below (F := fun b => b = W) hB).trans c3 (fun x e => .inl e)))
 ·rintro e w' ⟨dA, dn, dc, rfl, hr⟩
  obtain ⟨K', r1, r2, r3, r4⟩ := h.wd 0 (by omega) hr
  exact ⟨dA, dn, dc, K', rfl, r1, r2, r3, r4⟩
theorem rd1_0 (w0 : World) (K : Nat → Nat) (w : World) (W st0 st1 : Nat) (now last : Int) (begun : Bool) (l : List Int) (L : List (List Int)) (Q : Value → (Nat → Nat) → World → Prop) (tb wb : Nat) (B : World → Prop) (h : WB w0 K w W st0 st1 now last begun (some (0, l))) (hwb : Bk w wb 33 #[bp W]) (hKw : K wb = 40) (hL : L.length ≤ 1) (hQs : Stab 0 Q)
  (hSk : ∀ K3 w3 A n c, (∀ b, b < w.heap.size → K3 b = K b) → Chg (fun b => b = W ∨ K b = 31) w w3 → RowAt w3 (fun b => K3 b = 40) (.slice A n c) l → Calls Tryz.prog 113 #[bp st0, .slice A n c, .int .i64 now, .int .i64 (nextDraw last begun)] w3 (SkQ 0 K3 w3 L Q))
  (hB : ∀ K' w', Q nilS K' w' → WB w0 K' w' W st0 st1 now (nextDraw last begun) true (flO 0 L) → (∀ b, b < w.heap.size → K' b = K b) → Chg (fun b => sideK 0 (K b) ∨ b = W ∨ K b = 31) w w' → B w') : Rd1 W tb wb B w := by
 obtain ⟨x, hb, gA, gc, k, cells, rfl, hm, hg, hk, v, hcl, hv⟩ := h.bk
 subst hk
 subst hcl
 have hv' := (RowsAt.cap (show RowsAt w (fun b => K b = 40) [v] [l] from ⟨hv, trivial⟩)).1
 obtain ⟨A, n, c, rfl, _⟩ := hv
 obtain ⟨g, rfl, _, hgl, hgc, _⟩ := hm.cell (j := 0) rfl
 have hkg := hg g rfl
 have hkw := h.kw
 have hwl := hb.lt
 have hs0 := h.bel.size
 have hne : g ≠ W := fun e => by rw [e, hkw] at hkg; cases hkg
 refine ⟨⟨g, gc, hb.cell 5⟩, (taken_one W st0 st1 now last begun g gc 0 A n c w hb (mr_cap hm) hm hne).mono ?_⟩
 rintro e w2 ⟨rfl, hb2, hm2, hC2⟩
 have hs2 := hC2.size
 have hC2' : Chg (fun b => b = W ∨ K b = 31) w w2 := hC2.mono (fun b _ e => by
  rcases e with e | e
  ·exact .inl e
  ·right; rw [e]; exact hkg)
 have h2 : WB w0 K w2 W st0 st1 now last begun none := ⟨hkw, h.lo, h.bel.trans (hC2.below (fun b e => by
  by_cases hl : b < w0.heap.size
  ·exfalso
   have h40 := h.lo b hl
   rcases e with e | e
   ·subst e; omega
   ·subst e; omega
  ·omega) hs0), _, hb2, some ⟨g, 0, none⟩, gc, 0, [], rfl, hm2, hg, rfl⟩
 have hwb2 : Bk w2 wb 33 #[bp W] := hwb.chg hC2' (fun e => by
  rcases e with e | e
  ·rw [e, hkw] at hKw; cases hKw
  ·omega)
 refine ⟨0, A, n, c, rfl, (arrives_0 0 (by omega) K w2 W tb wb st0 st1 now last begun (some ⟨g, 0, none⟩) gc A n c L Q hb2 hkw hm2 hg hwb2 hKw hL hQs (fun K3 w3 c1 c2 c3 => hSk K3 w3 A n c (fun b hb => c1 b (by omega)) (hC2'.trans c3 (fun x e => .inl (.inl e)))
  (hv'.keep (fun b hb hl => ?_) (fun b hb => (c1 b (by omega)).trans hb.1)))).mono ?_⟩
 ·have hq : b ≠ W := fun e => by have := hb.1; rw [e, hkw] at this; cases this
  exact (c3.block b (by omega) hq).trans (hC2'.block b hl (fun e => by
   rcases e with e | e
   ·exact hq e
   ·have := hb.1; omega))
 ·rintro e w' ⟨rfl, hr⟩
  obtain ⟨K', r1, r2, r3, r4⟩ := h2.wd 0 (by omega) hr
  exact ⟨rfl, hB K' w' r1 r2 (fun b hb => r3 b (by omega)) ((hC2'.mono (fun b _ e => .inr e)).trans r4 (fun x e => .inl e))⟩
theorem two_call_1 (w0 : World) (K : Nat → Nat) (w : World) (W st0 st1 : Nat) (now last : Int) (begun : Bool) (kd fd a p n : Int) (vA : Option Addr) (vn vc : Nat) (L : List (List Int)) (rn ra rp : Int) (Q : Value → (Nat → Nat) → World → Prop) (h : WB w0 K w W st0 st1 now last begun none) (hL : L.length ≤ 1) (hQs : Stab 10 Q)
  (hDo : ∀ K3 w3, (∀ b, b < w.heap.size → K3 b = K b) → Chg (fun b => b = W) w w3 → Calls Tryz.prog 117 #[bp st1, .agg (callC kd fd a p n (.slice vA vn vc) now (nextDraw last begun))] w3 (DoR 10 K3 w3 L rn ra rp Q)) :
  Calls Tryz.prog 22 #[bp W, .int .i64 1, .agg #[.int .i64 kd, .int .i64 0, .int .i64 fd, .int .u32 a, .int .i64 p, .int .i64 n, .slice vA vn vc, .int .i64 0, .int .i64 0]] w fun e w' => ∃ dA dn dc K', e = .returned (.tuple #[.agg (retC 0 rn ra rp (.slice dA dn dc)), .bool true]) ∧
   Q (.slice dA dn dc) K' w' ∧ WB w0 K' w' W st0 st1 now (nextDraw last begun) true (flO 1 L) ∧ (∀ b, b < w.heap.size → K' b = K b) ∧ Chg (fun b => sideK 10 (K b) ∨ b = W ∨ K b = 31) w w' := by
 obtain ⟨x, hb, gA, gc, k, cells, rfl, hm, hg, hk⟩ := h.bk
 have hk' : k = 0 := hk
 subst hk'
 have hn := hm.nil_of
 subst hn
 have hwl := hb.lt
 refine (lcall_of 10 (by omega) K w W st0 st1 now last begun 1 kd fd a p n vA vn vc L rn ra rp Q hwl hQs (fun K1 w1 a1 a2 a3 => wdo_of 10 (by omega) K1 w1 W st0 st1 now last begun 1 kd fd a p n vA vn vc L rn ra rp Q (by have := a3.size; omega) hQs (fun K2 w2 T gt gw b1 b2 b3 b4 b5 b6 b7 b8 b9 => ?_))).mono ?_
 ·have s1 := a3.size
  have s2 := b3.size
  have hB : Below w.heap.size w w2 := a3.trans (b3.mono s1)
  have hKb : ∀ b, b < w.heap.size → K2 b = K b := fun b hb => (b1 b (by omega)).trans (a1 b hb)
  exact wcall_1 10 (by omega) K2 w2 W T gt gw st0 st1 now last begun gA gc kd fd a p n vA vn vc L rn ra rp Q (hb.below hB hwl) ((hKb W hwl).trans h.kw) (hm.stays hB) (fun b e => (hKb b (hm.lt b e).2).trans (hg b e)) b4 b5 b6 (b2 T b7) (b2 gt b8) (b2 gw b9) hL hQs
   (fun K3 w3 c1 c2 c3 => hDo K3 w3 (fun b hb => (c1 b (by omega)).trans (hKb b hb)) ((Chg.of_below (F := fun b => b = W) hB).trans c3 (fun x e => .inl e)))
 ·rintro e w' ⟨dA, dn, dc, rfl, hr⟩
  obtain ⟨K', r1, r2, r3, r4⟩ := h.wd 10 (by omega) hr
  exact ⟨dA, dn, dc, K', rfl, r1, r2, r3, r4⟩
theorem rd1_1 (w0 : World) (K : Nat → Nat) (w : World) (W st0 st1 : Nat) (now last : Int) (begun : Bool) (l : List Int) (L : List (List Int)) (Q : Value → (Nat → Nat) → World → Prop) (tb wb : Nat) (B : World → Prop) (h : WB w0 K w W st0 st1 now last begun (some (1, l))) (hwb : Bk w wb 33 #[bp W]) (hKw : K wb = 40) (hL : L.length ≤ 1) (hQs : Stab 10 Q)
  (hSk : ∀ K3 w3 A n c, (∀ b, b < w.heap.size → K3 b = K b) → Chg (fun b => b = W ∨ K b = 31) w w3 → RowAt w3 (fun b => K3 b = 40) (.slice A n c) l → Calls Tryz.prog 113 #[bp st1, .slice A n c, .int .i64 now, .int .i64 (nextDraw last begun)] w3 (SkQ 10 K3 w3 L Q))
  (hB : ∀ K' w', Q nilS K' w' → WB w0 K' w' W st0 st1 now (nextDraw last begun) true (flO 1 L) → (∀ b, b < w.heap.size → K' b = K b) → Chg (fun b => sideK 10 (K b) ∨ b = W ∨ K b = 31) w w' → B w') : Rd1 W tb wb B w := by
 obtain ⟨x, hb, gA, gc, k, cells, rfl, hm, hg, hk, v, hcl, hv⟩ := h.bk
 subst hk
 subst hcl
 have hv' := (RowsAt.cap (show RowsAt w (fun b => K b = 40) [v] [l] from ⟨hv, trivial⟩)).1
 obtain ⟨A, n, c, rfl, _⟩ := hv
 obtain ⟨g, rfl, _, hgl, hgc, _⟩ := hm.cell (j := 0) rfl
 have hkg := hg g rfl
 have hkw := h.kw
 have hwl := hb.lt
 have hs0 := h.bel.size
 have hne : g ≠ W := fun e => by rw [e, hkw] at hkg; cases hkg
 refine ⟨⟨g, gc, hb.cell 5⟩, (taken_one W st0 st1 now last begun g gc 1 A n c w hb (mr_cap hm) hm hne).mono ?_⟩
 rintro e w2 ⟨rfl, hb2, hm2, hC2⟩
 have hs2 := hC2.size
 have hC2' : Chg (fun b => b = W ∨ K b = 31) w w2 := hC2.mono (fun b _ e => by
  rcases e with e | e
  ·exact .inl e
  ·right; rw [e]; exact hkg)
 have h2 : WB w0 K w2 W st0 st1 now last begun none := ⟨hkw, h.lo, h.bel.trans (hC2.below (fun b e => by
  by_cases hl : b < w0.heap.size
  ·exfalso
   have h40 := h.lo b hl
   rcases e with e | e
   ·subst e; omega
   ·subst e; omega
  ·omega) hs0), _, hb2, some ⟨g, 0, none⟩, gc, 0, [], rfl, hm2, hg, rfl⟩
 have hwb2 : Bk w2 wb 33 #[bp W] := hwb.chg hC2' (fun e => by
  rcases e with e | e
  ·rw [e, hkw] at hKw; cases hKw
  ·omega)
 refine ⟨1, A, n, c, rfl, (arrives_1 10 (by omega) K w2 W tb wb st0 st1 now last begun (some ⟨g, 0, none⟩) gc A n c L Q hb2 hkw hm2 hg hwb2 hKw hL hQs (fun K3 w3 c1 c2 c3 => hSk K3 w3 A n c (fun b hb => c1 b (by omega)) (hC2'.trans c3 (fun x e => .inl (.inl e)))
  (hv'.keep (fun b hb hl => ?_) (fun b hb => (c1 b (by omega)).trans hb.1)))).mono ?_⟩
 ·have hq : b ≠ W := fun e => by have := hb.1; rw [e, hkw] at this; cases this
  exact (c3.block b (by omega) hq).trans (hC2'.block b hl (fun e => by
   rcases e with e | e
   ·exact hq e
   ·have := hb.1; omega))
 ·rintro e w' ⟨rfl, hr⟩
  obtain ⟨K', r1, r2, r3, r4⟩ := h2.wd 10 (by omega) hr
  exact ⟨rfl, hB K' w' r1 r2 (fun b hb => r3 b (by omega)) ((hC2'.mono (fun b _ e => .inr e)).trans r4 (fun x e => .inl e))⟩
theorem rd2_two (w0 : World) (K : Nat → Nat) (w : World) (W st0 st1 : Nat) (now last : Int) (begun : Bool) (Q0 Q1 : Value → (Nat → Nat) → World → Prop) (tb wb : Nat) (B : World → Prop) (h : WB w0 K w W st0 st1 now last begun none) (hnow : 0 ≤ now ∧ now ≤ 4611686018427387904) (hQs : Stab 0 Q0)
  (T0 : ∀ K1 w1, (∀ b, b < w.heap.size → K1 b = K b) → Chg (fun b => b = W) w w1 → Calls Tryz.prog 116 #[bp st0, .int .i64 (now + 1), .int .i64 (nextDraw last begun)] w1 (SkQ 0 K1 w1 [] Q0))
  (T1 : ∀ K1 w1, (∀ b, b < w.heap.size → K1 b = K b) → Chg (fun b => b = W ∨ sideK 0 (K b)) w w1 → Calls Tryz.prog 116 #[bp st1, .int .i64 (now + 1), .int .i64 (nextDraw (nextDraw last begun) true)] w1 (SkQ 10 K1 w1 [] Q1))
  (hB : ∀ K' w', Q0 nilS K' w' → Q1 nilS K' w' → WB w0 K' w' W st0 st1 (now + 1) (nextDraw (nextDraw last begun) true) true none → (∀ b, b < w.heap.size → K' b = K b) → Chg (fun b => sideK 0 (K b) ∨ sideK 10 (K b) ∨ b = W) w w' → B w') : Rd2 W tb wb B w := by
 obtain ⟨x, hb, gA, gc, k, cells, rfl, hm, hg, hk⟩ := h.bk
 have hk' : k = 0 := hk
 subst hk'
 have hn := hm.nil_of
 subst hn
 have hwl := hb.lt
 have hs0 := h.bel.size
 refine ⟨⟨gA, gc, hb.cell 5⟩, (passes_q K W st0 st1 tb wb now last begun gA gc hnow w hb h.kw hm hg Q0 Q1 hQs (fun K1 w1 a1 a2 a3 => T0 K1 w1 a1 a3) (fun K1 w1 a1 a2 a3 => T1 K1 w1 a1 a3)).mono ?_⟩
 rintro e w' ⟨rfl, K', q0, q1, q2, q3, q4, q5, q6⟩
 refine ⟨rfl, hB K' w' q0 q1 ⟨(q4 W hwl).trans h.kw, fun b hb => (q4 b (by omega)).trans (h.lo b hb), h.bel.trans (q6.below (fun b e => ?_) hs0), _, q2, gA, gc, 0, [], rfl, q3, fun b e => (q4 b (hm.lt b e).2).trans (hg b e), rfl⟩ q4 q6⟩
 by_cases hl : b < w0.heap.size
 ·exfalso
  have h40 := h.lo b hl
  have h30 := h.kw
  rcases e with e | e | e
  ·rw [h40] at e; unfold sideK hostK at e; omega
  ·rw [h40] at e; unfold sideK hostK at e; omega
  ·subst e; omega
 ·omega
theorem SkR.q {t : Nat} {K : Nat → Nat} {w : World} {st sm : Nat} {d : HD} {so : Option (Nat × Bool × Int)} {R : HV → List En → Option (Int × List Dg) → List (List Int) → Prop} {e : Ending} {w' : World} (h : SkR t K w st sm d so R e w') (L : List (List Int)) (R' : SayR) (hL : ∀ v S P L', R v S P L' → L' = L ∧ R' v S P so) : SkQ t K w L (fun _ K w => SiR t st sm d R' K w) e w' := by
 obtain ⟨v', S', P', L', K', x, h1, h2, h3, h4, h5, h6, h7⟩ := h
 obtain ⟨rfl, hr⟩ := hL _ _ _ _ h2
 exact ⟨K', x, h1, ⟨v', S', P', so, hr, h3⟩, h4, h5, h6, h7⟩
theorem sep0 {k : Nat} (h : sideK 10 k) : ¬ sideK 0 k ∧ k ≠ 30 ∧ k ≠ 31 ∧ k ≠ 40 := by unfold sideK hostK at *; omega
theorem sep1 {k : Nat} (h : sideK 0 k) : ¬ sideK 10 k ∧ k ≠ 30 ∧ k ≠ 31 ∧ k ≠ 40 := by unfold sideK hostK at *; omega
open Go.RowKit
theorem DoR.weak {t : Nat} {K : Nat → Nat} {w : World} {L : List (List Int)} {n a p : Int} {Q Q' : Value → (Nat → Nat) → World → Prop} {e : Ending} {w' : World} (h : DoR t K w L n a p Q e w') (hQ : ∀ dv K w, Q dv K w → Q' dv K w) : DoR t K w L n a p Q' e w' := by
 obtain ⟨dA, dn, dc, K', x, y, h1, h2, h3⟩ := h
 exact ⟨dA, dn, dc, K', x, y, h1, hQ _ _ _ h2, h3⟩
structure W2 (w0 : World) (K : Nat → Nat) (w : World) (W st0 sm0 : Nat) (d0 : HD) (st1 sm1 : Nat) (d1 : HD) (now last : Int) (begun : Bool) (fl : Option (Int × List Int)) (R0 R1 : SayR) : Prop where
 wb : WB w0 K w W st0 st1 now last begun fl
 s0 : SiR 0 st0 sm0 d0 R0 K w
 s1 : SiR 10 st1 sm1 d1 R1 K w
section
variable {w0 : World} {K K' : Nat → Nat} {w w' : World} {W st0 sm0 : Nat} {d0 : HD} {st1 sm1 : Nat} {d1 : HD} {now last : Int} {begun : Bool} {fl fl' : Option (Int × List Int)} {R0 R1 : SayR}
theorem W2.lt (h : W2 w0 K w W st0 sm0 d0 st1 sm1 d1 now last begun fl R0 R1) : W < w.heap.size := by
 obtain ⟨x, hb, _⟩ := h.wb.bk
 exact hb.lt
theorem W2.drewN (h : W2 w0 K w W st0 sm0 d0 st1 sm1 d1 now last begun fl R0 R1) (n : Nat) : W2 w0 K (w.drewN n) W st0 sm0 d0 st1 sm1 d1 now last begun fl R0 R1 :=
 ⟨h.wb.drewN n, h.s0.keep ((Chg.refl (fun _ => False) w).drewN n) (fun _ _ _ e => e) (fun _ _ _ => rfl), h.s1.keep ((Chg.refl (fun _ => False) w).drewN n) (fun _ _ _ e => e) (fun _ _ _ => rfl)⟩
theorem W2.below (h : W2 w0 K w W st0 sm0 d0 st1 sm1 d1 now last begun fl R0 R1) (hb : Below w.heap.size w w') (hK : ∀ b, b < w.heap.size → K' b = K b) : W2 w0 K' w' W st0 sm0 d0 st1 sm1 d1 now last begun fl R0 R1 :=
 ⟨h.wb.below hb hK, h.s0.keep (Chg.of_below (F := fun _ => False) hb) (fun _ _ _ e => e) (fun b hb _ => hK b hb), h.s1.keep (Chg.of_below (F := fun _ => False) hb) (fun _ _ _ e => e) (fun b hb _ => hK b hb)⟩
theorem W2.side0 (h : W2 w0 K w W st0 sm0 d0 st1 sm1 d1 now last begun fl R0 R1) (hc : Chg (fun b => b = W) w w') (hK : ∀ b, b < w.heap.size → K' b = K b) : SiR 0 st0 sm0 d0 R0 K' w' :=
 h.s0.keep hc (fun b _ hs e => by rw [e, h.wb.kw] at hs; exact (sep1 hs).2.1 rfl) (fun b hb _ => hK b hb)
theorem W2.side1 (h : W2 w0 K w W st0 sm0 d0 st1 sm1 d1 now last begun fl R0 R1) (hc : Chg (fun b => b = W) w w') (hK : ∀ b, b < w.heap.size → K' b = K b) : SiR 10 st1 sm1 d1 R1 K' w' :=
 h.s1.keep hc (fun b _ hs e => by rw [e, h.wb.kw] at hs; exact (sep0 hs).2.1 rfl) (fun b hb _ => hK b hb)
theorem W2.oth0 (h : W2 w0 K w W st0 sm0 d0 st1 sm1 d1 now last begun fl R0 R1) (hc : Chg (fun b => sideK 10 (K b) ∨ b = W ∨ K b = 31) w w') (hK : ∀ b, b < w.heap.size → K' b = K b) : SiR 0 st0 sm0 d0 R0 K' w' :=
 h.s0.keep hc (fun b _ hs e => by
  rcases e with e | e | e
  ·exact (sep1 hs).1 e
  ·rw [e, h.wb.kw] at hs; exact (sep1 hs).2.1 rfl
  ·exact (sep1 hs).2.2.1 e) (fun b hb _ => hK b hb)
theorem W2.oth1 (h : W2 w0 K w W st0 sm0 d0 st1 sm1 d1 now last begun fl R0 R1) (hc : Chg (fun b => sideK 0 (K b) ∨ b = W ∨ K b = 31) w w') (hK : ∀ b, b < w.heap.size → K' b = K b) : SiR 10 st1 sm1 d1 R1 K' w' :=
 h.s1.keep hc (fun b _ hs e => by
  rcases e with e | e | e
  ·exact (sep0 hs).1 e
  ·rw [e, h.wb.kw] at hs; exact (sep0 hs).2.1 rfl
  ·exact (sep0 hs).2.2.1 e) (fun b hb _ => hK b hb)
theorem st_call_1 (h : W2 w0 K w W st0 sm0 d0 st1 sm1 d1 now last begun none R0 R1) (kd fd a p n : Int) (vA : Option Addr) (vn vc : Nat) (L : List (List Int)) (rn ra rp : Int) (R' : SayR) (hL : L.length ≤ 1)
  (hDo : ∀ K3 w3, (∀ b, b < w.heap.size → K3 b = K b) → Chg (fun b => b = W) w w3 → SiR 10 st1 sm1 d1 R1 K3 w3 → Calls Tryz.prog 117 #[bp st1, .agg (callC kd fd a p n (.slice vA vn vc) now (nextDraw last begun))] w3 (DoR 10 K3 w3 L rn ra rp (fun _ K w => SiR 10 st1 sm1 d1 R' K w))) :
  Calls Tryz.prog 22 #[bp W, .int .i64 1, .agg #[.int .i64 kd, .int .i64 0, .int .i64 fd, .int .u32 a, .int .i64 p, .int .i64 n, .slice vA vn vc, .int .i64 0, .int .i64 0]] w fun e w' => (∃ dA dn dc, e = .returned (.tuple #[.agg (retC 0 rn ra rp (.slice dA dn dc)), .bool true])) ∧
   ∃ K', W2 w0 K' w' W st0 sm0 d0 st1 sm1 d1 now (nextDraw last begun) true (flO 1 L) R0 R' := by
 refine (two_call_1 w0 K w W st0 st1 now last begun kd fd a p n vA vn vc L rn ra rp _ h.wb hL SiR.stab (fun K3 w3 a1 a2 => hDo K3 w3 a1 a2 (h.side1 a2 a1))).mono ?_
 rintro e w' ⟨dA, dn, dc, K', rfl, q1, q2, q3, q4⟩
 exact ⟨⟨dA, dn, dc, rfl⟩, K', q2, h.oth0 q4 q3, q1⟩
theorem st_call_0 (h : W2 w0 K w W st0 sm0 d0 st1 sm1 d1 now last begun none R0 R1) (kd fd a p n : Int) (vA : Option Addr) (vn vc : Nat) (L : List (List Int)) (rn ra rp : Int) (R' : SayR) (hL : L.length ≤ 1)
  (hDo : ∀ K3 w3, (∀ b, b < w.heap.size → K3 b = K b) → Chg (fun b => b = W) w w3 → SiR 0 st0 sm0 d0 R0 K3 w3 → Calls Tryz.prog 117 #[bp st0, .agg (callC kd fd a p n (.slice vA vn vc) now (nextDraw last begun))] w3 (DoR 0 K3 w3 L rn ra rp (fun _ K w => SiR 0 st0 sm0 d0 R' K w))) :
  Calls Tryz.prog 22 #[bp W, .int .i64 0, .agg #[.int .i64 kd, .int .i64 0, .int .i64 fd, .int .u32 a, .int .i64 p, .int .i64 n, .slice vA vn vc, .int .i64 0, .int .i64 0]] w fun e w' => (∃ dA dn dc, e = .returned (.tuple #[.agg (retC 0 rn ra rp (.slice dA dn dc)), .bool true])) ∧
   ∃ K', W2 w0 K' w' W st0 sm0 d0 st1 sm1 d1 now (nextDraw last begun) true (flO 0 L) R' R1 := by
 refine (two_call_0 w0 K w W st0 st1 now last begun kd fd a p n vA vn vc L rn ra rp _ h.wb hL SiR.stab (fun K3 w3 a1 a2 => hDo K3 w3 a1 a2 (h.side0 a2 a1))).mono ?_
 rintro e w' ⟨dA, dn, dc, K', rfl, q1, q2, q3, q4⟩
 exact ⟨⟨dA, dn, dc, rfl⟩, K', q2, q1, h.oth1 q4 q3⟩
end
def newS (m : Int × Int × Int × Int × Int × Int) (a : Int) : SayR := fun v S P so => VA m a v ∧ v.id = 1 ∧ S = [] ∧ P = none ∧ so = none
def skS (m : Int × Int × Int × Int × Int × Int) (a : Int) : SayR := fun v S P so => VA m a v ∧ v.id = 1 ∧ S = [] ∧ P = none ∧ ∃ s, so = some (s, false, 0)
def bdS : SayR := fun v S P so => VA mcB adB v ∧ S = [] ∧ P = some (9, []) ∧ ∃ s b p, so = some (s, b, p)
def sdS : SayR := fun v S P so => VA mcA adA v ∧ absT S = [(adB, newNb 0 pktA)]
def asS : SayR := fun v S P so => VA mcB adB v ∧ absT S = [(adA, learnt 2 0 0 0 0 1 0)] ∧ P = some (9, []) ∧ ∃ s b p, so = some (s, b, p)
def anS : SayR := fun v S P so => VA mcA adA v ∧ absT S = [(adB, learnt 2 0 0 0 0 2 0)]
def gtS : SayR := fun v S P so => VA mcB adB v ∧ absT S = [(adA, learnt 2 0 0 0 0 1 0)] ∧ P = some (9, [dgQ]) ∧ ∃ s b p, so = some (s, b, p)
section
variable {w0 : World} {K : Nat → Nat} {w : World} {W st0 sm0 : Nat} {d0 : HD} {st1 sm1 : Nat} {d1 : HD} {now last : Int} {begun : Bool} {R0 R1 : SayR}
def AnyR (e : Ending) : Prop := ∃ n a p dA dn dc, e = .returned (.tuple #[.agg (retC 0 n a p (.slice dA dn dc)), .bool true])
theorem k_sock1 {m : Int × Int × Int × Int × Int × Int} {a : Int} (h : W2 w0 K w W st0 sm0 d0 st1 sm1 d1 now last begun none R0 (newS m a)) :
  Calls Tryz.prog 22 #[bp W, .int .i64 1, .agg #[.int .i64 1, .int .i64 0, .int .i64 0, .int .u32 0, .int .i64 0, .int .i64 17, nilS, .int .i64 0, .int .i64 0]] w fun e w' => AnyR e ∧ ∃ K', W2 w0 K' w' W st0 sm0 d0 st1 sm1 d1 now (nextDraw last begun) true none R0 (skS m a) := by
 refine (st_call_1 h 1 0 0 0 17 none 0 0 [] 0 0 0 (skS m a) (by decide) (fun K3 w3 a1 a2 hs => ?_)).mono (fun e w' q => ⟨⟨_, _, _, q.1⟩, q.2⟩)
 obtain ⟨v, S, P, so, ⟨hv, hi, rfl, rfl, rfl⟩, hs⟩ := hs
 refine (do_socket 10 (by omega) K3 w3 st1 sm1 d1 v [] none now (nextDraw last begun) hs).mono (fun e w' q => q.weak (fun _ K w r => ?_))
 obtain ⟨s, r⟩ := r
 exact ⟨v, [], none, some (s, false, 0), ⟨hv, hi, rfl, rfl, s, rfl⟩, r⟩
theorem k_sock0 {m : Int × Int × Int × Int × Int × Int} {a : Int} (h : W2 w0 K w W st0 sm0 d0 st1 sm1 d1 now last begun none (newS m a) R1) :
  Calls Tryz.prog 22 #[bp W, .int .i64 0, .agg #[.int .i64 1, .int .i64 0, .int .i64 0, .int .u32 0, .int .i64 0, .int .i64 17, nilS, .int .i64 0, .int .i64 0]] w fun e w' => AnyR e ∧ ∃ K', W2 w0 K' w' W st0 sm0 d0 st1 sm1 d1 now (nextDraw last begun) true none (skS m a) R1 := by
 refine (st_call_0 h 1 0 0 0 17 none 0 0 [] 0 0 0 (skS m a) (by decide) (fun K3 w3 a1 a2 hs => ?_)).mono (fun e w' q => ⟨⟨_, _, _, q.1⟩, q.2⟩)
 obtain ⟨v, S, P, so, ⟨hv, hi, rfl, rfl, rfl⟩, hs⟩ := hs
 refine (do_socket 0 (by omega) K3 w3 st0 sm0 d0 v [] none now (nextDraw last begun) hs).mono (fun e w' q => q.weak (fun _ K w r => ?_))
 obtain ⟨s, r⟩ := r
 exact ⟨v, [], none, some (s, false, 0), ⟨hv, hi, rfl, rfl, s, rfl⟩, r⟩
theorem k_bind1 (h : W2 w0 K w W st0 sm0 d0 st1 sm1 d1 now last begun none R0 (skS mcB adB)) :
  Calls Tryz.prog 22 #[bp W, .int .i64 1, .agg #[.int .i64 2, .int .i64 0, .int .i64 0, .int .u32 0, .int .i64 9, .int .i64 0, nilS, .int .i64 0, .int .i64 0]] w fun e w' => AnyR e ∧ ∃ K', W2 w0 K' w' W st0 sm0 d0 st1 sm1 d1 now (nextDraw last begun) true none R0 bdS := by
 refine (st_call_1 h 2 0 0 9 0 none 0 0 [] 0 0 0 bdS (by decide) (fun K3 w3 a1 a2 hs => ?_)).mono (fun e w' q => ⟨⟨_, _, _, q.1⟩, q.2⟩)
 obtain ⟨v, S, P, so, ⟨hv, hi, rfl, rfl, s, rfl⟩, hs⟩ := hs
 refine (do_bind 10 (by omega) K3 w3 st1 sm1 d1 v [] s now (nextDraw last begun) 9 (by omega) hs).mono (fun e w' q => q.weak (fun _ K w r => ?_))
 obtain ⟨s', x, r⟩ := r
 exact ⟨{ v with prt := x }, [], some (9, []), some (s', true, 9), ⟨⟨hv.m, hv.ad, hv.age⟩, rfl, rfl, s', true, 9, rfl⟩, r⟩
theorem k_send0 (h : W2 w0 K w W st0 sm0 d0 st1 sm1 d1 0 last begun none (skS mcA adA) R1) (hdr : nextDraw last begun = 662824084) (A : Option Addr) (c : Nat) (hA : RB w w.heap.size A hiL) (hAW : ∀ b, blk A = some b → b ≠ W) :
  Calls Tryz.prog 22 #[bp W, .int .i64 0, .agg #[.int .i64 8, .int .i64 0, .int .i64 0, .int .u32 adB, .int .i64 9, .int .i64 0, .slice A 2 c, .int .i64 0, .int .i64 0]] w fun e w' => AnyR e ∧ ∃ K', W2 w0 K' w' W st0 sm0 d0 st1 sm1 d1 0 (nextDraw last begun) true (some (1, fr1)) sdS R1 := by
 refine (st_call_0 h 8 0 adB 9 0 A 2 c [fr1] 2 0 0 sdS (by decide) (fun K3 w3 a1 a2 hs => ?_)).mono (fun e w' q => ⟨⟨_, _, _, q.1⟩, q.2⟩)
 obtain ⟨v, S, P, so, ⟨hv, hi, rfl, rfl, s, rfl⟩, hs⟩ := hs
 have hr3 : RB w3 w3.heap.size A hiL := by
  intro hne
  obtain ⟨b, off, rfl, h1, h2⟩ := hA hne
  refine ⟨b, off, rfl, by have := a2.size; omega, fun j u hj => ?_⟩
  rw [a2.cell (p := ⟨b, off + j, none⟩) h1 (hAW b rfl)]
  exact h2 j u hj
 rw [hdr]
 have hpt : (49152 : Int) + 662824084 % 16384 = ptA := port4
 refine (do_send 0 (by omega) K3 w3 st0 sm0 d0 v [] s 0 662824084 adB 9 A 2 c hiL fr1 (by omega) (by unfold okA; decide) (by decide) (by decide) (by rw [hv.ad]; decide) (by omega) (by omega) hr3 rfl (by omega) (by unfold Bs hiL; decide) ⟨by omega, rfl, by rw [hv.ad]; exact bc_eq, net_eq⟩ (fun x k v' S' L' q => ?_) hs).mono (fun e w' q => q.weak (fun _ K w r => ?_))
 ·rw [hpt] at q
  have := send_fact (v := { v with prt := x }) ⟨hv.m, hv.ad, hv.age⟩ hi q
  exact ⟨this.1, this.2.1⟩
 ·obtain ⟨s', x, k, v', S', q, r⟩ := r
  rw [hpt] at q
  have := send_fact (v := { v with prt := x }) ⟨hv.m, hv.ad, hv.age⟩ hi q
  exact ⟨v', S', _, _, ⟨this.2.2.1, this.2.2.2⟩, r⟩
theorem k_recv1 (h : W2 w0 K w W st0 sm0 d0 st1 sm1 d1 now last begun none R0 gtS) :
  Calls Tryz.prog 22 #[bp W, .int .i64 1, .agg #[.int .i64 9, .int .i64 0, .int .i64 0, .int .u32 0, .int .i64 0, .int .i64 9, nilS, .int .i64 0, .int .i64 0]] w fun e w' => ∃ n a p dA dn dc, e = .returned (.tuple #[.agg (retC 0 n a p (.slice dA dn dc)), .bool true]) ∧ RowAt w' (fun _ => True) (.slice dA dn dc) hiL ∧ Below w0.heap.size w0 w' := by
 have hs1 := h.s1
 obtain ⟨v, S, P, so, ⟨hv, hS, rfl, s, b, p, rfl⟩, hs⟩ := hs1
 refine (two_call_1 w0 K w W st0 st1 now last begun 9 0 0 0 9 none 0 0 [] dgQ.data.length dgQ.fr dgQ.fp (RvQ 10 st1 sm1 d1.h dgQ.data) h.wb (by decide) RvQ.stab (fun K3 w3 a1 a2 => ?_)).mono ?_
 ·have hs3 := hs.keep (K' := K3) a2 (fun b _ hk e => by rw [e, h.wb.kw] at hk; exact (sep0 hk).2.1 rfl) (fun b hb _ => a1 b hb)
  exact do_recv 10 (by omega) K3 w3 st1 sm1 d1 v S s now (nextDraw last begun) 9 9 b p dgQ (by decide) (by omega) hs3
 ·rintro e w' ⟨dA, dn, dc, K', rfl, q1, q2, q3, q4⟩
  exact ⟨_, _, _, dA, dn, dc, rfl, q1.2.2.keep (fun _ _ _ => rfl) (fun _ _ => trivial), q2.bel⟩
end
end Go.Proofs.YtaeafkdfbcppgaaGreat
