/- Proved: what a world is while one frame at most is under way; the region that sets the clock and the draw of a call; World.call asks one side's stack, and gathers what it answers and sends. Conditions: as each law says. -/
import Derived.Test.YtaeafkdfbcppgaaGreatT42
import Derived.Test.YtaeafkdfbcppgaaGreatT43
set_option linter.unusedSectionVars false
set_option linter.unusedSimpArgs false
set_option linter.unusedVariables false
namespace Go.Proofs.YtaeafkdfbcppgaaGreat
open Go.RowKit
def FlR (K : Nat → Nat) (w : World) (x : Value) (fl : Option (Int × List Int)) : Prop :=
 ∃ gA gc k cells, x = .slice gA k gc ∧ Mr 86 2 w 0 gA k gc cells ∧ (∀ b, blk gA = some b → K b = 31) ∧
  match fl with
  | none => k = 0
  | some (to_, l) => k = 1 ∧ ∃ v, cells = [.int .i64 to_, v] ∧ RowAt w (fun b => K b = 40) v l
theorem FlR.keep {K K' : Nat → Nat} {w w' : World} {x : Value} {fl : Option (Int × List Int)} {G : Nat → Prop} (h : FlR K w x fl) (hc : Chg G w w') (hG : ∀ b, b < w.heap.size → K b = 31 ∨ K b = 40 → ¬ G b ∨ False) (hK : ∀ b, b < w.heap.size → K b = 31 ∨ K b = 40 → K' b = K b) : FlR K' w' x fl := by
 obtain ⟨gA, gc, k, cells, h1, h2, h3, h4⟩ := h
 refine ⟨gA, gc, k, cells, h1, h2.chg hc (fun b hb => (hG b (h2.lt b hb).2 (.inl (h3 b hb))).elim id False.elim), fun b hb => (hK b (h2.lt b hb).2 (.inl (h3 b hb))).trans (h3 b hb), ?_⟩
 rcases fl with _ | ⟨to_, l⟩
 ·exact h4
 ·obtain ⟨e, v, e2, hv⟩ := h4
  refine ⟨e, v, e2, ?_⟩
  have := (RowsAt.cap (show RowsAt w (fun b => K b = 40) [v] [l] from ⟨hv, trivial⟩)).1
  exact this.keep (fun b hb hl => hc.block b hl ((hG b hl (.inr hb.1)).elim id False.elim)) (fun b hb => (hK b hb.2 (.inr hb.1)).trans hb.1)
def wcN (W g1 : Nat) (now dr : Int) : Nat → Value
 | 0 => bp W
 | 1 => bp W
 | 2 => .pointer (some ⟨W, 2, none⟩)
 | 3 => .int .i64 now
 | 4 => bp W
 | 5 => .int .i64 dr
 | 6 => .pointer (some ⟨g1, 7, none⟩)
 | 8 => .pointer (some ⟨g1, 8, none⟩)
 | _ => undef
def wcR (W g1 st0 st1 : Nat) (now last : Int) (begun : Bool) (x : Value) (kd fd a p n : Int) (dv : Value) (w0 : World) (L : Nat → Bool) (v : Nat → Value) (w : World) : Prop :=
 (∀ j, L j = true → v j = wcN W g1 now (nextDraw last begun) j) ∧ Chg (fun b => b = W ∨ b = g1) w0 w ∧
 ∃ last' begun' n' d', Bk w W 72 (wrC st0 st1 now last' begun' x) ∧ (L 5 = false → last' = last ∧ begun' = begun) ∧ (L 5 = true → last' = nextDraw last begun ∧ begun' = true) ∧
  Bk w g1 39 (callC kd fd a p n dv n' d') ∧ (L 7 = true → n' = now) ∧ (L 9 = true → d' = nextDraw last begun)
section
variable {W g1 st0 st1 : Nat} {now last : Int} {begun : Bool} {x : Value} {kd fd a p n : Int} {dv : Value} {w0 : World} {L : Nat → Bool} {v : Nat → Value} {w : World}
theorem wc_vals {u : Value} {i : Nat} (h : ∀ j, L j = true → v j = wcN W g1 now (nextDraw last begun) j) (hu : u = wcN W g1 now (nextDraw last begun) i) : ∀ j, upd L i true j = true → upd v i u j = wcN W g1 now (nextDraw last begun) j := fun j hj => by
 by_cases e : j = i
 ·subst e; rw [upd_same]; exact hu
 ·rw [upd_ne _ _ e]; rw [upd_ne _ _ e] at hj; exact h j hj
theorem wcR_step (h : wcR W g1 st0 st1 now last begun x kd fd a p n dv w0 L v w) {i : Nat} {u : Value} (h5 : 5 ≠ i) (h7 : 7 ≠ i) (h9 : 9 ≠ i) (hu : u = wcN W g1 now (nextDraw last begun) i) : wcR W g1 st0 st1 now last begun x kd fd a p n dv w0 (upd L i true) (upd v i u) w := by
 obtain ⟨h1, h2, l', b', n', d', q1, q2, q3, q4, q5, q6⟩ := h
 exact ⟨wc_vals h1 hu, h2, l', b', n', d', q1, by rw [upd_ne _ _ h5]; exact q2, by rw [upd_ne _ _ h5]; exact q3, q4, by rw [upd_ne _ _ h7]; exact q5, by rw [upd_ne _ _ h9]; exact q6⟩
end
def flO (side : Int) : List (List Int) → Option (Int × List Int)
 | [l] => some (1 - side, l)
 | _ => none
def WcR (t : Nat) (K : Nat → Nat) (w : World) (W T st0 st1 : Nat) (now last : Int) (begun : Bool) (side : Int) (L : List (List Int)) (n a p : Int) (Q : Value → (Nat → Nat) → World → Prop) (w' : World) : Prop :=
 ∃ K' dA dn dc x' y z, Q (.slice dA dn dc) K' w' ∧ Bk w' W 72 (wrC st0 st1 now (nextDraw last begun) true x') ∧ FlR K' w' x' (flO side L) ∧
  Bk w' T 80 #[y, z] ∧ RowV w' w.heap.size 65 6 y (retC 0 n a p (.slice dA dn dc)).toList ∧ RowV w' w.heap.size 3 1 z [.int .i64 side] ∧
  (∀ b, b < w.heap.size → K' b = K b) ∧ (∀ b, w.heap.size ≤ b → sideK t (K' b) ∨ K' b = 40 ∨ K' b = 31) ∧ Chg (fun b => sideK t (K b) ∨ b = W ∨ K b = 31 ∨ b = T) w w'
theorem wc_end {t : Nat} (ht : t ≤ 20) {K K1 K2 : Nat → Nat} {w w1 w2 w3 : World} {W T st0 st1 : Nat} {now last : Int} {begun : Bool} {side : Int} {L : List (List Int)} {n a p : Int} {Q : Value → (Nat → Nat) → World → Prop} {dA : Option Addr} {dn dc : Nat} {gA : Option Addr} {gc : Nat} {vs : List Value}
  (hQs : Stab t Q) (hQ : Q (.slice dA dn dc) K2 w2) (k0 : ∀ b, b < w.heap.size → K1 b = K b) (k1 : ∀ b, w.heap.size ≤ b → K1 b = 40) (c01 : Chg (fun b => b = W) w w1) (j1 : ∀ b, b < w1.heap.size → K2 b = K1 b) (j2 : ∀ b, w1.heap.size ≤ b → sideK t (K2 b) ∨ K2 b = 40) (c12 : Chg (fun b => sideK t (K1 b)) w1 w2)
  (hrows : RowsAt w2 (fun b => K2 b = 40 ∧ w1.heap.size ≤ b) vs L) (hL : L.length ≤ 1) (hKW : K W = 30) (hW : W < w.heap.size) (hKT : K T = 40) (hT : T < w.heap.size) (hg : ∀ b, blk gA = some b → b < w.heap.size ∧ K b = 31)
  (hG : GaP W st0 st1 now (nextDraw last begun) true gA 0 gc [] side T (retC 0 n a p (.slice dA dn dc)).toList vs w2 w3) : WcR t K w W T st0 st1 now last begun side L n a p Q w3 := by
 obtain ⟨y, z, hTb, hy, hz, hm, hc⟩ := hG
 have s1 := c01.size
 have s2 := c12.size
 have s3 := hc.size
 have n30 : ¬ sideK t 30 := by
  rintro (h | h)
  ·exact absurd h.2 (by omega)
  ·omega
 have n31 : ¬ sideK t 31 := by
  rintro (h | h)
  ·exact absurd h.2 (by omega)
  ·omega
 have n40 : ¬ sideK t 40 := by
  rintro (h | h)
  ·exact absurd h.2 (by omega)
  ·omega
 have kb : ∀ b, b < w.heap.size → K2 b = K b := fun b hb => (j1 b (by omega)).trans (k0 b hb)
 have hcc : Chg (fun b => sideK t (K b) ∨ b = W ∨ K b = 31 ∨ b = T) w w3 := by
  refine ((c01.mono (G := fun b => sideK t (K b) ∨ b = W ∨ K b = 31 ∨ b = T) (fun _ _ e => .inr (.inl e))).trans c12 (fun b e => ?_)).trans hc (fun b e => ?_)
  ·rcases Nat.lt_or_ge b w.heap.size with h | h
   ·exact .inl (.inl (by rw [← k0 b h]; exact e))
   ·exact .inr h
  ·rcases e with e | e | e
   ·exact .inl (.inr (.inr (.inr e)))
   ·exact .inl (.inr (.inl e))
   ·exact .inl (.inr (.inr (.inl (hg b e).2)))
 have hQ3 : ∀ K3 : Nat → Nat, (∀ b, b < w2.heap.size → K3 b = K2 b) → Q (.slice dA dn dc) K3 w3 := fun K3 h3 => hQs _ _ _ _ _ _ hQ hc (fun b hb hs e => by
  rcases e with e | e | e
  ·subst e; rw [kb _ hT, hKT] at hs; exact n40 hs
  ·subst e; rw [kb _ hW, hKW] at hs; exact n30 hs
  ·rw [kb _ (hg b e).1, (hg b e).2] at hs; exact n31 hs) (fun b hb _ => h3 b hb)
 rcases L with _ | ⟨l, _ | ⟨l2, L⟩⟩
 ·rcases vs with _ | ⟨v, vs⟩
  ·obtain ⟨hW3, hm3⟩ := hm
   obtain ⟨K3, h3, h4⟩ : ∃ K3 : Nat → Nat, (∀ b, b < w2.heap.size → K3 b = K2 b) ∧ ∀ b, w2.heap.size ≤ b → K3 b = 40 := ⟨fun b => if b < w2.heap.size then K2 b else 40, fun b hb => if_pos hb, fun b hb => if_neg (by omega)⟩
   refine ⟨K3, dA, dn, dc, _, y, z, hQ3 K3 h3, hW3, ⟨gA, gc, 0, [], rfl, hm3, fun b hb => ?_, rfl⟩, hTb, hy.mono (by omega), hz.mono (by omega), fun b hb => (h3 b (by omega)).trans (kb b hb), fun b hb => ?_, hcc⟩
   ·rw [h3 b (by have := (hg b hb).1; omega), kb b (hg b hb).1]; exact (hg b hb).2
   ·rcases Nat.lt_or_ge b w2.heap.size with h | h
    ·rw [h3 b h]
     rcases Nat.lt_or_ge b w1.heap.size with h' | h'
     ·right; left; rw [j1 b h']; exact k1 b hb
     ·exact (j2 b h').imp id .inl
    ·right; left; exact h4 b h
  ·exact hrows.elim
 ·rcases vs with _ | ⟨v, _ | ⟨v2, vs⟩⟩
  ·exact hrows.elim
  ·obtain ⟨wm, cm, g, fc', hW3, hm3, hg3, hc3⟩ := hm
   have sm := cm.size
   obtain ⟨K3, h3, h4, h5⟩ : ∃ K3 : Nat → Nat, (∀ b, b < w2.heap.size → K3 b = K2 b) ∧ (∀ b, w2.heap.size ≤ b → K3 b = 40 ∨ K3 b = 31) ∧ (w2.heap.size ≤ g → K3 g = 31) := ⟨fun b => if b < w2.heap.size then K2 b else if b = g then 31 else 40, fun b hb => if_pos hb, fun b hb => by
    dsimp only
    rw [if_neg (by omega)]
    split
    ·exact .inr rfl
    ·exact .inl rfl, fun h => by dsimp only; rw [if_neg (by omega), if_pos rfl]⟩
   have hKg : K3 g = 31 := by
    rcases hg3 with e | e
    ·rw [h3 g (by have := (hg g e).1; omega), kb g (hg g e).1]; exact (hg g e).2
    ·exact h5 (by omega)
   refine ⟨K3, dA, dn, dc, _, y, z, hQ3 K3 h3, hW3, ⟨some ⟨g, 0, none⟩, fc', 1, _, rfl, hm3, fun b hb => ?_, rfl, v, rfl, ?_⟩, hTb, hy.mono (by omega), hz.mono (by omega), fun b hb => (h3 b (by omega)).trans (kb b hb), fun b hb => ?_, hcc⟩
   ·have e : g = b := by simpa [blk] using hb
    rw [← e]; exact hKg
   ·refine (RowsAt.cap hrows).1.keep (fun b hb hl => hc.block b hl (fun e => ?_)) (fun b hb => ?_)
    ·have h8 := hb.1.2
     rcases e with e | e | e
     ·omega
     ·omega
     ·have := (hg b e).1; omega
    ·show K3 b = 40
     rw [h3 b hb.2]; exact hb.1.1
   ·rcases Nat.lt_or_ge b w2.heap.size with h | h
    ·rw [h3 b h]
     rcases Nat.lt_or_ge b w1.heap.size with h' | h'
     ·right; left; rw [j1 b h']; exact k1 b hb
     ·exact (j2 b h').imp id .inl
    ·right; exact h4 b h
  ·exact hrows.2.elim
 ·exact absurd hL (by simp only [List.length_cons]; omega)
open Go.RowKit
theorem RowsAt.slices {w : World} {F : Nat → Prop} : ∀ {vs : List Value} {ls : List (List Int)}, RowsAt w F vs ls → ∀ v ∈ vs, ∃ A n c, v = .slice A n c
 | [], _, _, v, hv => by cases hv
 | x :: vs, l :: ls, h, v, hv => by
  rcases List.mem_cons.1 hv with e | e
  ·subst e
   obtain ⟨A, n, c, e, _⟩ := h.1
   exact ⟨A, n, c, e⟩
  ·exact RowsAt.slices h.2 v e
set_option maxHeartbeats 8000000 in
set_option maxRecDepth 100000 in
theorem wcall_0 (t : Nat) (ht : t ≤ 20) (K : Nat → Nat) (w : World) (W T gt gw st0 st1 : Nat) (now last : Int) (begun : Bool) (gA : Option Addr) (gc : Nat) (kd fd a p n : Int) (vA : Option Addr) (vn vc : Nat) (L : List (List Int)) (rn ra rp : Int) (Q : Value → (Nat → Nat) → World → Prop)
  (hb : Bk w W 72 (wrC st0 st1 now last begun (.slice gA 0 gc))) (hKW : K W = 30) (hm : Mr 86 2 w 0 gA 0 gc []) (hg : ∀ b, blk gA = some b → K b = 31)
  (hgt : Bk w gt 84 #[bp T]) (hgw : Bk w gw 33 #[bp W]) (hT : Bk w T 80 #[nilS, nilS]) (hKT : K T = 40) (hKt : K gt = 40) (hKw : K gw = 40) (hL : L.length ≤ 1) (hQs : Stab t Q)
  (hDo : ∀ K1 w1, (∀ b, b < w.heap.size → K1 b = K b) → (∀ b, w.heap.size ≤ b → K1 b = 40) → Chg (fun b => b = W) w w1 → Calls Tryz.prog 117 #[bp st0, .agg (callC kd fd a p n (.slice vA vn vc) now (nextDraw last begun))] w1 (DoR t K1 w1 L rn ra rp Q)) :
  Calls Tryz.prog 55 #[bp W, .agg #[.int .i64 1, .int .i64 0, .int .i64 kd, .int .i64 0, .int .i64 fd, .int .u32 a, .int .i64 p, .int .i64 n, .slice vA vn vc, .int .i64 0, .int .i64 0, .int .i64 0, .int .i64 0, .int .u8 0], toV gt gw] w fun e w' => e = .returned (.int .i64 0) ∧ WcR t K w W T st0 st1 now last begun 0 L rn ra rp Q w' := by
 obtain ⟨W0, hW0⟩ : ∃ W0, (w.alloc (.cells #[.int .i64 1, .int .i64 0, .int .i64 kd, .int .i64 0, .int .i64 fd, .int .u32 a, .int .i64 p, .int .i64 n, .slice vA vn vc, .int .i64 0, .int .i64 0, .int .i64 0, .int .i64 0, .int .u8 0] 41)).alloc (.cells (callC kd fd a p n (.slice vA vn vc) 0 0) 39) = W0 := ⟨_, rfl⟩
 have hB0 : Below w.heap.size w W0 := by rw [← hW0]; exact ((Below.refl _ _).alloc (Nat.le_refl _) _).alloc (by simp) _
 have hz0 : W0.heap.size = w.heap.size + 2 := by rw [← hW0]; simp
 have hs0 : Bk W0 w.heap.size 41 #[.int .i64 1, .int .i64 0, .int .i64 kd, .int .i64 0, .int .i64 fd, .int .u32 a, .int .i64 p, .int .i64 n, .slice vA vn vc, .int .i64 0, .int .i64 0, .int .i64 0, .int .i64 0, .int .u8 0] := by rw [← hW0]; exact (Bk.new _ _ _).alloc _
 have hk0 : Bk W0 (w.heap.size + 1) 39 (callC kd fd a p n (.slice vA vn vc) 0 0) := by
  rw [← hW0]
  have := Bk.new (w.alloc (.cells #[.int .i64 1, .int .i64 0, .int .i64 kd, .int .i64 0, .int .i64 fd, .int .u32 a, .int .i64 p, .int .i64 n, .slice vA vn vc, .int .i64 0, .int .i64 0, .int .i64 0, .int .i64 0, .int .u8 0] 41)) 39 (callC kd fd a p n (.slice vA vn vc) 0 0)
  rwa [World.size_alloc] at this
 have hWl := hb.lt
 have HNE : Hid (W ≠ w.heap.size + 1) := Lib.hid (by omega)
 have HB0 := Lib.hid (hb.below hB0 hb.lt)
 have HK0 := Lib.hid hk0
 have HS0 := Lib.hid hs0
 have HX := Lib.hid (And.intro hB0 (And.intro hz0 (And.intro hb (And.intro hKW (And.intro hm (And.intro hg (And.intro hgt (And.intro hgw (And.intro hT (And.intro hKT (And.intro hKt (And.intro hKw (And.intro hL (And.intro hQs (And.intro ht hDo)))))))))))))))
 have hix : ∀ w, (Instr.indexAt 69 (.pointer (some ⟨W, 0, none⟩)) (.int .i64 0)).run Tryz.prog w = .ok (.pointer (some ⟨W, 0, none⟩)) w := ix_side W 0 0 (.inl rfl)
 have HW0 : Hid ((w.alloc (.cells #[.int .i64 1, .int .i64 0, .int .i64 kd, .int .i64 0, .int .i64 fd, .int .u32 a, .int .i64 p, .int .i64 n, .slice vA vn vc, .int .i64 0, .int .i64 0, .int .i64 0, .int .i64 0, .int .u8 0] 41)).alloc (.cells #[.int .i64 kd, .int .i64 0, .int .i64 fd, .int .u32 a, .int .i64 p, .int .i64 n, .slice vA vn vc, .int .i64 0, .int .i64 0] 39) = W0) := Lib.hid hW0
 clear hW0 hB0 hz0 hs0 hk0 hWl hb hKW hm hg hgt hgw hT hKT hKt hKw hL hQs ht hDo
 unfold toV
 go_enter Tryz.func55, Tryz.ntmps55
 go_upto_region 4 with (fail)
 rw [HW0.out]
 refine wp_region_inv [some 20, some 21, some 22, some 23, some 24, some 25, some 26, none, some 27, none] (wcR W (w.heap.size + 1) st0 st1 now last begun (.slice gA 0 gc) kd fd a p n (.slice vA vn vc) W0) (by kernel_rfl) rfl (by kernel_rfl) (by kernel_rfl) (by kernel_rfl) (by kernel_rfl) ?_ ?_ ?_
 ·exact ⟨(fun _ h => by cases h), (Chg.refl _ W0).drew_, last, begun, 0, 0, HB0.out.drewN 1, (fun _ => ⟨rfl, rfl⟩), (fun h => by cases h), HK0.out.drewN 1, (fun h => by cases h), (fun h => by cases h)⟩
 ·refine ⟨?_, ?_, ?_, ?_, ?_, ?_, ?_, ?_, ?_, ?_, trivial⟩
  ·intro L2 v w3 f hL2 hdep hF hR K3 hK
   have e0 : f.eval (.tmp 0) = bp W := (hF.1 0 (by decide)).trans rfl
   unfold Oper.wp
   simp only [execOp, e0]
   exact hK _ _ (wcR_step hR (by decide) (by decide) (by decide) rfl)
  ·intro L2 v w3 f hL2 hdep hF hR K3 hK
   have d0 : L2 0 = true := hdep { on := 0, ground := .data } (by simp) rfl
   have e0 : f.eval (.tmp 20) = bp W := ((hF.2 0 20 rfl d0).trans (hR.1 0 d0)).trans rfl
   have g0 : f.tmps[20]?.getD undef = bp W := by have := e0; simpa [Act.eval] using this
   clear e0 hdep
   unfold Oper.wp
   go_simp
   exact hK _ _ (wcR_step hR (by decide) (by decide) (by decide) rfl)
  ·intro L2 v w3 f hL2 hdep hF hR K3 hK
   have d1 : L2 1 = true := hdep { on := 1, ground := .data } (by simp) rfl
   have e1 : f.eval (.tmp 21) = bp W := ((hF.2 1 21 rfl d1).trans (hR.1 1 d1)).trans rfl
   have g1 : f.tmps[21]?.getD undef = bp W := by have := e1; simpa [Act.eval] using this
   clear e1 hdep
   unfold Oper.wp
   go_simp
   exact hK _ _ (wcR_step hR (by decide) (by decide) (by decide) rfl)
  ·intro L2 v w3 f hL2 hdep hF hR K3 hK
   have d2 : L2 2 = true := hdep { on := 2, ground := .data } (by simp) rfl
   have e2 : f.eval (.tmp 22) = .pointer (some ⟨W, 2, none⟩) := ((hF.2 2 22 rfl d2).trans (hR.1 2 d2)).trans rfl
   have g2 : f.tmps[22]?.getD undef = .pointer (some ⟨W, 2, none⟩) := by have := e2; simpa [Act.eval] using this
   have hcq : w3.cell? ⟨W, 2, none⟩ = some (.int .i64 now) := by obtain ⟨_, _, l', b', n', d', q1, _⟩ := hR; exact q1.cell 2
   clear e2 hdep
   unfold Oper.wp
   go_simp
   exact hK _ _ (wcR_step hR (by decide) (by decide) (by decide) rfl)
  ·intro L2 v w3 f hL2 hdep hF hR K3 hK
   have e0 : f.eval (.tmp 0) = bp W := (hF.1 0 (by decide)).trans rfl
   unfold Oper.wp
   simp only [execOp, e0]
   exact hK _ _ (wcR_step hR (by decide) (by decide) (by decide) rfl)
  ·intro L2 v w3 f hL2 hdep hF hR K3 hK
   have d4 : L2 4 = true := hdep { on := 4, ground := .data } (by simp) rfl
   have e4 : f.eval (.tmp 24) = bp W := ((hF.2 4 24 rfl d4).trans (hR.1 4 d4)).trans rfl
   have g4 : f.tmps[24]?.getD undef = bp W := by have := e4; simpa [Act.eval] using this
   obtain ⟨h1, h2, l', b', n', d', q1, q2, q3, q4, q5, q6⟩ := hR
   obtain ⟨rfl, rfl⟩ := q2 hL2
   unfold Oper.wp
   simp only [execOp, resolve, List.map_toArray, List.map_cons, List.map_nil, e4]
   refine (draw_any W st0 st1 now _ _ _ w3 q1).mono ?_
   rintro e w4 ⟨rfl, hb4, hc4⟩
   exact hK _ _ ⟨wc_vals h1 rfl, h2.trans hc4 (fun _ e => .inl (.inl e)), _, _, n', d', hb4, (fun e => by rw [upd_same] at e; cases e), (fun _ => ⟨rfl, rfl⟩), q4.chg hc4 (fun e => HNE.out e.symm), by rw [upd_ne _ _ (by decide)]; exact q5, by rw [upd_ne _ _ (by decide)]; exact q6⟩
  ·intro L2 v w3 f hL2 hdep hF hR K3 hK
   have e0 : f.eval (.tmp 7) = bp (w.heap.size + 1) := (hF.1 7 (by decide)).trans rfl
   have g0 : f.tmps[7]?.getD undef = bp (w.heap.size + 1) := by have := e0; simpa [Act.eval] using this
   clear e0 hdep
   unfold Oper.wp
   go_simp
   exact hK _ _ (wcR_step hR (by decide) (by decide) (by decide) rfl)
  ·intro L2 v w3 f hL2 hdep hF hR K3 hK
   have d6 : L2 6 = true := hdep { on := 6, ground := .data } (by simp) rfl
   have e6 : f.eval (.tmp 26) = .pointer (some ⟨w.heap.size + 1, 7, none⟩) := ((hF.2 6 26 rfl d6).trans (hR.1 6 d6)).trans rfl
   have g6 : f.tmps[26]?.getD undef = .pointer (some ⟨w.heap.size + 1, 7, none⟩) := by have := e6; simpa [Act.eval] using this
   have d3 : L2 3 = true := hdep { on := 3, ground := .data } (by simp) rfl
   have e3 : f.eval (.tmp 23) = .int .i64 now := ((hF.2 3 23 rfl d3).trans (hR.1 3 d3)).trans rfl
   have g3 : f.tmps[23]?.getD undef = .int .i64 now := by have := e3; simpa [Act.eval] using this
   clear e6 e3 hdep
   obtain ⟨h1, h2, l', b', n', d', q1, q2, q3, q4, q5, q6⟩ := hR
   have hfz := q4.frozen 7
   obtain ⟨uo, huo⟩ : ∃ uo, w3.cell? ⟨w.heap.size + 1, 7, none⟩ = some uo := ⟨_, q4.cell 7⟩
   have hs4 := q4.set 7 (.int .i64 now)
   have hsc : Chg (fun b => b = w.heap.size + 1) w3 (w3.setCell ⟨w.heap.size + 1, 7, none⟩ (.int .i64 now)) := (Chg.refl _ w3).set1 _
   unfold Oper.wp
   go_simp
   exact hK undef _ ⟨wc_vals h1 rfl, h2.trans hsc (fun _ e => .inl (.inr e)), l', b', now, d', q1.chg hsc HNE.out, by rw [upd_ne _ _ (by decide)]; exact q2, by rw [upd_ne _ _ (by decide)]; exact q3, hs4, (fun _ => rfl), by rw [upd_ne _ _ (by decide)]; exact q6⟩
  ·intro L2 v w3 f hL2 hdep hF hR K3 hK
   have e0 : f.eval (.tmp 7) = bp (w.heap.size + 1) := (hF.1 7 (by decide)).trans rfl
   have g0 : f.tmps[7]?.getD undef = bp (w.heap.size + 1) := by have := e0; simpa [Act.eval] using this
   clear e0 hdep
   unfold Oper.wp
   go_simp
   exact hK _ _ (wcR_step hR (by decide) (by decide) (by decide) rfl)
  ·intro L2 v w3 f hL2 hdep hF hR K3 hK
   have d8 : L2 8 = true := hdep { on := 8, ground := .data } (by simp) rfl
   have e8 : f.eval (.tmp 27) = .pointer (some ⟨w.heap.size + 1, 8, none⟩) := ((hF.2 8 27 rfl d8).trans (hR.1 8 d8)).trans rfl
   have g8 : f.tmps[27]?.getD undef = .pointer (some ⟨w.heap.size + 1, 8, none⟩) := by have := e8; simpa [Act.eval] using this
   have d5 : L2 5 = true := hdep { on := 5, ground := .data } (by simp) rfl
   have e5 : f.eval (.tmp 25) = .int .i64 (nextDraw last begun) := ((hF.2 5 25 rfl d5).trans (hR.1 5 d5)).trans rfl
   have g5 : f.tmps[25]?.getD undef = .int .i64 (nextDraw last begun) := by have := e5; simpa [Act.eval] using this
   clear e8 e5 hdep
   obtain ⟨h1, h2, l', b', n', d', q1, q2, q3, q4, q5, q6⟩ := hR
   have hfz := q4.frozen 8
   obtain ⟨uo, huo⟩ : ∃ uo, w3.cell? ⟨w.heap.size + 1, 8, none⟩ = some uo := ⟨_, q4.cell 8⟩
   have hs4 := q4.set 8 (.int .i64 (nextDraw last begun))
   have hsc : Chg (fun b => b = w.heap.size + 1) w3 (w3.setCell ⟨w.heap.size + 1, 8, none⟩ (.int .i64 (nextDraw last begun))) := (Chg.refl _ w3).set1 _
   unfold Oper.wp
   go_simp
   exact hK undef _ ⟨wc_vals h1 rfl, h2.trans hsc (fun _ e => .inl (.inr e)), l', b', n', nextDraw last begun, q1.chg hsc HNE.out, by rw [upd_ne _ _ (by decide)]; exact q2, by rw [upd_ne _ _ (by decide)]; exact q3, hs4, by rw [upd_ne _ _ (by decide)]; exact q5, (fun _ => rfl)⟩
 ·intro v w3 L3 hL3 hR
  obtain ⟨_, h2, l', b', n', d', q1, _, q3, q4, q5, q6⟩ := hR
  obtain ⟨rfl, rfl⟩ := q3 (hL3 5 (by decide))
  rw [q5 (hL3 7 (by decide)), q6 (hL3 9 (by decide))] at q4
  simp only [frLv, if_true, Act.put, List.setIfInBounds_toArray, List.set_cons_zero, List.set_cons_succ]
  have HQ1 := Lib.hid q1
  have HQ4 := Lib.hid q4
  have hs3 := HS0.out.chg h2 (fun e => by have := HX.out.2.2.1.lt; omega)
  have HS3 := Lib.hid hs3
  have HC3 : Hid (Chg (fun b => b = W) w w3) := Lib.hid ((Chg.of_below (F := fun b => b = W) HX.out.1).trans h2 (fun b e => e.imp id (fun e => by omega)))
  obtain ⟨K1, k0, k1⟩ : ∃ K1 : Nat → Nat, (∀ b, b < w.heap.size → K1 b = K b) ∧ ∀ b, w.heap.size ≤ b → K1 b = 40 := ⟨fun b => if b < w.heap.size then K b else 40, fun b hb => if_pos hb, fun b hb => if_neg (by omega)⟩
  have HDO := Lib.hid (HX.out.2.2.2.2.2.2.2.2.2.2.2.2.2.2.2 K1 w3.drew k0 k1 HC3.out.drew_)
  have HKK := Lib.hid (And.intro k0 k1)
  have HKP : Hid (∀ w', Chg (fun b => sideK t (K1 b)) w3.drew w' → w'.cell? ⟨w.heap.size, 1, none⟩ = some (.int .i64 0) ∧ w'.cell? ⟨W, 0, none⟩ = some (bp st0) ∧ w'.cell? ⟨w.heap.size + 1, 0, none⟩ = some (.int .i64 kd) ∧ w'.cell? ⟨w.heap.size + 1, 1, none⟩ = some (.int .i64 0) ∧ w'.cell? ⟨w.heap.size + 1, 2, none⟩ = some (.int .i64 fd) ∧ w'.cell? ⟨w.heap.size + 1, 3, none⟩ = some (.int .u32 a) ∧ w'.cell? ⟨w.heap.size + 1, 4, none⟩ = some (.int .i64 p) ∧ w'.cell? ⟨w.heap.size + 1, 5, none⟩ = some (.int .i64 n) ∧ w'.cell? ⟨w.heap.size + 1, 6, none⟩ = some (.slice vA vn vc) ∧ w'.cell? ⟨w.heap.size + 1, 7, none⟩ = some (.int .i64 now) ∧ w'.cell? ⟨w.heap.size + 1, 8, none⟩ = some (.int .i64 (nextDraw last begun))) := Lib.hid fun w' hc => by
   have ht := HX.out.2.2.2.2.2.2.2.2.2.2.2.2.2.2.1
   have n30 : ¬ sideK t 30 := by
    rintro (h | h)
    ·exact absurd h.2 (by omega)
    ·omega
   have n40 : ¬ sideK t 40 := by
    rintro (h | h)
    ·exact absurd h.2 (by omega)
    ·omega
   have a1 := (hs3.drewN 1).chg hc (fun e => by rw [k1 _ (Nat.le_refl _)] at e; exact n40 e)
   have a2 := (q1.drewN 1).chg hc (fun e => by rw [k0 _ HX.out.2.2.1.lt, HX.out.2.2.2.1] at e; exact n30 e)
   have a3 := (q4.drewN 1).chg hc (fun e => by rw [k1 _ (by omega)] at e; exact n40 e)
   exact ⟨a1.cell 1, a2.cell 0, a3.cell 0, a3.cell 1, a3.cell 2, a3.cell 3, a3.cell 4, a3.cell 5, a3.cell 6, a3.cell 7, a3.cell 8⟩
  have y1 : w3.drew.cell? ⟨w.heap.size, 1, none⟩ = some (.int .i64 0) := hs3.cell 1
  have yW : w3.drew.cell? ⟨W, 0, none⟩ = some (bp st0) := q1.cell 0
  have z0 : w3.drew.cell? ⟨w.heap.size + 1, 0, none⟩ = some (.int .i64 kd) := q4.cell 0
  have z1 : w3.drew.cell? ⟨w.heap.size + 1, 1, none⟩ = some (.int .i64 0) := q4.cell 1
  have z2 : w3.drew.cell? ⟨w.heap.size + 1, 2, none⟩ = some (.int .i64 fd) := q4.cell 2
  have z3 : w3.drew.cell? ⟨w.heap.size + 1, 3, none⟩ = some (.int .u32 a) := q4.cell 3
  have z4 : w3.drew.cell? ⟨w.heap.size + 1, 4, none⟩ = some (.int .i64 p) := q4.cell 4
  have z5 : w3.drew.cell? ⟨w.heap.size + 1, 5, none⟩ = some (.int .i64 n) := q4.cell 5
  have z6 : w3.drew.cell? ⟨w.heap.size + 1, 6, none⟩ = some (.slice vA vn vc) := q4.cell 6
  have z7 : w3.drew.cell? ⟨w.heap.size + 1, 7, none⟩ = some (.int .i64 now) := q4.cell 7
  have z8 : w3.drew.cell? ⟨w.heap.size + 1, 8, none⟩ = some (.int .i64 (nextDraw last begun)) := q4.cell 8
  clear q1 q3 q4 q5 q6 h2 hs3 k0 k1 hL3
  go_wp2_with fail
  go_region_held3 (fun w' => w'.cell? ⟨w.heap.size, 1, none⟩ = some (.int .i64 0) ∧ w'.cell? ⟨W, 0, none⟩ = some (bp st0) ∧ w'.cell? ⟨w.heap.size + 1, 0, none⟩ = some (.int .i64 kd) ∧ w'.cell? ⟨w.heap.size + 1, 1, none⟩ = some (.int .i64 0) ∧ w'.cell? ⟨w.heap.size + 1, 2, none⟩ = some (.int .i64 fd) ∧ w'.cell? ⟨w.heap.size + 1, 3, none⟩ = some (.int .u32 a) ∧ w'.cell? ⟨w.heap.size + 1, 4, none⟩ = some (.int .i64 p) ∧ w'.cell? ⟨w.heap.size + 1, 5, none⟩ = some (.int .i64 n) ∧ w'.cell? ⟨w.heap.size + 1, 6, none⟩ = some (.slice vA vn vc) ∧ w'.cell? ⟨w.heap.size + 1, 7, none⟩ = some (.int .i64 now) ∧ w'.cell? ⟨w.heap.size + 1, 8, none⟩ = some (.int .i64 (nextDraw last begun)))
   (first | (with_reducible exact ⟨by assumption, by assumption, by assumption, by assumption, by assumption, by assumption, by assumption, by assumption, by assumption, by assumption, by assumption⟩) | go_keep)
   (first
   | (go_at_call 117; unfold callC at HDO; refine HDO.out.mono ?_; rintro e5 w5 ⟨dA, dn, dc, K2, xx, yy, rfl, hQ5, ⟨rA, rc, rfl, hmr5, hrk5⟩, ⟨fA, fc, vs, rfl, hof5, hrw5, hfk5⟩, j1, j2, hc5⟩; obtain ⟨p1, pW, p20, p21, p22, p23, p24, p25, p26, p27, p28⟩ := HKP.out w5 hc5))
  clear pW p20 p21 p22 p23 p24 p25 p26 p27 p28
  obtain ⟨hB0, hz0, hb, hKW, hm, hg, hgt, hgw, hT, hKT, hKt, hKw, hL, hQs, ht, hDo⟩ := HX.out
  obtain ⟨k0, k1⟩ := HKK.out
  have n30 : ¬ sideK t 30 := by
   rintro (h | h)
   ·exact absurd h.2 (by omega)
   ·omega
  have n31 : ¬ sideK t 31 := by
   rintro (h | h)
   ·exact absurd h.2 (by omega)
   ·omega
  have n40 : ¬ sideK t 40 := by
   rintro (h | h)
   ·exact absurd h.2 (by omega)
   ·omega
  have hsz3 : w.heap.size ≤ w3.heap.size := HC3.out.size
  have c5w := HC3.out.drew_
  have hs5 := (HS3.out.drewN 1).chg hc5 (fun e => by rw [k1 _ (Nat.le_refl _)] at e; exact n40 e)
  have y5 : w5.cell? ⟨w.heap.size, 1, none⟩ = some (.int .i64 0) := hs5.cell 1
  have hb5 := (HQ1.out.drewN 1).chg hc5 (fun e => by rw [k0 _ hb.lt, hKW] at e; exact n30 e)
  have hgl : ∀ b, blk gA = some b → b < w.heap.size ∧ K b = 31 := fun b e => ⟨(hm.lt b e).2, hg b e⟩
  have gne : blk gA ≠ some W := fun e => by have := hg W e; rw [hKW] at this; cases this
  have hm5 : Mr 86 2 w5 0 gA 0 gc [] := (hm.chg c5w (fun b e q => gne (by rw [e, q]))).chg hc5 (fun b e q => by rw [k0 _ (hgl b e).1, (hgl b e).2] at q; exact n31 q)
  have hgt5 := (hgt.chg c5w (fun e => by rw [e, hKW] at hKt; cases hKt)).chg hc5 (fun q => by rw [k0 _ hgt.lt, hKt] at q; exact n40 q)
  have hgw5 := (hgw.chg c5w (fun e => by rw [e, hKW] at hKw; cases hKw)).chg hc5 (fun q => by rw [k0 _ hgw.lt, hKw] at q; exact n40 q)
  have hT5 := (hT.chg c5w (fun e => by rw [e, hKW] at hKT; cases hKT)).chg hc5 (fun q => by rw [k0 _ hT.lt, hKT] at q; exact n40 q)
  have hTl := hT.lt
  have hfT : blk fA ≠ some T := fun e => by have := (hfk5 T e).2; have e2 : w3.drew.heap.size = w3.heap.size := rfl; omega
  have HGA := Lib.hid (gather_one W st0 st1 now (nextDraw last begun) true gA 0 gc [] (by omega) 0 (by omega) T gt gw rA rc rn ra rp dA dn dc w5 hgt5 hgw5 hT5 hb5 hm5 gne hmr5 fA fc L.length vs hof5.length hL hof5 hfT (RowsAt.slices hrw5))
  have HEND := Lib.hid (fun w' (h : GaP W st0 st1 now (nextDraw last begun) true gA 0 gc [] 0 T (retC 0 rn ra rp (.slice dA dn dc)).toList vs w5 w') => wc_end (w3 := w') ht hQs hQ5 k0 k1 c5w j1 j2 hc5 hrw5 hL hKW hb.lt hKT hT.lt hgl h)
  clear hB0 hz0 hb hKW hm hg hgt hgw hT hKT hKt hKw hL hQs ht hDo k0 k1 n30 n31 n40 hsz3 c5w hs5 hb5 hgl gne hm5 hgt5 hgw5 hT5 hTl hfT hQ5 hmr5 hrk5 hof5 hrw5 hfk5 j1 j2 hc5 y1 yW z0 z1 z2 z3 z4 z5 z6 z7 z8
  go_wp2_with fail
  refine HGA.out.mono ?_
  rintro e6 w6 ⟨rfl, hG6⟩
  have HF := Lib.hid (HEND.out w6 hG6)
  clear hG6
  go_wp2_with fail
  go_ret
  exact ⟨rfl, HF.out⟩
set_option maxHeartbeats 8000000 in
set_option maxRecDepth 100000 in
theorem wcall_1 (t : Nat) (ht : t ≤ 20) (K : Nat → Nat) (w : World) (W T gt gw st0 st1 : Nat) (now last : Int) (begun : Bool) (gA : Option Addr) (gc : Nat) (kd fd a p n : Int) (vA : Option Addr) (vn vc : Nat) (L : List (List Int)) (rn ra rp : Int) (Q : Value → (Nat → Nat) → World → Prop)
  (hb : Bk w W 72 (wrC st0 st1 now last begun (.slice gA 0 gc))) (hKW : K W = 30) (hm : Mr 86 2 w 0 gA 0 gc []) (hg : ∀ b, blk gA = some b → K b = 31)
  (hgt : Bk w gt 84 #[bp T]) (hgw : Bk w gw 33 #[bp W]) (hT : Bk w T 80 #[nilS, nilS]) (hKT : K T = 40) (hKt : K gt = 40) (hKw : K gw = 40) (hL : L.length ≤ 1) (hQs : Stab t Q)
  (hDo : ∀ K1 w1, (∀ b, b < w.heap.size → K1 b = K b) → (∀ b, w.heap.size ≤ b → K1 b = 40) → Chg (fun b => b = W) w w1 → Calls Tryz.prog 117 #[bp st1, .agg (callC kd fd a p n (.slice vA vn vc) now (nextDraw last begun))] w1 (DoR t K1 w1 L rn ra rp Q)) :
  Calls Tryz.prog 55 #[bp W, .agg #[.int .i64 1, .int .i64 1, .int .i64 kd, .int .i64 0, .int .i64 fd, .int .u32 a, .int .i64 p, .int .i64 n, .slice vA vn vc, .int .i64 0, .int .i64 0, .int .i64 0, .int .i64 0, .int .u8 0], toV gt gw] w fun e w' => e = .returned (.int .i64 0) ∧ WcR t K w W T st0 st1 now last begun 1 L rn ra rp Q w' := by
 obtain ⟨W0, hW0⟩ : ∃ W0, (w.alloc (.cells #[.int .i64 1, .int .i64 1, .int .i64 kd, .int .i64 0, .int .i64 fd, .int .u32 a, .int .i64 p, .int .i64 n, .slice vA vn vc, .int .i64 0, .int .i64 0, .int .i64 0, .int .i64 0, .int .u8 0] 41)).alloc (.cells (callC kd fd a p n (.slice vA vn vc) 0 0) 39) = W0 := ⟨_, rfl⟩
 have hB0 : Below w.heap.size w W0 := by rw [← hW0]; exact ((Below.refl _ _).alloc (Nat.le_refl _) _).alloc (by simp) _
 have hz0 : W0.heap.size = w.heap.size + 2 := by rw [← hW0]; simp
 have hs0 : Bk W0 w.heap.size 41 #[.int .i64 1, .int .i64 1, .int .i64 kd, .int .i64 0, .int .i64 fd, .int .u32 a, .int .i64 p, .int .i64 n, .slice vA vn vc, .int .i64 0, .int .i64 0, .int .i64 0, .int .i64 0, .int .u8 0] := by rw [← hW0]; exact (Bk.new _ _ _).alloc _
 have hk0 : Bk W0 (w.heap.size + 1) 39 (callC kd fd a p n (.slice vA vn vc) 0 0) := by
  rw [← hW0]
  have := Bk.new (w.alloc (.cells #[.int .i64 1, .int .i64 1, .int .i64 kd, .int .i64 0, .int .i64 fd, .int .u32 a, .int .i64 p, .int .i64 n, .slice vA vn vc, .int .i64 0, .int .i64 0, .int .i64 0, .int .i64 0, .int .u8 0] 41)) 39 (callC kd fd a p n (.slice vA vn vc) 0 0)
  rwa [World.size_alloc] at this
 have hWl := hb.lt
 have HNE : Hid (W ≠ w.heap.size + 1) := Lib.hid (by omega)
 have HB0 := Lib.hid (hb.below hB0 hb.lt)
 have HK0 := Lib.hid hk0
 have HS0 := Lib.hid hs0
 have HX := Lib.hid (And.intro hB0 (And.intro hz0 (And.intro hb (And.intro hKW (And.intro hm (And.intro hg (And.intro hgt (And.intro hgw (And.intro hT (And.intro hKT (And.intro hKt (And.intro hKw (And.intro hL (And.intro hQs (And.intro ht hDo)))))))))))))))
 have hix : ∀ w, (Instr.indexAt 69 (.pointer (some ⟨W, 0, none⟩)) (.int .i64 1)).run Tryz.prog w = .ok (.pointer (some ⟨W, 1, none⟩)) w := ix_side W 0 1 (.inr rfl)
 have HW0 : Hid ((w.alloc (.cells #[.int .i64 1, .int .i64 1, .int .i64 kd, .int .i64 0, .int .i64 fd, .int .u32 a, .int .i64 p, .int .i64 n, .slice vA vn vc, .int .i64 0, .int .i64 0, .int .i64 0, .int .i64 0, .int .u8 0] 41)).alloc (.cells #[.int .i64 kd, .int .i64 0, .int .i64 fd, .int .u32 a, .int .i64 p, .int .i64 n, .slice vA vn vc, .int .i64 0, .int .i64 0] 39) = W0) := Lib.hid hW0
 clear hW0 hB0 hz0 hs0 hk0 hWl hb hKW hm hg hgt hgw hT hKT hKt hKw hL hQs ht hDo
 unfold toV
 go_enter Tryz.func55, Tryz.ntmps55
 go_upto_region 4 with (fail)
 rw [HW0.out]
 refine wp_region_inv [some 20, some 21, some 22, some 23, some 24, some 25, some 26, none, some 27, none] (wcR W (w.heap.size + 1) st0 st1 now last begun (.slice gA 0 gc) kd fd a p n (.slice vA vn vc) W0) (by kernel_rfl) rfl (by kernel_rfl) (by kernel_rfl) (by kernel_rfl) (by kernel_rfl) ?_ ?_ ?_
 ·exact ⟨(fun _ h => by cases h), (Chg.refl _ W0).drew_, last, begun, 0, 0, HB0.out.drewN 1, (fun _ => ⟨rfl, rfl⟩), (fun h => by cases h), HK0.out.drewN 1, (fun h => by cases h), (fun h => by cases h)⟩
 ·refine ⟨?_, ?_, ?_, ?_, ?_, ?_, ?_, ?_, ?_, ?_, trivial⟩
  ·intro L2 v w3 f hL2 hdep hF hR K3 hK
   have e0 : f.eval (.tmp 0) = bp W := (hF.1 0 (by decide)).trans rfl
   unfold Oper.wp
   simp only [execOp, e0]
   exact hK _ _ (wcR_step hR (by decide) (by decide) (by decide) rfl)
  ·intro L2 v w3 f hL2 hdep hF hR K3 hK
   have d0 : L2 0 = true := hdep { on := 0, ground := .data } (by simp) rfl
   have e0 : f.eval (.tmp 20) = bp W := ((hF.2 0 20 rfl d0).trans (hR.1 0 d0)).trans rfl
   have g0 : f.tmps[20]?.getD undef = bp W := by have := e0; simpa [Act.eval] using this
   clear e0 hdep
   unfold Oper.wp
   go_simp
   exact hK _ _ (wcR_step hR (by decide) (by decide) (by decide) rfl)
  ·intro L2 v w3 f hL2 hdep hF hR K3 hK
   have d1 : L2 1 = true := hdep { on := 1, ground := .data } (by simp) rfl
   have e1 : f.eval (.tmp 21) = bp W := ((hF.2 1 21 rfl d1).trans (hR.1 1 d1)).trans rfl
   have g1 : f.tmps[21]?.getD undef = bp W := by have := e1; simpa [Act.eval] using this
   clear e1 hdep
   unfold Oper.wp
   go_simp
   exact hK _ _ (wcR_step hR (by decide) (by decide) (by decide) rfl)
  ·intro L2 v w3 f hL2 hdep hF hR K3 hK
   have d2 : L2 2 = true := hdep { on := 2, ground := .data } (by simp) rfl
   have e2 : f.eval (.tmp 22) = .pointer (some ⟨W, 2, none⟩) := ((hF.2 2 22 rfl d2).trans (hR.1 2 d2)).trans rfl
   have g2 : f.tmps[22]?.getD undef = .pointer (some ⟨W, 2, none⟩) := by have := e2; simpa [Act.eval] using this
   have hcq : w3.cell? ⟨W, 2, none⟩ = some (.int .i64 now) := by obtain ⟨_, _, l', b', n', d', q1, _⟩ := hR; exact q1.cell 2
   clear e2 hdep
   unfold Oper.wp
   go_simp
   exact hK _ _ (wcR_step hR (by decide) (by decide) (by decide) rfl)
  ·intro L2 v w3 f hL2 hdep hF hR K3 hK
   have e0 : f.eval (.tmp 0) = bp W := (hF.1 0 (by decide)).trans rfl
   unfold Oper.wp
   simp only [execOp, e0]
   exact hK _ _ (wcR_step hR (by decide) (by decide) (by decide) rfl)
  ·intro L2 v w3 f hL2 hdep hF hR K3 hK
   have d4 : L2 4 = true := hdep { on := 4, ground := .data } (by simp) rfl
   have e4 : f.eval (.tmp 24) = bp W := ((hF.2 4 24 rfl d4).trans (hR.1 4 d4)).trans rfl
   have g4 : f.tmps[24]?.getD undef = bp W := by have := e4; simpa [Act.eval] using this
   obtain ⟨h1, h2, l', b', n', d', q1, q2, q3, q4, q5, q6⟩ := hR
   obtain ⟨rfl, rfl⟩ := q2 hL2
   unfold Oper.wp
   simp only [execOp, resolve, List.map_toArray, List.map_cons, List.map_nil, e4]
   refine (draw_any W st0 st1 now _ _ _ w3 q1).mono ?_
   rintro e w4 ⟨rfl, hb4, hc4⟩
   exact hK _ _ ⟨wc_vals h1 rfl, h2.trans hc4 (fun _ e => .inl (.inl e)), _, _, n', d', hb4, (fun e => by rw [upd_same] at e; cases e), (fun _ => ⟨rfl, rfl⟩), q4.chg hc4 (fun e => HNE.out e.symm), by rw [upd_ne _ _ (by decide)]; exact q5, by rw [upd_ne _ _ (by decide)]; exact q6⟩
  ·intro L2 v w3 f hL2 hdep hF hR K3 hK
   have e0 : f.eval (.tmp 7) = bp (w.heap.size + 1) := (hF.1 7 (by decide)).trans rfl
   have g0 : f.tmps[7]?.getD undef = bp (w.heap.size + 1) := by have := e0; simpa [Act.eval] using this
   clear e0 hdep
   unfold Oper.wp
   go_simp
   exact hK _ _ (wcR_step hR (by decide) (by decide) (by decide) rfl)
  ·intro L2 v w3 f hL2 hdep hF hR K3 hK
   have d6 : L2 6 = true := hdep { on := 6, ground := .data } (by simp) rfl
   have e6 : f.eval (.tmp 26) = .pointer (some ⟨w.heap.size + 1, 7, none⟩) := ((hF.2 6 26 rfl d6).trans (hR.1 6 d6)).trans rfl
   have g6 : f.tmps[26]?.getD undef = .pointer (some ⟨w.heap.size + 1, 7, none⟩) := by have := e6; simpa [Act.eval] using this
   have d3 : L2 3 = true := hdep { on := 3, ground := .data } (by simp) rfl
   have e3 : f.eval (.tmp 23) = .int .i64 now := ((hF.2 3 23 rfl d3).trans (hR.1 3 d3)).trans rfl
   have g3 : f.tmps[23]?.getD undef = .int .i64 now := by have := e3; simpa [Act.eval] using this
   clear e6 e3 hdep
   obtain ⟨h1, h2, l', b', n', d', q1, q2, q3, q4, q5, q6⟩ := hR
   have hfz := q4.frozen 7
   obtain ⟨uo, huo⟩ : ∃ uo, w3.cell? ⟨w.heap.size + 1, 7, none⟩ = some uo := ⟨_, q4.cell 7⟩
   have hs4 := q4.set 7 (.int .i64 now)
   have hsc : Chg (fun b => b = w.heap.size + 1) w3 (w3.setCell ⟨w.heap.size + 1, 7, none⟩ (.int .i64 now)) := (Chg.refl _ w3).set1 _
   unfold Oper.wp
   go_simp
   exact hK undef _ ⟨wc_vals h1 rfl, h2.trans hsc (fun _ e => .inl (.inr e)), l', b', now, d', q1.chg hsc HNE.out, by rw [upd_ne _ _ (by decide)]; exact q2, by rw [upd_ne _ _ (by decide)]; exact q3, hs4, (fun _ => rfl), by rw [upd_ne _ _ (by decide)]; exact q6⟩
  ·intro L2 v w3 f hL2 hdep hF hR K3 hK
   have e0 : f.eval (.tmp 7) = bp (w.heap.size + 1) := (hF.1 7 (by decide)).trans rfl
   have g0 : f.tmps[7]?.getD undef = bp (w.heap.size + 1) := by have := e0; simpa [Act.eval] using this
   clear e0 hdep
   unfold Oper.wp
   go_simp
   exact hK _ _ (wcR_step hR (by decide) (by decide) (by decide) rfl)
  ·intro L2 v w3 f hL2 hdep hF hR K3 hK
   have d8 : L2 8 = true := hdep { on := 8, ground := .data } (by simp) rfl
   have e8 : f.eval (.tmp 27) = .pointer (some ⟨w.heap.size + 1, 8, none⟩) := ((hF.2 8 27 rfl d8).trans (hR.1 8 d8)).trans rfl
   have g8 : f.tmps[27]?.getD undef = .pointer (some ⟨w.heap.size + 1, 8, none⟩) := by have := e8; simpa [Act.eval] using this
   have d5 : L2 5 = true := hdep { on := 5, ground := .data } (by simp) rfl
   have e5 : f.eval (.tmp 25) = .int .i64 (nextDraw last begun) := ((hF.2 5 25 rfl d5).trans (hR.1 5 d5)).trans rfl
   have g5 : f.tmps[25]?.getD undef = .int .i64 (nextDraw last begun) := by have := e5; simpa [Act.eval] using this
   clear e8 e5 hdep
   obtain ⟨h1, h2, l', b', n', d', q1, q2, q3, q4, q5, q6⟩ := hR
   have hfz := q4.frozen 8
   obtain ⟨uo, huo⟩ : ∃ uo, w3.cell? ⟨w.heap.size + 1, 8, none⟩ = some uo := ⟨_, q4.cell 8⟩
   have hs4 := q4.set 8 (.int .i64 (nextDraw last begun))
   have hsc : Chg (fun b => b = w.heap.size + 1) w3 (w3.setCell ⟨w.heap.size + 1, 8, none⟩ (.int .i64 (nextDraw last begun))) := (Chg.refl _ w3).set1 _
   unfold Oper.wp
   go_simp
   exact hK undef _ ⟨wc_vals h1 rfl, h2.trans hsc (fun _ e => .inl (.inr e)), l', b', n', nextDraw last begun, q1.chg hsc HNE.out, by rw [upd_ne _ _ (by decide)]; exact q2, by rw [upd_ne _ _ (by decide)]; exact q3, hs4, by rw [upd_ne _ _ (by decide)]; exact q5, (fun _ => rfl)⟩
 ·intro v w3 L3 hL3 hR
  obtain ⟨_, h2, l', b', n', d', q1, _, q3, q4, q5, q6⟩ := hR
  obtain ⟨rfl, rfl⟩ := q3 (hL3 5 (by decide))
  rw [q5 (hL3 7 (by decide)), q6 (hL3 9 (by decide))] at q4
  simp only [frLv, if_true, Act.put, List.setIfInBounds_toArray, List.set_cons_zero, List.set_cons_succ]
  have HQ1 := Lib.hid q1
  have HQ4 := Lib.hid q4
  have hs3 := HS0.out.chg h2 (fun e => by have := HX.out.2.2.1.lt; omega)
  have HS3 := Lib.hid hs3
  have HC3 : Hid (Chg (fun b => b = W) w w3) := Lib.hid ((Chg.of_below (F := fun b => b = W) HX.out.1).trans h2 (fun b e => e.imp id (fun e => by omega)))
  obtain ⟨K1, k0, k1⟩ : ∃ K1 : Nat → Nat, (∀ b, b < w.heap.size → K1 b = K b) ∧ ∀ b, w.heap.size ≤ b → K1 b = 40 := ⟨fun b => if b < w.heap.size then K b else 40, fun b hb => if_pos hb, fun b hb => if_neg (by omega)⟩
  have HDO := Lib.hid (HX.out.2.2.2.2.2.2.2.2.2.2.2.2.2.2.2 K1 w3.drew k0 k1 HC3.out.drew_)
  have HKK := Lib.hid (And.intro k0 k1)
  have HKP : Hid (∀ w', Chg (fun b => sideK t (K1 b)) w3.drew w' → w'.cell? ⟨w.heap.size, 1, none⟩ = some (.int .i64 1) ∧ w'.cell? ⟨W, 1, none⟩ = some (bp st1) ∧ w'.cell? ⟨w.heap.size + 1, 0, none⟩ = some (.int .i64 kd) ∧ w'.cell? ⟨w.heap.size + 1, 1, none⟩ = some (.int .i64 0) ∧ w'.cell? ⟨w.heap.size + 1, 2, none⟩ = some (.int .i64 fd) ∧ w'.cell? ⟨w.heap.size + 1, 3, none⟩ = some (.int .u32 a) ∧ w'.cell? ⟨w.heap.size + 1, 4, none⟩ = some (.int .i64 p) ∧ w'.cell? ⟨w.heap.size + 1, 5, none⟩ = some (.int .i64 n) ∧ w'.cell? ⟨w.heap.size + 1, 6, none⟩ = some (.slice vA vn vc) ∧ w'.cell? ⟨w.heap.size + 1, 7, none⟩ = some (.int .i64 now) ∧ w'.cell? ⟨w.heap.size + 1, 8, none⟩ = some (.int .i64 (nextDraw last begun))) := Lib.hid fun w' hc => by
   have ht := HX.out.2.2.2.2.2.2.2.2.2.2.2.2.2.2.1
   have n30 : ¬ sideK t 30 := by
    rintro (h | h)
    ·exact absurd h.2 (by omega)
    ·omega
   have n40 : ¬ sideK t 40 := by
    rintro (h | h)
    ·exact absurd h.2 (by omega)
    ·omega
   have a1 := (hs3.drewN 1).chg hc (fun e => by rw [k1 _ (Nat.le_refl _)] at e; exact n40 e)
   have a2 := (q1.drewN 1).chg hc (fun e => by rw [k0 _ HX.out.2.2.1.lt, HX.out.2.2.2.1] at e; exact n30 e)
   have a3 := (q4.drewN 1).chg hc (fun e => by rw [k1 _ (by omega)] at e; exact n40 e)
   exact ⟨a1.cell 1, a2.cell 1, a3.cell 0, a3.cell 1, a3.cell 2, a3.cell 3, a3.cell 4, a3.cell 5, a3.cell 6, a3.cell 7, a3.cell 8⟩
  have y1 : w3.drew.cell? ⟨w.heap.size, 1, none⟩ = some (.int .i64 1) := hs3.cell 1
  have yW : w3.drew.cell? ⟨W, 1, none⟩ = some (bp st1) := q1.cell 1
  have z0 : w3.drew.cell? ⟨w.heap.size + 1, 0, none⟩ = some (.int .i64 kd) := q4.cell 0
  have z1 : w3.drew.cell? ⟨w.heap.size + 1, 1, none⟩ = some (.int .i64 0) := q4.cell 1
  have z2 : w3.drew.cell? ⟨w.heap.size + 1, 2, none⟩ = some (.int .i64 fd) := q4.cell 2
  have z3 : w3.drew.cell? ⟨w.heap.size + 1, 3, none⟩ = some (.int .u32 a) := q4.cell 3
  have z4 : w3.drew.cell? ⟨w.heap.size + 1, 4, none⟩ = some (.int .i64 p) := q4.cell 4
  have z5 : w3.drew.cell? ⟨w.heap.size + 1, 5, none⟩ = some (.int .i64 n) := q4.cell 5
  have z6 : w3.drew.cell? ⟨w.heap.size + 1, 6, none⟩ = some (.slice vA vn vc) := q4.cell 6
  have z7 : w3.drew.cell? ⟨w.heap.size + 1, 7, none⟩ = some (.int .i64 now) := q4.cell 7
  have z8 : w3.drew.cell? ⟨w.heap.size + 1, 8, none⟩ = some (.int .i64 (nextDraw last begun)) := q4.cell 8
  clear q1 q3 q4 q5 q6 h2 hs3 k0 k1 hL3
  go_wp2_with fail
  go_region_held3 (fun w' => w'.cell? ⟨w.heap.size, 1, none⟩ = some (.int .i64 1) ∧ w'.cell? ⟨W, 1, none⟩ = some (bp st1) ∧ w'.cell? ⟨w.heap.size + 1, 0, none⟩ = some (.int .i64 kd) ∧ w'.cell? ⟨w.heap.size + 1, 1, none⟩ = some (.int .i64 0) ∧ w'.cell? ⟨w.heap.size + 1, 2, none⟩ = some (.int .i64 fd) ∧ w'.cell? ⟨w.heap.size + 1, 3, none⟩ = some (.int .u32 a) ∧ w'.cell? ⟨w.heap.size + 1, 4, none⟩ = some (.int .i64 p) ∧ w'.cell? ⟨w.heap.size + 1, 5, none⟩ = some (.int .i64 n) ∧ w'.cell? ⟨w.heap.size + 1, 6, none⟩ = some (.slice vA vn vc) ∧ w'.cell? ⟨w.heap.size + 1, 7, none⟩ = some (.int .i64 now) ∧ w'.cell? ⟨w.heap.size + 1, 8, none⟩ = some (.int .i64 (nextDraw last begun)))
   (first | (with_reducible exact ⟨by assumption, by assumption, by assumption, by assumption, by assumption, by assumption, by assumption, by assumption, by assumption, by assumption, by assumption⟩) | go_keep)
   (first
   | (go_at_call 117; unfold callC at HDO; refine HDO.out.mono ?_; rintro e5 w5 ⟨dA, dn, dc, K2, xx, yy, rfl, hQ5, ⟨rA, rc, rfl, hmr5, hrk5⟩, ⟨fA, fc, vs, rfl, hof5, hrw5, hfk5⟩, j1, j2, hc5⟩; obtain ⟨p1, pW, p20, p21, p22, p23, p24, p25, p26, p27, p28⟩ := HKP.out w5 hc5))
  clear pW p20 p21 p22 p23 p24 p25 p26 p27 p28
  obtain ⟨hB0, hz0, hb, hKW, hm, hg, hgt, hgw, hT, hKT, hKt, hKw, hL, hQs, ht, hDo⟩ := HX.out
  obtain ⟨k0, k1⟩ := HKK.out
  have n30 : ¬ sideK t 30 := by
   rintro (h | h)
   ·exact absurd h.2 (by omega)
   ·omega
  have n31 : ¬ sideK t 31 := by
   rintro (h | h)
   ·exact absurd h.2 (by omega)
   ·omega
  have n40 : ¬ sideK t 40 := by
   rintro (h | h)
   ·exact absurd h.2 (by omega)
   ·omega
  have hsz3 : w.heap.size ≤ w3.heap.size := HC3.out.size
  have c5w := HC3.out.drew_
  have hs5 := (HS3.out.drewN 1).chg hc5 (fun e => by rw [k1 _ (Nat.le_refl _)] at e; exact n40 e)
  have y5 : w5.cell? ⟨w.heap.size, 1, none⟩ = some (.int .i64 1) := hs5.cell 1
  have hb5 := (HQ1.out.drewN 1).chg hc5 (fun e => by rw [k0 _ hb.lt, hKW] at e; exact n30 e)
  have hgl : ∀ b, blk gA = some b → b < w.heap.size ∧ K b = 31 := fun b e => ⟨(hm.lt b e).2, hg b e⟩
  have gne : blk gA ≠ some W := fun e => by have := hg W e; rw [hKW] at this; cases this
  have hm5 : Mr 86 2 w5 0 gA 0 gc [] := (hm.chg c5w (fun b e q => gne (by rw [e, q]))).chg hc5 (fun b e q => by rw [k0 _ (hgl b e).1, (hgl b e).2] at q; exact n31 q)
  have hgt5 := (hgt.chg c5w (fun e => by rw [e, hKW] at hKt; cases hKt)).chg hc5 (fun q => by rw [k0 _ hgt.lt, hKt] at q; exact n40 q)
  have hgw5 := (hgw.chg c5w (fun e => by rw [e, hKW] at hKw; cases hKw)).chg hc5 (fun q => by rw [k0 _ hgw.lt, hKw] at q; exact n40 q)
  have hT5 := (hT.chg c5w (fun e => by rw [e, hKW] at hKT; cases hKT)).chg hc5 (fun q => by rw [k0 _ hT.lt, hKT] at q; exact n40 q)
  have hTl := hT.lt
  have hfT : blk fA ≠ some T := fun e => by have := (hfk5 T e).2; have e2 : w3.drew.heap.size = w3.heap.size := rfl; omega
  have HGA := Lib.hid (gather_one W st0 st1 now (nextDraw last begun) true gA 0 gc [] (by omega) 1 (by omega) T gt gw rA rc rn ra rp dA dn dc w5 hgt5 hgw5 hT5 hb5 hm5 gne hmr5 fA fc L.length vs hof5.length hL hof5 hfT (RowsAt.slices hrw5))
  have HEND := Lib.hid (fun w' (h : GaP W st0 st1 now (nextDraw last begun) true gA 0 gc [] 1 T (retC 0 rn ra rp (.slice dA dn dc)).toList vs w5 w') => wc_end (w3 := w') ht hQs hQ5 k0 k1 c5w j1 j2 hc5 hrw5 hL hKW hb.lt hKT hT.lt hgl h)
  clear hB0 hz0 hb hKW hm hg hgt hgw hT hKT hKt hKw hL hQs ht hDo k0 k1 n30 n31 n40 hsz3 c5w hs5 hb5 hgl gne hm5 hgt5 hgw5 hT5 hTl hfT hQ5 hmr5 hrk5 hof5 hrw5 hfk5 j1 j2 hc5 y1 yW z0 z1 z2 z3 z4 z5 z6 z7 z8
  go_wp2_with fail
  refine HGA.out.mono ?_
  rintro e6 w6 ⟨rfl, hG6⟩
  have HF := Lib.hid (HEND.out w6 hG6)
  clear hG6
  go_wp2_with fail
  go_ret
  exact ⟨rfl, HF.out⟩
end Go.Proofs.YtaeafkdfbcppgaaGreat
