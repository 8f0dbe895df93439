/- Proved: a frame is laid under way; what is told is gathered; one answer is gathered, and a frame that is sent is laid. Conditions: as each law says. -/
import Derived.Test.YtaeafkdfbcppgaaGreatT40
set_option linter.unusedSectionVars false
set_option linter.unusedSimpArgs false
set_option linter.unusedVariables false
namespace Go.Proofs.YtaeafkdfbcppgaaGreat
open Go.RowKit
theorem info_frm : (Tryz.prog.info? 86).map (fun i => (i.zero, i.size, i.bytes)) = some (some (.agg #[.int .i64 0, .slice none 0 0]), 2, 32) := by kernel_rfl
theorem info_int : (Tryz.prog.info? 3).map (fun i => (i.zero, i.size, i.bytes)) = some (some (.int .i64 0), 1, 8) := by kernel_rfl
def LayP (w : World) (W s0 s1 : Nat) (now last : Int) (begun : Bool) (fA : Option Addr) (k : Nat) (cells : List Value) (to_ : Int) (x : Value) (w' : World) : Prop :=
 ∃ g fc', Bk w' W 72 (wrC s0 s1 now last begun (.slice (some ⟨g, 0, none⟩) (k + 1) fc')) ∧ Mr 86 2 w' 0 (some ⟨g, 0, none⟩) (k + 1) fc' (cells ++ [.int .i64 to_, x]) ∧ (blk fA = some g ∨ w.heap.size ≤ g) ∧ Chg (fun b => b = W ∨ blk fA = some b) w w'
set_option maxHeartbeats 4000000 in
set_option maxRecDepth 100000 in
theorem flay_any (W s0 s1 : Nat) (now last : Int) (begun : Bool) (fA : Option Addr) (k fc : Nat) (cells : List Value) (hk : k < 256) (to_ : Int) (A : Option Addr) (n c : Nat) (w : World) (hb : Bk w W 72 (wrC s0 s1 now last begun (.slice fA k fc))) (hm : Mr 86 2 w 0 fA k fc cells) (hne : blk fA ≠ some W) :
  Calls Tryz.prog 62 #[bp W, .agg #[.int .i64 to_, .slice A n c]] w fun e w' => e = .returned (.tuple #[]) ∧ LayP w W s0 s1 now last begun fA k cells to_ (.slice A n c) w' := by
 obtain ⟨W0, hW0⟩ : ∃ W0, w.alloc (.cells #[.int .i64 to_, .slice A n c] 86) = W0 := ⟨_, rfl⟩
 have hb0 : Below w.heap.size w W0 := by rw [← hW0]; exact (Below.refl _ _).alloc (Nat.le_refl _) _
 have hr0 : Bk W0 w.heap.size 86 #[.int .i64 to_, .slice A n c] := by rw [← hW0]; exact Bk.new _ _ _
 have hbW := hb.below hb0 hb.lt
 have hmW : Mr 86 2 W0 0 fA k fc cells := hm.stays hb0
 have x5 : W0.cell? ⟨W, 5, none⟩ = some (.slice fA k fc) := hbW.cell 5
 have x5a : ∀ o, (W0.alloc o).cell? ⟨W, 5, none⟩ = some (.slice fA k fc) := fun o => (hbW.alloc o).cell 5
 have r0 : W0.cell? ⟨w.heap.size, 0, none⟩ = some (.int .i64 to_) := hr0.cell 0
 have r1 : W0.cell? ⟨w.heap.size, 1, none⟩ = some (.slice A n c) := hr0.cell 1
 have hlt : (k : Int) < 256 := by omega
 have hbytes : (k + 1) * 32 ≤ 140737488355328 := by omega
 have hmx : k + 1 ≤ maxLen := by unfold maxLen; omega
 have hone : ∀ u ∈ [Value.int .i64 to_, .slice A n c], u.oneCell' = true := by
  intro u hu
  simp at hu
  rcases hu with rfl | rfl <;> rfl
 have HX := Lib.hid (And.intro hb0 (And.intro hbW (And.intro hmW (And.intro hne hb))))
 have HW0 := Lib.hid hW0
 clear hb hm hb0 hr0 hbW hW0 hk
 go_enter Tryz.func62, Tryz.ntmps62
 go_upto_region 1 with (fail)
 rw [HW0.out]
 go_wp2
 go_region_law (first
  | (refine st_mrd rfl (.tmp 14) (.tmp 16) 70 86 rfl (.agg #[.int .i64 0, .slice none 0 0]) 2 32 Tryz.underlying70 info_frm rfl (Nat.succ_pos 1) rfl hmW [.int .i64 to_, .slice A n c] rfl rfl rfl hone hbytes hmx ?_; intro g4 c4 w4 h2 h3 h4 h5; have hk4 := (HX.out.2.1).grown h3 (Ne.symm HX.out.2.2.2.1); have u5 : w4.cell? ⟨W, 5, none⟩ = some (.slice fA k fc) := hk4.cell 5; have fz5 := hk4.frozen 5))
 all_goals
  obtain ⟨hb0, hbW, hmW', hne, hb⟩ := HX.out
  have hg4 : g4 ≠ W := by
   rcases h4 with e | e
   ·intro e2; exact hne (by rw [e, e2])
   ·have := hbW.lt; omega
  have hl0 := hb0.size
  have hF : LayP w W s0 s1 now last begun fA k cells to_ (.slice A n c) (w4.setCell ⟨W, 5, none⟩ (.slice (some ⟨g4, 0, none⟩) (k + 1) c4)) :=
   ⟨g4, c4, hk4.set 5 _, h2.setCell (p := ⟨W, 5, none⟩) (by simp only [blk, Option.map_some]; intro e; injection e with e; exact hg4 e) _, h4.imp id (fun e => by omega), ((Chg.of_below (F := fun b => b = W ∨ blk fA = some b) hb0).trans (Chg.of_grown (F := fun b => b = W ∨ blk fA = some b) h3 (fun b e => .inr e)) (fun x e => .inl e)).setCell (p := ⟨W, 5, none⟩) (.inl (.inl rfl)) _⟩
  have HF := Lib.hid hF
  clear hF hb0 hbW hmW' hne hb hg4 hl0 h2 h3 h4 h5 hk4 u5 fz5 x5 x5a r0 r1
  go_wp2
  first
   | (go_end0; exact ⟨rfl, HF.out⟩)
   | exact bodyPost_ret (results_none rfl _ _ _) rfl ⟨rfl, HF.out⟩
theorem gather_frame (W s0 s1 : Nat) (now last : Int) (begun : Bool) (gA : Option Addr) (k gc : Nat) (cells : List Value) (hk : k < 256) (side : Int) (hsd : 0 ≤ side ∧ side ≤ 1) (gt gw : Nat) (fA : Option Addr) (fc : Nat) (A : Option Addr) (n c : Nat) (w : World) (hw : Bk w gw 33 #[bp W]) (hb : Bk w W 72 (wrC s0 s1 now last begun (.slice gA k gc))) (hm : Mr 86 2 w 0 gA k gc cells) (hne : blk gA ≠ some W) (hf : Of 37 w 0 fA 1 fc [.slice A n c]) :
  Calls Tryz.prog 61 #[.int .i64 side, nilS, .slice fA 1 fc, bp gt, bp gw] w fun e w' => e = .returned (.tuple #[]) ∧ LayP w W s0 s1 now last begun gA k cells (1 - side) (.slice A n c) w' := by
 obtain ⟨fb, fo, rfl, _, hfc⟩ := (Of.rw hf).at_ (k := 0) (u := .slice A n c) rfl
 have c0 : w.cell? ⟨fb, fo, none⟩ = some (.slice A n c) := by simpa using hfc
 have c1 : w.cell? ⟨gw, 0, none⟩ = some (bp W) := hw.cell 0
 have hwr : IntKind.i64.wrap (1 - side) = 1 - side := IntWalk.i64_in _ (by omega)
 have HL := Lib.hid (flay_any W s0 s1 now last begun gA k gc cells hk (1 - side) A n c w hb hm hne)
 clear hw hb hm hne hf hfc hk hsd
 go_enter Tryz.func61, Tryz.ntmps61
 go_wp2
 refine wp_loop_rounds 1 ?_; rw [rounds_succ]
 go_wp2
 refine wp_loop_rounds 2 ?_; rw [rounds_succ]
 go_wp2_with fail
 refine HL.out.mono ?_
 rintro e1 w1 ⟨rfl, hP⟩
 have HP := Lib.hid hP
 clear hP
 go_wp2_with fail
 rw [rounds_succ]
 go_wp2
 go_end0
 exact ⟨rfl, HP.out⟩
open Go.RowKit
def RowV (w : World) (B : Nat) (E : TypeId) (k : Nat) (x : Value) (xs : List Value) : Prop := ∃ g c, x = .slice (some ⟨g, 0, none⟩) 1 c ∧ B ≤ g ∧ Mr E k w 0 (some ⟨g, 0, none⟩) 1 c xs
theorem RowV.chg {w w' : World} {B : Nat} {E : TypeId} {k : Nat} {x : Value} {xs : List Value} {G : Nat → Prop} (h : RowV w B E k x xs) (hc : Chg G w w') (hG : ∀ b, B ≤ b → b < w.heap.size → ¬ G b) : RowV w' B E k x xs := by
 obtain ⟨g, c, h1, h2, h3⟩ := h
 exact ⟨g, c, h1, h2, h3.chg hc (fun b hb => by
  have := h3.lt b hb
  have e : g = b := by simpa [blk] using hb
  exact hG b (by omega) this.2)⟩
theorem RowV.lit (w : World) (B : Nat) (E : TypeId) (k : Nat) (xs : List Value) (hB : B ≤ w.heap.size) (hl : xs.length = k) : RowV (w.alloc (.cells xs.toArray E)) B E k (.slice (some ⟨w.heap.size, 0, none⟩) 1 1) xs :=
 ⟨w.heap.size, 1, rfl, hB, by omega, .inr ⟨w.heap.size, 1, xs.toArray, rfl, Nat.zero_le _, heap_alloc_new w _, Nat.le_refl _, by unfold maxLen; omega, by simp; omega, by rw [Nat.one_mul, ← hl]; simp⟩⟩
def gaC (T : Nat) (cs : Array Value) (side : Int) : Nat → Value
 | 4 => .pointer (some ⟨T, 0, none⟩)
 | 5 => .slice none 0 0
 | 6 => .agg cs
 | 11 => .pointer (some ⟨T, 1, none⟩)
 | 12 => .slice none 0 0
 | 13 => .int .i64 side
 | 20 => .pointer (some ⟨T, 1, none⟩)
 | _ => .pointer (some ⟨T, 0, none⟩)
def gaPlain (j : Nat) : Bool := !(j == 7 || j == 8 || j == 14 || j == 15 || j == 18 || j == 21)
def gaD (L : Nat → Bool) : Prop := (L 8 = true → L 7 = true ∧ L 5 = true) ∧ (L 15 = true → L 14 = true ∧ L 12 = true) ∧ (L 18 = true → L 8 = true) ∧ (L 21 = true → L 15 = true)
def gaR (T : Nat) (cs : Array Value) (side : Int) (w0 : World) (L : Nat → Bool) (v : Nat → Value) (w : World) : Prop :=
 (∀ j, L j = true → gaPlain j = true → v j = gaC T cs side j) ∧ Chg (fun b => b = T) w0 w ∧ gaD L ∧
 (L 7 = true → RowV w w0.heap.size 65 6 (v 7) cs.toList) ∧ (L 8 = true → RowV w w0.heap.size 65 6 (v 8) cs.toList) ∧
 (L 14 = true → RowV w w0.heap.size 3 1 (v 14) [.int .i64 side]) ∧ (L 15 = true → RowV w w0.heap.size 3 1 (v 15) [.int .i64 side]) ∧
 Bk w T 80 #[if L 18 = true then v 8 else nilS, if L 21 = true then v 15 else nilS]
section
variable {T : Nat} {cs : Array Value} {side : Int} {w0 : World} {L : Nat → Bool} {v : Nat → Value} {w : World}
theorem gaD_up {L : Nat → Bool} {x : Nat} (h : gaD L) (h8 : x = 8 → L 7 = true ∧ L 5 = true) (h15 : x = 15 → L 14 = true ∧ L 12 = true) (h18 : x = 18 → L 8 = true) (h21 : x = 21 → L 15 = true) : gaD (upd L x true) := by
 obtain ⟨e1, e2, e3, e4⟩ := h
 have up : ∀ j, L j = true → upd L x true j = true := fun j hj => by
  unfold upd; split
  ·rfl
  ·exact hj
 have dn : ∀ j, upd L x true j = true → x = j ∨ L j = true := fun j hj => by
  unfold upd at hj; split at hj
  ·next h => exact .inl h.symm
  ·exact .inr hj
 refine ⟨fun h => ?_, fun h => ?_, fun h => up _ ((dn _ h).elim h18 e3), fun h => up _ ((dn _ h).elim h21 e4)⟩
 ·have := (dn _ h).elim h8 e1; exact ⟨up _ this.1, up _ this.2⟩
 ·have := (dn _ h).elim h15 e2; exact ⟨up _ this.1, up _ this.2⟩
theorem gaR_step (h : gaR T cs side w0 L v w) {x : Nat} {u : Value} (hp : gaPlain x = true) (hu : u = gaC T cs side x) : gaR T cs side w0 (upd L x true) (upd v x u) w := by
 obtain ⟨h1, h2, hd, h7, h8, h14, h15, hb⟩ := h
 have n7 : 7 ≠ x := by rintro rfl; cases hp
 have n8 : 8 ≠ x := by rintro rfl; cases hp
 have n14 : 14 ≠ x := by rintro rfl; cases hp
 have n15 : 15 ≠ x := by rintro rfl; cases hp
 have n18 : 18 ≠ x := by rintro rfl; cases hp
 have n21 : 21 ≠ x := by rintro rfl; cases hp
 refine ⟨fun y hy hpy => ?_, h2, gaD_up hd (fun e => absurd e.symm n8) (fun e => absurd e.symm n15) (fun e => absurd e.symm n18) (fun e => absurd e.symm n21), ?_, ?_, ?_, ?_, ?_⟩
 ·by_cases e : y = x
  ·subst e; rw [upd_same]; exact hu
  ·rw [upd_ne _ _ e]; rw [upd_ne _ _ e] at hy; exact h1 y hy hpy
 ·rw [upd_ne _ _ n7, upd_ne _ _ n7]; exact h7
 ·rw [upd_ne _ _ n8, upd_ne _ _ n8]; exact h8
 ·rw [upd_ne _ _ n14, upd_ne _ _ n14]; exact h14
 ·rw [upd_ne _ _ n15, upd_ne _ _ n15]; exact h15
 ·rw [upd_ne _ _ n18, upd_ne _ _ n21, upd_ne _ _ n8, upd_ne _ _ n15]; exact hb
theorem gaR_plain (h : gaR T cs side w0 L v w) : ∀ j, L j = true → gaPlain j = true → v j = gaC T cs side j := h.1
theorem gaR_new (h : gaR T cs side w0 L v w) (hT : T < w0.heap.size) {x : Nat} {u : Value} {w' : World} (hx : x = 7 ∨ x = 8 ∨ x = 14 ∨ x = 15) (hL : L x = false) (hc : Chg (fun _ => False) w w') (h8 : x = 8 → L 7 = true ∧ L 5 = true) (h15 : x = 15 → L 14 = true ∧ L 12 = true)
  (hr : (x = 7 ∨ x = 8 → RowV w' w0.heap.size 65 6 u cs.toList) ∧ (x = 14 ∨ x = 15 → RowV w' w0.heap.size 3 1 u [.int .i64 side])) : gaR T cs side w0 (upd L x true) (upd v x u) w' := by
 obtain ⟨h1, h2, hd, q7, q8, q14, q15, hb⟩ := h
 have n18 : 18 ≠ x := by omega
 have n21 : 21 ≠ x := by omega
 have hw : w0.heap.size ≤ w.heap.size := h2.size
 have kp : ∀ {E : TypeId} {k : Nat} {y : Value} {xs : List Value}, RowV w w0.heap.size E k y xs → RowV w' w0.heap.size E k y xs := fun h => h.chg hc (fun _ _ _ e => e)
 have row : ∀ {j : Nat} {E : TypeId} {k : Nat} {xs : List Value}, (L j = true → RowV w w0.heap.size E k (v j) xs) → (x = j → RowV w' w0.heap.size E k u xs) → upd L x true j = true → RowV w' w0.heap.size E k (upd v x u j) xs := fun {j E k xs} a b c => by
  by_cases e : j = x
  ·subst e; rw [upd_same]; exact b rfl
  ·rw [upd_ne _ _ e]; rw [upd_ne _ _ e] at c; exact kp (a c)
 refine ⟨fun y hy hpy => ?_, h2.trans hc (fun _ e => e.elim), gaD_up hd h8 h15 (fun e => absurd e.symm n18) (fun e => absurd e.symm n21), row q7 (fun e => hr.1 (.inl e)), row q8 (fun e => hr.1 (.inr e)), row q14 (fun e => hr.2 (.inl e)), row q15 (fun e => hr.2 (.inr e)), ?_⟩
 ·have e : y ≠ x := by rintro rfl; rcases hx with rfl | rfl | rfl | rfl <;> cases hpy
  rw [upd_ne _ _ e]; rw [upd_ne _ _ e] at hy; exact h1 y hy hpy
 ·have hb' := hb.chg hc (fun e => e)
  rw [upd_ne _ _ n18, upd_ne _ _ n21]
  have e1 : (if L 18 = true then upd v x u 8 else nilS) = (if L 18 = true then v 8 else nilS) := by
   by_cases e : (8 : Nat) = x
   ·have : L 18 = false := by
     cases q : L 18 with
     | false => rfl
     | true => have := hd.2.2.1 q; rw [e, hL] at this; cases this
    simp [this]
   ·rw [upd_ne _ _ e]
  have e2 : (if L 21 = true then upd v x u 15 else nilS) = (if L 21 = true then v 15 else nilS) := by
   by_cases e : (15 : Nat) = x
   ·have : L 21 = false := by
     cases q : L 21 with
     | false => rfl
     | true => have := hd.2.2.2 q; rw [e, hL] at this; cases this
    simp [this]
   ·rw [upd_ne _ _ e]
  rw [e1, e2]; exact hb'
theorem gaR_cell0 (h : gaR T cs side w0 L v w) (hL : L 5 = false) : w.cell? ⟨T, 0, none⟩ = some (.slice none 0 0) := by
 have h18 : L 18 = false := by
  cases q : L 18 with
  | false => rfl
  | true => have := (h.2.2.1.1 (h.2.2.1.2.2.1 q)).2; rw [hL] at this; cases this
 have := h.2.2.2.2.2.2.2.cell 0
 rw [this, h18]; rfl
theorem gaR_cell1 (h : gaR T cs side w0 L v w) (hL : L 12 = false) : w.cell? ⟨T, 1, none⟩ = some (.slice none 0 0) := by
 have h21 : L 21 = false := by
  cases q : L 21 with
  | false => rfl
  | true => have := (h.2.2.1.2.1 (h.2.2.1.2.2.2 q)).2; rw [hL] at this; cases this
 have := h.2.2.2.2.2.2.2.cell 1
 rw [this, h21]; rfl
end
theorem RowV.mono {w : World} {B B' : Nat} {E : TypeId} {k : Nat} {x : Value} {xs : List Value} (h : RowV w B E k x xs) (hB : B' ≤ B) : RowV w B' E k x xs := by
 obtain ⟨g, c, h1, h2, h3⟩ := h
 exact ⟨g, c, h1, by omega, h3⟩
def GaP (W s0 s1 : Nat) (now last : Int) (begun : Bool) (gA : Option Addr) (k gc : Nat) (cells : List Value) (side : Int) (T : Nat) (r : List Value) (vs : List Value) (w w' : World) : Prop :=
 ∃ y z, Bk w' T 80 #[y, z] ∧ RowV w' w.heap.size 65 6 y r ∧ RowV w' w.heap.size 3 1 z [.int .i64 side] ∧
   (match vs with | [v] => ∃ wm, Chg (fun b => b = T) w wm ∧ LayP wm W s0 s1 now last begun gA k cells (1 - side) v w' | _ => Bk w' W 72 (wrC s0 s1 now last begun (.slice gA k gc)) ∧ Mr 86 2 w' 0 gA k gc cells) ∧ Chg (fun b => b = T ∨ b = W ∨ blk gA = some b) w w'
theorem mr_apart {E T : TypeId} {k : Nat} {w : World} {base : Nat} {A : Option Addr} {n c b : Nat} {xs : List Value} {cs : Array Value} (h : Mr E k w base A n c xs) (hb : Bk w b T cs) (hE : E ≠ T) : blk A ≠ some b := by
 intro e
 rcases h.2 with ⟨h1, _⟩ | ⟨g, c', cs', h1, _, h2, _⟩
 ·injection h1 with h1; subst h1; cases e
 ·injection h1 with h1; subst h1
  have e : g = b := by simpa [blk] using e
  subst e
  have : w.heap[g]? = some (.cells cs T (0, 0)) := hb
  rw [h2] at this
  injection this with this; injection this with _ this; exact hE this
set_option maxHeartbeats 8000000 in
set_option maxRecDepth 100000 in
theorem gather_one (W s0 s1 : Nat) (now last : Int) (begun : Bool) (gA : Option Addr) (k gc : Nat) (cells : List Value) (hk : k < 256) (side : Int) (hsd : 0 ≤ side ∧ side ≤ 1) (T gt gw : Nat) (rA : Option Addr) (rc : Nat) (n a p : Int) (dA : Option Addr) (dn dc : Nat) (w : World)
  (hgt : Bk w gt 84 #[bp T]) (hw : Bk w gw 33 #[bp W]) (hT : Bk w T 80 #[nilS, nilS]) (hb : Bk w W 72 (wrC s0 s1 now last begun (.slice gA k gc))) (hm : Mr 86 2 w 0 gA k gc cells) (hne : blk gA ≠ some W)
  (hr : Mr 65 6 w 0 rA 1 rc (retC 0 n a p (.slice dA dn dc)).toList) (fA : Option Addr) (fc m : Nat) (vs : List Value) (hmv : vs.length = m) (hm1 : m ≤ 1) (hf : Of 37 w 0 fA m fc vs) (hfT : blk fA ≠ some T) (hvs : ∀ v ∈ vs, ∃ A n c, v = .slice A n c) :
  Calls Tryz.prog 61 #[.int .i64 side, .slice rA 1 rc, .slice fA m fc, bp gt, bp gw] w fun e w' => e = .returned (.tuple #[]) ∧ GaP W s0 s1 now last begun gA k gc cells side T (retC 0 n a p (.slice dA dn dc)).toList vs w w' := by
 obtain ⟨rb, hrb⟩ : ∃ b, w.heap.size = b := ⟨_, rfl⟩
 obtain ⟨W0, hW0⟩ : ∃ W0, w.alloc (.cells (retC 0 n a p (.slice dA dn dc)) 65) = W0 := ⟨_, rfl⟩
 have hb0 : Below w.heap.size w W0 := by rw [← hW0]; exact (Below.refl _ _).alloc (Nat.le_refl _) _
 have hr0 : Bk W0 rb 65 (retC 0 n a p (.slice dA dn dc)) := by rw [← hW0, ← hrb]; exact Bk.new _ _ _
 have hT0 := hT.below hb0 hT.lt
 have hgt0 := hgt.below hb0 hgt.lt
 have hgw0 := hw.below hb0 hw.lt
 have hbW0 := hb.below hb0 hb.lt
 have hmW0 : Mr 86 2 W0 0 gA k gc cells := hm.stays hb0
 have hfW0 := hf.of_block fun g hg => hb0.block g (hf.lt g hg).2
 have t1 : T ≠ gt := fun e => Bk.ne_ hT hgt (by decide) e
 have t2 : T ≠ gw := fun e => Bk.ne_ hT hw (by decide) e
 have t3 : T ≠ W := fun e => Bk.ne_ hT hb (by decide) e
 have t4 : blk gA ≠ some T := mr_apart hm hT (by decide)
 have t5 : T ≠ rb := by have := hT.lt; omega
 obtain ⟨rg, rfl⟩ : ∃ g, rA = some ⟨g, 0, none⟩ := by
  obtain ⟨g, h1, _⟩ := hr.cell (j := 0) rfl
  exact ⟨g, h1⟩
 have q0 : w.cell? ⟨rg, 0, none⟩ = some (.int .i64 0) := (by obtain ⟨g, h1, _, _, h4, _⟩ := hr.cell (j := 0) rfl; injection h1 with h1; injection h1 with h1; rw [h1]; exact h4)
 have q1 : w.cell? ⟨rg, 1, none⟩ = some (.int .i64 0) := (by obtain ⟨g, h1, _, _, h4, _⟩ := hr.cell (j := 1) rfl; injection h1 with h1; injection h1 with h1; rw [h1]; exact h4)
 have q2 : w.cell? ⟨rg, 2, none⟩ = some (.int .i64 n) := (by obtain ⟨g, h1, _, _, h4, _⟩ := hr.cell (j := 2) rfl; injection h1 with h1; injection h1 with h1; rw [h1]; exact h4)
 have q3 : w.cell? ⟨rg, 3, none⟩ = some (.int .u32 a) := (by obtain ⟨g, h1, _, _, h4, _⟩ := hr.cell (j := 3) rfl; injection h1 with h1; injection h1 with h1; rw [h1]; exact h4)
 have q4 : w.cell? ⟨rg, 4, none⟩ = some (.int .i64 p) := (by obtain ⟨g, h1, _, _, h4, _⟩ := hr.cell (j := 4) rfl; injection h1 with h1; injection h1 with h1; rw [h1]; exact h4)
 have q5 : w.cell? ⟨rg, 5, none⟩ = some (.slice dA dn dc) := (by obtain ⟨g, h1, _, _, h4, _⟩ := hr.cell (j := 5) rfl; injection h1 with h1; injection h1 with h1; rw [h1]; exact h4)
 have HKG : Hid (∀ w3, Chg (fun b => b = T) W0 w3 → w3.cell? ⟨gt, 0, none⟩ = some (bp T)) := Lib.hid fun w3 hc => (hgt0.chg hc (Ne.symm t1)).cell 0
 have HKR : Hid (∀ w3, Chg (fun b => b = T) W0 w3 → w3.cell? ⟨rb, 0, none⟩ = some (.int .i64 0) ∧ w3.cell? ⟨rb, 1, none⟩ = some (.int .i64 0) ∧ w3.cell? ⟨rb, 2, none⟩ = some (.int .i64 n) ∧ w3.cell? ⟨rb, 3, none⟩ = some (.int .u32 a) ∧ w3.cell? ⟨rb, 4, none⟩ = some (.int .i64 p) ∧ w3.cell? ⟨rb, 5, none⟩ = some (.slice dA dn dc)) :=
  Lib.hid fun w3 hc => have h := hr0.chg hc (Ne.symm t5); ⟨h.cell 0, h.cell 1, h.cell 2, h.cell 3, h.cell 4, h.cell 5⟩
 have HT : Hid (T < W0.heap.size) := Lib.hid hT0.lt
 have HT0 := Lib.hid hT0
 have HX := Lib.hid (And.intro hb0 (And.intro hgw0 (And.intro hbW0 (And.intro hmW0 (And.intro hfW0 (And.intro t2 (And.intro t3 (And.intro t4 (And.intro hne (And.intro hk (And.intro hsd (And.intro hfT hvs))))))))))))
 have HW0 : Hid (w.alloc (.cells #[.int .i64 0, .int .i64 0, .int .i64 n, .int .u32 a, .int .i64 p, .slice dA dn dc] 65) = W0) := Lib.hid hW0
 have HRB := Lib.hid hrb
 have HMV := Lib.hid hmv
 have HM1 := Lib.hid hm1
 clear hgt hw hT hb hm hr hf hb0 hr0 hT0 hgt0 hgw0 hbW0 hmW0 hfW0 t1 t2 t3 t4 t5 hne hk hsd hvs hW0 hfT hrb hmv hm1
 go_enter Tryz.func61, Tryz.ntmps61
 go_wp2
 refine wp_loop_rounds 2 ?_; rw [rounds_succ]
 go_upto_region 3 with (fail)
 rw [HW0.out, HRB.out]
 clear q0 q1 q2 q3 q4 q5
 refine wp_region_inv [some 18, some 19, some 20, some 21, some 22, some 23, some 24, some 25, some 26, some 27, some 28, some 29, some 30, some 31, some 32, some 33, some 34, some 35, none, some 36, some 37, none] (gaR T (retC 0 n a p (.slice dA dn dc)) side W0) (by kernel_rfl) rfl (by kernel_rfl) (by kernel_rfl) (by kernel_rfl) (by kernel_rfl) ?_ ?_ ?_
 ·exact ⟨(fun _ h => by cases h), (Chg.refl _ W0).drew_, ⟨(fun h => by cases h), (fun h => by cases h), (fun h => by cases h), (fun h => by cases h)⟩, (fun h => by cases h), (fun h => by cases h), (fun h => by cases h), (fun h => by cases h), HT0.out.drewN 1⟩
 ·refine ⟨?_, ?_, ?_, ?_, ?_, ?_, ?_, ?_, ?_, ?_, ?_, ?_, ?_, ?_, ?_, ?_, ?_, ?_, ?_, ?_, ?_, ?_, trivial⟩
  ·intro L v w3 f hL hdep hF hR K hK
   have hcq : w3.cell? ⟨gt, 0, none⟩ = some (bp T) := HKG.out w3 hR.2.1
   have e0 : f.eval (.tmp 3) = bp gt := (hF.1 3 (by decide)).trans rfl
   have g0 : f.tmps[3]?.getD undef = bp gt := by have := e0; simpa [Act.eval] using this
   clear e0 hdep
   unfold Oper.wp
   go_simp
   exact hK _ _ (gaR_step hR rfl rfl)
  ·intro L v w3 f hL hdep hF hR K hK
   have hcq : w3.cell? ⟨gt, 0, none⟩ = some (bp T) := HKG.out w3 hR.2.1
   have e0 : f.eval (.tmp 3) = bp gt := (hF.1 3 (by decide)).trans rfl
   have g0 : f.tmps[3]?.getD undef = bp gt := by have := e0; simpa [Act.eval] using this
   clear e0 hdep
   unfold Oper.wp
   go_simp
   exact hK _ _ (gaR_step hR rfl rfl)
  ·intro L v w3 f hL hdep hF hR K hK
   have hcq : w3.cell? ⟨gt, 0, none⟩ = some (bp T) := HKG.out w3 hR.2.1
   have e0 : f.eval (.tmp 3) = bp gt := (hF.1 3 (by decide)).trans rfl
   have g0 : f.tmps[3]?.getD undef = bp gt := by have := e0; simpa [Act.eval] using this
   clear e0 hdep
   unfold Oper.wp
   go_simp
   exact hK _ _ (gaR_step hR rfl rfl)
  ·intro L v w3 f hL hdep hF hR K hK
   have d2 : L 2 = true := hdep { on := 2, ground := .data } (by simp) rfl
   have e2 : f.eval (.tmp 20) = .pointer (some ⟨T, 0, none⟩) := ((hF.2 2 20 rfl d2).trans (gaR_plain hR 2 d2 rfl)).trans rfl
   have g2 : f.tmps[20]?.getD undef = .pointer (some ⟨T, 0, none⟩) := by have := e2; simpa [Act.eval] using this
   clear e2
   clear hdep
   unfold Oper.wp
   go_simp
   exact hK _ _ (gaR_step hR rfl rfl)
  ·intro L v w3 f hL hdep hF hR K hK
   have d3 : L 3 = true := hdep { on := 3, ground := .data } (by simp) rfl
   have e3 : f.eval (.tmp 21) = .pointer (some ⟨T, 0, none⟩) := ((hF.2 3 21 rfl d3).trans (gaR_plain hR 3 d3 rfl)).trans rfl
   have g3 : f.tmps[21]?.getD undef = .pointer (some ⟨T, 0, none⟩) := by have := e3; simpa [Act.eval] using this
   clear e3
   clear hdep
   unfold Oper.wp
   go_simp
   exact hK _ _ (gaR_step hR rfl rfl)
  ·intro L v w3 f hL hdep hF hR K hK
   have d4 : L 4 = true := hdep { on := 4, ground := .data } (by simp) rfl
   have e4 : f.eval (.tmp 22) = .pointer (some ⟨T, 0, none⟩) := ((hF.2 4 22 rfl d4).trans (gaR_plain hR 4 d4 rfl)).trans rfl
   have g4 : f.tmps[22]?.getD undef = .pointer (some ⟨T, 0, none⟩) := by have := e4; simpa [Act.eval] using this
   clear e4
   have hcq := gaR_cell0 hR hL
   clear hdep
   unfold Oper.wp
   go_simp
   exact hK _ _ (gaR_step hR rfl rfl)
  ·intro L v w3 f hL hdep hF hR K hK
   obtain ⟨c0, c1, c2, c3, c4, c5⟩ := HKR.out w3 hR.2.1
   have e0 : f.eval (.tmp 9) = bp rb := (hF.1 9 (by decide)).trans rfl
   have g0 : f.tmps[9]?.getD undef = bp rb := by have := e0; simpa [Act.eval] using this
   clear e0 hdep
   unfold Oper.wp
   go_simp
   exact hK _ _ (gaR_step hR rfl rfl)
  ·intro L v w3 f hL hdep hF hR K hK
   have d6 : L 6 = true := hdep { on := 6, ground := .data } (by simp) rfl
   have e6 : f.eval (.tmp 24) = .agg (retC 0 n a p (.slice dA dn dc)) := ((hF.2 6 24 rfl d6).trans (gaR_plain hR 6 d6 rfl)).trans rfl
   have g6 : f.tmps[24]?.getD undef = .agg (retC 0 n a p (.slice dA dn dc)) := by have := e6; simpa [Act.eval] using this
   clear e6
   unfold retC at g6
   clear hdep
   have hsz := hR.2.1.size
   unfold Oper.wp
   go_simp
   exact hK _ _ (gaR_new hR HT.out (.inl rfl) hL (Chg.of_below ((Below.refl _ _).alloc (Nat.le_refl _) _)) (fun h => by cases h) (fun h => by cases h) ⟨fun _ => RowV.lit w3 _ _ 6 (retC 0 n a p (.slice dA dn dc)).toList hsz rfl, fun h => by rcases h with h | h <;> cases h⟩)
  ·intro L v w3 f hL hdep hF hR K hK
   have d5 : L 5 = true := hdep { on := 5, ground := .data } (by simp) rfl
   have e5 : f.eval (.tmp 23) = .slice none 0 0 := ((hF.2 5 23 rfl d5).trans (gaR_plain hR 5 d5 rfl)).trans rfl
   have d7 : L 7 = true := hdep { on := 7, ground := .data } (by simp) rfl
   have em : f.eval (.tmp 25) = v 7 := hF.2 7 25 rfl d7
   obtain ⟨g, c, hv, hg, hm⟩ := hR.2.2.2.1 d7
   rw [hv] at em
   obtain ⟨g', c', w', hr, r1, r2, r3⟩ := run_append_mr (P := Tryz.prog) w3 0 42 42 65 (.agg #[.int .i64 0, .int .i64 0, .int .i64 0, .int .u32 0, .int .i64 0, .slice none 0 0]) 6 64 Tryz.underlying42 info_ret rfl (by omega) none 0 0 [] (Mr.none_ _ _ _ _) ⟨g, 0, none⟩ 1 c (retC 0 n a p (.slice dA dn dc)).toList rfl (fun j u hu => by rw [add_eq, Nat.zero_add]; obtain ⟨g2, h1, _, _, h4, _⟩ := hm.cell hu; injection h1 with h1; injection h1 with h1; rw [h1]; exact h4) (retC_one 0 n a p dA dn dc) (by omega) (by unfold maxLen; omega) (by omega) (Nat.zero_le _)
   have hsz := hR.2.1.size
   have hg' : w3.heap.size = g' := by rcases r3 with e | e; cases e; exact e.symm
   rw [Nat.zero_add, List.nil_append] at r1
   unfold Oper.wp execOp
   simp only [resolve, invoke, builtin, Sem.run_bind, Sem.run_pure, Result.andThen_ok, List.map_toArray, List.map_cons, List.map_nil, e5, em, hr]
   exact hK _ _ (gaR_new hR HT.out (.inr (.inl rfl)) hL (Chg.of_grown r2 (fun b e => by cases e)) (fun _ => ⟨d7, d5⟩) (fun h => by cases h) ⟨fun _ => ⟨g', c', rfl, by omega, r1⟩, fun h => by rcases h with h | h <;> cases h⟩)
  ·intro L v w3 f hL hdep hF hR K hK
   have hcq : w3.cell? ⟨gt, 0, none⟩ = some (bp T) := HKG.out w3 hR.2.1
   have e0 : f.eval (.tmp 3) = bp gt := (hF.1 3 (by decide)).trans rfl
   have g0 : f.tmps[3]?.getD undef = bp gt := by have := e0; simpa [Act.eval] using this
   clear e0 hdep
   unfold Oper.wp
   go_simp
   exact hK _ _ (gaR_step hR rfl rfl)
  ·intro L v w3 f hL hdep hF hR K hK
   have d9 : L 9 = true := hdep { on := 9, ground := .data } (by simp) rfl
   have e9 : f.eval (.tmp 27) = .pointer (some ⟨T, 0, none⟩) := ((hF.2 9 27 rfl d9).trans (gaR_plain hR 9 d9 rfl)).trans rfl
   have g9 : f.tmps[27]?.getD undef = .pointer (some ⟨T, 0, none⟩) := by have := e9; simpa [Act.eval] using this
   clear e9
   clear hdep
   unfold Oper.wp
   go_simp
   exact hK _ _ (gaR_step hR rfl rfl)
  ·intro L v w3 f hL hdep hF hR K hK
   have d10 : L 10 = true := hdep { on := 10, ground := .data } (by simp) rfl
   have e10 : f.eval (.tmp 28) = .pointer (some ⟨T, 0, none⟩) := ((hF.2 10 28 rfl d10).trans (gaR_plain hR 10 d10 rfl)).trans rfl
   have g10 : f.tmps[28]?.getD undef = .pointer (some ⟨T, 0, none⟩) := by have := e10; simpa [Act.eval] using this
   clear e10
   clear hdep
   unfold Oper.wp
   go_simp
   exact hK _ _ (gaR_step hR rfl rfl)
  ·intro L v w3 f hL hdep hF hR K hK
   have d11 : L 11 = true := hdep { on := 11, ground := .data } (by simp) rfl
   have e11 : f.eval (.tmp 29) = .pointer (some ⟨T, 1, none⟩) := ((hF.2 11 29 rfl d11).trans (gaR_plain hR 11 d11 rfl)).trans rfl
   have g11 : f.tmps[29]?.getD undef = .pointer (some ⟨T, 1, none⟩) := by have := e11; simpa [Act.eval] using this
   clear e11
   have hcq := gaR_cell1 hR hL
   clear hdep
   unfold Oper.wp
   go_simp
   exact hK _ _ (gaR_step hR rfl rfl)
  ·intro L v w3 f hL hdep hF hR K hK
   have e0 : f.eval (.tmp 0) = .int .i64 side := (hF.1 0 (by decide)).trans rfl
   unfold Oper.wp
   simp only [execOp, e0]
   exact hK _ _ (gaR_step hR rfl rfl)
  ·intro L v w3 f hL hdep hF hR K hK
   have d13 : L 13 = true := hdep { on := 13, ground := .data } (by simp) rfl
   have e13 : f.eval (.tmp 31) = .int .i64 side := ((hF.2 13 31 rfl d13).trans (gaR_plain hR 13 d13 rfl)).trans rfl
   have g13 : f.tmps[31]?.getD undef = .int .i64 side := by have := e13; simpa [Act.eval] using this
   clear e13
   clear hdep
   have hsz := hR.2.1.size
   unfold Oper.wp
   go_simp
   exact hK _ _ (gaR_new hR HT.out (.inr (.inr (.inl rfl))) hL (Chg.of_below ((Below.refl _ _).alloc (Nat.le_refl _) _)) (fun h => by cases h) (fun h => by cases h) ⟨fun h => (by rcases h with h | h <;> cases h), fun _ => RowV.lit w3 _ _ 1 [.int .i64 side] hsz rfl⟩)
  ·intro L v w3 f hL hdep hF hR K hK
   have d12 : L 12 = true := hdep { on := 12, ground := .data } (by simp) rfl
   have e12 : f.eval (.tmp 30) = .slice none 0 0 := ((hF.2 12 30 rfl d12).trans (gaR_plain hR 12 d12 rfl)).trans rfl
   have d14 : L 14 = true := hdep { on := 14, ground := .data } (by simp) rfl
   have em : f.eval (.tmp 32) = v 14 := hF.2 14 32 rfl d14
   obtain ⟨g, c, hv, hg, hm⟩ := hR.2.2.2.2.2.1 d14
   rw [hv] at em
   obtain ⟨g', c', w', hr, r1, r2, r3⟩ := run_append_mr (P := Tryz.prog) w3 0 43 43 3 (.int .i64 0) 1 8 Tryz.underlying43 info_int rfl (by omega) none 0 0 [] (Mr.none_ _ _ _ _) ⟨g, 0, none⟩ 1 c [.int .i64 side] rfl (fun j u hu => by rw [add_eq, Nat.zero_add]; obtain ⟨g2, h1, _, _, h4, _⟩ := hm.cell hu; injection h1 with h1; injection h1 with h1; rw [h1]; exact h4) (fun u hu => by rw [List.mem_singleton.1 hu]; rfl) (by omega) (by unfold maxLen; omega) (by omega) (Nat.zero_le _)
   have hsz := hR.2.1.size
   have hg' : w3.heap.size = g' := by rcases r3 with e | e; cases e; exact e.symm
   rw [Nat.zero_add, List.nil_append] at r1
   unfold Oper.wp execOp
   simp only [resolve, invoke, builtin, Sem.run_bind, Sem.run_pure, Result.andThen_ok, List.map_toArray, List.map_cons, List.map_nil, e12, em, hr]
   exact hK _ _ (gaR_new hR HT.out (.inr (.inr (.inr rfl))) hL (Chg.of_grown r2 (fun b e => by cases e)) (fun h => by cases h) (fun _ => ⟨d14, d12⟩) ⟨fun h => (by rcases h with h | h <;> cases h), fun _ => ⟨g', c', rfl, by omega, r1⟩⟩)
  ·intro L v w3 f hL hdep hF hR K hK
   have d0 : L 0 = true := hdep { on := 0, ground := .data } (by simp) rfl
   have e0 : f.eval (.tmp 18) = .pointer (some ⟨T, 0, none⟩) := ((hF.2 0 18 rfl d0).trans (gaR_plain hR 0 d0 rfl)).trans rfl
   have g0 : f.tmps[18]?.getD undef = .pointer (some ⟨T, 0, none⟩) := by have := e0; simpa [Act.eval] using this
   clear e0
   clear hdep
   unfold Oper.wp
   go_simp
   exact hK _ _ (gaR_step hR rfl rfl)
  ·intro L v w3 f hL hdep hF hR K hK
   have d16 : L 16 = true := hdep { on := 16, ground := .data } (by simp) rfl
   have e16 : f.eval (.tmp 34) = .pointer (some ⟨T, 0, none⟩) := ((hF.2 16 34 rfl d16).trans (gaR_plain hR 16 d16 rfl)).trans rfl
   have g16 : f.tmps[34]?.getD undef = .pointer (some ⟨T, 0, none⟩) := by have := e16; simpa [Act.eval] using this
   clear e16
   clear hdep
   unfold Oper.wp
   go_simp
   exact hK _ _ (gaR_step hR rfl rfl)
  ·intro L v w3 f hL hdep hF hR K hK
   have d17 : L 17 = true := hdep { on := 17, ground := .data } (by simp) rfl
   have e17 : f.eval (.tmp 35) = .pointer (some ⟨T, 0, none⟩) := ((hF.2 17 35 rfl d17).trans (gaR_plain hR 17 d17 rfl)).trans rfl
   have g17 : f.tmps[35]?.getD undef = .pointer (some ⟨T, 0, none⟩) := by have := e17; simpa [Act.eval] using this
   clear e17
   have d8 : L 8 = true := hdep { on := 8, ground := .data } (by simp) rfl
   have em : f.eval (.tmp 26) = v 8 := hF.2 8 26 rfl d8
   have gm : f.tmps[26]?.getD undef = v 8 := by have := em; simpa [Act.eval] using this
   clear em hdep
   obtain ⟨q1, q2, q3, q7, q8, q14, q15, qb⟩ := hR
   obtain ⟨g, c, hv, hg, hm⟩ := q8 d8
   rw [hv] at gm
   have hfz := qb.frozen 0
   obtain ⟨uo, huo⟩ : ∃ uo, w3.cell? ⟨T, 0, none⟩ = some uo := ⟨_, qb.cell 0⟩
   have hcs : Chg (fun b => b = T) w3 (w3.setCell ⟨T, 0, none⟩ (.slice (some ⟨g, 0, none⟩) 1 c)) := (Chg.refl _ w3).set1 _
   have hTl := HT.out
   have kp : ∀ {E : TypeId} {k : Nat} {y : Value} {xs : List Value}, RowV w3 W0.heap.size E k y xs → RowV (w3.setCell ⟨T, 0, none⟩ (.slice (some ⟨g, 0, none⟩) 1 c)) W0.heap.size E k y xs := fun h => h.chg hcs (fun b hb _ e => by omega)
   have qb2 := qb.set 0 (.slice (some ⟨g, 0, none⟩) 1 c)
   unfold Oper.wp
   go_simp
   refine hK undef _ ⟨fun y hy hpy => ?_, q2.trans hcs (fun _ e => .inl e), gaD_up q3 (fun h => by cases h) (fun h => by cases h) (fun h => d8) (fun h => (by cases h)), ?_, ?_, ?_, ?_, ?_⟩
   ·have ny : y ≠ 18 := by rintro rfl; cases hpy
    rw [upd_ne _ _ ny]; rw [upd_ne _ _ ny] at hy; exact q1 y hy hpy
   ·exact fun h => kp (q7 h)
   ·exact fun h => kp (q8 h)
   ·exact fun h => kp (q14 h)
   ·exact fun h => kp (q15 h)
   ·have e1 : upd L 18 true 18 = true := upd_same _ _ _
    have e2 : upd L 18 true 21 = L 21 := upd_ne _ _ (by decide)
    have e3 : upd v 18 undef 8 = v 8 := upd_ne _ _ (by decide)
    have e4 : upd v 18 undef 15 = v 15 := upd_ne _ _ (by decide)
    rw [e1, e2, e3, e4, if_pos rfl, hv]
    exact qb2
  ·intro L v w3 f hL hdep hF hR K hK
   have d1 : L 1 = true := hdep { on := 1, ground := .data } (by simp) rfl
   have e1 : f.eval (.tmp 19) = .pointer (some ⟨T, 0, none⟩) := ((hF.2 1 19 rfl d1).trans (gaR_plain hR 1 d1 rfl)).trans rfl
   have g1 : f.tmps[19]?.getD undef = .pointer (some ⟨T, 0, none⟩) := by have := e1; simpa [Act.eval] using this
   clear e1
   clear hdep
   unfold Oper.wp
   go_simp
   exact hK _ _ (gaR_step hR rfl rfl)
  ·intro L v w3 f hL hdep hF hR K hK
   have d19 : L 19 = true := hdep { on := 19, ground := .data } (by simp) rfl
   have e19 : f.eval (.tmp 36) = .pointer (some ⟨T, 0, none⟩) := ((hF.2 19 36 rfl d19).trans (gaR_plain hR 19 d19 rfl)).trans rfl
   have g19 : f.tmps[36]?.getD undef = .pointer (some ⟨T, 0, none⟩) := by have := e19; simpa [Act.eval] using this
   clear e19
   clear hdep
   unfold Oper.wp
   go_simp
   exact hK _ _ (gaR_step hR rfl rfl)
  ·intro L v w3 f hL hdep hF hR K hK
   have d20 : L 20 = true := hdep { on := 20, ground := .data } (by simp) rfl
   have e20 : f.eval (.tmp 37) = .pointer (some ⟨T, 1, none⟩) := ((hF.2 20 37 rfl d20).trans (gaR_plain hR 20 d20 rfl)).trans rfl
   have g20 : f.tmps[37]?.getD undef = .pointer (some ⟨T, 1, none⟩) := by have := e20; simpa [Act.eval] using this
   clear e20
   have d15 : L 15 = true := hdep { on := 15, ground := .data } (by simp) rfl
   have em : f.eval (.tmp 33) = v 15 := hF.2 15 33 rfl d15
   have gm : f.tmps[33]?.getD undef = v 15 := by have := em; simpa [Act.eval] using this
   clear em hdep
   obtain ⟨q1, q2, q3, q7, q8, q14, q15, qb⟩ := hR
   obtain ⟨g, c, hv, hg, hm⟩ := q15 d15
   rw [hv] at gm
   have hfz := qb.frozen 1
   obtain ⟨uo, huo⟩ : ∃ uo, w3.cell? ⟨T, 1, none⟩ = some uo := ⟨_, qb.cell 1⟩
   have hcs : Chg (fun b => b = T) w3 (w3.setCell ⟨T, 1, none⟩ (.slice (some ⟨g, 0, none⟩) 1 c)) := (Chg.refl _ w3).set1 _
   have hTl := HT.out
   have kp : ∀ {E : TypeId} {k : Nat} {y : Value} {xs : List Value}, RowV w3 W0.heap.size E k y xs → RowV (w3.setCell ⟨T, 1, none⟩ (.slice (some ⟨g, 0, none⟩) 1 c)) W0.heap.size E k y xs := fun h => h.chg hcs (fun b hb _ e => by omega)
   have qb2 := qb.set 1 (.slice (some ⟨g, 0, none⟩) 1 c)
   unfold Oper.wp
   go_simp
   refine hK undef _ ⟨fun y hy hpy => ?_, q2.trans hcs (fun _ e => .inl e), gaD_up q3 (fun h => by cases h) (fun h => by cases h) (fun h => (by cases h)) (fun h => d15), ?_, ?_, ?_, ?_, ?_⟩
   ·have ny : y ≠ 21 := by rintro rfl; cases hpy
    rw [upd_ne _ _ ny]; rw [upd_ne _ _ ny] at hy; exact q1 y hy hpy
   ·exact fun h => kp (q7 h)
   ·exact fun h => kp (q8 h)
   ·exact fun h => kp (q14 h)
   ·exact fun h => kp (q15 h)
   ·have e1 : upd L 21 true 21 = true := upd_same _ _ _
    have e2 : upd L 21 true 18 = L 18 := upd_ne _ _ (by decide)
    have e3 : upd v 21 undef 8 = v 8 := upd_ne _ _ (by decide)
    have e4 : upd v 21 undef 15 = v 15 := upd_ne _ _ (by decide)
    rw [e1, e2, e3, e4, if_pos rfl, hv]
    exact qb2
 ·intro v w3 L hL hR
  obtain ⟨_, hC3, _, _, r8, _, r15, hb3⟩ := hR
  have l8 := hL 8 (by decide)
  have l15 := hL 15 (by decide)
  rw [hL 18 (by decide), hL 21 (by decide), if_pos rfl, if_pos rfl] at hb3
  have h8 := r8 l8
  have h15 := r15 l15
  generalize hv8 : v 8 = y at h8 hb3
  generalize hv15 : v 15 = z at h15 hb3
  obtain ⟨hb0, hgw0, hbW0, hmW0, hfW0, t2, t3, t4, hne, hk, hsd, hfT, hvs⟩ := HX.out
  have hgw3 := hgw0.chg hC3 (Ne.symm t2)
  have hbW3 := hbW0.chg hC3 (Ne.symm t3)
  have hmW3 := hmW0.chg hC3 (fun b e1 e2 => t4 (by rw [e1, e2]))
  have hf3 := hfW0.of_block fun g hg => hC3.block g (hfW0.lt g hg).2 (fun e => hfT (by rw [hg, e]))
  have hCw : Chg (fun b => b = T) w w3 := (Chg.of_below (F := fun b => b = T) hb0).trans hC3 (fun _ e => .inl e)
  have hl0 := hb0.size
  have hl3 := hC3.size
  have hTl := HT.out
  have hWl := hbW0.lt
  have c1 : w3.cell? ⟨gw, 0, none⟩ = some (bp W) := hgw3.cell 0
  have hFin : Hid (vs = [] → GaP W s0 s1 now last begun gA k gc cells side T (retC 0 n a p (.slice dA dn dc)).toList vs w w3) := Lib.hid (fun e => by
   subst e
   exact ⟨y, z, hb3, h8.mono hl0, h15.mono hl0, ⟨hbW3, hmW3⟩, hCw.mono (fun _ _ e => .inl e)⟩)
  have hFin1 : Hid (∀ A n' c w4, vs = [.slice A n' c] → LayP w3 W s0 s1 now last begun gA k cells (1 - side) (.slice A n' c) w4 → GaP W s0 s1 now last begun gA k gc cells side T (retC 0 n a p (.slice dA dn dc)).toList vs w w4) := Lib.hid (fun A n' c w4 e hP => by
   subst e
   have hP' := hP
   obtain ⟨g, fc', _, _, _, hC4⟩ := hP
   have hga : ∀ b, blk gA = some b → b < W0.heap.size := fun b e => (hmW0.lt b e).2
   have hk4 : ∀ b, W0.heap.size ≤ b → b < w3.heap.size → ¬ (b = W ∨ blk gA = some b) := fun b hb hb2 e => by
    rcases e with e | e
    ·omega
    ·have := hga b e; omega
   exact ⟨y, z, hb3.chg hC4 (fun e => e.elim (fun e => t3 e) (fun e => t4 e)), (h8.chg hC4 hk4).mono hl0, (h15.chg hC4 hk4).mono hl0, ⟨w3, hCw, hP'⟩, (hCw.mono (fun _ _ e => .inl e)).trans (hC4.mono (G := fun b => b = T ∨ b = W ∨ blk gA = some b) (fun _ _ e => .inr e)) (fun _ e => .inl e)⟩)
  have hmv := HMV.out
  have hm1 := HM1.out
  simp only [frLv, if_true, Act.put, List.setIfInBounds_toArray, List.set_cons_zero, List.set_cons_succ]
  rcases vs with _ | ⟨v0, _ | ⟨v1, vr⟩⟩
  ·have hFz := hFin.out rfl
   have HFz := Lib.hid hFz
   clear hFz
   have hm0 : m = 0 := hmv.symm
   subst hm0
   clear hb0 hgw0 hbW0 hmW0 hfW0 t2 t3 t4 hne hk hsd hfT hvs hgw3 hbW3 hmW3 hf3 hCw h8 h15 hb3 l8 l15 r8 r15 hC3 hFin hFin1 hmv hm1 hL
   go_wp2
   rw [rounds_succ]
   go_wp2
   refine wp_loop_rounds 1 ?_; rw [rounds_succ]
   go_wp2
   go_end0
   exact ⟨rfl, HFz.out⟩
  ·have hm0 : m = 1 := hmv.symm
   subst hm0
   obtain ⟨A, n', c, rfl⟩ := hvs v0 (by simp)
   obtain ⟨fb, fo, rfl, _, hfc⟩ := (Of.rw hf3).at_ (k := 0) (u := .slice A n' c) rfl
   have c0 : w3.cell? ⟨fb, fo, none⟩ = some (.slice A n' c) := by simpa using hfc
   have hwr : IntKind.i64.wrap (1 - side) = 1 - side := IntWalk.i64_in _ (by omega)
   have HL := Lib.hid (flay_any W s0 s1 now last begun gA k gc cells hk (1 - side) A n' c w3 hbW3 hmW3 hne)
   clear hb0 hgw0 hbW0 hmW0 hfW0 t2 t3 t4 hne hk hsd hfT hvs hgw3 hbW3 hmW3 hf3 hCw h8 h15 hb3 l8 l15 r8 r15 hC3 hFin hmv hm1 hL hfc
   go_wp2
   rw [rounds_succ]
   go_wp2
   refine wp_loop_rounds 2 ?_; rw [rounds_succ]
   go_wp2_with fail
   refine HL.out.mono ?_
   rintro e1 w4 ⟨rfl, hP⟩
   have HF := Lib.hid (hFin1.out _ _ _ _ rfl hP)
   clear hP
   go_wp2_with fail
   rw [rounds_succ]
   go_wp2
   go_end0
   exact ⟨rfl, HF.out⟩
  ·exact absurd hmv (by simp only [List.length_cons]; omega)
end Go.Proofs.YtaeafkdfbcppgaaGreat
