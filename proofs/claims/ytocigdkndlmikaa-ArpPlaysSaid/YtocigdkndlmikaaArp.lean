/- Proved: the small parts of the neighbours' cache: later ticks, a neighbour laid, how many there are. Conditions: as each law says. -/
import Derived.Test.YtocigdkndlmikaaMap
import Derived.Test.YtocigdkndlmikaaOff
import Derived.Test.YtocigdkndlmikaaMem
import Derived.WalkLawsBesides
import Derived.WalkSpells
import Derived.Maps.OwnRows
set_option linter.unusedVariables false
set_option linter.unusedSimpArgs false
namespace Go.Proofs.Ytocigdkndlmikaa
open Go.RowKit

/-! ### what a set of blocks may change -/
structure Chg (F : Nat → Prop) (w w' : World) : Prop where
  os : w'.os = w.os
  tape : w'.tape = w.tape
  output : w'.output = w.output
  size : w.heap.size ≤ w'.heap.size
  block : ∀ b, b < w.heap.size → ¬ F b → w'.heap[b]? = w.heap[b]?
theorem Chg.refl (F : Nat → Prop) (w : World) : Chg F w w := ⟨rfl, rfl, rfl, Nat.le_refl _, fun _ _ _ => rfl⟩
theorem Chg.of_grown {F : Nat → Prop} {w w' : World} {row : Option Nat} (h : w.grownBy w' row) (hr : ∀ b, row = some b → F b) : Chg F w w' :=
  ⟨h.os, h.tape, h.output, h.size, fun b hb hF => h.block b hb (fun e => hF (hr b e.symm))⟩
theorem Chg.of_below {F : Nat → Prop} {w w' : World} (h : Below w.heap.size w w') : Chg F w w' := ⟨h.os, h.tape, h.output, h.size, fun b hb _ => h.block b hb⟩
theorem Chg.below {F : Nat → Prop} {w w' : World} {B : Nat} (h : Chg F w w') (hF : ∀ b, F b → B ≤ b) (hB : B ≤ w.heap.size) : Below B w w' :=
  ⟨h.os, h.tape, h.output, h.size, fun b hb => h.block b (by omega) (fun e => by have := hF b e; omega)⟩
theorem Chg.trans {F G : Nat → Prop} {a b c : World} (h : Chg F a b) (k : Chg G b c) (hG : ∀ x, G x → F x ∨ a.heap.size ≤ x) : Chg F a c :=
  ⟨k.os.trans h.os, k.tape.trans h.tape, k.output.trans h.output, Nat.le_trans h.size k.size, fun x hx hF => (k.block x (Nat.lt_of_lt_of_le hx h.size) (fun e => by rcases hG x e with e | e; exact hF e; omega)).trans (h.block x hx hF)⟩
theorem Chg.mono {F G : Nat → Prop} {a b : World} (h : Chg F a b) (hG : ∀ x, x < a.heap.size → F x → G x) : Chg G a b := ⟨h.os, h.tape, h.output, h.size, fun x hx hn => h.block x hx (fun e => hn (hG x hx e))⟩
theorem Chg.drewN {F : Nat → Prop} {w w' : World} (h : Chg F w w') (n : Nat) : Chg F w (w'.drewN n) := ⟨h.os, h.tape, h.output, h.size, h.block⟩
theorem Chg.alloc {F : Nat → Prop} {w w' : World} (h : Chg F w w') (o : Obj) : Chg F w (w'.alloc o) :=
  h.trans (Chg.of_grown (F := fun _ => False) (World.grownBy_alloc w' o none) (fun _ e => by cases e)) (fun _ e => e.elim)
theorem Chg.setCell {F : Nat → Prop} {w w' : World} (h : Chg F w w') {p : Addr} (hp : F p.block ∨ w.heap.size ≤ p.block) (u : Value) : Chg F w (w'.setCell p u) :=
  h.trans (G := fun b => b = p.block) ⟨rfl, rfl, rfl, by simp [World.setCell], fun b _ hb => Below.heap_setCell w' p u b hb⟩ (fun x e => by rw [e]; exact hp)
theorem size_setCell (w : World) (p : Addr) (u : Value) : (w.setCell p u).heap.size = w.heap.size := by simp [World.setCell]
theorem Chg.cell {F : Nat → Prop} {w w' : World} (h : Chg F w w') {p : Addr} (hp : p.block < w.heap.size) (hF : ¬ F p.block) : w'.cell? p = w.cell? p := World.cell?_of_block (h.block _ hp hF)

theorem Bk.chg {F : Nat → Prop} {w w' : World} {g : Nat} {t : TypeId} {cs : Array Value} (h : Bk w g t cs) (hc : Chg F w w') (hF : ¬ F g) : Bk w' g t cs := (hc.block g h.lt hF).trans h

/-! ### the map of neighbours -/
def mkA (a : Int) : Value := .int .u32 a
def okA (a : Int) : Prop := 0 ≤ a ∧ a ≤ 4294967295
theorem keyA : KeyIs Try.prog 23 mkA okA := ⟨Maps.int_keyed Try.underlying23, fun x hx => ⟨.int .u32 x, Maps.keyOf_int_mk Try.underlying23 (by obtain ⟨h0, h1⟩ := hx; simp only [Lit.wf, IntKind.min, IntKind.max, IntKind.signed, IntKind.bits, Bool.and_eq_true, decide_eq_true_eq]; exact ⟨by simpa using h0, by simp; omega⟩)⟩, fun x y h => by injection h⟩
abbrev mapT := 30
theorem mapU : Try.prog.underlying mapT = some (.map 23 72) := Try.underlying30
theorem zeroE (w : World) : (zeroValue 72).run Try.prog w = .ok (.pointer none) w := by kernel_rfl

/-- The cache's own block and its map. -/
def MapAt (w : World) (g : Nat) (mv : Option Nat) (L : List (Int × Value)) : Prop := Bk w g 32 #[.map mv] ∧ (mv = none → L = []) ∧ ∀ b, mv = some b → IM mkA okA w b L
theorem IM.ne_bk {w : World} {b g : Nat} {L : List (Int × Value)} {t : TypeId} {cs : Array Value} (h : IM mkA okA w b L) (hb : Bk w g t cs) : b ≠ g := by
  rintro rfl
  obtain ⟨es, clock, h1, _⟩ := h
  unfold Bk at hb
  rw [hb] at h1
  cases h1
theorem MapAt.drewN {w : World} {g : Nat} {mv : Option Nat} {L : List (Int × Value)} (h : MapAt w g mv L) (n : Nat) : MapAt (w.drewN n) g mv L := h
theorem MapAt.kept {w w' : World} {g : Nat} {mv : Option Nat} {L : List (Int × Value)} (h : MapAt w g mv L) (hg : w'.heap[g]? = w.heap[g]?) (hm : ∀ b, mv = some b → w'.heap[b]? = w.heap[b]?) : MapAt w' g mv L :=
  ⟨hg.trans h.1, h.2.1, fun b hb => by obtain ⟨es, clock, h1, rest⟩ := h.2.2 b hb; exact ⟨es, clock, (hm b hb).trans h1, rest⟩⟩

theorem MapAt.chg {F : Nat → Prop} {w w' : World} {g : Nat} {mv : Option Nat} {L : List (Int × Value)} (h : MapAt w g mv L) (hc : Chg F w w') (hg : ¬ F g) (hm : ∀ b, mv = some b → ¬ F b) : MapAt w' g mv L :=
  h.kept (hc.block g h.1.lt hg) (fun b hb => hc.block b (h.2.2 b hb).lt (hm b hb))

/-! ### later -/
def laterP (a n : Int) : Int := if 9223372036854775807 - n < a then 9223372036854775807 else a + n
set_option maxRecDepth 100000 in
theorem plus_any (a n : Int) (ha : -9223372036854775808 ≤ a ∧ a ≤ 9223372036854775807) (hn : 0 ≤ n ∧ n ≤ 1000) (w : World) :
    Calls Try.prog 30 #[.int .i64 a, .int .i64 n] w fun e w' => e = .returned (.int .i64 (laterP a n)) ∧ w = w' := by
  unfold laterP
  obtain ⟨M, hM⟩ : ∃ M, wrap64 (9223372036854775807 - n) = M := ⟨_, rfl⟩
  have hM2 : M = 9223372036854775807 - n := by rw [← hM]; exact (by simp only [wrap64]; omega)
  by_cases h : 9223372036854775807 - n < a
  · rw [if_pos h]
    have hd : decide (M < a) = true := by rw [hM2]; simpa using h
    clear h ha hn hM2
    go_enter Try.func30, Try.ntmps30
    go_wp2
    go_ret
    exact ⟨rfl, rfl⟩
  · rw [if_neg h]
    have hd : decide (M < a) = false := by rw [hM2]; simpa using h
    have hw : IntKind.i64.wrap (a + n) = a + n := IntWalk.i64_in _ (by omega)
    clear h ha hn hM2
    go_enter Try.func30, Try.ntmps30
    go_wp2
    go_ret
    exact ⟨rfl, rfl⟩

def LayPost (a : Int) (p g : Nat) (mv : Option Nat) (L : List (Int × Value)) (w : World) (e : Ending) (w' : World) : Prop := e = .returned (.tuple #[]) ∧
  ∃ b, MapAt w' g (some b) (putL L a (.pointer (some ⟨p, 0, none⟩))) ∧ (mv = some b ∨ (mv = none ∧ b = w.heap.size)) ∧ Chg (fun x => x = g ∨ mv = some x) w w'
set_option maxRecDepth 100000 in
/-- A neighbour is laid. -/
theorem alay_any (a : Int) (p g : Nat) (mv : Option Nat) (L : List (Int × Value)) (w : World) (ha : okA a) (h : MapAt w g mv L) :
    Calls Try.prog 29 #[.pointer (some ⟨g, 0, none⟩), .int .u32 a, .pointer (some ⟨p, 0, none⟩)] w (LayPost a p g mv L w) := by
  obtain ⟨h1, h2, h3⟩ := h
  have c0 : w.cell? ⟨g, 0, none⟩ = some (.map mv) := h1.cell 0
  have f0 := h1.frozen 0
  have qm : ∀ (w : World) (r : Option Nat), (binOp .eql mapT (.map r) (.map none)).run Try.prog w = .ok (.bool r.isNone) w := fun w r => run_eql_map_nil w _ _ _ r mapU
  rcases mv with _ | b
  · have hL := h2 rfl
    subst hL
    have hmm := @run_makeMap Try.prog
    have hlt := h1.lt
    have hz : (w.setCell ⟨g, 0, none⟩ (.map (some w.heap.size))).heap.size = w.heap.size := size_setCell w _ _
    have hI : IM mkA okA ((w.setCell ⟨g, 0, none⟩ (.map (some w.heap.size))).alloc (.map #[] 0)) w.heap.size [] := by
      have := IM.made (mk := mkA) (ok := okA) (w.setCell ⟨g, 0, none⟩ (.map (some w.heap.size)))
      rwa [hz] at this
    have hk : Bk ((w.setCell ⟨g, 0, none⟩ (.map (some w.heap.size))).alloc (.map #[] 0)) g 32 #[.map (some w.heap.size)] := (h1.set 0 _).alloc _
    have hC : Chg (fun x => x = g ∨ (none : Option Nat) = some x) w ((w.setCell ⟨g, 0, none⟩ (.map (some w.heap.size))).alloc (.map #[] 0)) := ((Chg.refl _ w).setCell (.inl (.inl rfl)) _).alloc _
    clear hz
    go_enter Try.func29, Try.ntmps29
    go_wp2_with (at_mapUpdate; refine wpList_store_im rfl (.tmp 18) (.tmp 19) (.tmp 20) mapT rfl keyA mapU rfl hI (y := a) rfl ha (u := .pointer (some ⟨p, 0, none⟩)) rfl ?_; intro w1 hI1 hG1 hS1)
    go_end0
    exact ⟨rfl, w.heap.size, ⟨hk.grown hG1 (by intro e; injection e with e; omega), (fun e => by cases e), fun b' e => by injection e with e; subst e; exact hI1⟩, .inr ⟨rfl, rfl⟩, hC.trans (Chg.of_grown (F := fun x => x = w.heap.size) hG1 (fun x e => by injection e with e; exact e.symm)) (fun x e => .inr (by omega))⟩
  · have hI := h3 b rfl
    have hne := hI.ne_bk h1
    go_enter Try.func29, Try.ntmps29
    go_wp2_with (at_mapUpdate; refine wpList_store_im rfl (.tmp 18) (.tmp 19) (.tmp 20) mapT rfl keyA mapU rfl hI (y := a) rfl ha (u := .pointer (some ⟨p, 0, none⟩)) rfl ?_; intro w1 hI1 hG1 hS1)
    go_end0
    exact ⟨rfl, b, ⟨h1.grown hG1 (by intro e; injection e with e; exact hne e.symm), (fun e => by cases e), fun b' e => by injection e with e; subst e; exact hI1⟩, .inl rfl, Chg.of_grown hG1 (fun x e => .inr (by rw [e]))⟩
end Go.Proofs.Ytocigdkndlmikaa
