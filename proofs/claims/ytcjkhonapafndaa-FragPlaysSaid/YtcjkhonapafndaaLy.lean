/- Proved: laying a piece's bytes where none are yet, by its walk. Conditions: the whole lies in memory, its rows apart. -/
import Derived.Test.YtcjkhonapafndaaLyP
import Derived.Test.YtcjkhonapafndaaSort
import Derived.Deep.RegionHeld3
import Derived.Deep.LoopGhost
set_option linter.unusedVariables false
set_option linter.unusedSimpArgs false
namespace Go.Proofs.Ytcjkhonapafndaa
open Go.RowKit
theorem ap_tm2 {ops : Array Oper} {rest : List Oper} {o : Oper} {a : Act} {w : World} {Q : Exit → Act → World → Prop} (hgd : o.guard = none) (s x : Operand)
    (ho : o.op = .call { callee := .builtin .append, args := #[s, x], argTypes := #[84, 84] })
    (base : Nat) {A : Option Addr} {n c : Nat} {S : List (Int × Int)} (hs : a.eval s = .slice A n c) (hown : Tm 89 w base A n c S)
    (y : Int × Int) {c2 : Nat} {cs : Array Value} (hcs : cs = (tmC y).toArray) (gz : Nat) (hgz : w.heap.size = gz) (hx : a.eval x = .slice (some ⟨gz, 0, none⟩) 1 c2) (hsz : n ≤ 100000) (hbase : base ≤ w.heap.size)
    (h : ∀ g' c' w', Tm 89 w' base (some ⟨g', 0, none⟩) (n + 1) c' (S ++ [y]) → w.grownBy w' (blk A) → (blk A = some g' ∨ g' = w.heap.size + 1) → wpList Try.prog ops Q rest (a.put o.dst (.slice (some ⟨g', 0, none⟩) (n + 1) c')) w') :
    wpList Try.prog ops Q (o :: rest) a (w.alloc (.cells cs 89)) := by
  subst hgz; exact ap_tm hgd s x ho base hs hown y hcs hx hsz hbase h
theorem rb_from {w : World} {B b off : Nat} {l : List Int} (h : RB w B (some ⟨b, off, none⟩) l) (k : Nat) : RB w B (some ⟨b, off + k, none⟩) (l.drop k) := fun hn => by
  obtain ⟨b', o', e, hb, hc⟩ := h (by rw [by8_length] at hn ⊢; rw [List.length_drop] at hn; omega)
  injection e with e
  injection e with e1 e2
  subst e1; subst e2
  refine ⟨b, off + k, rfl, hb, fun j u hu => ?_⟩
  rw [Nat.add_assoc]
  refine hc (k + j) u ?_
  unfold by8 at hu ⊢
  rwa [List.map_drop, List.getElem?_drop] at hu
theorem kcell {W W' : World} {gd b o : Nat} {u : Value} (hg : W.grownBy W' (some gd)) (hb : b < W.heap.size) (hne : b ≠ gd) (hc : W.cell? ⟨b, o, none⟩ = some u) : W'.cell? ⟨b, o, none⟩ = some u :=
  (World.cell?_of_block (a := ⟨b, o, none⟩) (hg.block _ hb (by intro e; injection e with e; exact hne e))).trans hc
/-- What stands still in the loop. -/
structure LyC (w : World) (g gd gm : Nat) (tA aA dA : Option Addr) (B : Nat) : Prop where
  h1 : gd < gm
  h2 : w.heap.size ≤ gm
  h3 : gd ≠ g
  h4 : g < w.heap.size
  h5 : blk tA ≠ some g
  h6 : blk tA ≠ some gd
  h7 : ∀ b, blk tA = some b → b < w.heap.size
  h8 : blk dA = some gd ∨ w.heap.size ≤ gd
  h9 : ∀ b, blk aA = some b → b ≠ g ∧ b ≠ gd ∧ b < w.heap.size
  h10 : B ≤ w.heap.size
/-- What the loop knows. -/
structure LyI (w wr : World) (g : Nat) (k0 k1 k2 k3 bg : Int) (f : Value) (fin : Int) (gd dn dc : Nat) (tA : Option Addr) (tn tc : Nat) (S : List (Nat × Nat)) (gm : Nat) (lo hi : Nat) (L : List (Nat × Nat)) (D : List Int) (lA : Option Addr) (ln lc : Nat) (B : Nat) (aA : Option Addr) (al : List Int) (dA : Option Addr) : Prop where
  bk : Bk wr g 86 (whA k0 k1 k2 k3 bg f fin (.slice (some ⟨gd, 0, none⟩) dn dc) (.slice tA tn tc))
  ob : OB 5 wr 0 (some ⟨gd, 0, none⟩) dn dc D
  th : Tm 89 wr 0 tA tn tc (S.map spI)
  ls : Tm 89 wr (gm + 1) lA ln lc (L.map spI)
  mg : Bk wr gm 89 #[.int .i64 lo, .int .i64 hi]
  ch : Chg (fun b => b = g ∨ blk dA = some b) w wr
  rb : RB wr B aA al
section
variable {w wr w' : World} {g : Nat} {k0 k1 k2 k3 bg : Int} {f : Value} {fin : Int} {gd dn dc : Nat} {tA : Option Addr} {tn tc : Nat} {S : List (Nat × Nat)} {gm lo hi : Nat} {L : List (Nat × Nat)} {D : List Int} {lA : Option Addr} {ln lc B : Nat} {aA : Option Addr} {al : List Int} {dA : Option Addr}
theorem rb_grown {row : Option Nat} (h : RB wr B aA al) (hB : B ≤ wr.heap.size) (hg : wr.grownBy w' row) (hne : ∀ b, blk aA = some b → some b ≠ row) : RB w' B aA al := fun hn => by
  obtain ⟨b, off, rfl, hb, hcs⟩ := h hn
  exact ⟨b, off, rfl, hb, fun j u hu => (World.cell?_of_block (a := ⟨b, off + j, none⟩) (hg.block b (by omega) (by have := hne b rfl; simpa using this))).trans (hcs j u hu)⟩
theorem LyI.alloc (h : LyI w wr g k0 k1 k2 k3 bg f fin gd dn dc tA tn tc S gm lo hi L D lA ln lc B aA al dA) (hc : LyC w g gd gm tA aA dA B) (o : Obj) : LyI w (wr.alloc o) g k0 k1 k2 k3 bg f fin gd dn dc tA tn tc S gm lo hi L D lA ln lc B aA al dA :=
  ⟨h.bk.alloc o, Ow.alloc h.ob o, h.th.alloc o, h.ls.alloc o, h.mg.alloc o, h.ch.alloc o, Rw.alloc h.rb (Nat.le_trans hc.h10 h.ch.size) o⟩
theorem LyI.drew (h : LyI w wr g k0 k1 k2 k3 bg f fin gd dn dc tA tn tc S gm lo hi L D lA ln lc B aA al dA) : LyI w wr.drew g k0 k1 k2 k3 bg f fin gd dn dc tA tn tc S gm lo hi L D lA ln lc B aA al dA :=
  ⟨h.bk, h.ob, h.th, h.ls, h.mg, h.ch.drewN 1, h.rb⟩
theorem LyI.snoc (h : LyI w wr g k0 k1 k2 k3 bg f fin gd dn dc tA tn tc S gm lo hi L D lA ln lc B aA al dA) (hc : LyC w g gd gm tA aA dA B) {x : Nat × Nat} {lA' : Option Addr} {ln' lc' : Nat} (hT : Tm 89 w' (gm + 1) lA' ln' lc' (L.map spI ++ [spI x])) (hg : wr.grownBy w' (blk lA)) :
    LyI w w' g k0 k1 k2 k3 bg f fin gd dn dc tA tn tc S gm lo hi (L ++ [x]) D lA' ln' lc' B aA al dA := by
  have hl : ∀ b, blk lA = some b → gm + 1 ≤ b := fun b hb => (h.ls.lt b hb).1
  have e1 := hc.h1; have e2 := hc.h2; have e4 := hc.h4
  refine ⟨h.bk.grown hg (fun e => by have := hl g e.symm; omega), Ow.kept h.ob hg (.inr fun e => by have := hl gd e.symm; omega), h.th.kept hg ?_, by rw [List.map_append]; exact hT, h.mg.grown hg (fun e => by have := hl gm e.symm; omega), h.ch.trans (Chg.of_grown (F := fun b => blk lA = some b) hg (fun b hb => hb)) (fun b hb => .inr (by have := hl b hb; omega)), rb_grown h.rb (Nat.le_trans hc.h10 h.ch.size) hg (fun b hb e => ?_)⟩
  · cases ht : blk tA with
    | none => exact .inl rfl
    | some b => exact .inr fun e => by have := hl b e.symm; have := hc.h7 b ht; omega
  · have := hl b e.symm; have := (hc.h9 b hb).2.2; omega
theorem LyI.copy (h : LyI w wr g k0 k1 k2 k3 bg f fin gd dn dc tA tn tc S gm lo hi L D lA ln lc B aA al dA) (hc : LyC w g gd gm tA aA dA B) {D' : List Int} (hO : OB 5 w' 0 (some ⟨gd, 0, none⟩) dn dc D') (hg : wr.grownBy w' (some gd)) :
    LyI w w' g k0 k1 k2 k3 bg f fin gd dn dc tA tn tc S gm lo hi L D' lA ln lc B aA al dA := by
  have e1 := hc.h1; have e2 := hc.h2
  refine ⟨h.bk.grown hg (fun e => hc.h3 (Option.some.inj e).symm), hO, h.th.kept hg (.inr hc.h6), h.ls.kept hg ?_, h.mg.grown hg (fun e => by have := Option.some.inj e; omega), h.ch.trans (Chg.of_grown (F := fun b => gd = b) hg (fun b hb => Option.some.inj hb)) (fun b hb => ?_), rb_grown h.rb (Nat.le_trans hc.h10 h.ch.size) hg (fun b hb e => (hc.h9 b hb).2.1 (Option.some.inj e))⟩
  · cases ht : blk lA with
    | none => exact .inl rfl
    | some b => exact .inr fun e => by have := (h.ls.lt b ht).1; have := Option.some.inj e; omega
  · rcases hc.h8 with h8 | h8
    · exact .inl (.inr (by rw [← hb]; exact h8))
    · exact .inr (by omega)
theorem LyI.merge (h : LyI w wr g k0 k1 k2 k3 bg f fin gd dn dc tA tn tc S gm lo hi L D lA ln lc B aA al dA) (hc : LyC w g gd gm tA aA dA B) (lo' hi' : Nat) :
    LyI w ((wr.setCell ⟨gm, 0, none⟩ (.int .i64 lo')).setCell ⟨gm, 1, none⟩ (.int .i64 hi')) g k0 k1 k2 k3 bg f fin gd dn dc tA tn tc S gm lo' hi' L D lA ln lc B aA al dA := by
  have e1 := hc.h1; have e2 := hc.h2; have e4 := hc.h4
  have hg : wr.grownBy ((wr.setCell ⟨gm, 0, none⟩ (.int .i64 lo')).setCell ⟨gm, 1, none⟩ (.int .i64 hi')) (some gm) := grownBy_setCell (grownBy_setCell (World.grownBy.refl wr (some gm)) (.inl rfl) _) (.inl rfl) _
  refine ⟨h.bk.grown hg (fun e => by have := Option.some.inj e; omega), Ow.kept h.ob hg (.inr fun e => by have h0 := (by simpa [blk] using e : gd = gm); omega), h.th.kept hg ?_, h.ls.kept hg ?_, (h.mg.set 0 _).set 1 _, h.ch.trans (Chg.of_grown (F := fun b => gm = b) hg (fun b hb => Option.some.inj hb)) (fun b hb => .inr (by omega)), rb_grown h.rb (Nat.le_trans hc.h10 h.ch.size) hg (fun b hb e => ?_)⟩
  · cases ht : blk tA with
    | none => exact .inl rfl
    | some b => exact .inr fun e => by have := hc.h7 b ht; have := Option.some.inj e; omega
  · cases ht : blk lA with
    | none => exact .inl rfl
    | some b => exact .inr fun e => by have := (h.ls.lt b ht).1; have := Option.some.inj e; omega
  · have := (hc.h9 b hb).2.2; have := Option.some.inj e; omega
theorem ly_start {wq : World} {a e : Nat} {D1 : List Int} (hbk : Bk wq g 86 (whA k0 k1 k2 k3 bg f fin (.slice (some ⟨gd, 0, none⟩) dn dc) (.slice tA tn tc))) (hob : OB 5 wq 0 (some ⟨gd, 0, none⟩) dn dc D1) (hth : Tm 89 wq 0 tA tn tc (S.map spI)) (hch : Chg (fun b => b = g ∨ blk dA = some b) w wq) (hB : B ≤ w.heap.size) (hrb : RB wq B aA al) :
    LyI w (wq.alloc (.cells #[.int .i64 a, .int .i64 e] 89)) g k0 k1 k2 k3 bg f fin gd dn dc tA tn tc S wq.heap.size a e [] D1 none 0 0 B aA al dA :=
  ⟨hbk.alloc _, Ow.alloc hob _, hth.alloc _, Tm.none_ _ _ _, Bk.new wq _ _, hch.alloc _, Rw.alloc hrb (Nat.le_trans hB hch.size) _⟩
end
def LyPost (w : World) (g : Nat) (k0 k1 k2 k3 bg : Int) (f : Value) (fin : Int) (dA : Option Addr) (D : List Int) (S : List (Nat × Nat)) (a e : Nat) (al : List Int) (en : Ending) (w' : World) : Prop :=
  en = .returned (.tuple #[]) ∧ ∃ (gd dn' dc' tn' tc' : Nat) (tA' : Option Addr) (S' : List (Nat × Nat)), Bk w' g 86 (whA k0 k1 k2 k3 bg f fin (.slice (some ⟨gd, 0, none⟩) dn' dc') (.slice tA' tn' tc')) ∧
    OB 5 w' 0 (some ⟨gd, 0, none⟩) dn' dc' (lyEnd a e al (lyF a e al (lyD D e) S)) ∧ Tm 89 w' w.heap.size tA' tn' tc' (S'.map spI) ∧
    S'.Perm ((lyF a e al (lyD D e) S).L ++ [((lyF a e al (lyD D e) S).lo, (lyF a e al (lyD D e) S).hi)]) ∧ S'.Pairwise (fun x y => x.1 ≤ y.1) ∧ (blk dA = some gd ∨ w.heap.size ≤ gd) ∧ blk tA' ≠ some gd ∧ Chg (fun b => b = g ∨ blk dA = some b) w w'
theorem sp_back {S' : List (Int × Int)} {M : List (Nat × Nat)} (h : S'.Perm (M.map spI)) (hs : S'.Pairwise (fun x y => cmpS x y ≤ 0)) : ∃ S'' : List (Nat × Nat), S' = S''.map spI ∧ S''.Perm M ∧ S''.Pairwise (fun x y => x.1 ≤ y.1) := by
  have hb : ∀ x : Nat × Nat, (fun y : Int × Int => (y.1.toNat, y.2.toNat)) (spI x) = x := fun x => by simp [spI]
  have e1 : (S'.map fun y : Int × Int => (y.1.toNat, y.2.toNat)).map spI = S' := by
    rw [List.map_map]
    refine (List.map_congr_left ?_).trans (List.map_id S')
    intro y hy
    obtain ⟨x, _, rfl⟩ := List.mem_map.1 (h.mem_iff.1 hy)
    simp [spI]
  refine ⟨_, e1.symm, ?_, ?_⟩
  · have := h.map (fun y : Int × Int => (y.1.toNat, y.2.toNat))
    rw [List.map_map] at this
    refine this.trans (List.Perm.of_eq ?_)
    refine (List.map_congr_left ?_).trans (List.map_id M)
    intro x _
    exact hb x
  · rw [List.pairwise_map]
    refine hs.imp ?_
    intro x y hxy
    unfold cmpS cmpI at hxy
    split at hxy
    · show x.1.toNat ≤ y.1.toNat; omega
    · split at hxy
      · omega
      · show x.1.toNat ≤ y.1.toNat; omega
section
variable {w wr : World} {g : Nat} {k0 k1 k2 k3 bg : Int} {f : Value} {fin : Int} {gd dn dc : Nat} {tA : Option Addr} {tn tc : Nat} {S : List (Nat × Nat)} {gm lo hi : Nat} {L : List (Nat × Nat)} {D D3 : List Int} {lA : Option Addr} {ln lc B : Nat} {aA : Option Addr} {al : List Int} {dA : Option Addr}
theorem ly_fin {w6 w8 : World} {g' c' a e : Nat} {S' : List (Int × Int)} (h : LyI w wr g k0 k1 k2 k3 bg f fin gd dn dc tA tn tc S gm lo hi L D3 lA ln lc B aA al dA) (hc : LyC w g gd gm tA aA dA B) (hG6 : wr.grownBy w6 (blk lA)) (hg' : gm + 1 ≤ g')
    (hT8 : Tm 89 w8 (gm + 1) (some ⟨g', 0, none⟩) (ln + 1) c' S') (hG8 : (w6.setCell ⟨g, 8, none⟩ (.slice (some ⟨g', 0, none⟩) (ln + 1) c')).grownBy w8 (some g'))
    (hp : S'.Perm (L.map spI ++ [spI (lo, hi)])) (hs : S'.Pairwise (fun x y => cmpS x y ≤ 0)) {s : LySt} (hst : lyF a e al (lyD D e) S = s) (hL : s.L = L) (hlo : s.lo = lo) (hhi : s.hi = hi) (hD : lyEnd a e al s = D3) :
    LyPost w g k0 k1 k2 k3 bg f fin dA D S a e al (.returned (.tuple #[])) w8 := by
  have e1 := hc.h1; have e2 := hc.h2; have e4 := hc.h4
  have hl : ∀ b, blk lA = some b → gm + 1 ≤ b := fun b hb => (h.ls.lt b hb).1
  have hG7 : w6.grownBy (w6.setCell ⟨g, 8, none⟩ (.slice (some ⟨g', 0, none⟩) (ln + 1) c')) (some g) := grownBy_setCell (World.grownBy.refl w6 (some g)) (.inl rfl) _
  obtain ⟨S'', rfl, hp2, hs2⟩ := sp_back (M := L ++ [(lo, hi)]) (by rw [List.map_append]; exact hp) hs
  subst hst; subst hL; subst hlo; subst hhi; subst hD
  have hb6 := h.bk.grown hG6 (fun e => by have := hl g e.symm; omega)
  refine ⟨rfl, gd, dn, dc, ln + 1, c', some ⟨g', 0, none⟩, S'', ?_, ?_, hT8.mono (by omega), hp2, hs2, hc.h8, by simp [blk]; omega, ?_⟩
  · exact (hb6.set 8 _).grown hG8 (fun e => by have := Option.some.inj e; omega)
  · refine Ow.kept (Ow.kept (Ow.kept h.ob hG6 (.inr fun e => by have := hl gd e.symm; omega)) hG7 (.inr fun e => hc.h3 (by simpa [blk] using e))) hG8 (.inr fun e => by have h0 := (by simpa [blk] using e : gd = g'); omega)
  · exact ((h.ch.trans (Chg.of_grown (F := fun b => blk lA = some b) hG6 (fun b hb => hb)) (fun b hb => .inr (by have := hl b hb; omega))).setCell (.inl (.inl rfl)) _).trans (Chg.of_grown (F := fun b => g' = b) hG8 (fun b hb => Option.some.inj hb)) (fun b hb => .inr (by omega))
end
set_option maxHeartbeats 8000000 in
set_option maxRecDepth 100000 in
theorem wlay_any (g : Nat) (k0 k1 k2 k3 bg : Int) (f : Value) (fin : Int) (dA : Option Addr) (dn dc : Nat) (D : List Int) (tA : Option Addr) (tn tc : Nat) (S : List (Nat × Nat)) (a : Nat) (aA : Option Addr) (an ac B : Nat) (al : List Int) (w : World)
    (hm : Bk w g 86 (whA k0 k1 k2 k3 bg f fin (.slice dA dn dc) (.slice tA tn tc))) (hD : OB 5 w 0 dA dn dc D) (hT : Tm 89 w 0 tA tn tc (S.map spI)) (hdt : ∀ b, blk dA = some b → blk tA ≠ some b) (hdg : blk dA ≠ some g) (htg : blk tA ≠ some g)
    (hr : RB w B aA al) (hB : B ≤ w.heap.size) (hra : ∀ b, blk aA = some b → b ≠ g ∧ blk dA ≠ some b) (hal : al.length = an) (hac : an ≤ ac) (ha0 : 0 < an) (hat : a + an ≤ 65535) (hdn : dn ≤ 65535) (htn : tn ≤ 65535) (hS : ∀ x ∈ S, x.1 ≤ x.2 ∧ x.2 ≤ dn) :
    Calls Try.prog 46 #[.pointer (some ⟨g, 0, none⟩), .int .i64 a, .slice aA an ac] w (LyPost w g k0 k1 k2 k3 bg f fin dA D S a (a + an) al) := by
  have hgl := hm.lt
  have hDl := OB.length hD
  have c7 : w.cell? ⟨g, 7, none⟩ = some (.slice dA dn dc) := hm.cell 7
  have c8 : w.cell? ⟨g, 8, none⟩ = some (.slice tA tn tc) := hm.cell 8
  have f7 : w.frozen? ⟨g, 7, none⟩ = false := hm.frozen 7
  obtain ⟨e, he⟩ : ∃ e, a + an = e := ⟨_, rfl⟩
  rw [he] at hat ⊢
  have hae : (a : Int) + (an : Int) = (e : Int) := by omega
  have hwe : IntKind.i64.wrap ((a : Int) + (an : Int)) = (e : Int) := by rw [IntWalk.i64_in _ (by omega)]; exact hae
  have HM := Lib.hid hm
  have HD := Lib.hid hD
  have HT := Lib.hid hT
  have HR := Lib.hid hr
  have HS := Lib.hid hS
  have HAL := Lib.hid hal
  have HDL := Lib.hid hDl
  have HRA := Lib.hid hra
  have HRB : Hid (∀ b, blk aA = some b → b < w.heap.size) := Lib.hid (fun b hb => by
    obtain ⟨b', o', e', hb', _⟩ := hr (by rw [by8_length, hal]; exact ha0)
    rw [e'] at hb
    have hbb : b' = b := by simpa [blk] using hb
    omega)
  have HDT := Lib.hid hdt
  have HE := Lib.hid he
  clear hm hD hT hr hS hal hDl hra hdt
  rcases Nat.lt_or_ge dn e with y | y
  · obtain ⟨m, hmm⟩ : ∃ m, e = dn + m := ⟨e - dn, by omega⟩
    have hm0 : 0 < m := by omega
    have hws : IntKind.i64.wrap ((e : Int) - (dn : Int)) = (m : Int) := by rw [IntWalk.i64_in _ (by omega)]; omega
    have hs1 : (e : Int) - (dn : Int) = (m : Int) := by omega
    have hmp : (0 : Int) < (m : Int) := by omega
    have HMM := Lib.hid hmm
    have HY := Lib.hid y
    clear hmm y
    go_enter Try.func46, Try.ntmps46
    go_wp2_with (at_builtin; refine apz8 rfl (.tmp 30) (.tmp 31) rfl 0 rfl HD.out m rfl hm0 (by omega) (Nat.zero_le _) ?_; intro A1 c1 w1 hO1 hG1 hN1; have hm1 := Bk.grown HM.out hG1 (fun e => hdg e.symm); have c17 : w1.cell? ⟨g, 7, none⟩ = some (.slice dA dn dc) := hm1.cell 7; have f17 := hm1.frozen 7; have hm2 := (hm1.set 7 (.slice A1 (dn + m) c1)).alloc (.cells #[.int .i64 a, .int .i64 e] 89); have c28 : ((w1.setCell ⟨g, 7, none⟩ (.slice A1 (dn + m) c1)).alloc (.cells #[.int .i64 a, .int .i64 e] 89)).cell? ⟨g, 8, none⟩ = some (.slice tA tn tc) := hm2.cell 8)
    obtain ⟨gd, rfl⟩ : ∃ gd, A1 = some ⟨gd, 0, none⟩ := by
      rcases hO1.cases_ with ⟨_, h, _⟩ | ⟨g', _, h, _⟩
      · omega
      · exact ⟨g', h⟩
    have hgd1 : gd < w1.heap.size := (Ow.lt hO1 gd rfl).2
    have hsw : w.heap.size ≤ w1.heap.size := hG1.size
    have hgg : gd ≠ g := by
      rcases hN1 with h | h
      · intro e; subst e; exact hdg h.symm
      · have := h gd rfl; omega
    have htl : ∀ b, blk tA = some b → b < w.heap.size := fun b hb => (HT.out.lt b hb).2
    have hbt : ∀ b, blk dA = some b → blk tA ≠ some b := HDT.out
    have hlyD : lyD D e = D ++ List.replicate m 0 := by
      unfold lyD
      rw [HDL.out, if_pos HY.out, show e - dn = m by have := HMM.out; omega]
    have HC : Hid (LyC w g gd w1.heap.size tA aA dA B) := Lib.hid ⟨hgd1, hsw, hgg, hgl, htg, (by
      rcases hN1 with h | h
      · exact hbt gd h.symm
      · intro e; have := htl gd e; have := h gd rfl; omega), htl, (by
      rcases hN1 with h | h
      · exact .inl h.symm
      · exact .inr (h gd rfl)), (fun b hb => ⟨(HRA.out b hb).1, (by
      rcases hN1 with h | h
      · intro e; subst e; exact (HRA.out b hb).2 h.symm
      · have := h gd rfl; have := HRB.out b hb; omega), by have := HRB.out b hb; omega⟩), hB⟩
    have hGs : w1.grownBy (w1.setCell ⟨g, 7, none⟩ (.slice (some ⟨gd, 0, none⟩) (dn + m) c1)) (some g) := grownBy_setCell (World.grownBy.refl w1 (some g)) (.inl rfl) _
    have HI0 : Hid (LyI w ((w1.setCell ⟨g, 7, none⟩ (.slice (some ⟨gd, 0, none⟩) (dn + m) c1)).alloc (.cells #[.int .i64 a, .int .i64 e] 89)) g k0 k1 k2 k3 bg f fin gd (dn + m) c1 tA tn tc S w1.heap.size a e [] (lyD D e) none 0 0 B aA al dA) := Lib.hid (by
      have hst := ly_start (w := w) (dA := dA) (a := a) (e := e) (hm1.set 7 (.slice (some ⟨gd, 0, none⟩) (dn + m) c1)) (D1 := lyD D e) (by rw [hlyD]; exact Ow.kept hO1 hGs (.inr fun e => hgg (by simpa [blk] using e))) ((HT.out.kept hG1 (by
          cases ht : blk tA with
          | none => exact .inl rfl
          | some b => exact .inr fun e => hbt b e.symm ht)).kept hGs (.inr htg)) ((Chg.of_grown (F := fun b => b = g ∨ blk dA = some b) hG1 (fun b hb => .inr hb)).setCell (.inl (.inl rfl)) _) hB (rb_grown (rb_grown HR.out hB hG1 (fun b hb e => (HRA.out b hb).2 e.symm)) (Nat.le_trans hB hsw) hGs (fun b hb e => (HRA.out b hb).1 (Option.some.inj e)))
      rw [size_setCell] at hst
      exact hst)
    clear hm1 hm2 hO1 hG1 hN1 hGs c17 f17
    obtain ⟨n1, hn1⟩ : ∃ n1, dn + m = n1 := ⟨_, rfl⟩
    have hen : e ≤ n1 := by have := HMM.out; omega
    have hdn1 : dn ≤ n1 := by omega
    have hn16 : n1 ≤ 65535 := by have := HMM.out; omega
    obtain ⟨gm, hgm⟩ : ∃ gm, w1.heap.size = gm := ⟨_, rfl⟩
    rw [hgm] at HC HI0
    rw [hn1] at HI0 c28
    rw [hgm, hn1]
    obtain ⟨wl, hwl⟩ : ∃ wl, (w1.setCell ⟨g, 7, none⟩ (.slice (some ⟨gd, 0, none⟩) n1 c1)).alloc (.cells #[.int .i64 a, .int .i64 e] 89) = wl := ⟨_, rfl⟩
    rw [hwl] at HI0 c28 ⊢
    clear hwl hgd1 hsw hn1 hlyD hws hs1 hmp hm0 htl hbt
    have HSN : Hid (S.length = tn) := Lib.hid (by have := HT.out.len; rw [List.length_map] at this; exact this)
    have HSB : Hid (∀ x ∈ S, x.1 ≤ x.2 ∧ x.2 ≤ n1) := Lib.hid (fun x hx => ⟨(HS.out x hx).1, Nat.le_trans (HS.out x hx).2 hdn1⟩)
    have HLE : Hid (e = a + al.length) := Lib.hid (by rw [HAL.out]; exact HE.out.symm)
    have HR0 : Hid ((⟨a, a, e, [], lyD D e⟩ : LySt) = lyF a e al (lyD D e) (S.take 0) ∧ LyOk a e n1 0 ⟨a, a, e, [], lyD D e⟩ ∧ LyI w wl g k0 k1 k2 k3 bg f fin gd n1 c1 tA tn tc S gm a e [] (lyD D e) none 0 0 B aA al dA) := Lib.hid ⟨rfl, LyOk.start (by omega) hen (HI0.out.ob.length), HI0.out⟩
    go_wp2
    go_loopw [8, 10, 44] (fun v8 v10 v44 wr => ∃ (i : Nat) (s : LySt) (lA : Option Addr) (ln lc : Nat), i ≤ tn ∧ v8 = .int .i64 s.fr ∧ v10 = .slice lA ln lc ∧ v44 = .int .i64 i ∧ Hid (s = lyF a e al (lyD D e) (S.take i) ∧ LyOk a e n1 i s ∧ LyI w wr g k0 k1 k2 k3 bg f fin gd n1 c1 tA tn tc S gm s.lo s.hi s.L s.D lA ln lc B aA al dA)) (fun v8 v10 v44 _ => tn - (intOf v44).toNat)
    case atStart => exact ⟨0, _, none, 0, 0, Nat.zero_le _, rfl, rfl, rfl, HR0⟩
    case round =>
      obtain ⟨i, s, lA, ln, lc, hi, rfl, rfl, rfl, HR⟩ := hrel
      rcases Nat.lt_or_ge i tn with z | z
      · obtain ⟨⟨xa, xb⟩, hx⟩ : ∃ x, S[i]? = some x := ⟨_, List.getElem?_eq_getElem (by rw [HSN.out]; exact z)⟩
        obtain ⟨gt, htA, _, hgtl, x0, x1, _, _⟩ := HR.out.2.2.th.cell (k := i) (t := spI (xa, xb)) (by rw [List.getElem?_map, hx]; rfl)
        have hxb := HSB.out _ (List.mem_of_getElem? hx)
        simp only [spI] at x0 x1
        obtain ⟨fr, lo, hi', L, D2⟩ := s
        simp only at HR
        have HNEXT : Hid (lyF a e al (lyD D e) (S.take (i + 1)) = lyStep a e al ⟨fr, lo, hi', L, D2⟩ (xa, xb) ∧ LyOk a e n1 (i + 1) (lyStep a e al ⟨fr, lo, hi', L, D2⟩ (xa, xb))) := Lib.hid ⟨by rw [lyF_succ hx, ← HR.out.1], HR.out.2.1.step HLE.out hen hxb⟩
        obtain ⟨k1', k2', k3', k4', k5', k6'⟩ := HR.out.2.1
        simp only at k1' k2' k3' k4' k5' k6' hxb
        have z' : (i : Int) < tn := by omega
        have HIX := Lib.hid (HR.out.2.2.alloc HC.out (.cells #[.int .i64 xa, .int .i64 xb] 89))
        have hbx : Bk (wr.alloc (.cells #[.int .i64 xa, .int .i64 xb] 89)) wr.heap.size 89 #[.int .i64 xa, .int .i64 xb] := Bk.new wr _ _
        have q0 : (wr.alloc (.cells #[.int .i64 xa, .int .i64 xb] 89)).cell? ⟨wr.heap.size, 0, none⟩ = some (.int .i64 xa) := hbx.cell 0
        have q1 : (wr.alloc (.cells #[.int .i64 xa, .int .i64 xb] 89)).cell? ⟨wr.heap.size, 1, none⟩ = some (.int .i64 xb) := hbx.cell 1
        have hgmr : gm < wr.heap.size := HR.out.2.2.mg.lt
        have hln : ln ≤ 100000 := by have := HR.out.2.2.ls.len; rw [List.length_map] at this; omega
        subst htA
        have HX := Lib.hid hx
        clear hx hbx
        rcases (by omega : xb < a ∨ (a ≤ xb ∧ e < xa) ∨ (a ≤ xb ∧ xa ≤ e)) with d | ⟨d, d2⟩ | ⟨d, d2⟩
        · have t1 : decide ((xb : Int) < (a : Int)) = true := decide_eq_true (by omega)
          have t1n : decide (xb < a) = true := decide_eq_true (by omega)
          have HD' : Hid (xb < a) := Lib.hid d
          clear d
          go_wp2_with (at_builtin; refine ap_tm2 rfl (.tmp 58) (.tmp 60) rfl (gm + 1) rfl HIX.out.ls (spI (xa, xb)) rfl _ (World.size_alloc _ _) rfl hln (by rw [World.size_alloc]; omega) ?_; intro g' c' w' hT' hG' hor)
          have HN' := Lib.hid (HIX.out.snoc HC.out (x := (xa, xb)) hT' hG')
          clear hT' hG' hor
          go_roundw
          case rel =>
            refine ⟨i + 1, lyStep a e al ⟨fr, lo, hi', L, D2⟩ (xa, xb), some ⟨g', 0, none⟩, ln + 1, c', by omega, ?_, rfl, by go_num, Lib.hid ⟨HNEXT.out.1.symm, HNEXT.out.2, ?_⟩⟩
            · unfold lyStep; rw [if_pos (.inl HD'.out)]
            · unfold lyStep; rw [if_pos (.inl HD'.out)]; exact HN'.out
          case measure => simp [intOf]; omega
        · have t1 : decide ((xb : Int) < (a : Int)) = false := decide_eq_false (by omega)
          have t1n : decide (xb < a) = false := decide_eq_false (by omega)
          have t2 : decide ((e : Int) < (xa : Int)) = true := decide_eq_true (by omega)
          have t2n : decide (e < xa) = true := decide_eq_true (by omega)
          have HD' : Hid (e < xa) := Lib.hid d2
          clear d d2
          go_wp2_with (at_builtin; refine ap_tm2 rfl (.tmp 58) (.tmp 60) rfl (gm + 1) rfl HIX.out.ls (spI (xa, xb)) rfl _ (World.size_alloc _ _) rfl hln (by rw [World.size_alloc]; omega) ?_; intro g' c' w' hT' hG' hor)
          have HN' := Lib.hid (HIX.out.snoc HC.out (x := (xa, xb)) hT' hG')
          clear hT' hG' hor
          go_roundw
          case rel =>
            refine ⟨i + 1, lyStep a e al ⟨fr, lo, hi', L, D2⟩ (xa, xb), some ⟨g', 0, none⟩, ln + 1, c', by omega, ?_, rfl, by go_num, Lib.hid ⟨HNEXT.out.1.symm, HNEXT.out.2, ?_⟩⟩
            · unfold lyStep; rw [if_pos (.inr HD'.out)]
            · unfold lyStep; rw [if_pos (.inr HD'.out)]; exact HN'.out
          case measure => simp [intOf]; omega
        · have t1 : decide ((xb : Int) < (a : Int)) = false := decide_eq_false (by omega)
          have t1n : decide (xb < a) = false := decide_eq_false (by omega)
          have t2 : decide ((e : Int) < (xa : Int)) = false := decide_eq_false (by omega)
          have t2n : decide (e < xa) = false := decide_eq_false (by omega)
          have hno : ¬ (xb < a ∨ e < xa) := by omega
          have HNO := Lib.hid hno
          obtain ⟨fr2, hfr2⟩ : ∃ v, max fr xb = v := ⟨_, rfl⟩
          obtain ⟨lo2, hlo2⟩ : ∃ v, min lo xa = v := ⟨_, rfl⟩
          obtain ⟨hi2, hhi2⟩ : ∃ v, max hi' xb = v := ⟨_, rfl⟩
          have yf : (if (fr : Int) < (xb : Int) then (xb : Int) else (fr : Int)) = (fr2 : Int) := by rw [← hfr2]; split <;> omega
          have yl : (if (xa : Int) < (lo : Int) then (xa : Int) else (lo : Int)) = (lo2 : Int) := by rw [← hlo2]; split <;> omega
          have yh : (if (hi' : Int) < (xb : Int) then (xb : Int) else (hi' : Int)) = (hi2 : Int) := by rw [← hhi2]; split <;> omega
          have ymf : max (fr : Int) (xb : Int) = (fr2 : Int) := by omega
          have yml : min (lo : Int) (xa : Int) = (lo2 : Int) := by omega
          have ymh : max (hi' : Int) (xb : Int) = (hi2 : Int) := by omega
          have yf2 : (if fr < xb then (xb : Int) else (fr : Int)) = (fr2 : Int) := by rw [← hfr2]; split <;> omega
          have yl2 : (if xa < lo then (xa : Int) else (lo : Int)) = (lo2 : Int) := by rw [← hlo2]; split <;> omega
          have yh2 : (if hi' < xb then (xb : Int) else (hi' : Int)) = (hi2 : Int) := by rw [← hhi2]; split <;> omega
          have HF2 := Lib.hid hfr2
          have HL2 := Lib.hid hlo2
          have HH2 := Lib.hid hhi2
          clear hfr2 hlo2 hhi2 hno d d2
          rcases Nat.lt_or_ge fr xa with v | v
          · have t3 : decide ((fr : Int) < (xa : Int)) = true := decide_eq_true (by omega)
            have t3n : decide (fr < xa) = true := decide_eq_true (by omega)
            obtain ⟨k, hk⟩ : ∃ k, fr - a = k := ⟨_, rfl⟩
            have e1 : IntKind.i64.wrap ((fr : Int) - (a : Int)) = (k : Int) := by rw [IntWalk.i64_in _ (by omega)]; omega
            have hc1 : n1 ≤ c1 := Ow.cap HR.out.2.2.ob
            have e3 : (fr : Int) ≤ (xa : Int) := by omega
            have e4 : (xa : Int) ≤ (c1 : Int) := by omega
            have e5 : (0 : Int) ≤ (fr : Int) := by omega
            have e6 : (0 : Int) ≤ (k : Int) := by omega
            have hank : k < an := by have := HE.out; have := HNO.out; omega
            have e7 : (k : Int) ≤ (an : Int) := by omega
            have e8 : ¬ ac = k := by omega
            have e9 : ¬ c1 = fr := by omega
            obtain ⟨ab, ao, haA, _, _⟩ := HR.out.2.2.rb (by rw [by8_length, HAL.out]; exact ha0)
            subst haA
            have HIY := Lib.hid HIX.out.drew
            have hOb : OB 5 (wr.alloc (.cells #[.int .i64 xa, .int .i64 xb] 89)).drew 0 (some ⟨gd, 0, none⟩) n1 c1 D2 := HIY.out.ob
            have hrb := rb_from HIY.out.rb k
            have hsl : (al.drop k).length = an - k := by rw [List.length_drop, HAL.out]
            have hmp : 0 < xa - fr := by omega
            have hms : xa - fr ≤ an - k := by have := HE.out; have := HNO.out; omega
            have hoff : fr + (xa - fr) ≤ n1 := by omega
            have s7 : (wr.alloc (.cells #[.int .i64 xa, .int .i64 xb] 89)).cell? ⟨g, 7, none⟩ = some (.slice (some ⟨gd, 0, none⟩) n1 c1) := HIX.out.bk.cell 7
            have hgl7 : g < (wr.alloc (.cells #[.int .i64 xa, .int .i64 xb] 89)).drew.heap.size := HIY.out.bk.lt
            have hgxl : wr.heap.size < (wr.alloc (.cells #[.int .i64 xa, .int .i64 xb] 89)).drew.heap.size := by show wr.heap.size < (wr.alloc _).heap.size; rw [World.size_alloc]; exact Nat.lt_succ_self _
            have hgdl : gd < wr.heap.size := by have := HC.out.h1; omega
            have hgg' := HC.out.h3
            have HV : Hid (fr < xa) := Lib.hid v
            have HKK := Lib.hid hk
            clear v hk
            go_wp2
            go_region_held3 (fun w' => w'.cell? ⟨g, 7, none⟩ = some (.slice (some ⟨gd, 0, none⟩) n1 c1) ∧ w'.cell? ⟨wr.heap.size, 0, none⟩ = some (.int .i64 xa))
              (first | (with_reducible exact ⟨by assumption, by assumption⟩) | go_keep)
              ((refine st_cpy8 rfl (.tmp 73) (.tmp 78) rfl 0 fr (xa - fr) (c1 - fr) rfl hOb rfl hrb hsl hmp hms hoff ?_; intro w5 hO5 hG5; have s75 := kcell hG5 hgl7 (Ne.symm hgg') (show (wr.alloc (.cells #[.int .i64 xa, .int .i64 xb] 89)).drew.cell? _ = _ from s7); have q05 := kcell hG5 hgxl (by omega) (show (wr.alloc (.cells #[.int .i64 xa, .int .i64 xb] 89)).drew.cell? _ = _ from q0); have q15 := kcell hG5 hgxl (by omega) (show (wr.alloc (.cells #[.int .i64 xa, .int .i64 xb] 89)).drew.cell? _ = _ from q1)))
            have HI5 := Lib.hid (HIY.out.copy HC.out hO5 hG5)
            have m0 : w5.cell? ⟨gm, 0, none⟩ = some (.int .i64 lo) := HI5.out.mg.cell 0
            have m1 : w5.cell? ⟨gm, 1, none⟩ = some (.int .i64 hi') := HI5.out.mg.cell 1
            have m2 : w5.frozen? ⟨gm, 0, none⟩ = false := HI5.out.mg.frozen 0
            have m3 : w5.frozen? ⟨gm, 1, none⟩ = false := HI5.out.mg.frozen 1
            have HN' := Lib.hid (HI5.out.merge HC.out lo2 hi2)
            clear hO5 hG5
            go_wp2
            go_roundw
            case rel =>
              refine ⟨i + 1, lyStep a e al ⟨fr, lo, hi', L, D2⟩ (xa, xb), lA, ln, lc, by omega, ?_, rfl, by go_num, Lib.hid ⟨HNEXT.out.1.symm, HNEXT.out.2, ?_⟩⟩
              · unfold lyStep; rw [if_neg HNO.out]; simp only [HF2.out]
              · unfold lyStep; rw [if_neg HNO.out, if_pos HV.out]; simp only [HL2.out, HH2.out]
                have hcp : cpy D2 al a fr xa = List.take fr D2 ++ List.take (xa - fr) (List.drop k al) ++ List.drop (fr + (xa - fr)) D2 := by
                  unfold cpy
                  rw [HKK.out, show fr + (xa - fr) = xa by have := HV.out; omega]
                rw [hcp]; exact HN'.out
            case measure => simp [intOf]; omega
          · have t3 : decide ((fr : Int) < (xa : Int)) = false := decide_eq_false (by omega)
            have t3n : decide (fr < xa) = false := decide_eq_false (by omega)
            have m0 : wr.cell? ⟨gm, 0, none⟩ = some (.int .i64 lo) := HR.out.2.2.mg.cell 0
            have m1 : wr.cell? ⟨gm, 1, none⟩ = some (.int .i64 hi') := HR.out.2.2.mg.cell 1
            have m2 : wr.frozen? ⟨gm, 0, none⟩ = false := HR.out.2.2.mg.frozen 0
            have m3 : wr.frozen? ⟨gm, 1, none⟩ = false := HR.out.2.2.mg.frozen 1
            have HN' := Lib.hid ((HR.out.2.2.merge HC.out lo2 hi2).alloc HC.out (.cells #[.int .i64 xa, .int .i64 xb] 89))
            have HV : Hid (¬ fr < xa) := Lib.hid (by omega)
            clear v
            go_wp2
            go_roundw
            case rel =>
              refine ⟨i + 1, lyStep a e al ⟨fr, lo, hi', L, D2⟩ (xa, xb), lA, ln, lc, by omega, ?_, rfl, by go_num, Lib.hid ⟨HNEXT.out.1.symm, HNEXT.out.2, ?_⟩⟩
              · unfold lyStep; rw [if_neg HNO.out]; simp only [HF2.out]
              · unfold lyStep; rw [if_neg HNO.out, if_neg HV.out]; simp only [HL2.out, HH2.out]; exact HN'.out
            case measure => simp [intOf]; omega
      · have hin : i = tn := by omega
        subst hin
        have HST : Hid (lyF a e al (lyD D e) S = s) := Lib.hid (by have := HR.out.1; rw [List.take_of_length_le (Nat.le_of_eq HSN.out)] at this; exact this.symm)
        obtain ⟨fr, lo, hi', L, D2⟩ := s
        simp only at HR
        obtain ⟨k1', k2', k3', k4', k5', k6'⟩ := HR.out.2.1
        simp only at k1' k2' k3' k4' k5' k6'
        have z1 : decide ((i : Int) < (i : Int)) = false := decide_eq_false (by omega)
        have z2 : decide (i < i) = false := decide_eq_false (by omega)
        have HIZ := Lib.hid HR.out.2.2
        have hln : ln ≤ 100000 := by have := HR.out.2.2.ls.len; rw [List.length_map] at this; omega
        have hln2 : ln + 1 ≤ 100000 := by have := HR.out.2.2.ls.len; rw [List.length_map] at this; omega
        rcases Nat.lt_or_ge fr e with v | v
        · have t3 : decide ((fr : Int) < (e : Int)) = true := decide_eq_true (by omega)
          have t3n : decide (fr < e) = true := decide_eq_true (by omega)
          obtain ⟨k, hk⟩ : ∃ k, fr - a = k := ⟨_, rfl⟩
          have e1 : IntKind.i64.wrap ((fr : Int) - (a : Int)) = (k : Int) := by rw [IntWalk.i64_in _ (by omega)]; omega
          have hc1 : n1 ≤ c1 := Ow.cap HR.out.2.2.ob
          have e3 : (fr : Int) ≤ (e : Int) := by omega
          have e4 : (e : Int) ≤ (c1 : Int) := by omega
          have e5 : (0 : Int) ≤ (fr : Int) := by omega
          have e6 : (0 : Int) ≤ (k : Int) := by omega
          have hank : k < an := by have := HE.out; omega
          have e7 : (k : Int) ≤ (an : Int) := by omega
          have e8 : ¬ ac = k := by omega
          have e9 : ¬ c1 = fr := by omega
          obtain ⟨ab, ao, haA, _, _⟩ := HR.out.2.2.rb (by rw [by8_length, HAL.out]; exact ha0)
          subst haA
          have HIY := Lib.hid HIZ.out.drew
          have hOb : OB 5 wr.drew 0 (some ⟨gd, 0, none⟩) n1 c1 D2 := HIY.out.ob
          have hrb := rb_from HIY.out.rb k
          have hsl : (al.drop k).length = an - k := by rw [List.length_drop, HAL.out]
          have hmp : 0 < e - fr := by omega
          have hms : e - fr ≤ an - k := by have := HE.out; omega
          have hoff : fr + (e - fr) ≤ n1 := by omega
          have s7 : wr.cell? ⟨g, 7, none⟩ = some (.slice (some ⟨gd, 0, none⟩) n1 c1) := HIZ.out.bk.cell 7
          have hgl7 : g < wr.drew.heap.size := HIY.out.bk.lt
          have hgg' := HC.out.h3
          have HV : Hid (fr < e) := Lib.hid v
          have HKK := Lib.hid hk
          clear v hk
          go_wp2
          go_region_held3 (fun w' => w'.cell? ⟨g, 7, none⟩ = some (.slice (some ⟨gd, 0, none⟩) n1 c1))
            (first | with_reducible assumption | go_keep)
            ((refine st_cpy8 rfl (.tmp 105) (.tmp 110) rfl 0 fr (e - fr) (c1 - fr) rfl hOb rfl hrb hsl hmp hms hoff ?_; intro w5 hO5 hG5; have s75 := kcell hG5 hgl7 (Ne.symm hgg') (show wr.drew.cell? _ = _ from s7)))
          have HI5 := Lib.hid (HIY.out.copy HC.out hO5 hG5)
          have HEQ : Hid (lyEnd a e al ⟨fr, lo, hi', L, D2⟩ = List.take fr D2 ++ List.take (e - fr) (List.drop k al) ++ List.drop (fr + (e - fr)) D2) := Lib.hid (by
            unfold lyEnd
            simp only
            rw [if_pos HV.out]
            unfold cpy
            rw [HKK.out, show fr + (e - fr) = e by have := HV.out; omega])
          clear hO5 hG5
          have hb0 := HI5.out.bk
          have HG := HI5
          have hlg : ∀ b, blk lA = some b → gm + 1 ≤ b := fun b hb => (HI5.out.ls.lt b hb).1
          have hh2 := HC.out.h2
          have hh4 := HC.out.h4
          have hgmw : gm + 1 ≤ w5.heap.size := HI5.out.mg.lt
          have n0 : w5.cell? ⟨gm, 0, none⟩ = some (.int .i64 lo) := HI5.out.mg.cell 0
          have n1' : w5.cell? ⟨gm, 1, none⟩ = some (.int .i64 hi') := HI5.out.mg.cell 1
          go_wp2_with (first
            | (at_builtin; refine ap_tm rfl (.tmp 113) (.tmp 115) rfl (gm + 1) rfl HI5.out.ls (spI (lo, hi')) rfl rfl hln hgmw ?_; intro g' c' w6 hT6 hG6 hor; have hb6 := hb0.grown hG6 (fun e => by have := hlg g e.symm; omega); have c86 : w6.cell? ⟨g, 8, none⟩ = some (.slice tA i tc) := hb6.cell 8; have f86 := hb6.frozen 8; have hg'1 := (hT6.lt g' rfl).1; have hG7 : w6.grownBy (w6.setCell ⟨g, 8, none⟩ (.slice (some ⟨g', 0, none⟩) (ln + 1) c')) (some g) := grownBy_setCell (World.grownBy.refl w6 (some g)) (.inl rfl) _; have hT7 := hT6.kept hG7 (.inr (fun e => by have h0 := (by simpa [blk] using e : g' = g); omega)))
            | (go_at_call 64; refine (sorts_sp (some ⟨g', 0, none⟩) (ln + 1) c' (gm + 1) _ _ hT7 hln2).mono ?_; rintro en w8 ⟨rfl, S', hp, hs, hT8, hG8⟩))
          go_end0
          exact ly_fin HG.out HC.out hG6 hg'1 hT8 hG8 hp hs HST.out rfl rfl rfl HEQ.out
        · have t3 : decide ((fr : Int) < (e : Int)) = false := decide_eq_false (by omega)
          have t3n : decide (fr < e) = false := decide_eq_false (by omega)
          have HEQ : Hid (lyEnd a e al ⟨fr, lo, hi', L, D2⟩ = D2) := Lib.hid (by
            unfold lyEnd
            simp only
            rw [if_neg (by omega)])
          clear v
          have hb0 := HIZ.out.bk
          have HG := HIZ
          have hlg : ∀ b, blk lA = some b → gm + 1 ≤ b := fun b hb => (HIZ.out.ls.lt b hb).1
          have hh2 := HC.out.h2
          have hh4 := HC.out.h4
          have hgmw : gm + 1 ≤ wr.heap.size := HIZ.out.mg.lt
          have n0 : wr.cell? ⟨gm, 0, none⟩ = some (.int .i64 lo) := HIZ.out.mg.cell 0
          have n1' : wr.cell? ⟨gm, 1, none⟩ = some (.int .i64 hi') := HIZ.out.mg.cell 1
          go_wp2_with (first
            | (at_builtin; refine ap_tm rfl (.tmp 113) (.tmp 115) rfl (gm + 1) rfl HIZ.out.ls (spI (lo, hi')) rfl rfl hln hgmw ?_; intro g' c' w6 hT6 hG6 hor; have hb6 := hb0.grown hG6 (fun e => by have := hlg g e.symm; omega); have c86 : w6.cell? ⟨g, 8, none⟩ = some (.slice tA i tc) := hb6.cell 8; have f86 := hb6.frozen 8; have hg'1 := (hT6.lt g' rfl).1; have hG7 : w6.grownBy (w6.setCell ⟨g, 8, none⟩ (.slice (some ⟨g', 0, none⟩) (ln + 1) c')) (some g) := grownBy_setCell (World.grownBy.refl w6 (some g)) (.inl rfl) _; have hT7 := hT6.kept hG7 (.inr (fun e => by have h0 := (by simpa [blk] using e : g' = g); omega)))
            | (go_at_call 64; refine (sorts_sp (some ⟨g', 0, none⟩) (ln + 1) c' (gm + 1) _ _ hT7 hln2).mono ?_; rintro en w8 ⟨rfl, S', hp, hs, hT8, hG8⟩))
          go_end0
          exact ly_fin HG.out HC.out hG6 hg'1 hT8 hG8 hp hs HST.out rfl rfl rfl HEQ.out
  · have hws : IntKind.i64.wrap ((e : Int) - (dn : Int)) = (e : Int) - (dn : Int) := IntWalk.i64_in _ (by omega)
    have hs1 : decide ((0 : Int) < (e : Int) - (dn : Int)) = false := decide_eq_false (by omega)
    have hs2 : ¬ (0 : Int) < (e : Int) - (dn : Int) := by omega
    have hen : e ≤ dn := y
    have hn16 : dn ≤ 65535 := hdn
    have hdn1 : dn ≤ dn := Nat.le_refl _
    obtain ⟨gd, rfl⟩ : ∃ gd, dA = some ⟨gd, 0, none⟩ := by
      rcases HD.out.cases_ with ⟨_, h, _⟩ | ⟨g', _, h, _⟩
      · have := HE.out; omega
      · exact ⟨g', h⟩
    have hgdl : gd < w.heap.size := (Ow.lt HD.out gd rfl).2
    have hlyD : lyD D e = D := by unfold lyD; rw [HDL.out, if_neg (by omega)]
    have HC : Hid (LyC w g gd w.heap.size tA aA (some ⟨gd, 0, none⟩) B) := Lib.hid ⟨hgdl, Nat.le_refl _, fun e => hdg (by rw [e]; rfl), hgl, htg, HDT.out gd rfl, fun b hb => (HT.out.lt b hb).2, .inl rfl, fun b hb => ⟨(HRA.out b hb).1, fun e => (HRA.out b hb).2 (by rw [e]; rfl), HRB.out b hb⟩, hB⟩
    have HI0 : Hid (LyI w (w.alloc (.cells #[.int .i64 a, .int .i64 e] 89)) g k0 k1 k2 k3 bg f fin gd dn dc tA tn tc S w.heap.size a e [] (lyD D e) none 0 0 B aA al (some ⟨gd, 0, none⟩)) := Lib.hid (ly_start HM.out (by rw [hlyD]; exact HD.out) HT.out (Chg.refl _ _) hB HR.out)
    have c28 : (w.alloc (.cells #[.int .i64 a, .int .i64 e] 89)).cell? ⟨g, 8, none⟩ = some (.slice tA tn tc) := (HM.out.alloc _).cell 8
    obtain ⟨gm, hgm⟩ : ∃ gm, w.heap.size = gm := ⟨_, rfl⟩
    obtain ⟨wl, hwl⟩ : ∃ wl, w.alloc (.cells #[.int .i64 a, .int .i64 e] 89) = wl := ⟨_, rfl⟩
    have HGM := Lib.hid hgm
    have HWL := Lib.hid hwl
    rw [hgm] at HC HI0
    rw [hwl] at HI0
    clear hgdl hlyD hgm hwl y
    go_enter Try.func46, Try.ntmps46
    go_wp2

    rw [HWL.out, HGM.out]
    rw [HWL.out] at c28
    have HSN : Hid (S.length = tn) := Lib.hid (by have := HT.out.len; rw [List.length_map] at this; exact this)
    have HSB : Hid (∀ x ∈ S, x.1 ≤ x.2 ∧ x.2 ≤ dn) := Lib.hid (fun x hx => ⟨(HS.out x hx).1, Nat.le_trans (HS.out x hx).2 hdn1⟩)
    have HLE : Hid (e = a + al.length) := Lib.hid (by rw [HAL.out]; exact HE.out.symm)
    have HR0 : Hid ((⟨a, a, e, [], lyD D e⟩ : LySt) = lyF a e al (lyD D e) (S.take 0) ∧ LyOk a e dn 0 ⟨a, a, e, [], lyD D e⟩ ∧ LyI w wl g k0 k1 k2 k3 bg f fin gd dn dc tA tn tc S gm a e [] (lyD D e) none 0 0 B aA al (some ⟨gd, 0, none⟩)) := Lib.hid ⟨rfl, LyOk.start (by omega) hen (HI0.out.ob.length), HI0.out⟩
    go_wp2
    go_loopw [8, 10, 44] (fun v8 v10 v44 wr => ∃ (i : Nat) (s : LySt) (lA : Option Addr) (ln lc : Nat), i ≤ tn ∧ v8 = .int .i64 s.fr ∧ v10 = .slice lA ln lc ∧ v44 = .int .i64 i ∧ Hid (s = lyF a e al (lyD D e) (S.take i) ∧ LyOk a e dn i s ∧ LyI w wr g k0 k1 k2 k3 bg f fin gd dn dc tA tn tc S gm s.lo s.hi s.L s.D lA ln lc B aA al (some ⟨gd, 0, none⟩))) (fun v8 v10 v44 _ => tn - (intOf v44).toNat)
    case atStart => exact ⟨0, _, none, 0, 0, Nat.zero_le _, rfl, rfl, rfl, HR0⟩
    case round =>
      obtain ⟨i, s, lA, ln, lc, hi, rfl, rfl, rfl, HR⟩ := hrel
      rcases Nat.lt_or_ge i tn with z | z
      · obtain ⟨⟨xa, xb⟩, hx⟩ : ∃ x, S[i]? = some x := ⟨_, List.getElem?_eq_getElem (by rw [HSN.out]; exact z)⟩
        obtain ⟨gt, htA, _, hgtl, x0, x1, _, _⟩ := HR.out.2.2.th.cell (k := i) (t := spI (xa, xb)) (by rw [List.getElem?_map, hx]; rfl)
        have hxb := HSB.out _ (List.mem_of_getElem? hx)
        simp only [spI] at x0 x1
        obtain ⟨fr, lo, hi', L, D2⟩ := s
        simp only at HR
        have HNEXT : Hid (lyF a e al (lyD D e) (S.take (i + 1)) = lyStep a e al ⟨fr, lo, hi', L, D2⟩ (xa, xb) ∧ LyOk a e dn (i + 1) (lyStep a e al ⟨fr, lo, hi', L, D2⟩ (xa, xb))) := Lib.hid ⟨by rw [lyF_succ hx, ← HR.out.1], HR.out.2.1.step HLE.out hen hxb⟩
        obtain ⟨k1', k2', k3', k4', k5', k6'⟩ := HR.out.2.1
        simp only at k1' k2' k3' k4' k5' k6' hxb
        have z' : (i : Int) < tn := by omega
        have HIX := Lib.hid (HR.out.2.2.alloc HC.out (.cells #[.int .i64 xa, .int .i64 xb] 89))
        have hbx : Bk (wr.alloc (.cells #[.int .i64 xa, .int .i64 xb] 89)) wr.heap.size 89 #[.int .i64 xa, .int .i64 xb] := Bk.new wr _ _
        have q0 : (wr.alloc (.cells #[.int .i64 xa, .int .i64 xb] 89)).cell? ⟨wr.heap.size, 0, none⟩ = some (.int .i64 xa) := hbx.cell 0
        have q1 : (wr.alloc (.cells #[.int .i64 xa, .int .i64 xb] 89)).cell? ⟨wr.heap.size, 1, none⟩ = some (.int .i64 xb) := hbx.cell 1
        have hgmr : gm < wr.heap.size := HR.out.2.2.mg.lt
        have hln : ln ≤ 100000 := by have := HR.out.2.2.ls.len; rw [List.length_map] at this; omega
        subst htA
        have HX := Lib.hid hx
        clear hx hbx
        rcases (by omega : xb < a ∨ (a ≤ xb ∧ e < xa) ∨ (a ≤ xb ∧ xa ≤ e)) with d | ⟨d, d2⟩ | ⟨d, d2⟩
        · have t1 : decide ((xb : Int) < (a : Int)) = true := decide_eq_true (by omega)
          have t1n : decide (xb < a) = true := decide_eq_true (by omega)
          have HD' : Hid (xb < a) := Lib.hid d
          clear d
          go_wp2_with (at_builtin; refine ap_tm2 rfl (.tmp 58) (.tmp 60) rfl (gm + 1) rfl HIX.out.ls (spI (xa, xb)) rfl _ (World.size_alloc _ _) rfl hln (by rw [World.size_alloc]; omega) ?_; intro g' c' w' hT' hG' hor)
          have HN' := Lib.hid (HIX.out.snoc HC.out (x := (xa, xb)) hT' hG')
          clear hT' hG' hor
          go_roundw
          case rel =>
            refine ⟨i + 1, lyStep a e al ⟨fr, lo, hi', L, D2⟩ (xa, xb), some ⟨g', 0, none⟩, ln + 1, c', by omega, ?_, rfl, by go_num, Lib.hid ⟨HNEXT.out.1.symm, HNEXT.out.2, ?_⟩⟩
            · unfold lyStep; rw [if_pos (.inl HD'.out)]
            · unfold lyStep; rw [if_pos (.inl HD'.out)]; exact HN'.out
          case measure => simp [intOf]; omega
        · have t1 : decide ((xb : Int) < (a : Int)) = false := decide_eq_false (by omega)
          have t1n : decide (xb < a) = false := decide_eq_false (by omega)
          have t2 : decide ((e : Int) < (xa : Int)) = true := decide_eq_true (by omega)
          have t2n : decide (e < xa) = true := decide_eq_true (by omega)
          have HD' : Hid (e < xa) := Lib.hid d2
          clear d d2
          go_wp2_with (at_builtin; refine ap_tm2 rfl (.tmp 58) (.tmp 60) rfl (gm + 1) rfl HIX.out.ls (spI (xa, xb)) rfl _ (World.size_alloc _ _) rfl hln (by rw [World.size_alloc]; omega) ?_; intro g' c' w' hT' hG' hor)
          have HN' := Lib.hid (HIX.out.snoc HC.out (x := (xa, xb)) hT' hG')
          clear hT' hG' hor
          go_roundw
          case rel =>
            refine ⟨i + 1, lyStep a e al ⟨fr, lo, hi', L, D2⟩ (xa, xb), some ⟨g', 0, none⟩, ln + 1, c', by omega, ?_, rfl, by go_num, Lib.hid ⟨HNEXT.out.1.symm, HNEXT.out.2, ?_⟩⟩
            · unfold lyStep; rw [if_pos (.inr HD'.out)]
            · unfold lyStep; rw [if_pos (.inr HD'.out)]; exact HN'.out
          case measure => simp [intOf]; omega
        · have t1 : decide ((xb : Int) < (a : Int)) = false := decide_eq_false (by omega)
          have t1n : decide (xb < a) = false := decide_eq_false (by omega)
          have t2 : decide ((e : Int) < (xa : Int)) = false := decide_eq_false (by omega)
          have t2n : decide (e < xa) = false := decide_eq_false (by omega)
          have hno : ¬ (xb < a ∨ e < xa) := by omega
          have HNO := Lib.hid hno
          obtain ⟨fr2, hfr2⟩ : ∃ v, max fr xb = v := ⟨_, rfl⟩
          obtain ⟨lo2, hlo2⟩ : ∃ v, min lo xa = v := ⟨_, rfl⟩
          obtain ⟨hi2, hhi2⟩ : ∃ v, max hi' xb = v := ⟨_, rfl⟩
          have yf : (if (fr : Int) < (xb : Int) then (xb : Int) else (fr : Int)) = (fr2 : Int) := by rw [← hfr2]; split <;> omega
          have yl : (if (xa : Int) < (lo : Int) then (xa : Int) else (lo : Int)) = (lo2 : Int) := by rw [← hlo2]; split <;> omega
          have yh : (if (hi' : Int) < (xb : Int) then (xb : Int) else (hi' : Int)) = (hi2 : Int) := by rw [← hhi2]; split <;> omega
          have ymf : max (fr : Int) (xb : Int) = (fr2 : Int) := by omega
          have yml : min (lo : Int) (xa : Int) = (lo2 : Int) := by omega
          have ymh : max (hi' : Int) (xb : Int) = (hi2 : Int) := by omega
          have yf2 : (if fr < xb then (xb : Int) else (fr : Int)) = (fr2 : Int) := by rw [← hfr2]; split <;> omega
          have yl2 : (if xa < lo then (xa : Int) else (lo : Int)) = (lo2 : Int) := by rw [← hlo2]; split <;> omega
          have yh2 : (if hi' < xb then (xb : Int) else (hi' : Int)) = (hi2 : Int) := by rw [← hhi2]; split <;> omega
          have HF2 := Lib.hid hfr2
          have HL2 := Lib.hid hlo2
          have HH2 := Lib.hid hhi2
          clear hfr2 hlo2 hhi2 hno d d2
          rcases Nat.lt_or_ge fr xa with v | v
          · have t3 : decide ((fr : Int) < (xa : Int)) = true := decide_eq_true (by omega)
            have t3n : decide (fr < xa) = true := decide_eq_true (by omega)
            obtain ⟨k, hk⟩ : ∃ k, fr - a = k := ⟨_, rfl⟩
            have e1 : IntKind.i64.wrap ((fr : Int) - (a : Int)) = (k : Int) := by rw [IntWalk.i64_in _ (by omega)]; omega
            have hc1 : dn ≤ dc := Ow.cap HR.out.2.2.ob
            have e3 : (fr : Int) ≤ (xa : Int) := by omega
            have e4 : (xa : Int) ≤ (dc : Int) := by omega
            have e5 : (0 : Int) ≤ (fr : Int) := by omega
            have e6 : (0 : Int) ≤ (k : Int) := by omega
            have hank : k < an := by have := HE.out; have := HNO.out; omega
            have e7 : (k : Int) ≤ (an : Int) := by omega
            have e8 : ¬ ac = k := by omega
            have e9 : ¬ dc = fr := by omega
            obtain ⟨ab, ao, haA, _, _⟩ := HR.out.2.2.rb (by rw [by8_length, HAL.out]; exact ha0)
            subst haA
            have HIY := Lib.hid HIX.out.drew
            have hOb : OB 5 (wr.alloc (.cells #[.int .i64 xa, .int .i64 xb] 89)).drew 0 (some ⟨gd, 0, none⟩) dn dc D2 := HIY.out.ob
            have hrb := rb_from HIY.out.rb k
            have hsl : (al.drop k).length = an - k := by rw [List.length_drop, HAL.out]
            have hmp : 0 < xa - fr := by omega
            have hms : xa - fr ≤ an - k := by have := HE.out; have := HNO.out; omega
            have hoff : fr + (xa - fr) ≤ dn := by omega
            have s7 : (wr.alloc (.cells #[.int .i64 xa, .int .i64 xb] 89)).cell? ⟨g, 7, none⟩ = some (.slice (some ⟨gd, 0, none⟩) dn dc) := HIX.out.bk.cell 7
            have hgl7 : g < (wr.alloc (.cells #[.int .i64 xa, .int .i64 xb] 89)).drew.heap.size := HIY.out.bk.lt
            have hgxl : wr.heap.size < (wr.alloc (.cells #[.int .i64 xa, .int .i64 xb] 89)).drew.heap.size := by show wr.heap.size < (wr.alloc _).heap.size; rw [World.size_alloc]; exact Nat.lt_succ_self _
            have hgdl : gd < wr.heap.size := by have := HC.out.h1; omega
            have hgg' := HC.out.h3
            have HV : Hid (fr < xa) := Lib.hid v
            have HKK := Lib.hid hk
            clear v hk
            go_wp2
            go_region_held3 (fun w' => w'.cell? ⟨g, 7, none⟩ = some (.slice (some ⟨gd, 0, none⟩) dn dc) ∧ w'.cell? ⟨wr.heap.size, 0, none⟩ = some (.int .i64 xa))
              (first | (with_reducible exact ⟨by assumption, by assumption⟩) | go_keep)
              ((refine st_cpy8 rfl (.tmp 73) (.tmp 78) rfl 0 fr (xa - fr) (dc - fr) rfl hOb rfl hrb hsl hmp hms hoff ?_; intro w5 hO5 hG5; have s75 := kcell hG5 hgl7 (Ne.symm hgg') (show (wr.alloc (.cells #[.int .i64 xa, .int .i64 xb] 89)).drew.cell? _ = _ from s7); have q05 := kcell hG5 hgxl (by omega) (show (wr.alloc (.cells #[.int .i64 xa, .int .i64 xb] 89)).drew.cell? _ = _ from q0); have q15 := kcell hG5 hgxl (by omega) (show (wr.alloc (.cells #[.int .i64 xa, .int .i64 xb] 89)).drew.cell? _ = _ from q1)))
            have HI5 := Lib.hid (HIY.out.copy HC.out hO5 hG5)
            have m0 : w5.cell? ⟨gm, 0, none⟩ = some (.int .i64 lo) := HI5.out.mg.cell 0
            have m1 : w5.cell? ⟨gm, 1, none⟩ = some (.int .i64 hi') := HI5.out.mg.cell 1
            have m2 : w5.frozen? ⟨gm, 0, none⟩ = false := HI5.out.mg.frozen 0
            have m3 : w5.frozen? ⟨gm, 1, none⟩ = false := HI5.out.mg.frozen 1
            have HN' := Lib.hid (HI5.out.merge HC.out lo2 hi2)
            clear hO5 hG5
            go_wp2
            go_roundw
            case rel =>
              refine ⟨i + 1, lyStep a e al ⟨fr, lo, hi', L, D2⟩ (xa, xb), lA, ln, lc, by omega, ?_, rfl, by go_num, Lib.hid ⟨HNEXT.out.1.symm, HNEXT.out.2, ?_⟩⟩
              · unfold lyStep; rw [if_neg HNO.out]; simp only [HF2.out]
              · unfold lyStep; rw [if_neg HNO.out, if_pos HV.out]; simp only [HL2.out, HH2.out]
                have hcp : cpy D2 al a fr xa = List.take fr D2 ++ List.take (xa - fr) (List.drop k al) ++ List.drop (fr + (xa - fr)) D2 := by
                  unfold cpy
                  rw [HKK.out, show fr + (xa - fr) = xa by have := HV.out; omega]
                rw [hcp]; exact HN'.out
            case measure => simp [intOf]; omega
          · have t3 : decide ((fr : Int) < (xa : Int)) = false := decide_eq_false (by omega)
            have t3n : decide (fr < xa) = false := decide_eq_false (by omega)
            have m0 : wr.cell? ⟨gm, 0, none⟩ = some (.int .i64 lo) := HR.out.2.2.mg.cell 0
            have m1 : wr.cell? ⟨gm, 1, none⟩ = some (.int .i64 hi') := HR.out.2.2.mg.cell 1
            have m2 : wr.frozen? ⟨gm, 0, none⟩ = false := HR.out.2.2.mg.frozen 0
            have m3 : wr.frozen? ⟨gm, 1, none⟩ = false := HR.out.2.2.mg.frozen 1
            have HN' := Lib.hid ((HR.out.2.2.merge HC.out lo2 hi2).alloc HC.out (.cells #[.int .i64 xa, .int .i64 xb] 89))
            have HV : Hid (¬ fr < xa) := Lib.hid (by omega)
            clear v
            go_wp2
            go_roundw
            case rel =>
              refine ⟨i + 1, lyStep a e al ⟨fr, lo, hi', L, D2⟩ (xa, xb), lA, ln, lc, by omega, ?_, rfl, by go_num, Lib.hid ⟨HNEXT.out.1.symm, HNEXT.out.2, ?_⟩⟩
              · unfold lyStep; rw [if_neg HNO.out]; simp only [HF2.out]
              · unfold lyStep; rw [if_neg HNO.out, if_neg HV.out]; simp only [HL2.out, HH2.out]; exact HN'.out
            case measure => simp [intOf]; omega
      · have hin : i = tn := by omega
        subst hin
        have HST : Hid (lyF a e al (lyD D e) S = s) := Lib.hid (by have := HR.out.1; rw [List.take_of_length_le (Nat.le_of_eq HSN.out)] at this; exact this.symm)
        obtain ⟨fr, lo, hi', L, D2⟩ := s
        simp only at HR
        obtain ⟨k1', k2', k3', k4', k5', k6'⟩ := HR.out.2.1
        simp only at k1' k2' k3' k4' k5' k6'
        have z1 : decide ((i : Int) < (i : Int)) = false := decide_eq_false (by omega)
        have z2 : decide (i < i) = false := decide_eq_false (by omega)
        have HIZ := Lib.hid HR.out.2.2
        have hln : ln ≤ 100000 := by have := HR.out.2.2.ls.len; rw [List.length_map] at this; omega
        have hln2 : ln + 1 ≤ 100000 := by have := HR.out.2.2.ls.len; rw [List.length_map] at this; omega
        rcases Nat.lt_or_ge fr e with v | v
        · have t3 : decide ((fr : Int) < (e : Int)) = true := decide_eq_true (by omega)
          have t3n : decide (fr < e) = true := decide_eq_true (by omega)
          obtain ⟨k, hk⟩ : ∃ k, fr - a = k := ⟨_, rfl⟩
          have e1 : IntKind.i64.wrap ((fr : Int) - (a : Int)) = (k : Int) := by rw [IntWalk.i64_in _ (by omega)]; omega
          have hc1 : dn ≤ dc := Ow.cap HR.out.2.2.ob
          have e3 : (fr : Int) ≤ (e : Int) := by omega
          have e4 : (e : Int) ≤ (dc : Int) := by omega
          have e5 : (0 : Int) ≤ (fr : Int) := by omega
          have e6 : (0 : Int) ≤ (k : Int) := by omega
          have hank : k < an := by have := HE.out; omega
          have e7 : (k : Int) ≤ (an : Int) := by omega
          have e8 : ¬ ac = k := by omega
          have e9 : ¬ dc = fr := by omega
          obtain ⟨ab, ao, haA, _, _⟩ := HR.out.2.2.rb (by rw [by8_length, HAL.out]; exact ha0)
          subst haA
          have HIY := Lib.hid HIZ.out.drew
          have hOb : OB 5 wr.drew 0 (some ⟨gd, 0, none⟩) dn dc D2 := HIY.out.ob
          have hrb := rb_from HIY.out.rb k
          have hsl : (al.drop k).length = an - k := by rw [List.length_drop, HAL.out]
          have hmp : 0 < e - fr := by omega
          have hms : e - fr ≤ an - k := by have := HE.out; omega
          have hoff : fr + (e - fr) ≤ dn := by omega
          have s7 : wr.cell? ⟨g, 7, none⟩ = some (.slice (some ⟨gd, 0, none⟩) dn dc) := HIZ.out.bk.cell 7
          have hgl7 : g < wr.drew.heap.size := HIY.out.bk.lt
          have hgg' := HC.out.h3
          have HV : Hid (fr < e) := Lib.hid v
          have HKK := Lib.hid hk
          clear v hk
          go_wp2
          go_region_held3 (fun w' => w'.cell? ⟨g, 7, none⟩ = some (.slice (some ⟨gd, 0, none⟩) dn dc))
            (first | with_reducible assumption | go_keep)
            ((refine st_cpy8 rfl (.tmp 105) (.tmp 110) rfl 0 fr (e - fr) (dc - fr) rfl hOb rfl hrb hsl hmp hms hoff ?_; intro w5 hO5 hG5; have s75 := kcell hG5 hgl7 (Ne.symm hgg') (show wr.drew.cell? _ = _ from s7)))
          have HI5 := Lib.hid (HIY.out.copy HC.out hO5 hG5)
          have HEQ : Hid (lyEnd a e al ⟨fr, lo, hi', L, D2⟩ = List.take fr D2 ++ List.take (e - fr) (List.drop k al) ++ List.drop (fr + (e - fr)) D2) := Lib.hid (by
            unfold lyEnd
            simp only
            rw [if_pos HV.out]
            unfold cpy
            rw [HKK.out, show fr + (e - fr) = e by have := HV.out; omega])
          clear hO5 hG5
          have hb0 := HI5.out.bk
          have HG := HI5
          have hlg : ∀ b, blk lA = some b → gm + 1 ≤ b := fun b hb => (HI5.out.ls.lt b hb).1
          have hh2 := HC.out.h2
          have hh4 := HC.out.h4
          have hgmw : gm + 1 ≤ w5.heap.size := HI5.out.mg.lt
          have n0 : w5.cell? ⟨gm, 0, none⟩ = some (.int .i64 lo) := HI5.out.mg.cell 0
          have dn' : w5.cell? ⟨gm, 1, none⟩ = some (.int .i64 hi') := HI5.out.mg.cell 1
          go_wp2_with (first
            | (at_builtin; refine ap_tm rfl (.tmp 113) (.tmp 115) rfl (gm + 1) rfl HI5.out.ls (spI (lo, hi')) rfl rfl hln hgmw ?_; intro g' c' w6 hT6 hG6 hor; have hb6 := hb0.grown hG6 (fun e => by have := hlg g e.symm; omega); have c86 : w6.cell? ⟨g, 8, none⟩ = some (.slice tA i tc) := hb6.cell 8; have f86 := hb6.frozen 8; have hg'1 := (hT6.lt g' rfl).1; have hG7 : w6.grownBy (w6.setCell ⟨g, 8, none⟩ (.slice (some ⟨g', 0, none⟩) (ln + 1) c')) (some g) := grownBy_setCell (World.grownBy.refl w6 (some g)) (.inl rfl) _; have hT7 := hT6.kept hG7 (.inr (fun e => by have h0 := (by simpa [blk] using e : g' = g); omega)))
            | (go_at_call 64; refine (sorts_sp (some ⟨g', 0, none⟩) (ln + 1) c' (gm + 1) _ _ hT7 hln2).mono ?_; rintro en w8 ⟨rfl, S', hp, hs, hT8, hG8⟩))
          go_end0
          exact ly_fin HG.out HC.out hG6 hg'1 hT8 hG8 hp hs HST.out rfl rfl rfl HEQ.out
        · have t3 : decide ((fr : Int) < (e : Int)) = false := decide_eq_false (by omega)
          have t3n : decide (fr < e) = false := decide_eq_false (by omega)
          have HEQ : Hid (lyEnd a e al ⟨fr, lo, hi', L, D2⟩ = D2) := Lib.hid (by
            unfold lyEnd
            simp only
            rw [if_neg (by omega)])
          clear v
          have hb0 := HIZ.out.bk
          have HG := HIZ
          have hlg : ∀ b, blk lA = some b → gm + 1 ≤ b := fun b hb => (HIZ.out.ls.lt b hb).1
          have hh2 := HC.out.h2
          have hh4 := HC.out.h4
          have hgmw : gm + 1 ≤ wr.heap.size := HIZ.out.mg.lt
          have n0 : wr.cell? ⟨gm, 0, none⟩ = some (.int .i64 lo) := HIZ.out.mg.cell 0
          have dn' : wr.cell? ⟨gm, 1, none⟩ = some (.int .i64 hi') := HIZ.out.mg.cell 1
          go_wp2_with (first
            | (at_builtin; refine ap_tm rfl (.tmp 113) (.tmp 115) rfl (gm + 1) rfl HIZ.out.ls (spI (lo, hi')) rfl rfl hln hgmw ?_; intro g' c' w6 hT6 hG6 hor; have hb6 := hb0.grown hG6 (fun e => by have := hlg g e.symm; omega); have c86 : w6.cell? ⟨g, 8, none⟩ = some (.slice tA i tc) := hb6.cell 8; have f86 := hb6.frozen 8; have hg'1 := (hT6.lt g' rfl).1; have hG7 : w6.grownBy (w6.setCell ⟨g, 8, none⟩ (.slice (some ⟨g', 0, none⟩) (ln + 1) c')) (some g) := grownBy_setCell (World.grownBy.refl w6 (some g)) (.inl rfl) _; have hT7 := hT6.kept hG7 (.inr (fun e => by have h0 := (by simpa [blk] using e : g' = g); omega)))
            | (go_at_call 64; refine (sorts_sp (some ⟨g', 0, none⟩) (ln + 1) c' (gm + 1) _ _ hT7 hln2).mono ?_; rintro en w8 ⟨rfl, S', hp, hs, hT8, hG8⟩))
          go_end0
          exact ly_fin HG.out HC.out hG6 hg'1 hT8 hG8 hp hs HST.out rfl rfl rfl HEQ.out
end Go.Proofs.Ytcjkhonapafndaa
