/- Proved: a reader is not hurt by a store into a block that holds no bytes; a struct is stored into a block of its own, or loaded from it, as a whole; bytes are copied to the middle of a block; returns of what lies in a block; what a change of one neighbour makes of a cache; what Send answers and what becomes. Conditions: as each law says. -/
import Derived.Deep.WholeRow
import Derived.Great.BuildSlice
import Derived.Laws.CopyOwn
import Derived.Laws.CopyRow
import Derived.Laws.IdiomCopy
import Derived.Test.YtaeafkdfbcppgaaGreatT07
import Derived.Test.YtaeafkdfbcppgaaGreatT11
set_option linter.unusedSectionVars false
set_option linter.unusedSimpArgs false
set_option linter.unusedVariables false
namespace Go.Proofs.YtaeafkdfbcppgaaGreat
open Go.RowKit
theorem Rd.kept {w w' : World} {base g : Nat} {l : List Int} {er : Int} {gm : Nat} {T : TypeId} {cs : Array Value} (h : Rd w base g l er) (hm : Bk w gm T cs) (h1 : T ≠ 287) (h2 : T ≠ 198) (h3 : T ≠ 5) (hg : w.grownBy w' (some gm)) :
  Rd w' base g l er := by
 obtain ⟨F, h0, hs, hF, A, n, c, hb, q2, q3, q4, q5, q6, q7⟩ := h
 have hk : ∀ b, b < w.heap.size → b ≠ gm → w'.heap[b]? = w.heap[b]? := fun b hl hb => hg.block b hl (by intro e; injection e with e; exact hb e)
 have hA : blk A ≠ some gm := fun e => by
  obtain ⟨cs', hc⟩ := q7 gm e
  unfold Bk at hm
  rw [hm] at hc
  injection hc with hc; injection hc with _ hc
  exact h3 hc
 refine ⟨F, h0, hs, ?_, A, n, c, (hk g hb.lt (Bk.ne_ hb hm (Ne.symm h1))).trans hb, q2, q3, q4, Rw.more (Rw.grownNe q5 hg (Nat.le_refl _) hA) hg.size, q6, q7.grown hg hA⟩
 rcases hF with hF | ⟨e, r1, r2, r3, r4⟩
 ·exact .inl hF
 ·exact .inr ⟨e, r1, r2, r3, (hk e r4.lt (Bk.ne_ r4 hm (Ne.symm h2))).trans r4⟩
theorem Rd.store {w : World} {base g : Nat} {l : List Int} {er : Int} {gm : Nat} {T : TypeId} {cs : Array Value} (h : Rd w base g l er) (hm : Bk w gm T cs) (h1 : T ≠ 287) (h2 : T ≠ 198) (h3 : T ≠ 5) (i : Nat) (v : Value) :
  Rd (w.setCell ⟨gm, i, none⟩ v) base g l er := h.kept hm h1 h2 h3 (grownBy_setCell (World.grownBy.refl w _) (.inl rfl) v)
open Go.RowKit
theorem bel_cell_ {B b o : Nat} {u : Value} {w w2 : World} (h : Below B w w2) (hb : b < B) (hc : w.cell? ⟨b, o, none⟩ = some u) : w2.cell? ⟨b, o, none⟩ = some u := (h.cell (p := ⟨b, o, none⟩) hb).trans hc
theorem bel_undr_ {B : Nat} {w w' : World} (h : Below B w.drew w') : Below B w w' := ⟨h.os, h.tape, h.output, h.size, h.block⟩
theorem grownBy_setRow (w : World) (g : Nat) (cs : Array Value) : w.grownBy (w.setRow g cs) (some g) :=
 ⟨rfl, rfl, rfl, by simp [World.setRow], fun k hk hne => setRow_other w g k cs (fun e => hne (by rw [e]))⟩
theorem setRow_bk_ {w : World} {g : Nat} {t : TypeId} {old c : Array Value} (h : Bk w g t old) : Bk (w.setRow g c) g t c := by
 have h' : w.heap[g]? = some (.cells old t (0, 0)) := h
 show (w.setRow g c).heap[g]? = some (.cells c t (0, 0))
 simp only [World.setRow]
 rw [Array.getElem?_modify, if_pos rfl, h']
 rfl
theorem Bk.range_ {w : World} {g : Nat} {t : TypeId} {cs : Array Value} (h : Bk w g t cs) : w.rangeAt g 0 cs.toList := fun j u hu => by
 rw [Nat.zero_add, h.cell j]
 simpa using hu
section
variable {ops : Array Oper} {rest : List Oper} {o : Oper} {a : Act} {w : World} {Q : Exit → Act → World → Prop}
theorem st_box (T : TypeId) (hgd : o.guard = none) (p x : Operand) (ho : o.op = .store T p x) (hd : o.dst = none) {g : Nat} (hp : a.eval p = .pointer (some ⟨g, 0, none⟩)) {cs : Array Value} (hy : a.eval x = .agg cs) {old : Array Value} (hb : Bk w g T old)
  (hi : (Tryz.prog.info? T).map (·.size) = some cs.size) (hs : old.size = cs.size) (h1 : cs.all (·.oneCell') = true)
  (h : ∀ w', Bk w' g T cs → w.grownBy w' (some g) → w'.heap.size = w.heap.size → wpList Tryz.prog ops Q rest a w') : wpList Tryz.prog ops Q (o :: rest) a w := by
 refine wpList_store_rowTo hgd _ p x ho hd g cs hp hy T old hb hi hs h1 ?_
 exact h _ (setRow_bk_ hb) (grownBy_setRow w g cs) (by simp [World.setRow])
theorem ld_box (T : TypeId) (d : TypeDesc) (hgd : o.guard = none) (x : Operand) (ho : o.op = .load T x) {g : Nat} (hx : a.eval x = .pointer (some ⟨g, 0, none⟩)) {t : TypeId} {cs : Array Value} (hb : Bk w g t cs)
  (hu : Tryz.prog.underlying T = some d) (hd : d.isRow = true) (hi : (Tryz.prog.info? T).map (·.size) = some cs.size)
  (h : wpList Tryz.prog ops Q rest (a.put o.dst (.agg cs)) w) : wpList Tryz.prog ops Q (o :: rest) a w := by
 refine wpList_load_mid hgd _ x ho g 0 hx cs.toList d hb.range_ hu hd (by simpa using hi) ?_
 simpa using h
end
theorem results_b1 {P : Program} {fn : Func} {p u : Tmp} {ty : TypeId} (h : fn.results = #[.cell p ty, .tmp u]) (tmps : Array Value) (w : World) (g : Nat) (t : TypeId) (cs : Array Value) (fr : Nat × Nat) (d : TypeDesc)
  (hp : tmps.getD p undef = .pointer (some ⟨g, 0, none⟩)) (hg : w.heap[g]? = some (.cells cs t fr))
  (hu : P.underlying ty = some d) (hd : (match d with | .struct _ | .array _ _ => true | _ => false) = true) (hi : (P.info? ty).map (·.size) = some cs.size) :
  (results fn tmps).run P w = .ok (.tuple #[.agg cs, tmps.getD u undef]) w := by
 have hp' : tmps[p]?.getD undef = .pointer (some ⟨g, 0, none⟩) := by simpa using hp
 simp [results, h, hp', asAddr, run_loadVar_row w g t ty cs fr d hg hu hd hi, Result.andThen]
section
variable {ops : Array Oper} {o : Oper} {a : Act} {w : World} {K : Act → World → Prop} {Q : Exit → Act → World → Prop} {E : Prop}
set_option maxRecDepth 100000 in
theorem cp8_any (hgd : o.guard = none) (d s : Operand) (dT : TypeId) (hu : Tryz.prog.underlying dT = some (.slice 5))
  (ho : o.op = .call { callee := .builtin .copy, args := #[d, s], argTypes := #[dT, 37] })
  {g off n dc : Nat} {t : TypeId} {cs : Array Value} (hd : a.eval d = .slice (some ⟨g, off, none⟩) n dc) (hg : Bk w g t cs)
  {A : Option Addr} {m c B : Nat} {l : List Int} (hs : a.eval s = .slice A m c) (hr : RB w B A l) (hm : l.length = m) (hn : m ≤ n) (hfit : off + m ≤ cs.size)
  (h : ∀ w', Bk w' g t (splice cs.toList off (by8 l)).toArray → w.grownBy w' (some g) → w'.heap.size = w.heap.size → K (a.put o.dst (goInt m)) w') :
  if Region.wanted o (yielded ops a.tmps) = true then Oper.wp Tryz.prog o a w K Q else E := by
 have hw : Region.wanted o (yielded ops a.tmps) = true := by simp [Region.wanted, hgd]
 rw [if_pos hw]
 rcases Nat.eq_zero_or_pos m with h0 | h0
 ·subst h0
  have hl : l = [] := List.eq_nil_of_length_eq_zero hm
  subst hl
  have hrun := run_copy_none (P := Tryz.prog) w dT 37 o.type 5 (some ⟨g, off, none⟩) A n dc 0 c hu (by kernel_rfl) (by simp)
  unfold Oper.wp
  simp [execOp, ho, resolve, invoke, builtin, hd, hs, hrun, Result.andThen]
  have h9 := h w (by simpa [splice, by8] using hg) (World.grownBy.refl w _) rfl
  exact h9
 ·obtain ⟨b, o2, rfl, _, _⟩ := hr.at_ (k := 0) (by omega)
  have hl : (by8 l).length = m := by rw [by8_length]; omega
  have hrun := run_copy_row (P := Tryz.prog) w dT 37 o.type 5 g off n dc ⟨b, o2, none⟩ m c cs t (by8 l) hu (by kernel_rfl) hg (by rw [hl]; exact (Nat.min_eq_left hn).symm) (fun j v hj => by
   have hj' : j < l.length := by
    rcases Nat.lt_or_ge j l.length with h1 | h1
    ·exact h1
    ·rw [List.getElem?_eq_none (by rw [by8_length]; exact h1)] at hj; cases hj
   obtain ⟨b', o', e, _, h3⟩ := Rw.at_ hr hj
   injection e with e; injection e with e1 e2; subst e1; subst e2
   rw [add_eq]; exact h3) (by rw [hl]; exact hfit) (by8_one l)
  unfold Oper.wp
  simp [execOp, ho, resolve, invoke, builtin, hd, hs, hrun, Result.andThen]
  have h9 := h (w.setRow g (splice cs.toList off (by8 l)).toArray) (setRow_heap w g _ _ t _ hg) (grownBy_setRow w g _) (by simp [World.setRow])
  rw [← hl] at h9
  exact h9
end
section
variable {ops : Array Oper} {o : Oper} {a : Act} {w : World} {K : Act → World → Prop} {Q : Exit → Act → World → Prop} {E : Prop}
end
structure RS0 (w0 : World) (base B g : Nat) (T : TypeId) (zr : Array Value) (A : Option Addr) (l : List Int) (er : Int) (W : World) : Prop where
 rd : Rd W base g l er
 ak : Bk W w0.heap.size T zr
 bl : Below w0.heap.size w0 W
 rb : ∀ l0, RB w0 B A l0 → RB W B A l0
 og : w0.heap.size < g ∧ base ≤ g ∧ B ≤ w0.heap.size
theorem RS0.lt {w0 W : World} {base B g : Nat} {T : TypeId} {zr : Array Value} {A : Option Addr} {l : List Int} {er : Int} (s : RS0 w0 base B g T zr A l er W) : base ≤ W.heap.size := Nat.le_trans s.og.2.1 (Nat.le_of_lt s.rd.lt)
theorem RS0.read {w0 W W' : World} {base B g : Nat} {T : TypeId} {zr : Array Value} {A : Option Addr} {l l' : List Int} {er er' : Int} (s : RS0 w0 base B g T zr A l er W) (hR : Rd W' base g l' er') (hg : W.grownBy W' (some g)) : RS0 w0 base B g T zr A l' er' W' := by
 have o := s.og
 have hb : Below w0.heap.size W W' := (Below.refl _ W).grown hg (Nat.le_of_lt (Nat.lt_trans o.1 s.rd.lt)) (by intro i e; injection e with e; omega)
 exact ⟨hR, s.ak.grown hg (by intro e; injection e with e; omega), s.bl.trans hb, fun l0 h0 => Rw.below (s.rb l0 h0) (hb.mono o.2.2), o⟩
theorem RS0.below {w0 W W' : World} {base B g : Nat} {T : TypeId} {zr : Array Value} {A : Option Addr} {l : List Int} {er : Int} (s : RS0 w0 base B g T zr A l er W) (hb : Below W.heap.size W W') : RS0 w0 base B g T zr A l er W' :=
 ⟨s.rd.below hb, s.ak.below hb s.ak.lt, s.bl.trans (hb.mono s.bl.size), fun l0 h0 => Rw.below (s.rb l0 h0) (hb.mono (Nat.le_trans s.og.2.2 s.bl.size)), s.og⟩
theorem RS0.kept {w0 W W' : World} {base B g gp : Nat} {T T' : TypeId} {zr row : Array Value} {A : Option Addr} {l : List Int} {er : Int} (s : RS0 w0 base B g T zr A l er W) (hm : Bk W gp T' row) (h1 : T' ≠ 287) (h2 : T' ≠ 198) (h3 : T' ≠ 5) (hp : w0.heap.size < gp) (hg : W.grownBy W' (some gp)) : RS0 w0 base B g T zr A l er W' := by
 have hb : Below w0.heap.size W W' := (Below.refl _ W).grown hg (Nat.le_of_lt (Nat.lt_trans s.og.1 s.rd.lt)) (by intro i e; injection e with e; omega)
 exact ⟨s.rd.kept hm h1 h2 h3 hg, s.ak.grown hg (by intro e; injection e with e; omega), s.bl.trans hb, fun l0 h0 => Rw.below (s.rb l0 h0) (hb.mono s.og.2.2), s.og⟩
theorem RS0.fin {w0 W W2 : World} {base B g : Nat} {T : TypeId} {zr : Array Value} {A : Option Addr} {l : List Int} {er : Int} (s : RS0 w0 base B g T zr A l er W) (g2 : W.grownBy W2 (some w0.heap.size)) : Below w0.heap.size w0 W2 :=
 s.bl.grown g2 s.bl.size (by intro i e; injection e with e; omega)
open Go.RowKit
variable {V : HV}
def putS (S : List En) (e' : En) : List En := S.map fun x => if x.a = e'.a then e' else x
theorem putS_enE {S : List En} {e e' : En} (hn : NoDup (S.map enE)) (he : e ∈ S) (ha : e'.a = e.a) (hp : e'.p = e.p) : (putS S e').map enE = S.map enE := by
 unfold putS
 rw [List.map_map]
 refine List.map_congr_left fun x hx => ?_
 simp only [Function.comp]
 split
 ·rename_i h
  have : x = e := en_inj hn hx he (by rw [h, ha])
  subst this
  unfold enE; rw [ha, hp]
 ·rfl
theorem putS_mem {S : List En} {e' x : En} (h : x ∈ putS S e') : x = e' ∨ (x ∈ S ∧ x.a ≠ e'.a) := by
 obtain ⟨y, hy, hx⟩ := List.mem_map.1 h
 split at hx
 ·exact .inl hx.symm
 ·rename_i h8; subst hx; exact .inr ⟨hy, h8⟩
theorem putS_length (S : List En) (e' : En) : (putS S e').length = S.length := by simp [putS]
theorem CacheMv.update {w w' : World} {F : Nat → Prop} {g : Nat} {mv : Option Nat} {S : List En} (h : CacheMv V w F g mv S) {e : En} (he : e ∈ S) {n' : Nb} {A' : Option Addr} {k' c' : Nat}
  (hC : Chg (fun b => b = e.p ∨ some b = blk e.A) w w') (hnb : Bk w' e.p 235 (nbC n' A' k' c'))
  (hws : ∃ vs, Of 37 w' 0 A' k' c' vs ∧ RowsAt w' (fun b => F b ∨ w.heap.size ≤ b) vs n'.ws) (hA : ∀ b, blk A' = some b → blk e.A = some b ∨ w.heap.size ≤ b) (h3 : n'.ws.length ≤ 3) (ht : 0 ≤ n'.tr ∧ n'.tr ≤ 3) :
  CacheMv V w' (fun b => F b ∨ w.heap.size ≤ b) g mv (putS S ⟨e.a, e.p, A', k', c', n'⟩) := by
 have hn : NoDup (S.map enE) := CacheAt.nodup ⟨mv, h⟩
 obtain ⟨h1, h2, h3', h4, h5, h6⟩ := h
 obtain ⟨e1, e2, ⟨es, e3, e4⟩, e5, e6, e7, e8⟩ := h4 e he
 have eA : ∀ b, blk e.A = some b → ∃ cs, w.heap[b]? = some (.cells cs 37 (0, 0)) := fun b hb => by
  rcases e3.2 with ⟨hA, _⟩ | ⟨g', off, cur, hA, _, hh, _⟩
  ·rw [hA] at hb; cases hb
  ·rw [hA] at hb
   have e2 : g' = b := by simpa [blk] using hb
   subst e2; exact ⟨_, hh⟩
 have clash : ∀ {b : Nat} {cs cs' : Array Value} {t t' : TypeId}, w.heap[b]? = some (.cells cs t (0, 0)) → w.heap[b]? = some (.cells cs' t' (0, 0)) → t = t' := fun h1 h2 => by
  rw [h1] at h2; injection h2 with h2; injection h2
 have stay : ∀ {b : Nat} {cs : Array Value} {t : TypeId}, w.heap[b]? = some (.cells cs t (0, 0)) → t ≠ 235 → t ≠ 37 → w'.heap[b]? = w.heap[b]? := fun {b cs t} hb n1 n2 => by
  refine hC.block b (Array.getElem?_eq_some_iff.1 hb).1 ?_
  rintro (rfl | hx)
  ·exact n1 (clash hb e1)
  ·obtain ⟨cs', h8⟩ := eA b hx.symm
   exact n2 (clash hb h8)
 have mapStay : ∀ b, mv = some b → w'.heap[b]? = w.heap[b]? := fun b hb => by
  obtain ⟨ms, clock, h8, _⟩ := h1.2.2 b hb
  refine hC.block b (h1.2.2 b hb).lt ?_
  rintro (rfl | hx)
  ·have h9 : w.heap[e.p]? = _ := e1; rw [h8] at h9; cases h9
  ·obtain ⟨cs', h9⟩ := eA b hx.symm; rw [h8] at h9; cases h9
 refine ⟨?_, .inl h2, fun b hb => .inl (h3' b hb), fun x hx => ?_, ?_, by rw [putS_length]; exact h6⟩
 ·rw [putS_enE (e' := ⟨e.a, e.p, A', k', c', n'⟩) hn he rfl rfl]
  exact h1.kept (stay h1.1 (by decide) (by decide)) mapStay
 ·rcases putS_mem hx with rfl | ⟨hx, hxa⟩
  ·exact ⟨hnb, .inl e2, hws, fun b hb => (hA b hb).imp (fun h => e5 b h) id, h3, e7, ht⟩
  ·obtain ⟨k1, k2, ⟨vs, k3, k4⟩, k5, k6⟩ := h4 x hx
   have hap : Apart e x := by
    have hne : e ≠ x := fun q => hxa (by rw [← q])
    obtain ⟨i, hi⟩ := List.getElem?_of_mem he
    obtain ⟨j, hj⟩ := List.getElem?_of_mem hx
    have hil := (List.getElem?_eq_some_iff.1 hi).1
    have hjl := (List.getElem?_eq_some_iff.1 hj).1
    have hi' := (List.getElem?_eq_some_iff.1 hi).2
    have hj' := (List.getElem?_eq_some_iff.1 hj).2
    have hp := List.pairwise_iff_getElem.1 h5
    rcases Nat.lt_trichotomy i j with q | q | q
    ·have := hp i j hil hjl q; rw [hi', hj'] at this; exact this
    ·subst q; rw [hi] at hj; injection hj with hj; exact absurd hj hne
    ·have := hp j i hjl hil q; rw [hi', hj'] at this; exact this.symm
   have hxp : w'.heap[x.p]? = w.heap[x.p]? := by
    refine hC.block x.p k1.lt ?_
    rintro (q | q)
    ·exact hap.1 q.symm
    ·obtain ⟨cs', h9⟩ := eA x.p q.symm
     exact absurd (clash (show w.heap[x.p]? = _ from k1) h9) (by decide)
   have hxA : ∀ b, blk x.A = some b → w'.heap[b]? = w.heap[b]? := fun b hb => by
    refine hC.block b (k3.lt b hb).2 ?_
    rintro (q | q)
    ·rcases k3.2 with ⟨hA, _⟩ | ⟨g', off, cur, hA, _, hh, _⟩
     ·rw [hA] at hb; cases hb
     ·rw [hA] at hb
      have e2 : g' = b := by simpa [blk] using hb
      subst e2
      rw [q] at hh
      exact absurd (clash (show w.heap[e.p]? = _ from e1) hh) (by decide)
    ·rcases hap.2 with q2 | q2
     ·rw [q2] at q; cases q
     ·exact q2 (by rw [← q, hb])
   have rows : ∀ {vs : List Value} {ls : List (List Int)}, RowsAt w F vs ls → RowsAt w' (fun b => F b ∨ w.heap.size ≤ b) vs ls := by
    intro vs
    induction vs with
    | nil => intro ls h; cases ls; exact trivial; exact h.elim
    | cons v vs ih =>
     intro ls h
     cases ls with
     | nil => exact h.elim
     | cons l ls =>
      refine ⟨?_, ih h.2⟩
      obtain ⟨A, n, c, rfl, r1, r2, r3⟩ := h.1
      refine ⟨A, n, c, rfl, ⟨r1.1, ?_⟩, fun b hb => .inl (r2 b hb), r3⟩
      rcases r1.2 with h4 | ⟨g', cap, cur, h4, h5, h6, h7⟩
      ·exact .inl h4
      ·exact .inr ⟨g', cap, cur, h4, h5, (stay h6 (by decide) (by decide)).trans h6, h7⟩
   exact ⟨hxp.trans k1, .inl k2, ⟨vs, k3.of_block hxA, rows k4⟩, fun b hb => .inl (k5 b hb), k6⟩
 ·unfold putS
  rw [List.pairwise_map]
  have hall : ∀ x ∈ S, ∀ y ∈ S, Apart x y → Apart (if x.a = e.a then (⟨e.a, e.p, A', k', c', n'⟩ : En) else x) (if y.a = e.a then (⟨e.a, e.p, A', k', c', n'⟩ : En) else y) := by
   have one : ∀ y ∈ S, Apart e y → Apart (⟨e.a, e.p, A', k', c', n'⟩ : En) y := fun y hy ha => by
    refine ⟨ha.1, ?_⟩
    cases hA' : blk A' with
    | none => exact .inl rfl
    | some b =>
     refine .inr fun q' => ?_
     rcases hA b hA' with q2 | q2
     ·rcases ha.2 with q3 | q3
      ·rw [q3] at q2; cases q2
      ·exact q3 (q2.trans q')
     ·obtain ⟨k1, k2, ⟨vs, k3, k4⟩, k5, k6⟩ := h4 y hy
      have := (k3.lt b q'.symm).2
      omega
   intro x hx y hy ha
   by_cases ex : x.a = e.a
   ·have : x = e := en_inj hn hx he ex
    subst this
    rw [if_pos rfl]
    by_cases ey : y.a = x.a
    ·have : y = x := en_inj hn hy he ey
     subst this; exact absurd rfl ha.1
    ·rw [if_neg ey]; exact one y hy ha
   ·rw [if_neg ex]
    by_cases ey : y.a = e.a
    ·have : y = e := en_inj hn hy he ey
     subst this
     rw [if_pos rfl]; exact (one x hx ha.symm).symm
    ·rw [if_neg ey]; exact ha
  exact List.Pairwise.imp_of_mem (fun {x y} hx hy h => hall x hx y hy h) h5
open Go.RowKit
variable {V : HV}
def toldC (kn : Bool) (m : Int × Int × Int × Int × Int × Int) (ask full : Bool) : Array Value :=
 #[.bool kn, .int .u8 m.1, .int .u8 m.2.1, .int .u8 m.2.2.1, .int .u8 m.2.2.2.1, .int .u8 m.2.2.2.2.1, .int .u8 m.2.2.2.2.2, .bool ask, .bool full]
def noMac : Int × Int × Int × Int × Int × Int := (0, 0, 0, 0, 0, 0)
def macOf (n : Nb) : Int × Int × Int × Int × Int × Int := (n.m0, n.m1, n.m2, n.m3, n.m4, n.m5)
def SendPost (V : HV) (w : World) (F : Nat → Prop) (g : Nat) (told : Array Value) (T' : List (Int × Nb)) (e : Ending) (w' : World) : Prop :=
 e = .returned (.agg told) ∧ ∃ S', CacheAt V w' (fun b => F b ∨ w.heap.size ≤ b) g S' ∧ absT S' = T' ∧ Chg F w w'
end Go.Proofs.YtaeafkdfbcppgaaGreat
