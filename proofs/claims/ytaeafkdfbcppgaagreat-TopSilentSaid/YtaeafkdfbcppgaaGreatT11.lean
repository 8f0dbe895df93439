/- Proved: how a cache of neighbours lies in memory, and what keeps it; a copy of bytes; what a removal, an insertion and a change of one neighbour make of a cache. Conditions: as each law says. -/
import Derived.Test.YtaeafkdfbcppgaaGreatT08
set_option linter.unusedSectionVars false
set_option linter.unusedSimpArgs false
set_option linter.unusedVariables false
namespace Go.Proofs.YtaeafkdfbcppgaaGreat
open Go.RowKit
variable {V : HV}
def RowAt (w : World) (F : Nat → Prop) (v : Value) (l : List Int) : Prop :=
 ∃ A n c, v = .slice A n c ∧ OB 5 w 0 A n c l ∧ (∀ b, blk A = some b → F b) ∧ Bs l ∧ n ≤ 140737488355328
def RowsAt (w : World) (F : Nat → Prop) : List Value → List (List Int) → Prop
 | [], [] => True
 | v :: vs, l :: ls => RowAt w F v l ∧ RowsAt w F vs ls
 | _, _ => False
section
variable {w w' : World} {F G : Nat → Prop}
theorem RowAt.keep {v : Value} {l : List Int} (h : RowAt w F v l) (hk : ∀ b, F b → b < w.heap.size → w'.heap[b]? = w.heap[b]?) (hFG : ∀ b, F b → G b) : RowAt w' G v l := by
 obtain ⟨A, n, c, rfl, h1, h2, h3⟩ := h
 refine ⟨A, n, c, rfl, ?_, fun b hb => hFG b (h2 b hb), h3⟩
 refine ⟨h1.1, ?_⟩
 rcases h1.2 with h4 | ⟨g, cap, cur, h4, h5, h6, h7⟩
 ·exact .inl h4
 ·have e := (Value.slice.inj h4).1
  have hb : blk A = some g := by rw [e]; rfl
  exact .inr ⟨g, cap, cur, h4, h5, (hk g (h2 g hb) (Ow.lt h1 g hb).2).trans h6, h7⟩
theorem RowsAt.keep : ∀ {vs : List Value} {ls : List (List Int)}, RowsAt w F vs ls → (∀ b, F b → b < w.heap.size → w'.heap[b]? = w.heap[b]?) → (∀ b, F b → G b) → RowsAt w' G vs ls
 | [], [], _, _, _ => trivial
 | v :: vs, l :: ls, h, hk, hG => ⟨h.1.keep hk hG, RowsAt.keep h.2 hk hG⟩
 | [], _ :: _, h, _, _ => h.elim
 | _ :: _, [], h, _, _ => h.elim
theorem RowsAt.length : ∀ {vs : List Value} {ls : List (List Int)}, RowsAt w F vs ls → vs.length = ls.length
 | [], [], _ => rfl
 | v :: vs, l :: ls, h => by simp [RowsAt.length h.2]
 | [], _ :: _, h => h.elim
 | _ :: _, [], h => h.elim
theorem RowsAt.snoc : ∀ {vs : List Value} {ls : List (List Int)}, RowsAt w F vs ls → ∀ {v : Value} {l : List Int}, RowAt w F v l → RowsAt w F (vs ++ [v]) (ls ++ [l])
 | [], [], _, _, _, h => ⟨h, trivial⟩
 | v :: vs, l :: ls, h, _, _, k => ⟨h.1, RowsAt.snoc h.2 k⟩
 | [], _ :: _, h, _, _, _ => h.elim
 | _ :: _, [], h, _, _, _ => h.elim
theorem RowsAt.at_ : ∀ {vs : List Value} {ls : List (List Int)}, RowsAt w F vs ls → ∀ {i : Nat} {v : Value} {l : List Int}, vs[i]? = some v → ls[i]? = some l → RowAt w F v l
 | [], [], _, i, _, _, h, _ => by simp at h
 | v :: vs, l :: ls, h, 0, _, _, h1, h2 => by simp at h1 h2; subst h1; subst h2; exact h.1
 | v :: vs, l :: ls, h, i + 1, _, _, h1, h2 => by simp at h1 h2; exact RowsAt.at_ h.2 h1 h2
 | [], _ :: _, h, _, _, _, _, _ => h.elim
 | _ :: _, [], h, _, _, _, _, _ => h.elim
def EnAt (w : World) (F : Nat → Prop) (e : En) : Prop :=
 NbBk w e ∧ F e.p ∧ (∃ vs, Of 37 w 0 e.A e.k e.c vs ∧ RowsAt w F vs e.n.ws) ∧ (∀ b, blk e.A = some b → F b) ∧ e.n.ws.length ≤ 3 ∧ okA e.a ∧ 0 ≤ e.n.tr ∧ e.n.tr ≤ 3
theorem EnAt.keep {e : En} (h : EnAt w F e) (hk : ∀ b, F b → b < w.heap.size → w'.heap[b]? = w.heap[b]?) (hFG : ∀ b, F b → G b) : EnAt w' G e := by
 obtain ⟨h1, h2, ⟨vs, h3, h4⟩, h5, h6⟩ := h
 exact ⟨(hk _ h2 h1.lt).trans h1, hFG _ h2, ⟨vs, h3.of_block (fun g hg => hk g (h5 g hg) (h3.lt g hg).2), h4.keep hk hFG⟩, fun b hb => hFG b (h5 b hb), h6⟩
def Apart (e x : En) : Prop := e.p ≠ x.p ∧ (blk e.A = none ∨ blk e.A ≠ blk x.A)
theorem Apart.symm {e x : En} (h : Apart e x) : Apart x e := ⟨h.1.symm, by
 rcases h.2 with h2 | h2
 ·cases hx : blk x.A with
  | none => exact .inl rfl
  | some b => rw [h2]; exact .inr (by simp)
 ·exact .inr h2.symm⟩
def CacheMv (V : HV) (w : World) (F : Nat → Prop) (g : Nat) (mv : Option Nat) (S : List En) : Prop :=
 MapAt V w g mv (S.map enE) ∧ F g ∧ (∀ b, mv = some b → F b) ∧ (∀ e ∈ S, EnAt w F e) ∧ S.Pairwise Apart ∧ S.length ≤ 16
def CacheAt (V : HV) (w : World) (F : Nat → Prop) (g : Nat) (S : List En) : Prop := ∃ mv, CacheMv V w F g mv S
theorem CacheMv.keep {g : Nat} {mv : Option Nat} {S : List En} (h : CacheMv V w F g mv S) (hk : ∀ b, F b → b < w.heap.size → w'.heap[b]? = w.heap[b]?) (hFG : ∀ b, F b → G b) : CacheMv V w' G g mv S := by
 obtain ⟨h1, h2, h3, h4, h5⟩ := h
 exact ⟨h1.kept (hk g h2 h1.1.lt) (fun b hb => hk b (h3 b hb) (h1.2.2 b hb).lt), hFG g h2, fun b hb => hFG b (h3 b hb), fun e he => (h4 e he).keep hk hFG, h5⟩
theorem CacheAt.keep {g : Nat} {S : List En} (h : CacheAt V w F g S) (hk : ∀ b, F b → b < w.heap.size → w'.heap[b]? = w.heap[b]?) (hFG : ∀ b, F b → G b) : CacheAt V w' G g S := by
 obtain ⟨mv, h1, h2, h3, h4, h5⟩ := h
 exact ⟨mv, h1.kept (hk g h2 h1.1.lt) (fun b hb => hk b (h3 b hb) (h1.2.2 b hb).lt), hFG g h2, fun b hb => hFG b (h3 b hb), fun e he => (h4 e he).keep hk hFG, h5⟩
theorem CacheAt.below {g : Nat} {S : List En} (h : CacheAt V w F g S) (hb : Below w.heap.size w w') : CacheAt V w' F g S := h.keep (fun b _ hl => hb.block b hl) (fun _ h => h)
theorem CacheAt.new {g : Nat} (h : Bk w g 164 (hostC { V with near := .map none })) (hF : F g) : CacheAt V w F g [] :=
 ⟨none, ⟨h, fun _ => rfl, (fun b e => by cases e)⟩, hF, (fun b e => by cases e), (fun e he => by cases he), List.Pairwise.nil, Nat.zero_le _⟩
end
def absT (S : List En) : List (Int × Nb) := S.map fun e => (e.a, e.n)
theorem clone_any (A : Option Addr) (n c B : Nat) (l : List Int) (hn : l.length = n) (hmax : n ≤ 140737488355328) (w : World) (hr : RB w B A l) (hB : B ≤ w.heap.size) :
  Calls Tryz.prog 26 #[.slice A n c] w fun e w' => ∃ A' n' c', e = .returned (.slice A' n' c') ∧ OB 5 w' w.heap.size A' n' c' l ∧ Below w.heap.size w w' := by
 have HN := Lib.hid hn
 clear hn
 have qs : ∀ (w : World) (a : Option Addr) (n c n' c' : Nat), (binOp .eql 37 (.slice a n c) (.slice none n' c')).run Tryz.prog w = .ok (.bool a.isNone) w := fun w a n c n' c' => Lib.run_eql_slice_nil w _ _ a n c n' c' Tryz.underlying37
 rcases A with _ | a
 ·have hl : n = 0 := by
   rcases Nat.eq_zero_or_pos l.length with h0 | h0
   ·rw [← HN.out]; exact h0
   ·obtain ⟨_, _, h, _⟩ := hr (by rw [by8_length]; exact h0); cases h
  subst hl
  have hl0 := Lib.hid (List.eq_nil_of_length_eq_zero HN.out)
  go_enter Tryz.func26, Tryz.ntmps26
  go_wp2
  go_ret
  exact ⟨none, 0, 0, rfl, by rw [hl0.out]; exact Ow.none_ _ _ _, Below.refl _ _⟩
 ·go_enter Tryz.func26, Tryz.ntmps26
  go_wp2_with (at_builtin; refine ap8_new rfl (.tmp 5) (.tmp 6) rfl rfl rfl hr hB HN.out (by omega) ?_; intro A1 c1 w1 hO1 hB1 hz1 hc1)
  go_ret
  exact ⟨A1, n, c1, rfl, hO1, hB1⟩
open Go.RowKit
variable {V : HV}
theorem CacheAt.nodup {w : World} {F : Nat → Prop} {g : Nat} {S : List En} (h : CacheAt V w F g S) : NoDup (S.map enE) := by
 obtain ⟨mv, h1, h2, h3, h4, h5⟩ := h
 rcases mv with _ | b
 ·rw [h1.2.1 rfl]; exact List.nodup_nil
 ·exact (h1.2.2 b rfl).nodup
theorem NoDup.keys {S : List En} (h : NoDup (S.map enE)) : (S.map (·.a)).Nodup := by
 unfold NoDup at h
 rw [List.map_map] at h
 exact h
theorem getL_enE {S : List En} {e : En} (hn : NoDup (S.map enE)) (he : e ∈ S) : getL (S.map enE) e.a = some (ptr e.p) :=
 getL_of_mem (p := enE e) hn (List.mem_map.2 ⟨e, he, rfl⟩)
theorem getL_enE_none {S : List En} {a : Int} (h : ∀ e ∈ S, e.a ≠ a) : getL (S.map enE) a = none :=
 getL_none fun p hp => by obtain ⟨e, he, rfl⟩ := List.mem_map.1 hp; exact h e he
theorem delL_enE {S : List En} {a : Int} (hn : NoDup (S.map enE)) : delL (S.map enE) a = (S.filter fun e => decide (e.a ≠ a)).map enE := by
 rw [delL_filter hn, List.filter_map]; rfl
theorem putL_enE {S : List En} {e : En} (h : ∀ x ∈ S, x.a ≠ e.a) : putL (S.map enE) e.a (ptr e.p) = (S ++ [e]).map enE := by
 rw [putL_new fun p hp => by obtain ⟨x, hx, rfl⟩ := List.mem_map.1 hp; exact h x hx]
 simp [enE]
theorem CacheAt.remove {w w' : World} {F : Nat → Prop} {g : Nat} {S : List En} {mv : Option Nat} {a : Int} (h1 : MapAt V w g mv (S.map enE)) (hg : F g) (hm : ∀ b, mv = some b → F b) (hS : ∀ e ∈ S, EnAt w F e) (hp : S.Pairwise Apart) (hl : S.length ≤ 16)
  (hn : NoDup (S.map enE)) (h' : MapAt V w' g mv (delL (S.map enE) a)) (hc : Chg (fun x => mv = some x) w w') : CacheMv V w' F g mv (S.filter fun e => decide (e.a ≠ a)) := by
 rw [delL_enE hn] at h'
 refine ⟨h', hg, hm, fun e he => ?_, hp.sublist List.filter_sublist, Nat.le_trans (List.length_filter_le _ _) hl⟩
 have he' := (List.mem_filter.1 he).1
 have hE := hS e he'
 have hne : ∀ b, b < w.heap.size → (∃ cs t, w.heap[b]? = some (.cells cs t (0, 0))) → mv ≠ some b := by
  rintro b _ ⟨cs, t, hb⟩ e
  obtain ⟨es, clock, h3, _⟩ := h1.2.2 b e
  rw [hb] at h3; cases h3
 obtain ⟨k1, k2, ⟨vs, k3, k4⟩, k5, k6⟩ := hE
 refine ⟨(hc.block e.p k1.lt (hne e.p k1.lt ⟨_, _, k1⟩)).trans k1, k2, ⟨vs, k3.of_block (fun b hb => ?_), ?_⟩, k5, k6⟩
 ·refine hc.block b (k3.lt b hb).2 (hne b (k3.lt b hb).2 ?_)
  rcases k3.2 with ⟨hA, _⟩ | ⟨g', off, cur, hA, _, hh, _⟩
  ·rw [hA] at hb; cases hb
  ·rw [hA] at hb
   have e2 : g' = b := by simpa [blk] using hb
   subst e2; exact ⟨_, _, hh⟩
 ·have key : ∀ {vs : List Value} {ls : List (List Int)}, RowsAt w F vs ls → RowsAt w' F vs ls := by
   intro vs
   induction vs with
   | nil => intro ls h; cases ls; exact trivial; exact h.elim
   | cons v vs ih =>
    intro ls h
    cases ls with
    | nil => exact h.elim
    | cons l ls =>
     refine ⟨?_, ih h.2⟩
     obtain ⟨A, n, c, rfl, r1, r2, r3⟩ := h.1
     refine ⟨A, n, c, rfl, ⟨r1.1, ?_⟩, r2, r3⟩
     rcases r1.2 with h4 | ⟨g', cap, cur, h4, h5, h6, h7⟩
     ·exact .inl h4
     ·have e := (Value.slice.inj h4).1
      have hb : blk A = some g' := by rw [e]; rfl
      have hlt := (Ow.lt r1 g' hb).2
      exact .inr ⟨g', cap, cur, h4, h5, (hc.block g' hlt (hne g' hlt ⟨_, _, h6⟩)).trans h6, h7⟩
  exact key k4
def newNb (now : Int) (l : List Int) : Nb := ⟨false, 0, 0, 0, 0, 0, 0, laterP now 10, 1, [l]⟩
theorem CacheAt.insert {w w1 w' : World} {F : Nat → Prop} {g : Nat} {S : List En} {mv : Option Nat} {a : Int} {nb : Nb} {A : Option Addr} {k c : Nat} {e : Ending} (h1 : MapAt V w g mv (S.map enE)) (hg : F g) (hm : ∀ b, mv = some b → F b) (hS : ∀ e ∈ S, EnAt w F e) (hp : S.Pairwise Apart) (hl : S.length ≤ 15)
  (ha : ∀ x ∈ S, x.a ≠ a) (p : Nat) (hB : Below w.heap.size w w1) (hpn : w.heap.size ≤ p) (hnb : Bk w1 p 235 (nbC nb A k c)) (hws : ∃ vs, Of 37 w1 0 A k c vs ∧ RowsAt w1 (fun b => F b ∨ w.heap.size ≤ b) vs nb.ws) (hAn : ∀ b, blk A = some b → w.heap.size ≤ b) (h3 : nb.ws.length ≤ 3) (hoa : okA a) (ht : 0 ≤ nb.tr ∧ nb.tr ≤ 3)
  (hL : LayPost V a p g mv (S.map enE) w1 e w') : CacheAt V w' (fun b => F b ∨ w.heap.size ≤ b) g (S ++ [⟨a, p, A, k, c, nb⟩]) ∧ Chg F w w' := by
 obtain ⟨_, b, hM, hb, hC⟩ := hL
 have hlt1 := hB.size
 have hgl := h1.1.lt
 have hgne : ∀ x, x < w1.heap.size → (∃ cs, w1.heap[x]? = some (.cells cs 235 (0, 0)) ∨ w1.heap[x]? = some (.cells cs 37 (0, 0)) ∨ w1.heap[x]? = some (.cells cs 5 (0, 0))) → ¬ (x = g ∨ mv = some x) := by
  rintro x hx ⟨cs, hh⟩ (rfl | hmx)
  ·have h9 : w1.heap[x]? = _ := (hB.block x hgl).trans h1.1
   rcases hh with hh | hh | hh <;> rw [h9] at hh <;> injection hh with hh <;> injection hh with _ hh <;> exact absurd hh (by decide)
  ·obtain ⟨es, clock, h8, _⟩ := h1.2.2 x hmx
   have h9 : w1.heap[x]? = _ := (hB.block x (h1.2.2 x hmx).lt).trans h8
   rcases hh with hh | hh | hh <;> rw [h9] at hh <;> cases hh
 have rows : ∀ {vs : List Value} {ls : List (List Int)}, RowsAt w1 (fun b => F b ∨ w.heap.size ≤ b) vs ls → RowsAt w' (fun b => F b ∨ w.heap.size ≤ b) vs ls := by
  intro vs
  induction vs with
  | nil => intro ls h; cases ls; exact trivial; exact h.elim
  | cons v vs ih =>
   intro ls h
   cases ls with
   | nil => exact h.elim
   | cons l ls =>
    refine ⟨?_, ih h.2⟩
    obtain ⟨A, n, c, rfl, r1, r2, r3⟩ := h.1
    refine ⟨A, n, c, rfl, ⟨r1.1, ?_⟩, r2, r3⟩
    rcases r1.2 with h4 | ⟨g', cap, cur, h4, h5, h6, h7⟩
    ·exact .inl h4
    ·have e := (Value.slice.inj h4).1
     have hb : blk A = some g' := by rw [e]; rfl
     have hlt := (Ow.lt r1 g' hb).2
     exact .inr ⟨g', cap, cur, h4, h5, (hC.block g' hlt (hgne g' hlt ⟨_, .inr (.inr h6)⟩)).trans h6, h7⟩
 have ofs : ∀ {A : Option Addr} {k c : Nat} {vs : List Value}, Of 37 w1 0 A k c vs → Of 37 w' 0 A k c vs := by
  intro A k c vs h
  refine h.of_block fun b hb => ?_
  have hlt := (h.lt b hb).2
  refine hC.block b hlt (hgne b hlt ?_)
  rcases h.2 with ⟨hA, _⟩ | ⟨g', off, cur, hA, _, hh, _⟩
  ·rw [hA] at hb; cases hb
  ·rw [hA] at hb
   have e2 : g' = b := by simpa [blk] using hb
   subst e2; exact ⟨_, .inr (.inl hh)⟩
 have ens : ∀ x ∈ S, EnAt w' (fun b => F b ∨ w.heap.size ≤ b) x := fun x hx => by
  obtain ⟨k1, k2, ⟨vs, k3, k4⟩, k5, k6⟩ := (hS x hx).keep (w' := w1) (G := fun b => F b ∨ w.heap.size ≤ b) (fun b _ hl => hB.block b hl) (fun b h => .inl h)
  exact ⟨(hC.block x.p k1.lt (hgne x.p k1.lt ⟨_, .inl k1⟩)).trans k1, k2, ⟨vs, ofs k3, rows k4⟩, k5, k6⟩
 refine ⟨⟨some b, ?_, .inl hg, fun b' e => ?_, fun x hx => ?_, ?_, by simp; omega⟩, (Chg.of_below hB).trans hC (fun x hx => ?_)⟩
 ·have := putL_enE (S := S) (e := ⟨a, p, A, k, c, nb⟩) ha
  simp only at this
  rw [← this]; exact hM
 ·injection e with e; subst e
  rcases hb with hb | ⟨_, hb⟩
  ·exact .inl (hm _ hb)
  ·exact .inr (by omega)
 ·rcases List.mem_append.1 hx with hx | hx
  ·exact ens x hx
  ·simp only [List.mem_singleton] at hx
   subst hx
   obtain ⟨vs, k3, k4⟩ := hws
   exact ⟨(hC.block p hnb.lt (hgne p hnb.lt ⟨_, .inl hnb⟩)).trans hnb, .inr hpn, ⟨vs, ofs k3, rows k4⟩, fun b hb => .inr (hAn b hb), h3, hoa, ht⟩
 ·refine List.pairwise_append.2 ⟨hp, List.pairwise_singleton _ _, fun x hx y hy => ?_⟩
  simp only [List.mem_singleton] at hy
  subst hy
  obtain ⟨k1, k2, ⟨vs, k3, k4⟩, k5, k6⟩ := hS x hx
  refine ⟨fun e => by have := k1.lt; simp only at e; omega, ?_⟩
  cases hA : blk x.A with
  | none => exact .inl rfl
  | some b =>
   refine .inr fun e => ?_
   have h8 := (k3.lt b hA).2
   have h9 := hAn b e.symm
   omega
 ·rcases hx with rfl | hx
  ·exact .inl hg
  ·exact .inl (hm x hx)
theorem CacheAt.cap {w : World} {F : Nat → Prop} {g : Nat} {S : List En} (h : CacheAt V w F g S) : CacheAt V w (fun b => F b ∧ b < w.heap.size) g S := by
 obtain ⟨mv, h1, h2, h3, h4, h5⟩ := h
 refine ⟨mv, h1, ⟨h2, h1.1.lt⟩, fun b hb => ⟨h3 b hb, (h1.2.2 b hb).lt⟩, fun e he => ?_, h5⟩
 obtain ⟨k1, k2, ⟨vs, k3, k4⟩, k5, k6⟩ := h4 e he
 have rows : ∀ {vs : List Value} {ls : List (List Int)}, RowsAt w F vs ls → RowsAt w (fun b => F b ∧ b < w.heap.size) vs ls := by
  intro vs
  induction vs with
  | nil => intro ls h; cases ls; exact trivial; exact h.elim
  | cons v vs ih =>
   intro ls h
   cases ls with
   | nil => exact h.elim
   | cons l ls =>
    obtain ⟨A, n, c, rfl, r1, r2, r3⟩ := h.1
    exact ⟨⟨A, n, c, rfl, r1, fun b hb => ⟨r2 b hb, (Ow.lt r1 b hb).2⟩, r3⟩, ih h.2⟩
 exact ⟨k1, ⟨k2, k1.lt⟩, ⟨vs, k3, rows k4⟩, fun b hb => ⟨k5 b hb, (k3.lt b hb).2⟩, k6⟩
theorem MapAt.look {w : World} {g : Nat} {mv : Option Nat} {L : List (Int × Value)} (h : MapAt V w g mv L) {a : Int} (ha : okA a) :
  (Instr.lookup mapT (.map mv) (.int .u32 a) false).run Tryz.prog w = .ok ((getL L a).getD (.pointer none)) w := by
 rcases mv with _ | b
 ·rw [h.2.1 rfl]
  exact look_nil_ (mk := mkA) keyA mapU (zeroE w) ha false
 ·exact (h.2.2 b rfl).look keyA mapU (zeroE w) ha false
theorem Chg.no {w w' : World} (h : Chg (fun _ => False) w w') : Below w.heap.size w w' := h.below (fun _ e => e.elim) (Nat.le_refl _)
theorem CacheAt.chg {w w' : World} {F G : Nat → Prop} {g : Nat} {S : List En} (h : CacheAt V w F g S) (hc : Chg G w w') (hFG : ∀ b, F b → ¬ G b) : CacheAt V w' F g S := h.keep (fun b hF hl => hc.block b hl (hFG b hF)) (fun _ h => h)
theorem CacheAt.mono {w : World} {F G : Nat → Prop} {g : Nat} {S : List En} (h : CacheAt V w F g S) (hFG : ∀ b, F b → G b) : CacheAt V w G g S := h.keep (fun _ _ _ => rfl) hFG
theorem CacheMv.send {w2 w4 w5 : World} {F : Nat → Prop} {g t : Nat} {S : List En} {mv : Option Nat} {a now : Int} {l : List Int} {Ao : Option Addr} {no co : Nat} {e : Ending} (h : CacheMv V w2 F g mv S) (hl : S.length ≤ 15) (ha : ∀ x ∈ S, x.a ≠ a) (hoa : okA a)
  (hrow : RowAt w2 F (.slice Ao no co) l)
  (hL : LayPost V a (w2.heap.size + 1) g mv (S.map enE) ((w2.alloc (.cells #[.slice Ao no co] 37)).alloc (.cells (nbC (newNb now l) (some ⟨w2.heap.size, 0, none⟩) 1 1) 235)) e w4)
  (ht : t < w2.heap.size) (hFt : ¬ F t) (hC5 : Chg (fun b => b = t) w4 w5) :
  CacheAt V w5 (fun b => F b ∨ w2.heap.size ≤ b) g (S ++ [⟨a, w2.heap.size + 1, some ⟨w2.heap.size, 0, none⟩, 1, 1, newNb now l⟩]) ∧ Chg (fun b => F b ∨ b = t) w2 w5 := by
 obtain ⟨h1, h2, h3, h4, h5, h6⟩ := h
 have hB3 : Below w2.heap.size w2 ((w2.alloc (.cells #[.slice Ao no co] 37)).alloc (.cells (nbC (newNb now l) (some ⟨w2.heap.size, 0, none⟩) 1 1) 235)) := ((Below.refl _ _).alloc (Nat.le_refl _) _).alloc (by simp) _
 have hp3 := Bk.new (w2.alloc (.cells #[.slice Ao no co] 37)) 235 (nbC (newNb now l) (some ⟨w2.heap.size, 0, none⟩) 1 1)
 rw [World.size_alloc] at hp3
 have hO := (ow_lit w2 37 0 [.slice Ao no co] (Nat.zero_le _) (show 1 ≤ maxLen by decide)).of.kept (World.grownBy_alloc _ (.cells (nbC (newNb now l) (some ⟨w2.heap.size, 0, none⟩) 1 1) 235) none) (.inr (by simp [blk]))
 have hAn : ∀ b, blk (some (⟨w2.heap.size, 0, none⟩ : Addr)) = some b → w2.heap.size ≤ b := by
  intro b hb
  have h8 : w2.heap.size = b := by simpa [blk] using hb
  omega
 obtain ⟨r1, r2⟩ := CacheAt.insert h1 h2 h3 h4 h5 hl ha (w2.heap.size + 1) hB3 (by omega) hp3 ⟨_, hO, hrow.keep (fun b _ hl => hB3.block b hl) (fun _ h => .inl h), trivial⟩ hAn (by simp [newNb]) hoa (by simp [newNb]) hL
 refine ⟨r1.chg hC5 ?_, (r2.mono (fun _ _ h => .inl h)).trans hC5 (fun x hx => .inl (.inr hx))⟩
 rintro b (hb | hb) e
 ·exact hFt (by rw [← e]; exact hb)
 ·omega
end Go.Proofs.YtaeafkdfbcppgaaGreat
