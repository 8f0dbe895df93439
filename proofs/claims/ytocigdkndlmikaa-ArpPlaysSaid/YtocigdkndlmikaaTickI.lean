/- Proved: what holds while Tick goes round the neighbours, and what each of its steps makes of it. Conditions: as each law says. -/
import Derived.Test.YtocigdkndlmikaaTickP
set_option linter.unusedVariables false
set_option linter.unusedSimpArgs false
namespace Go.Proofs.Ytocigdkndlmikaa
open Go.RowKit

theorem RowsAt.cap_ {w : World} {F : Nat → Prop} : ∀ {vs : List Value} {ls : List (List Int)}, RowsAt w F vs ls → RowsAt w (fun b => F b ∧ b < w.heap.size) vs ls
  | [], [], _ => trivial
  | v :: vs, l :: ls, h => ⟨by
      obtain ⟨A, n, c, rfl, r1, r2, r3⟩ := h.1
      exact ⟨A, n, c, rfl, r1, fun b hb => ⟨r2 b hb, (Ow.lt r1 b hb).2⟩, r3⟩, RowsAt.cap_ h.2⟩
  | [], _ :: _, h => h.elim
  | _ :: _, [], h => h.elim
theorem CacheMv.cap {w : World} {F : Nat → Prop} {g : Nat} {mv : Option Nat} {S : List En} (h : CacheMv w F g mv S) : CacheMv w (fun b => F b ∧ b < w.heap.size) g mv S := by
  obtain ⟨h1, h2, h3, h4, h5⟩ := h
  refine ⟨h1, ⟨h2, h1.1.lt⟩, fun b hb => ⟨h3 b hb, (h1.2.2 b hb).lt⟩, fun e he => ?_, h5⟩
  obtain ⟨k1, k2, ⟨vs, k3, k4⟩, k5, k6⟩ := h4 e he
  exact ⟨k1, ⟨k2, k1.lt⟩, ⟨vs, k3, k4.cap_⟩, fun b hb => ⟨k5 b hb, (k3.lt b hb).2⟩, k6⟩
theorem OA.kept {w w' : World} {base : Nat} {A : Option Addr} {n c : Nat} {l : List Int} {row : Option Nat} (h : OA w base A n c l) (hg : w.grownBy w' row) (hne : blk A = none ∨ blk A ≠ row) : OA w' base A n c l := Ow.kept h hg hne
theorem OA.lt {w : World} {base : Nat} {A : Option Addr} {n c : Nat} {l : List Int} (h : OA w base A n c l) : ∀ g, blk A = some g → base ≤ g ∧ g < w.heap.size := Ow.lt h

structure TkInv (w wr : World) (F : Nat → Prop) (g b : Nat) (now : Int) (S0 : List En) (left : Int → Bool) (S : List En) (A1 : Option Addr) (n1 c1 : Nat) (A2 : Option Addr) (n2 c2 : Nat) (asks losts : List Int) : Prop where
  cm : CacheMv wr F g (some b) S
  cs : S = curS now left S0
  oa : OA wr (w.heap.size + 1) A1 n1 c1 asks
  ol : OA wr (w.heap.size + 1) A2 n2 c2 losts
  as_ : AskIs (askB now) left S0 asks
  ls : AskIs (lostB now) left S0 losts
  ch : Chg F w wr
  ne : blk A1 = none ∨ blk A1 ≠ blk A2
  sz : w.heap.size < wr.heap.size
section
variable {w wr w1 w2 w3 : World} {F : Nat → Prop} {g b : Nat} {now : Int} {S0 S : List En} {left : Int → Bool} {A1 A2 : Option Addr} {n1 c1 n2 c2 : Nat} {asks losts : List Int}
theorem OA.ne_ {base : Nat} {A : Option Addr} {n c : Nat} {l : List Int} (h : OA w1 base A n c l) {x : Nat} (hx : x < base) : blk A = none ∨ blk A ≠ some x := by
  cases hA : blk A with
  | none => exact .inl rfl
  | some y => exact .inr fun e => by injection e with e; have := (h.lt y hA).1; omega
/-- The range's own block turned. -/
theorem TkInv.next (h : TkInv w wr F g b now S0 left S A1 n1 c1 A2 n2 c2 asks losts) (hF : ∀ x, F x → x < w.heap.size) (hg : wr.grownBy w1 (some w.heap.size)) : TkInv w w1 F g b now S0 left S A1 n1 c1 A2 n2 c2 asks losts where
  cm := h.cm.keep (fun x hx hl => hg.block x hl (fun e => by injection e with e; have := hF x hx; omega)) (fun _ h => h)
  cs := h.cs
  oa := h.oa.kept hg (h.oa.ne_ (by omega))
  ol := h.ol.kept hg (h.ol.ne_ (by omega))
  as_ := h.as_
  ls := h.ls
  ch := h.ch.trans (Chg.of_grown (F := fun x => x = w.heap.size) hg (fun x e => by injection e with e; exact e.symm)) (fun x e => .inr (by omega))
  ne := h.ne
  sz := Nat.lt_of_lt_of_le h.sz hg.size
theorem TkInv.has (h : TkInv w wr F g b now S0 left S A1 n1 c1 A2 n2 c2 asks losts) (hk : (S0.map (·.a)).Nodup) {e : En} (he : e ∈ S) (hl : left e.a = true) : e ∈ S0 := curS_has hk (by rw [← h.cs]; exact he) hl
/-- One stays as it is. -/
theorem TkInv.stay (h : TkInv w wr F g b now S0 left S A1 n1 c1 A2 n2 c2 asks losts) (hk : (S0.map (·.a)).Nodup) {e : En} (he : e ∈ S) (hl : left e.a = true) (ht : now < e.n.tk) : TkInv w wr F g b now S0 (past left e.a) S A1 n1 c1 A2 n2 c2 asks losts := by
  have hS := h.has hk he hl
  exact { h with
    cs := by rw [curS_stay hk hS hl (by unfold stepE; rw [if_pos ht])]; exact h.cs
    as_ := h.as_.no hk hS hl (fun hp => by have := hp.1; omega)
    ls := h.ls.no hk hS hl (fun hp => by have := hp.1; omega) }
/-- One goes: the map's block turned. -/
theorem TkInv.map (h : TkInv w w1 F g b now S0 left S A1 n1 c1 A2 n2 c2 asks losts) (hF : ∀ x, F x → x < w.heap.size) {a : Int} (hI : IM mkA okA w2 b (delL (S.map enE) a)) (hg : w1.grownBy w2 (some b)) :
    CacheMv w2 F g (some b) (S.filter fun x => decide (x.a ≠ a)) ∧ OA w2 (w.heap.size + 1) A1 n1 c1 asks ∧ OA w2 (w.heap.size + 1) A2 n2 c2 losts ∧ Chg F w w2 ∧ w.heap.size < w2.heap.size := by
  have hbF : F b := h.cm.2.2.1 b rfl
  have hn : NoDup (S.map enE) := CacheAt.nodup ⟨some b, h.cm⟩
  have hc : Chg (fun x => some b = some x) w1 w2 := Chg.of_grown hg (fun _ e => e)
  obtain ⟨k1, k2, k3, k4, k5, k6⟩ := h.cm
  have hne := (k1.2.2 b rfl).ne_bk k1.1
  refine ⟨CacheAt.remove k1 k2 k3 k4 k5 k6 hn ⟨k1.1.grown hg (by intro e; injection e with e; exact hne e.symm), (fun e => by cases e), fun x e => by injection e with e; subst e; exact hI⟩ hc, h.oa.kept hg (h.oa.ne_ ?_), h.ol.kept hg (h.ol.ne_ ?_), h.ch.trans hc ?_, Nat.lt_of_lt_of_le h.sz hg.size⟩
  · have := hF b hbF; omega
  · have := hF b hbF; omega
  · intro x e; injection e with e; exact .inl (e ▸ hbF)
theorem TkInv.gone (h : TkInv w w1 F g b now S0 left S A1 n1 c1 A2 n2 c2 asks losts) (hF : ∀ x, F x → x < w.heap.size) (hk : (S0.map (·.a)).Nodup) {e : En} (he : e ∈ S) (hl : left e.a = true) (ht : ¬ now < e.n.tk) (hkn : e.n.kn = true)
    (hI : IM mkA okA w2 b (delL (S.map enE) e.a)) (hg : w1.grownBy w2 (some b)) : TkInv w w2 F g b now S0 (past left e.a) (S.filter fun x => decide (x.a ≠ e.a)) A1 n1 c1 A2 n2 c2 asks losts := by
  have hS := h.has hk he hl
  obtain ⟨q1, q2, q3, q4, q5⟩ := h.map hF hI hg
  exact { cm := q1, oa := q2, ol := q3, ch := q4, sz := q5, ne := h.ne
          cs := by rw [curS_gone hk hS hl (by unfold stepE; rw [if_neg ht, if_pos hkn]), ← h.cs]
          as_ := h.as_.no hk hS hl (fun hp => by have := hp.2.1; rw [hkn] at this; cases this)
          ls := h.ls.no hk hS hl (fun hp => by have := hp.2.1; rw [hkn] at this; cases this) }
/-- One is lost. -/
theorem TkInv.lost (h : TkInv w w1 F g b now S0 left S A1 n1 c1 A2 n2 c2 asks losts) (hF : ∀ x, F x → x < w.heap.size) (hk : (S0.map (·.a)).Nodup) {e : En} (he : e ∈ S) (hl : left e.a = true) (ht : ¬ now < e.n.tk) (hkn : e.n.kn = false) (htr : 3 ≤ e.n.tr)
    (hI : IM mkA okA w2 b (delL (S.map enE) e.a)) (hg : w1.grownBy w2 (some b)) {A3 : Option Addr} {c3 : Nat} (h3 : OA w3 (w.heap.size + 1) A3 (n2 + 1) c3 (losts ++ [e.a])) (hg3 : w2.grownBy w3 (blk A2)) (hA3 : NewOr A2 A3 w2.heap.size) :
    TkInv w w3 F g b now S0 (past left e.a) (S.filter fun x => decide (x.a ≠ e.a)) A1 n1 c1 A3 (n2 + 1) c3 asks (losts ++ [e.a]) := by
  have hS := h.has hk he hl
  obtain ⟨q1, q2, q3, q4, q5⟩ := h.map hF hI hg
  have hlt := q3.lt
  refine { cm := q1.keep (fun x hx hl => hg3.block x hl (fun e => by have := hF x hx; have := (hlt x e.symm).1; omega)) (fun _ h => h)
           oa := q2.kept hg3 h.ne, ol := h3
           ch := q4.trans (Chg.of_grown (F := fun x => blk A2 = some x) hg3 (fun x e => e)) (fun x e => .inr (by have := (hlt x e).1; omega))
           sz := Nat.lt_of_lt_of_le q5 hg3.size
           cs := by rw [curS_gone hk hS hl (by unfold stepE; rw [if_neg ht, if_neg (by rw [hkn]; simp), if_pos htr]), ← h.cs]
           as_ := h.as_.no hk hS hl (fun hp => by have := hp.2.2; omega)
           ls := h.ls.yes hk hS hl ⟨by omega, hkn, htr⟩
           ne := ?_ }
  cases hA : blk A1 with
  | none => exact .inl rfl
  | some y =>
    refine .inr fun e => ?_
    rcases hA3 with h4 | h4
    · rcases h.ne with h5 | h5
      · rw [h5] at hA; cases hA
      · exact h5 (by rw [hA, e, h4])
    · have := (q2.lt y hA).2; have := h4 y e.symm; omega
/-- One is asked once more. -/
theorem TkInv.again (h : TkInv w w1 F g b now S0 left S A1 n1 c1 A2 n2 c2 asks losts) (hF : ∀ x, F x → x < w.heap.size) (hk : (S0.map (·.a)).Nodup) {e : En} (he : e ∈ S) (hl : left e.a = true) (ht : ¬ now < e.n.tk) (hkn : e.n.kn = false) (htr : e.n.tr < 3)
    (hb2 : Bk w2 e.p 74 (nbC (stepN now e.n) e.A e.k e.c)) (hc : Chg (fun x => x = e.p) w1 w2) (hz : w2.heap.size = w1.heap.size) {A3 : Option Addr} {c3 : Nat} (h3 : OA w3 (w.heap.size + 1) A3 (n1 + 1) c3 (asks ++ [e.a])) (hg3 : w2.grownBy w3 (blk A1)) (hA3 : NewOr A1 A3 w2.heap.size) :
    TkInv w w3 F g b now S0 (past left e.a) (putS S ⟨e.a, e.p, e.A, e.k, e.c, stepN now e.n⟩) A3 (n1 + 1) c3 A2 n2 c2 (asks ++ [e.a]) losts := by
  have hS := h.has hk he hl
  obtain ⟨k1, k2, ⟨vs, k3, k4⟩, k5, k6, k7, k8⟩ := h.cm.2.2.2.1 e he
  have hup := h.cm.update he (n' := stepN now e.n) (A' := e.A) (k' := e.k) (c' := e.c) (hc.mono (fun _ _ h => .inl h)) hb2
    ⟨vs, k3.stays_ k1 (by decide) hc, k4.stays k1 (by decide) hc (fun b h => .inl h)⟩ (fun b hb => .inl hb) k6 ⟨by unfold stepN; have := k8.1; simp only; omega, by unfold stepN; simp only; omega⟩
  have hcm2 : CacheMv w2 F g (some b) (putS S ⟨e.a, e.p, e.A, e.k, e.c, stepN now e.n⟩) := hup.cap.keep (fun _ _ _ => rfl) (fun x hx => by rcases hx.1 with h | h; exact h; have := hx.2; omega)
  have heF : e.p < w.heap.size := hF _ k2
  have hg2 : w1.grownBy w2 (some e.p) := ⟨hc.os, hc.tape, hc.output, hc.size, fun x hx hne => hc.block x hx (fun e => hne (by rw [e]))⟩
  have oa2 := h.oa.kept hg2 (h.oa.ne_ (by omega))
  have ol2 := h.ol.kept hg2 (h.ol.ne_ (by omega))
  have hlt := oa2.lt
  refine { cm := hcm2.keep (fun x hx hl => hg3.block x hl (fun e => by have := hF x hx; have := (hlt x e.symm).1; omega)) (fun _ h => h)
           oa := h3
           ol := ol2.kept hg3 (by
             rcases h.ne with h5 | h5
             · rw [h5]; cases blk A2 <;> simp
             · exact .inr (Ne.symm h5))
           ch := (h.ch.trans hc (fun x e => .inl (e ▸ k2))).trans (Chg.of_grown (F := fun x => blk A1 = some x) hg3 (fun x e => e)) (fun x e => .inr (by have := (hlt x e).1; omega))
           sz := Nat.lt_of_lt_of_le h.sz (by rw [← hz]; exact hg3.size)
           cs := by rw [curS_put hk hS hl (e' := ⟨e.a, e.p, e.A, e.k, e.c, stepN now e.n⟩) (by unfold stepE; rw [if_neg ht, if_neg (by rw [hkn]; simp), if_neg (by omega)]), ← h.cs]
           as_ := h.as_.yes hk hS hl ⟨by omega, hkn, htr⟩
           ls := h.ls.no hk hS hl (fun hp => by have := hp.2.2; omega)
           ne := ?_ }
  cases hA : blk A3 with
  | none => exact .inl rfl
  | some y =>
    refine .inr fun e => ?_
    rcases hA3 with h4 | h4
    · rcases h.ne with h5 | h5
      · rw [h5] at h4; rw [h4] at hA; cases hA
      · exact h5 (by rw [← h4, hA, e])
    · have := (ol2.lt y e.symm).2; have := h4 y hA; omega
end
/-- What Tick answers and leaves. -/
def TickPost (w : World) (F : Nat → Prop) (g : Nat) (now : Int) (S0 : List En) (e : Ending) (w' : World) : Prop :=
  ∃ A1 n1 c1 A2 n2 c2 asks losts, e = .returned (.tuple #[.slice A1 n1 c1, .slice A2 n2 c2]) ∧ OA w' 0 A1 n1 c1 asks ∧ OA w' 0 A2 n2 c2 losts ∧ SortedAs (askB now) S0 asks ∧ SortedAs (lostB now) S0 losts ∧
    ∃ S', CacheAt w' (fun b => F b ∨ w.heap.size ≤ b) g S' ∧ S' = S0.filterMap (stepE now) ∧ Chg F w w'
theorem TkInv.done {w wr w1 w2 : World} {F : Nat → Prop} {g b : Nat} {now : Int} {S0 S : List En} {left : Int → Bool} {A1 A2 : Option Addr} {n1 c1 n2 c2 : Nat} {asks losts : List Int} (h : TkInv w wr F g b now S0 left S A1 n1 c1 A2 n2 c2 asks losts) (hF : ∀ x, F x → x < w.heap.size)
    (hl : ∀ e ∈ S, left e.a = false) {e1 e2 : Ending} (h1 : SortPost (w.heap.size + 1) A1 n1 c1 asks wr e1 w1) (h2 : SortPost (w.heap.size + 1) A2 n2 c2 losts w1 e2 w2) : TickPost w F g now S0 (.returned (.tuple #[.slice A1 n1 c1, .slice A2 n2 c2])) w2 := by
  obtain ⟨_, l1, p1, s1, o1, g1⟩ := h1
  obtain ⟨_, l2, p2, s2, o2, g2⟩ := h2
  have hall : ∀ e ∈ S0, left e.a = false := fun e he => by
    cases hc : left e.a with
    | false => rfl
    | true =>
      have : e ∈ S := by
        rw [h.cs]
        unfold curS
        exact List.mem_filterMap.2 ⟨e, he, by unfold curE; rw [if_pos hc]⟩
      rw [hl e this] at hc; cases hc
  have hS : S = S0.filterMap (stepE now) := by
    rw [h.cs]
    unfold curS
    exact filterMap_congr_ fun x hx => by unfold curE; rw [if_neg (by rw [hall x hx]; simp)]
  have hol1 := h.ol.kept g1 (by
    rcases h.ne with h5 | h5
    · rw [h5]; cases blk A2 <;> simp
    · exact .inr (Ne.symm h5))
  have o1' := o1.kept g2 h.ne
  refine ⟨A1, n1, c1, A2, n2, c2, l1, l2, rfl, Ow.mono o1' (Nat.zero_le _), Ow.mono o2 (Nat.zero_le _), h.as_.sorted hall p1 s1, h.ls.sorted hall p2 s2, S, ⟨some b, ?_⟩, hS, ?_⟩
  · refine h.cm.keep (w' := w2) (fun x hx hlx => ?_) (fun _ h => .inl h)
    have hx' := hF x hx
    have e1 := g1.block x hlx (fun e => by have := (h.oa.lt x e.symm).1; omega)
    have e2 := g2.block x (Nat.lt_of_lt_of_le hlx g1.size) (fun e => by have := (h.ol.lt x e.symm).1; omega)
    exact e2.trans e1
  · refine (h.ch.trans (Chg.of_grown (F := fun x => blk A1 = some x) g1 (fun _ e => e)) (fun x e => .inr (by have := (h.oa.lt x e).1; omega))).trans (Chg.of_grown (F := fun x => blk A2 = some x) g2 (fun _ e => e)) (fun x e => .inr (by have := (h.ol.lt x e).1; omega))
end Go.Proofs.Ytocigdkndlmikaa
