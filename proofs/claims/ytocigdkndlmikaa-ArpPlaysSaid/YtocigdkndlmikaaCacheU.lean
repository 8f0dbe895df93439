/- Proved: what a change of one neighbour makes of a cache. Conditions: as the law says. -/
import Derived.Test.YtocigdkndlmikaaCacheL
set_option linter.unusedVariables false
set_option linter.unusedSimpArgs false
namespace Go.Proofs.Ytocigdkndlmikaa
open Go.RowKit

def putS (S : List En) (e' : En) : List En := S.map fun x => if x.a = e'.a then e' else x
theorem putS_enE {S : List En} {e e' : En} (hn : NoDup (S.map enE)) (he : e ∈ S) (ha : e'.a = e.a) (hp : e'.p = e.p) : (putS S e').map enE = S.map enE := by
  unfold putS
  rw [List.map_map]
  refine List.map_congr_left fun x hx => ?_
  simp only [Function.comp]
  split
  · rename_i h
    have : x = e := en_inj hn hx he (by rw [h, ha])
    subst this
    unfold enE; rw [ha, hp]
  · rfl
theorem putS_mem {S : List En} {e' x : En} (h : x ∈ putS S e') : x = e' ∨ (x ∈ S ∧ x.a ≠ e'.a) := by
  obtain ⟨y, hy, hx⟩ := List.mem_map.1 h
  split at hx
  · exact .inl hx.symm
  · rename_i h8; subst hx; exact .inr ⟨hy, h8⟩
theorem putS_length (S : List En) (e' : En) : (putS S e').length = S.length := by simp [putS]

theorem CacheMv.update {w w' : World} {F : Nat → Prop} {g : Nat} {mv : Option Nat} {S : List En} (h : CacheMv w F g mv S) {e : En} (he : e ∈ S) {n' : Nb} {A' : Option Addr} {k' c' : Nat}
    (hC : Chg (fun b => b = e.p ∨ some b = blk e.A) w w') (hnb : Bk w' e.p 74 (nbC n' A' k' c'))
    (hws : ∃ vs, Of 27 w' 0 A' k' c' vs ∧ RowsAt w' (fun b => F b ∨ w.heap.size ≤ b) vs n'.ws) (hA : ∀ b, blk A' = some b → blk e.A = some b ∨ w.heap.size ≤ b) (h3 : n'.ws.length ≤ 3) (ht : 0 ≤ n'.tr ∧ n'.tr ≤ 3) :
    CacheMv w' (fun b => F b ∨ w.heap.size ≤ b) g mv (putS S ⟨e.a, e.p, A', k', c', n'⟩) := by
  have hn : NoDup (S.map enE) := CacheAt.nodup ⟨mv, h⟩
  obtain ⟨h1, h2, h3', h4, h5, h6⟩ := h
  obtain ⟨e1, e2, ⟨es, e3, e4⟩, e5, e6, e7, e8⟩ := h4 e he
  have eA : ∀ b, blk e.A = some b → ∃ cs, w.heap[b]? = some (.cells cs 27 (0, 0)) := fun b hb => by
    rcases e3.2 with ⟨hA, _⟩ | ⟨g', off, cur, hA, _, hh, _⟩
    · rw [hA] at hb; cases hb
    · rw [hA] at hb
      have e2 : g' = b := by simpa [blk] using hb
      subst e2; exact ⟨_, hh⟩
  have clash : ∀ {b : Nat} {cs cs' : Array Value} {t t' : TypeId}, w.heap[b]? = some (.cells cs t (0, 0)) → w.heap[b]? = some (.cells cs' t' (0, 0)) → t = t' := fun h1 h2 => by
    rw [h1] at h2; injection h2 with h2; injection h2
  have stay : ∀ {b : Nat} {cs : Array Value} {t : TypeId}, w.heap[b]? = some (.cells cs t (0, 0)) → t ≠ 74 → t ≠ 27 → w'.heap[b]? = w.heap[b]? := fun {b cs t} hb n1 n2 => by
    refine hC.block b (Array.getElem?_eq_some_iff.1 hb).1 ?_
    rintro (rfl | hx)
    · exact n1 (clash hb e1)
    · obtain ⟨cs', h8⟩ := eA b hx.symm
      exact n2 (clash hb h8)
  have mapStay : ∀ b, mv = some b → w'.heap[b]? = w.heap[b]? := fun b hb => by
    obtain ⟨ms, clock, h8, _⟩ := h1.2.2 b hb
    refine hC.block b (h1.2.2 b hb).lt ?_
    rintro (rfl | hx)
    · have h9 : w.heap[e.p]? = _ := e1; rw [h8] at h9; cases h9
    · obtain ⟨cs', h9⟩ := eA b hx.symm; rw [h8] at h9; cases h9
  refine ⟨?_, .inl h2, fun b hb => .inl (h3' b hb), fun x hx => ?_, ?_, by rw [putS_length]; exact h6⟩
  · rw [putS_enE (e' := ⟨e.a, e.p, A', k', c', n'⟩) hn he rfl rfl]
    exact h1.kept (stay h1.1 (by decide) (by decide)) mapStay
  · rcases putS_mem hx with rfl | ⟨hx, hxa⟩
    · exact ⟨hnb, .inl e2, hws, fun b hb => (hA b hb).imp (fun h => e5 b h) id, h3, e7, ht⟩
    · obtain ⟨k1, k2, ⟨vs, k3, k4⟩, k5, k6⟩ := h4 x hx
      have hap : Apart e x := by
        have hne : e ≠ x := fun q => hxa (by rw [← q])
        obtain ⟨i, hi⟩ := List.getElem?_of_mem he
        obtain ⟨j, hj⟩ := List.getElem?_of_mem hx
        have hil := (List.getElem?_eq_some_iff.1 hi).1
        have hjl := (List.getElem?_eq_some_iff.1 hj).1
        have hi' := (List.getElem?_eq_some_iff.1 hi).2
        have hj' := (List.getElem?_eq_some_iff.1 hj).2
        have hp := List.pairwise_iff_getElem.1 h5
        rcases Nat.lt_trichotomy i j with q | q | q
        · have := hp i j hil hjl q; rw [hi', hj'] at this; exact this
        · subst q; rw [hi] at hj; injection hj with hj; exact absurd hj hne
        · have := hp j i hjl hil q; rw [hi', hj'] at this; exact this.symm
      have hxp : w'.heap[x.p]? = w.heap[x.p]? := by
        refine hC.block x.p k1.lt ?_
        rintro (q | q)
        · exact hap.1 q.symm
        · obtain ⟨cs', h9⟩ := eA x.p q.symm
          exact absurd (clash (show w.heap[x.p]? = _ from k1) h9) (by decide)
      have hxA : ∀ b, blk x.A = some b → w'.heap[b]? = w.heap[b]? := fun b hb => by
        refine hC.block b (k3.lt b hb).2 ?_
        rintro (q | q)
        · rcases k3.2 with ⟨hA, _⟩ | ⟨g', off, cur, hA, _, hh, _⟩
          · rw [hA] at hb; cases hb
          · rw [hA] at hb
            have e2 : g' = b := by simpa [blk] using hb
            subst e2
            rw [q] at hh
            exact absurd (clash (show w.heap[e.p]? = _ from e1) hh) (by decide)
        · rcases hap.2 with q2 | q2
          · rw [q2] at q; cases q
          · exact q2 (by rw [← q, hb])
      have rows : ∀ {vs : List Value} {ls : List (List Int)}, RowsAt w F vs ls → RowsAt w' (fun b => F b ∨ w.heap.size ≤ b) vs ls := by
        intro vs
        induction vs with
        | nil => intro ls h; cases ls; exact trivial; exact h.elim
        | cons v vs ih =>
          intro ls h
          cases ls with
          | nil => exact h.elim
          | cons l ls =>
            refine ⟨?_, ih h.2⟩
            obtain ⟨A, n, c, rfl, r1, r2, r3⟩ := h.1
            refine ⟨A, n, c, rfl, ⟨r1.1, ?_⟩, fun b hb => .inl (r2 b hb), r3⟩
            rcases r1.2 with h4 | ⟨g', cap, cur, h4, h5, h6, h7⟩
            · exact .inl h4
            · exact .inr ⟨g', cap, cur, h4, h5, (stay h6 (by decide) (by decide)).trans h6, h7⟩
      exact ⟨hxp.trans k1, .inl k2, ⟨vs, k3.of_block hxA, rows k4⟩, fun b hb => .inl (k5 b hb), k6⟩
  · unfold putS
    rw [List.pairwise_map]
    have hall : ∀ x ∈ S, ∀ y ∈ S, Apart x y → Apart (if x.a = e.a then (⟨e.a, e.p, A', k', c', n'⟩ : En) else x) (if y.a = e.a then (⟨e.a, e.p, A', k', c', n'⟩ : En) else y) := by
      have one : ∀ y ∈ S, Apart e y → Apart (⟨e.a, e.p, A', k', c', n'⟩ : En) y := fun y hy ha => by
        refine ⟨ha.1, ?_⟩
        cases hA' : blk A' with
        | none => exact .inl rfl
        | some b =>
          refine .inr fun q' => ?_
          rcases hA b hA' with q2 | q2
          · rcases ha.2 with q3 | q3
            · rw [q3] at q2; cases q2
            · exact q3 (q2.trans q')
          · obtain ⟨k1, k2, ⟨vs, k3, k4⟩, k5, k6⟩ := h4 y hy
            have := (k3.lt b q'.symm).2
            omega
      intro x hx y hy ha
      by_cases ex : x.a = e.a
      · have : x = e := en_inj hn hx he ex
        subst this
        rw [if_pos rfl]
        by_cases ey : y.a = x.a
        · have : y = x := en_inj hn hy he ey
          subst this; exact absurd rfl ha.1
        · rw [if_neg ey]; exact one y hy ha
      · rw [if_neg ex]
        by_cases ey : y.a = e.a
        · have : y = e := en_inj hn hy he ey
          subst this
          rw [if_pos rfl]; exact (one x hx ha.symm).symm
        · rw [if_neg ey]; exact ha
    exact List.Pairwise.imp_of_mem (fun {x y} hx hy h => hall x hx y hy h) h5
end Go.Proofs.Ytocigdkndlmikaa
