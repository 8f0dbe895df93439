/- Proved: rows of the call's own that begin anywhere in their block: append, the rest from a place on; and what a set of blocks may keep. Conditions: as each law says, for any program. -/
import Derived.Test.YtocigdkndlmikaaLib
import Derived.Deep.Upon
import Derived.Deep.MidRow
set_option linter.unusedVariables false
set_option linter.unusedSectionVars false
namespace Go.Proofs.Ytocigdkndlmikaa
open Go.RowKit

/-- A slice of the call's own, at whatever place in its block. -/
def Of (E : TypeId) (w : World) (base : Nat) (A : Option Addr) (n c : Nat) (xs : List Value) : Prop :=
  xs.length = n ∧ ((A = none ∧ n = 0 ∧ c = 0) ∨ ∃ g off cur, A = some ⟨g, off, none⟩ ∧ base ≤ g ∧ w.heap[g]? = some (.cells cur E (0, 0)) ∧ n ≤ c ∧ c ≤ maxLen ∧ off + c = cur.size ∧ (cur.toList.drop off).take n = xs)

section
variable {E : TypeId} {w w' : World} {base : Nat} {A : Option Addr} {n c : Nat} {xs : List Value}
theorem Of.none_ (E : TypeId) (w : World) (base : Nat) : Of E w base none 0 0 [] := ⟨rfl, .inl ⟨rfl, rfl, rfl⟩⟩
theorem Ow.of (h : Ow E w base A n c xs) : Of E w base A n c xs := by
  refine ⟨h.length, ?_⟩
  rcases h.cases_ with ⟨h1, h2, h3, _⟩ | ⟨g, cur, h1, h2, h3, h4, h5, h6, h7⟩
  · exact .inl ⟨h1, h2, h3⟩
  · exact .inr ⟨g, 0, cur, h1, h2, h3, h4, h5, by omega, h7⟩
theorem Of.length (h : Of E w base A n c xs) : xs.length = n := h.1
theorem Of.capMax (h : Of E w base A n c xs) : c ≤ maxLen := by
  rcases h.2 with ⟨_, _, rfl⟩ | ⟨_, _, _, _, _, _, _, h1, _⟩
  · exact Nat.zero_le _
  · exact h1
theorem Of.cap (h : Of E w base A n c xs) : n ≤ c := by
  rcases h.2 with ⟨_, rfl, rfl⟩ | ⟨_, _, _, _, _, _, h1, _⟩
  · exact Nat.le_refl _
  · exact h1
theorem Of.lt (h : Of E w base A n c xs) : ∀ g, blk A = some g → base ≤ g ∧ g < w.heap.size := by
  intro g hg
  rcases h.2 with ⟨rfl, _⟩ | ⟨g', off, cur, rfl, h1, h2, _⟩
  · cases hg
  · have e : g' = g := by simpa [blk] using hg
    subst e
    exact ⟨h1, (Array.getElem?_eq_some_iff.1 h2).1⟩
theorem Of.kept {row : Option Nat} (h : Of E w base A n c xs) (hg : w.grownBy w' row) (hne : blk A = none ∨ blk A ≠ row) : Of E w' base A n c xs := by
  refine ⟨h.1, ?_⟩
  rcases h.2 with h1 | ⟨g, off, cur, rfl, h1, h2, h3⟩
  · exact .inl h1
  · refine .inr ⟨g, off, cur, rfl, h1, ?_, h3⟩
    rw [hg.block g (Array.getElem?_eq_some_iff.1 h2).1 (by simpa [blk] using hne)]
    exact h2
theorem Of.of_block (h : Of E w base A n c xs) (hb : ∀ g, blk A = some g → w'.heap[g]? = w.heap[g]?) : Of E w' base A n c xs := by
  refine ⟨h.1, ?_⟩
  rcases h.2 with h1 | ⟨g, off, cur, rfl, h1, h2, h3⟩
  · exact .inl h1
  · exact .inr ⟨g, off, cur, rfl, h1, (hb g rfl).trans h2, h3⟩
theorem Of.drew (h : Of E w base A n c xs) : Of E w.drew base A n c xs := h
theorem Of.drewN (h : Of E w base A n c xs) (k : Nat) : Of E (w.drewN k) base A n c xs := h
theorem Of.rw (h : Of E w base A n c xs) : Rw w w.heap.size A xs := fun hn => by
  rcases h.2 with ⟨_, rfl, _⟩ | ⟨g, off, cur, rfl, _, hg, _, _, _, ht⟩
  · have := h.1; omega
  · refine ⟨g, off, rfl, (h.lt g rfl).2, fun j u hu => ?_⟩
    rw [cell_of_row w g (off + j) cur E (0, 0) hg]
    rw [← ht, List.getElem?_take] at hu
    split at hu
    · rw [List.getElem?_drop] at hu; simpa using hu
    · cases hu
theorem Of.frozen (h : Of E w base A n c xs) {g : Nat} (hg : blk A = some g) (j : Nat) : w.frozen? ⟨g, j, none⟩ = false := by
  rcases h.2 with ⟨rfl, _⟩ | ⟨g', off, cur, rfl, _, hh, _⟩
  · cases hg
  · have e : g' = g := by simpa [blk] using hg
    subst e
    simp [World.frozen?, hh]
/-- The rest from the second on. -/
theorem Of.tail {x : Value} (h : Of E w base A n c (x :: xs)) (hc : 1 < c) : ∃ g off, A = some ⟨g, off, none⟩ ∧ Of E w base (some ⟨g, off + 1, none⟩) (n - 1) (c - 1) xs := by
  have hl := h.1
  simp only [List.length_cons] at hl
  rcases h.2 with ⟨_, rfl, _⟩ | ⟨g, off, cur, rfl, h1, h2, h3, h4, h5, h6⟩
  · omega
  · refine ⟨g, off, rfl, by omega, .inr ⟨g, off + 1, cur, rfl, h1, h2, by omega, by omega, by omega, ?_⟩⟩
    have e : (cur.toList.drop (off + 1)).take (n - 1) = ((cur.toList.drop off).take n).drop 1 := by
      rw [List.drop_take, List.drop_drop]
    rw [e, h6]; rfl
end

theorem heap_setCells_same (w : World) (g : Nat) (E : TypeId) (fz : Nat × Nat) : ∀ (vs : List Value) (o : Nat) (w : World) (cur : Array Value), w.heap[g]? = some (.cells cur E fz) → o + vs.length ≤ cur.size →
    ∃ cur', (w.setCells g o vs).heap[g]? = some (.cells cur' E fz) ∧ cur'.size = cur.size ∧ cur'.toList = cur.toList.take o ++ vs ++ cur.toList.drop (o + vs.length)
  | [], o, w, cur, h, _ => ⟨cur, h, rfl, by simp⟩
  | v :: r, o, w, cur, h, hl => by
    simp only [List.length_cons] at hl
    have h1 : (w.setCell ⟨g, o, none⟩ v).heap[g]? = some (.cells (cur.setIfInBounds o v) E fz) := by
      simp [World.setCell, Array.getElem?_modify, h]
    obtain ⟨cur', h2, h3, h4⟩ := heap_setCells_same w g E fz r (o + 1) _ _ h1 (by simp; omega)
    refine ⟨cur', h2, by simpa using h3, ?_⟩
    rw [h4, Array.toList_setIfInBounds]
    have ho : o < cur.toList.length := by simp; omega
    rw [List.take_set, List.drop_set_of_lt (by omega), List.take_succ_eq_append_getElem ho, List.set_append_right _ _ (by simp; omega)]
    simp [List.length_take, show min o cur.size = o from by simp at ho; omega, Nat.add_assoc, Nat.add_comm 1]

theorem size_setCells (g : Nat) : ∀ (vs : List Value) (o : Nat) (w : World), (w.setCells g o vs).heap.size = w.heap.size
  | [], o, w => rfl
  | v :: r, o, w => (size_setCells g r (o + 1) _).trans (by simp [World.setCell])
theorem tape_setCells (g : Nat) : ∀ (vs : List Value) (o : Nat) (w : World), (w.setCells g o vs).tape = w.tape
  | [], o, w => rfl
  | v :: r, o, w => (tape_setCells g r (o + 1) _).trans rfl
theorem grownBy_setCells (w : World) (g o : Nat) (vs : List Value) : w.grownBy (w.setCells g o vs) (some g) :=
  ⟨World.os_setCells w g _ _, tape_setCells g _ _ _, World.output_setCells w g _ _, Nat.le_of_eq (size_setCells g _ _ _).symm, fun k hk' hne => World.heap_setCells_other w g _ vs hk' (fun e => hne (by rw [e]))⟩
/-- A whole block written anew. -/
theorem Bk.setAll {w : World} {g : Nat} {t : TypeId} {cs : Array Value} (h : Bk w g t cs) (vs : Array Value) (hs : vs.size = cs.size) : Bk (w.setCells g 0 vs.toList) g t vs := by
  obtain ⟨cur', h1, h2, h3⟩ := heap_setCells_same w g t (0, 0) vs.toList 0 w cs h (by simp; omega)
  have e : cur' = vs := by
    apply Array.ext'
    rw [h3]
    simp only [List.take_zero, List.nil_append, Nat.zero_add]
    rw [List.drop_of_length_le (by simp; omega), List.append_nil]
  rw [e] at h1
  exact h1
theorem Bk.there {w : World} {g : Nat} {t : TypeId} {cs : Array Value} (h : Bk w g t cs) {k : Nat} (hs : k ≤ cs.size) : w.there g 0 k := fun j hj => by
  refine ⟨?_, h.frozen _⟩
  rw [h.cell, Nat.zero_add]
  simp; omega

section
variable {P : Program} {w : World}
theorem run_append_of (t ty e : TypeId) (z : Value) (bytes : Nat) (ht : P.underlying t = some (.slice e))
    (hinfo : (P.info? e).map (fun i => (i.zero, i.size, i.bytes)) = some (some z, 1, bytes)) (hzs : z.cells.size = 1)
    {base : Nat} {A : Option Addr} {n c : Nat} {xs : List Value} (hown : Of e w base A n c xs)
    {B : Nat} {A2 : Option Addr} {m c2 : Nat} {ys : List Value} (hr : Rw w B A2 ys) (hm : ys.length = m) (hm0 : 0 < m) (h1 : ∀ u ∈ ys, u.oneCell' = true)
    (h63 : n + m ≤ maxLen) (hbytes : (n + m) * bytes ≤ 140737488355328) (hbase : base ≤ w.heap.size) :
    ∃ A' c' w', (Builtin.append_ #[t, t] ty #[.slice A n c, .slice A2 m c2]).run P w = .ok (.slice A' (n + m) c') w' ∧ Of e w' base A' (n + m) c' (xs ++ ys) ∧ w.grownBy w' (blk A) ∧
      (blk A' = blk A ∨ blk A' = some w.heap.size) ∧ blk A' ≠ none := by
  obtain ⟨i, hi, hz0, hz1, hz2⟩ := info_parts hinfo
  obtain ⟨b2, off2, rfl, hb2, hcells⟩ := hr (by omega)
  have hnews : ∀ j u, ys[j]? = some u → w.cell? ((⟨b2, off2, none⟩ : Addr).add j) = some u := fun j u hu => by rw [add_eq]; exact hcells j u hu
  rcases hown.2 with ⟨rfl, rfl, rfl⟩ | ⟨g, off, cur, rfl, hb, hh, hnc, hcm, hcs, hx⟩
  · have hx0 : xs = [] := List.eq_nil_of_length_eq_zero hown.1
    subst hx0
    obtain ⟨v', w', hrun, h2, h3, h4, h5⟩ := run_append_own_at (P := P) w base t ty e i z 1 bytes ht hi hz0 hz1 hz2 hzs (by omega) (.slice none 0 0) 0 [] (World.ownsRow_nil w base e 1) _ m c2 ys (by omega) hnews h1 h63 hbytes hbase
    have hv : ∃ A' c', v' = .slice A' (0 + m) c' ∧ A' ≠ none := by
      rcases h2.2 with ⟨h6, h7⟩ | ⟨g, cap, cur, h6, _⟩
      · have := h2.1; rw [h7] at this; simp at this; omega
      · exact ⟨_, _, h6, by simp⟩
    obtain ⟨A', c', rfl, hne⟩ := hv
    rw [ownBlock_slice, ownBlock_slice] at h5
    rw [ownBlock_slice] at h3
    refine ⟨A', c', w', hrun, Ow.of h2, h3, h5, ?_⟩
    cases A' with
    | none => exact absurd rfl hne
    | some a => simp [blk]
  · by_cases hroom : n + m ≤ c
    · have hr := run_append_room_cells (P := P) w t ty e i ht hi g off n c ⟨b2, off2, none⟩ m c2 ys (by rw [hz1]; omega) hnews h1 hroom
        (fun j hj => by rw [hz1, cell_of_row w g _ cur e (0, 0) hh]; simp; omega) (fun j hj => by simp [World.frozen?, hh])
      rw [hz1] at hr
      obtain ⟨cur', hc1, hc2, hc3⟩ := heap_setCells_same w g e (0, 0) ys (off + n * 1) w cur hh (by omega)
      refine ⟨some ⟨g, off, none⟩, c, _, hr, ⟨by rw [List.length_append]; have := hown.1; omega, .inr ⟨g, off, cur', rfl, hb, hc1, hroom, hcm, by omega, ?_⟩⟩, ?_, .inl rfl, by simp [blk]⟩
      · rw [hc3]
        have e1 : off ≤ cur.toList.length := by simp; omega
        have e2 : (cur.toList.take (off + n * 1)).drop off = (cur.toList.drop off).take n := by rw [List.drop_take]; congr 1; omega
        rw [List.append_assoc, List.drop_append_of_le_length (by simp; omega), e2, hx, ← List.append_assoc]
        rw [← show (xs ++ ys).length = n + m by rw [List.length_append]; have := hown.1; omega]
        exact List.take_left
      · exact grownBy_setCells w g _ ys
    · have holds : ∀ j u, xs[j]? = some u → w.cell? ((⟨g, off, none⟩ : Addr).add j) = some u := fun j u hu => by
        obtain ⟨b3, off3, e3, _, hc⟩ := hown.rw.at_ hu
        injection e3 with e3
        rw [e3, add_eq]; exact hc
      subst hz2
      have hlo : xs.length = n * i.size := by rw [hz1]; have := hown.1; omega
      have hly : ys.length = m * i.size := by rw [hz1]; omega
      have hg : c < n + m := by omega
      have hgr := run_append_grow (P := P) w t ty e i z ht hi hz0 ⟨g, off, none⟩ n c xs hlo holds ⟨b2, off2, none⟩ m c2 ys hly hnews hg (by simp only [maxLen] at h63; omega) (growslice_fits hg hbytes)
      have hge := grownCap_ge w (n + m) c e
      have hcm' : grownCap w (n + m) c e ≤ maxLen := grownCap_le_maxLen w (n + m) c e h63
      refine ⟨_, _, _, hgr, ⟨by rw [List.length_append]; have := hown.1; omega, .inr ⟨w.heap.size, 0, _, rfl, hbase, heap_alloc_new w.drew _, hge, hcm', ?_, ?_⟩⟩, ⟨rfl, rfl, rfl, by simp, fun k hk _ => heap_alloc_old w.drew _ hk⟩, .inr rfl, by simp [blk]⟩
      · have := hown.1
        simp only [Array.size_append, List.size_toArray, size_zeroCells, hzs]
        omega
      · simp only [Array.toList_append, List.append_assoc, List.drop_zero]
        rw [← List.append_assoc, ← show (xs ++ ys).length = n + m by rw [List.length_append]; have := hown.1; omega]
        exact List.take_left
end
end Go.Proofs.Ytocigdkndlmikaa
