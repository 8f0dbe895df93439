/- Proved: plain data that came in (numbers, bools, slices, structs and arrays of these) read as their shape says. Conditions: none, for any program. -/
import Derived.ProofKit
import Derived.SizedLaws
import Derived.OpenShut
import Derived.Deep.Slices
import Derived.Below
set_option linter.unusedVariables false
namespace Go.Proofs.Ytocigdkndlmikaa
open Go.RowKit Go.ChangeShapes Go.WideShapes Go.Deep

/-- The shape of plain data: a number, a bool, a slice (cells and bytes of an element), nothing, a part ahead of the rest. -/
inductive Sh where
  | int (k : IntKind)
  | bool
  | slice (size bytes : Nat) (e : Sh)
  | fin
  | part (off size : Nat) (h r : Sh)

def shapeFields (P : Program) (sh : TypeId → Option Sh) : List Field → Option Sh
  | [] => some .fin
  | f :: r => (sh f.type).bind fun a => (shapeFields P sh r).map fun b => .part f.offset (P.cellsOf f.type) a b
def shapeItems (size : Nat) (a : Sh) : Nat → Nat → Sh
  | _, 0 => .fin
  | i, n + 1 => .part (i * size) size a (shapeItems size a (i + 1) n)
def shapeOf (P : Program) : Nat → TypeId → Option Sh
  | 0, _ => none
  | n + 1, t => match P.underlying t with
    | some .bool => some .bool
    | some (.int k) => some (.int k)
    | some (.slice e) => (shapeOf P n e).map fun a => .slice (P.cellsOf e) (P.bytesOf e) a
    | some (.struct fs) => shapeFields P (shapeOf P n) fs.toList
    | some (.array m e) => (shapeOf P n e).map fun a => shapeItems (P.cellsOf e) a 0 m
    | _ => none

/-- Cells of such a shape, in a memory. -/
def Sh.Is (w : World) : Sh → List Value → Prop
  | .int k, cs => ∃ n, cs = [.int k n] ∧ (Lit.int k n).wf = true
  | .bool, cs => ∃ b, cs = [.bool b]
  | .slice size bytes e, cs => ∃ A len cap, cs = [.slice A len cap] ∧ len ≤ cap ∧ cap * bytes ≤ 140737488351232 ∧ (A = none → cap = 0) ∧
      (0 < len → 0 < size → ∃ b off, A = some ⟨b, off, none⟩ ∧ b < w.heap.size ∧ ∀ i, i < len → ∃ cs', cs'.length = size ∧ (∀ j u, cs'[j]? = some u → w.cell? ⟨b, off + i * size + j, none⟩ = some u) ∧ e.Is w cs')
  | .fin, _ => True
  | .part off size h r, cs => h.Is w ((cs.drop off).take size) ∧ r.Is w cs

section
variable {H : Type} {enc : TypeId × Value → H} {P : Program} {w : World}

theorem Sh.weights_all {e : TypeId} : ∀ {ds : List (DataW H)} {d : DataW H}, d ∈ ds → ∀ n ∈ d.weights P e, n ∈ DataW.weightsAll P e ds
  | [], _, h, _, _ => by cases h
  | x :: r, d, h, n, hn => by
    simp only [DataW.weightsAll, List.mem_append]
    rcases List.mem_cons.1 h with rfl | h
    · exact .inl hn
    · exact .inr (Sh.weights_all h n hn)

theorem Sh.of_fields {sh : TypeId → Option Sh} {cs : List Value} : ∀ (l : List Field) {s : Sh}, shapeFields P sh l = some s →
    (∀ f ∈ l, ∀ a, sh f.type = some a → a.Is w ((cs.drop f.offset).take (P.cellsOf f.type))) → s.Is w cs
  | [], s, h, _ => by
    simp only [shapeFields, Option.some.injEq] at h
    subst h
    trivial
  | f :: r, s, h, hf => by
    simp only [shapeFields, Option.bind_eq_some_iff, Option.map_eq_some_iff] at h
    obtain ⟨a, ha, b, hb, rfl⟩ := h
    exact ⟨hf f List.mem_cons_self a ha, Sh.of_fields r hb fun g hg => hf g (List.mem_cons_of_mem _ hg)⟩

theorem Sh.of_items {size : Nat} {a : Sh} {cs : List Value} : ∀ (n i : Nat), (∀ j, i ≤ j → j < i + n → a.Is w ((cs.drop (j * size)).take size)) → (shapeItems size a i n).Is w cs
  | 0, _, _ => trivial
  | n + 1, i, h => ⟨h i (Nat.le_refl _) (by omega), Sh.of_items n (i + 1) fun j h1 h2 => h j (by omega) (by omega)⟩

theorem Sh.of_trod : ∀ (n : Nat) (t : TypeId) (s : Sh), shapeOf P n t = some s → ∀ (fuel : Nat) (cs : List Value) (x : DataW H × List MemPlace),
    DataW.trod enc P w 0 (fun _ => true) true fuel t cs = some x → (∀ k ∈ x.1.weights P t, k ≤ reachBytes) → s.Is w cs
  | 0, _, _, h, _, _, _, _, _ => by cases h
  | n + 1, t, s, h, fuel, cs, x, hx, hw => by
    unfold shapeOf at h
    split at h
    · rename_i ht
      injection h with h; subst h
      obtain ⟨b, rfl, _⟩ := DataW.trod_bool ht hx
      exact ⟨b, rfl⟩
    · rename_i k ht
      injection h with h; subst h
      obtain ⟨v, rfl, _, hv⟩ := DataW.trod_int ht hx
      exact ⟨v, rfl, hv⟩
    · rename_i e ht
      obtain ⟨a, ha, rfl⟩ := Option.map_eq_some_iff.1 h
      rcases open_slice ht hx with ⟨rfl, _⟩ | ⟨ad, len, cap, m, n', D, Pl, rfl, _, hl, hm, hmm, rfl, hi⟩
      · exact ⟨none, 0, 0, rfl, Nat.le_refl _, by omega, fun _ => rfl, fun h0 => absurd h0 (by omega)⟩
      · simp only [if_true] at hmm
        subst hmm
        have hW : ∀ k ∈ ((m * P.bytesOf e) :: (DataW.weightsAll P e ((List.range len).map D) ++ DataW.weightsAll P e ((List.range (m - len)).map fun j => D (len + j)))), k ≤ reachBytes := by
          intro k hk
          refine hw k ?_
          rw [DataW.weights, ht]
          simp only [List.length_map, List.length_range]
          rwa [show len + (m - len) = m from by omega]
        have hreach := hW _ List.mem_cons_self
        refine ⟨some ad, len, m, rfl, hl, by unfold reachBytes at hreach; omega, (fun h0 => absurd h0 (by simp)), fun h0 h1 => ?_⟩
        have hsp : ad.spot = none ∧ ad.block < w.heap.size := by
          obtain ⟨cs', hcell, _⟩ := hi 0 (by omega)
          obtain ⟨_, hlen, hat⟩ := World.cells?_some hcell
          have q0 := hat 0 h1
          rw [List.getElem?_eq_getElem (by omega)] at q0
          have hs := World.cell?_spot q0
          have hb := World.block_lt_of_cell? w _ q0
          obtain ⟨b, off, spot⟩ := ad
          refine ⟨?_, ?_⟩
          · cases spot with
            | none => rfl
            | some _ => simp [Addr.add] at hs
          · have hadd0 : ∀ (A : Addr) k, (A.add k).block = A.block := by intro A k; unfold Addr.add; split <;> rfl
            rw [hadd0, hadd0] at hb
            exact hb
        obtain ⟨b, off, spot⟩ := ad
        simp only at hsp
        obtain ⟨rfl, hb⟩ := hsp
        refine ⟨b, off, rfl, hb, fun i hilt => ?_⟩
        obtain ⟨cs', hcell, htr⟩ := hi i (by omega)
        obtain ⟨_, hlen, hat⟩ := World.cells?_some hcell
        refine ⟨cs', hlen, fun j u hu => ?_, Sh.of_trod n e a ha n' cs' (D i, Pl i) htr fun k hk => hW k (List.mem_cons_of_mem _ (List.mem_append_left _ (Sh.weights_all (List.mem_map.2 ⟨i, List.mem_range.2 hilt, rfl⟩) k hk)))⟩
        have hj : j < P.cellsOf e := by
          rcases Nat.lt_or_ge j (P.cellsOf e) with hj | hj
          · exact hj
          · rw [List.getElem?_eq_none (by omega)] at hu; cases hu
        have q := hat j hj
        rw [hu] at q
        have hadd : ∀ (o k : Nat), (⟨b, o, none⟩ : Addr).add k = ⟨b, o + k, none⟩ := by
          intro o k; unfold Addr.add; split <;> simp_all
        rw [hadd, hadd] at q
        exact q
    · rename_i fs ht
      obtain ⟨xs, n', _, rfl, hcs, hlen, hf⟩ := DataW.trod_struct ht hx
      refine Sh.of_fields fs.toList h fun f hfm a ha => ?_
      obtain ⟨i, hil, hi⟩ := List.getElem_of_mem hfm
      have hif : fs[i]? = some f := by
        rw [← Array.getElem?_toList, List.getElem?_eq_getElem hil, hi]
      have hil' : i < xs.length := by rw [hlen]; simpa using hil
      have h1 := hf i f hif
      rw [List.getElem?_eq_getElem hil'] at h1
      refine Sh.of_trod n f.type a ha n' _ _ h1 fun k hk => hw k ?_
      rw [DataW.weights, ht]
      refine DataW.weights_mem_each (j := i) (t := f.type) (d := (xs[i]).1) ?_ ?_ k hk
      · rw [List.getElem?_map, Array.getElem?_toList, hif]; rfl
      · rw [List.getElem?_map, List.getElem?_eq_getElem hil']; rfl
    · rename_i m e ht
      obtain ⟨a, ha, rfl⟩ := Option.map_eq_some_iff.1 h
      obtain ⟨xs, n', _, rfl, hcs, hlen, hf⟩ := DataW.trod_array ht hx
      refine Sh.of_items m 0 fun j _ hj => ?_
      have h1 := hf j (by omega)
      rw [List.getElem?_eq_getElem (by omega)] at h1
      refine Sh.of_trod n e a ha n' _ _ h1 fun k hk => hw k ?_
      rw [DataW.weights, ht]
      exact Sh.weights_all (List.mem_map.2 ⟨_, List.getElem_mem (by omega), rfl⟩) k hk
    · cases h
end

theorem Sh.exists_list {α : Type} {n : Nat} {R : Nat → α → Prop} (h : ∀ i, i < n → ∃ o, R i o) : ∃ l : List α, l.length = n ∧ ∀ i o, l[i]? = some o → R i o := by
  induction n with
  | zero => exact ⟨[], rfl, fun i o hi => by simp at hi⟩
  | succ n ih =>
    obtain ⟨l, hl, hR⟩ := ih fun i hi => h i (by omega)
    obtain ⟨o, ho⟩ := h n (by omega)
    refine ⟨l ++ [o], by simp [hl], fun i x hx => ?_⟩
    rcases Nat.lt_or_ge i n with hi | hi
    · rw [List.getElem?_append_left (by omega)] at hx
      exact hR i x hx
    · rw [List.getElem?_append_right (by omega), hl] at hx
      rcases Nat.eq_or_lt_of_le hi with e | e
      · subst e; simp at hx; subst hx; exact ho
      · rw [List.getElem?_eq_none (by simp; omega)] at hx; cases hx

/-- The slice at address A reads as the list l, each element k cells, f of it, below block B. -/
def SL {α : Type} (k : Nat) (f : α → List Value) (w : World) (B : Nat) (A : Option Addr) (l : List α) : Prop :=
  0 < l.length → ∃ b off, A = some ⟨b, off, none⟩ ∧ b < B ∧ ∀ i x, l[i]? = some x → ∀ j u, (f x)[j]? = some u → w.cell? ⟨b, off + i * k + j, none⟩ = some u
theorem SL.keep {α : Type} {k : Nat} {f : α → List Value} {w w' : World} {B : Nat} {A : Option Addr} {l : List α} (h : SL k f w B A l) (hk : ∀ p : Addr, p.block < B → w'.cell? p = w.cell? p) : SL k f w' B A l := fun hn => by
  obtain ⟨b, off, e, hb, h1⟩ := h hn
  exact ⟨b, off, e, hb, fun i x hx j u hu => (hk _ hb).trans (h1 i x hx j u hu)⟩
theorem SL.below {α : Type} {k : Nat} {f : α → List Value} {w w' : World} {B : Nat} {A : Option Addr} {l : List α} (h : SL k f w B A l) (hb : Below B w w') : SL k f w' B A l := h.keep fun _ hp => hb.cell hp
theorem SL.at_ {α : Type} {k : Nat} {f : α → List Value} {w : World} {B : Nat} {A : Option Addr} {l : List α} (h : SL k f w B A l) {i : Nat} {x : α} (hx : l[i]? = some x) :
    ∃ b off, A = some ⟨b, off, none⟩ ∧ b < B ∧ ∀ j u, (f x)[j]? = some u → w.cell? ⟨b, off + i * k + j, none⟩ = some u := by
  have hl : i < l.length := by
    rcases Nat.lt_or_ge i l.length with hl | hl
    · exact hl
    · rw [List.getElem?_eq_none hl] at hx; cases hx
  obtain ⟨b, off, e, hb, h1⟩ := h (by omega)
  exact ⟨b, off, e, hb, h1 i x hx⟩
theorem SL.of_is {α : Type} {k bytes : Nat} {e : Sh} {f : α → List Value} {Q : α → Prop} {w : World} {cs : List Value} (h : (Sh.slice k bytes e).Is w cs) (hk : 0 < k)
    (hf : ∀ cs', cs'.length = k → e.Is w cs' → ∃ x, f x = cs' ∧ Q x) :
    ∃ A len cap l, cs = [.slice A len cap] ∧ len ≤ cap ∧ cap * bytes ≤ 140737488351232 ∧ (A = none → cap = 0) ∧ l.length = len ∧ SL k f w w.heap.size A l ∧ ∀ x ∈ l, Q x := by
  obtain ⟨A, len, cap, rfl, hl, hc, hA, hi⟩ := h
  rcases Nat.eq_zero_or_pos len with h0 | h0
  · subst h0
    exact ⟨A, 0, cap, [], rfl, hl, hc, hA, rfl, fun hn => absurd hn (by simp), fun x hx => by cases hx⟩
  · obtain ⟨b, off, rfl, hb, h1⟩ := hi h0 hk
    obtain ⟨l, hl1, hl2⟩ := Sh.exists_list (n := len) (R := fun i x => (∀ j u, (f x)[j]? = some u → w.cell? ⟨b, off + i * k + j, none⟩ = some u) ∧ Q x) fun i hilt => by
      obtain ⟨cs', hlen, hc', hI⟩ := h1 i hilt
      obtain ⟨x, hx, hQ⟩ := hf cs' hlen hI
      exact ⟨x, fun j u hu => hc' j u (by rw [← hx]; exact hu), hQ⟩
    refine ⟨_, len, cap, l, rfl, hl, hc, hA, hl1, fun _ => ⟨b, off, rfl, hb, fun i x hx => (hl2 i x hx).1⟩, fun x hx => ?_⟩
    obtain ⟨i, hil, hi'⟩ := List.getElem_of_mem hx
    exact (hl2 i x (by rw [List.getElem?_eq_getElem hil, hi'])).2
theorem Sh.int_bd {w : World} {k : IntKind} {cs : List Value} (h : (Sh.int k).Is w cs) : ∃ n, cs = [.int k n] ∧ (Lit.int k n).wf = true := h

/-- A struct (or an array) that came in. -/
theorem Sh.open_agg {H : Type} {enc : TypeId × Value → H} {P : Program} {w : World} {r : Reach} {b0 n : Nat} {t : TypeId} {s : Sh} {v : Value} {d : DataW H} {p : List MemPlace} (hs : shapeOf P n t = some s)
    (ha : ∃ fs, P.underlying t = some (.struct fs)) (hv : Value.okWide P w r b0 t v) (h : DataW.Trod enc P w 0 (fun _ => true) true t v d p) (hw : ∀ k ∈ d.weights P t, k ≤ reachBytes) :
    ∃ cs : List Value, v = .agg cs.toArray ∧ cs.length = P.cellsOf t ∧ s.Is w cs := by
  obtain ⟨fs, ht⟩ := ha
  obtain ⟨cs, rfl, hsz⟩ := okWide_struct ht hv
  obtain ⟨fuel, hf⟩ := h
  exact ⟨cs.toList, rfl, by simpa using hsz, Sh.of_trod n t s hs fuel _ _ hf hw⟩
theorem Sh.open_array {H : Type} {enc : TypeId × Value → H} {P : Program} {w : World} {r : Reach} {b0 n : Nat} {t : TypeId} {s : Sh} {v : Value} {d : DataW H} {p : List MemPlace} (hs : shapeOf P n t = some s)
    (ha : ∃ m e, P.underlying t = some (.array m e)) (hv : Value.okWide P w r b0 t v) (h : DataW.Trod enc P w 0 (fun _ => true) true t v d p) (hw : ∀ k ∈ d.weights P t, k ≤ reachBytes) :
    ∃ cs : List Value, v = .agg cs.toArray ∧ cs.length = P.cellsOf t ∧ s.Is w cs := by
  obtain ⟨m, e, ht⟩ := ha
  unfold Value.okWide at hv
  rw [ht] at hv
  obtain ⟨cs, rfl, hsz, _⟩ := hv
  obtain ⟨fuel, hf⟩ := h
  exact ⟨cs.toList, rfl, by simpa using hsz, Sh.of_trod n t s hs fuel _ _ hf hw⟩
/-- A slice that came in. -/
theorem Sh.open_slice {H : Type} {enc : TypeId × Value → H} {P : Program} {w : World} {r : Reach} {b0 n : Nat} {t e : TypeId} {s : Sh} {v : Value} {d : DataW H} {p : List MemPlace} (hs : shapeOf P n t = some s)
    (ht : P.underlying t = some (.slice e)) (hv : Value.okWide P w r b0 t v) (h : DataW.Trod enc P w 0 (fun _ => true) true t v d p) (hw : ∀ k ∈ d.weights P t, k ≤ reachBytes) :
    s.Is w [v] := by
  obtain ⟨a, len, cap, rfl⟩ := okWide_slice ht hv
  obtain ⟨fuel, hf⟩ := h
  exact Sh.of_trod n t s hs fuel _ _ (by simpa [Value.cells] using hf) hw
end Go.Proofs.Ytocigdkndlmikaa
