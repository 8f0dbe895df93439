/- Proved: a script of octet that came in reads as a list of steps. Conditions: none. -/
import Derived.Test.YtnjleligdeobeaaRows
import Derived.Test.YtnjleligdeobeaaIn
import Derived.SizedLaws
import Derived.Deep.Strs
import Derived.Deep.Slices
set_option linter.unusedVariables false
namespace Go.Proofs.Ytnjleligdeobeaa
open Go.RowKit Go.ChangeShapes Go.WideShapes Go.Deep

/-- A step: its kind, its number, its bytes. -/
abbrev OpV := Int × Int × List Int
def i64ok (x : Int) : Prop := -9223372036854775808 ≤ x ∧ x ≤ 9223372036854775807
structure OpAt (w : World) (B b off : Nat) (o : OpV) : Prop where
  kind : w.cell? ⟨b, off, none⟩ = some (.int .i64 o.1)
  num : w.cell? ⟨b, off + 1, none⟩ = some (.int .i64 o.2.1)
  raw : ∃ A n c, w.cell? ⟨b, off + 2, none⟩ = some (.slice A n c) ∧ RB w B A o.2.2 ∧ o.2.2.length = n ∧ n ≤ c ∧ c ≤ 140737488351232
  bs : Bs o.2.2
  ok0 : i64ok o.1
  ok1 : i64ok o.2.1
def Ops (w : World) (B : Nat) (A : Option Addr) (l : List OpV) : Prop :=
  0 < l.length → ∃ b off, A = some ⟨b, off, none⟩ ∧ b < B ∧ ∀ i o, l[i]? = some o → OpAt w B b (off + i * 3) o

theorem OpAt.keep {w w' : World} {B b off : Nat} {o : OpV} (h : OpAt w B b off o) (hb : b < B) (hk : ∀ p : Addr, p.block < B → w'.cell? p = w.cell? p) : OpAt w' B b off o := by
  obtain ⟨h1, h2, ⟨A, n, c, h3, h4, h5⟩, h6, h7, h8⟩ := h
  exact ⟨(hk _ hb).trans h1, (hk _ hb).trans h2, ⟨A, n, c, (hk _ hb).trans h3, Rw.keep h4 hk, h5⟩, h6, h7, h8⟩
theorem Ops.keep {w w' : World} {B : Nat} {A : Option Addr} {l : List OpV} (h : Ops w B A l) (hk : ∀ p : Addr, p.block < B → w'.cell? p = w.cell? p) : Ops w' B A l := fun hn => by
  obtain ⟨b, off, e, hb, h1⟩ := h hn
  exact ⟨b, off, e, hb, fun i o ho => (h1 i o ho).keep hb hk⟩
theorem Ops.below {w w' : World} {B : Nat} {A : Option Addr} {l : List OpV} (h : Ops w B A l) (hb : Below B w w') : Ops w' B A l := h.keep fun _ hp => hb.cell hp

theorem weightsAll_mem {H : Type} {P : Program} {e : TypeId} : ∀ {ds : List (DataW H)} {d : DataW H}, d ∈ ds → ∀ n ∈ d.weights P e, n ∈ DataW.weightsAll P e ds
  | [], _, h, _, _ => by cases h
  | x :: r, d, h, n, hn => by
    simp only [DataW.weightsAll, List.mem_append]
    rcases List.mem_cons.1 h with rfl | h
    · exact .inl hn
    · exact .inr (weightsAll_mem h n hn)

theorem exists_list {α : Type} {n : Nat} {R : Nat → α → Prop} (h : ∀ i, i < n → ∃ o, R i o) : ∃ l : List α, l.length = n ∧ ∀ i o, l[i]? = some o → R i o := by
  induction n with
  | zero => exact ⟨[], rfl, fun i o hi => by simp at hi⟩
  | succ n ih =>
    obtain ⟨l, hl, hR⟩ := ih fun i hi => h i (by omega)
    obtain ⟨o, ho⟩ := h n (by omega)
    refine ⟨l ++ [o], by simp [hl], fun i x hx => ?_⟩
    rcases Nat.lt_or_ge i n with hi | hi
    · rw [List.getElem?_append_left (by omega)] at hx
      exact hR i x hx
    · rw [List.getElem?_append_right (by omega), hl] at hx
      rcases Nat.eq_or_lt_of_le hi with e | e
      · subst e; simp at hx; subst hx; exact ho
      · rw [List.getElem?_eq_none (by simp; omega)] at hx; cases hx

theorem open_ops {H : Type} {enc : TypeId × Value → H} {W : World} {fuel : Nat} {a0 : Option Addr} {len0 cap0 : Nat} {d0 : DataW H} {p0 : List MemPlace}
    (h : DataW.trod enc Try.prog W 0 (fun _ => true) true fuel 32 [.slice a0 len0 cap0] = some (d0, p0)) (hsz : ∀ n ∈ d0.weights Try.prog 32, n ≤ reachBytes) :
    ∃ l : List OpV, l.length = len0 ∧ len0 ≤ cap0 ∧ cap0 * 40 ≤ 140737488351232 ∧ Ops W W.heap.size a0 l := by
  rcases Go.Deep.open_slice Try.underlying32 h with ⟨hcs, hx⟩ | ⟨a, len, cap, m, n, D, Pl, hcs, _, hl, hm, hmm, hx, hi⟩
  · simp at hcs
    obtain ⟨rfl, rfl, rfl⟩ := hcs
    exact ⟨[], rfl, Nat.le_refl _, by omega, fun hn => absurd hn (by simp)⟩
  · simp at hcs
    obtain ⟨rfl, rfl, rfl⟩ := hcs
    simp only [Prod.mk.injEq] at hx
    obtain ⟨rfl, _⟩ := hx
    simp only [if_true] at hmm
    subst hmm
    have hC : Try.prog.cellsOf 38 = 3 := by kernel_rfl
    have hB : Try.prog.bytesOf 38 = 40 := by kernel_rfl
    have hW : ∀ k ∈ ((m * 40) :: (DataW.weightsAll Try.prog 38 ((List.range len0).map D) ++ DataW.weightsAll Try.prog 38 ((List.range (m - len0)).map fun j => D (len0 + j)))), k ≤ reachBytes := by
      intro k hk
      refine hsz k ?_
      rw [DataW.weights, Try.underlying32]
      simp only [hB, List.length_map, List.length_range]
      rwa [show len0 + (m - len0) = m from by omega]
    have hreach := hW _ (List.mem_cons_self)
    rcases Nat.eq_zero_or_pos len0 with h00 | h00
    · subst h00
      exact ⟨[], rfl, hl, by unfold reachBytes at hreach; omega, fun hn => absurd hn (by simp)⟩
    obtain ⟨b0, off0, rfl⟩ : ∃ b off, a = ⟨b, off, none⟩ := by
      obtain ⟨cs', hcell, _⟩ := hi 0 (by omega)
      rw [hC] at hcell
      obtain ⟨_, _, hat⟩ := World.cells?_some hcell
      have q0 := hat 0 (by omega)
      obtain ⟨b, off, spot⟩ := a
      match cs', (World.cells?_some hcell).2.1 with
      | [c0, c1, c2], _ =>
        have hs : spot = none := by simpa [Addr.add] using World.cell?_spot q0
        subst hs
        exact ⟨b, off, rfl⟩
    have key : ∀ i, i < len0 → ∃ o : OpV, b0 < W.heap.size ∧ OpAt W W.heap.size b0 (off0 + i * 3) o := by
      intro i hilt
      obtain ⟨cs', hcell, htr⟩ := hi i (by omega)
      rw [hC] at hcell
      obtain ⟨_, hlen, hat⟩ := World.cells?_some hcell
      obtain ⟨y0, y1, y2, n', hd, _, t0, t1, t2⟩ := trod_struct3 Try.underlying38 htr
      match cs', hlen with
      | [c0, c1, c2], _ =>
        have q0 := hat 0 (by omega)
        have q1 := hat 1 (by omega)
        have q2 := hat 2 (by omega)
        rw [add_eq, add_eq] at q0 q1 q2
        obtain ⟨k0, e0, _, wf0⟩ := DataW.trod_int Try.underlying3 t0
        obtain ⟨k1, e1, _, wf1⟩ := DataW.trod_int Try.underlying3 t1
        have e0' : [c0] = [Value.int .i64 k0] := e0
        have e1' : [c1] = [Value.int .i64 k1] := e1
        injection e0' with e0'
        injection e1' with e1'
        subst e0'
        subst e1'
        have hlt := World.block_lt_of_cell? W _ q0
        have t2' : DataW.trod enc Try.prog W 0 (fun _ => true) true n' 22 [c2] = some y2 := t2
        have hy2 : ∀ k ∈ y2.1.weights Try.prog 22, k ≤ reachBytes := by
          intro k hk
          refine hW k (List.mem_cons_of_mem _ (List.mem_append_left _ (weightsAll_mem (List.mem_map.2 ⟨i, List.mem_range.2 hilt, rfl⟩) k ?_)))
          have hd1 : D i = .agg [y0.1, y1.1, y2.1] := (Prod.mk.inj hd).1
          rw [hd1, DataW.weights, Try.underlying38]
          exact DataW.weights_mem_each (j := 2) (t := 22) rfl rfl k hk
        have hrow : ∃ A nn cc zs, c2 = .slice A nn cc ∧ IsRow .u8 W A nn cc zs ∧ cc ≤ 140737488351232 := by
          rcases open_ints Try.underlying22 Try.underlying5 (by kernel_rfl) t2' with ⟨hcs, _⟩ | ⟨x, l, c, zs, hcs, _, hl2, hm2, hz, hx2, hcell2, hwz⟩
          · injection hcs with hcs
            exact ⟨none, 0, 0, [], hcs, .inl ⟨rfl, rfl, rfl, rfl⟩, by omega⟩
          · injection hcs with hcs
            simp only [if_true] at hz
            have hw2 : zs.length * 1 ≤ reachBytes := by
              refine hy2 _ ?_
              rw [hx2, DataW.weights, Try.underlying22]
              simp only [lits, List.length_map, List.length_take, List.length_drop]
              rw [show min l zs.length + (zs.length - l) = zs.length from by omega, show Try.prog.bytesOf 5 = 1 from by kernel_rfl]
              exact List.mem_cons_self
            exact ⟨some x, l, c, zs, hcs, .inr ⟨x, rfl, hl2, hm2, hz, hcell2, hwz⟩, by unfold reachBytes at hw2; omega⟩
        obtain ⟨A, nn, cc, zs, rfl, hIs, hcc⟩ := hrow
        obtain ⟨l, r1, r2, r3, r4⟩ := hIs.rb
        exact ⟨(k0, k1, l), hlt, ⟨q0, q1, ⟨A, nn, cc, q2, r1, r3, r4, hcc⟩, r2, bounds_i64 wf0, bounds_i64 wf1⟩⟩
    obtain ⟨l, hl1, hl2⟩ := exists_list key
    refine ⟨l, hl1, hl, by unfold reachBytes at hreach; omega, fun hn => ?_⟩
    obtain ⟨o0, ho0⟩ : ∃ o, l[0]? = some o := ⟨_, List.getElem?_eq_getElem hn⟩
    exact ⟨b0, off0, rfl, (hl2 0 o0 ho0).1, fun i o ho => (hl2 i o ho).2⟩
end Go.Proofs.Ytnjleligdeobeaa
