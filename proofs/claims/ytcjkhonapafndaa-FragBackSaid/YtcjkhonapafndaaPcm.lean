/- Proved: what the pieces of a packet are; a list of pieces written over, one by one. Conditions: none. -/
import Derived.Test.YtcjkhonapafndaaKnw
set_option linter.unusedVariables false
set_option linter.unusedSimpArgs false
namespace Go.Proofs.Ytcjkhonapafndaa
open Go.RowKit

theorem splIs_one {p : PkV} {ol dl : List Int} {mtu k k' : Int} {R R' : List Pc} (h : splIs p ol dl mtu k R) (h' : splIs p ol dl mtu k' R') : k = k' ∧ R = R' := by
  rcases h with ⟨a, rfl, rfl⟩ | ⟨a, b, ⟨c, d, rfl⟩ | ⟨c, d, e, rfl, rfl⟩ | ⟨c, d, rfl, rfl⟩⟩ <;> rcases h' with ⟨a', rfl, rfl⟩ | ⟨a', b', ⟨c', d', rfl⟩ | ⟨c', d', e', rfl, rfl⟩ | ⟨c', d', rfl, rfl⟩⟩
  all_goals first
    | exact ⟨rfl, rfl⟩
    | (exfalso; omega)
    | exact ⟨errIs_one c c', rfl⟩
    | exact absurd (errIs_one c c') d
    | exact absurd (errIs_one c' c) d'
    | (exfalso; rcases d' with d' | d'; omega; rw [e] at d'; cases d')
    | (exfalso; rcases d with d | d; omega; rw [e'] at d; cases d)
theorem piecesF_len : ∀ (f : Nat) (p : PkV) (mtu : Nat) (ol0 opts rest : List Int) (at_ : Int), (piecesF f p mtu ol0 opts rest at_).length ≤ f
  | 0, _, _, _, _, _, _ => Nat.le_refl _
  | f + 1, p, mtu, ol0, opts, rest, at_ => by
    rw [piecesF]
    split
    · exact Nat.zero_le _
    · have := piecesF_len f p mtu ol0 (copO ol0) (rest.drop (cutN mtu opts.length rest.length)) (at_ + cutN mtu opts.length rest.length)
      simp only [List.length_cons]; omega
theorem piecesF_mem : ∀ (f : Nat) (p : PkV) (mtu : Nat) (ol0 opts rest : List Int) (at_ : Int), ∀ x ∈ piecesF f p mtu ol0 opts rest at_,
    (x.2.1 = opts ∨ x.2.1 = copO ol0) ∧ (Bs rest → Bs x.2.2) ∧ x.2.2.length ≤ rest.length
  | 0, _, _, _, _, _, _ => fun x hx => by cases hx
  | f + 1, p, mtu, ol0, opts, rest, at_ => fun x hx => by
    rw [piecesF] at hx
    split at hx
    · cases hx
    · rcases List.mem_cons.1 hx with rfl | hx
      · exact ⟨.inl rfl, fun h => h.take _, by simp only [List.length_take]; omega⟩
      · obtain ⟨a, b, c⟩ := piecesF_mem f p mtu ol0 (copO ol0) _ _ x hx
        refine ⟨.inr (a.elim id id), fun h => b (h.drop _), ?_⟩
        rw [List.length_drop] at c; omega
theorem copO_bs {ol : List Int} (hb : Bs ol) : Bs (copO ol) := by unfold copO; exact copF_bs _ _ _ hb
theorem splIs_mem {p : PkV} {ol dl : List Int} {mtu k : Int} {R : List Pc} (h : splIs p ol dl mtu k R) (hb : Bs ol) (hbd : Bs dl) : R.length ≤ dl.length + 1 ∧ ∀ x ∈ R, Bs x.2.1 ∧ Bs x.2.2 ∧ x.2.2.length ≤ dl.length ∧ x.2.1.length ≤ ol.length := by
  rcases h with ⟨a, rfl, rfl⟩ | ⟨a, b, ⟨c, d, rfl⟩ | ⟨c, d, e, rfl, rfl⟩ | ⟨c, d, rfl, rfl⟩⟩
  · exact ⟨Nat.zero_le _, fun x hx => by cases hx⟩
  · exact ⟨Nat.zero_le _, fun x hx => by cases hx⟩
  · exact ⟨Nat.zero_le _, fun x hx => by cases hx⟩
  · have hg : goodO ol = true := by
      rcases c with ⟨_, h⟩ | ⟨_, _, h⟩ | ⟨_, _, _, _, h⟩ | ⟨_, _, h, _⟩
      · cases h
      · cases h
      · cases h
      · exact h
    unfold splitP
    split
    · exact ⟨by simp, fun x hx => by simp at hx; subst hx; exact ⟨hb, hbd, Nat.le_refl _, Nat.le_refl _⟩⟩
    · refine ⟨piecesF_len _ _ _ _ _ _ _, fun x hx => ?_⟩
      obtain ⟨h1, h2, h3⟩ := piecesF_mem _ _ _ _ _ _ _ x hx
      rcases h1 with h1 | h1
      · exact ⟨h1 ▸ hb, h2 hbd, h3, by rw [h1]; exact Nat.le_refl _⟩
      · exact ⟨h1 ▸ copO_bs hb, h2 hbd, h3, by rw [h1]; exact copO_len hg⟩
/-- What is known of pieces in memory. -/
theorem splIs_pms {p : PkV} {ol dl : List Int} {mtu k : Int} {L : List Pm} (h : splIs p ol dl mtu k (L.map Pm.plain)) (hb : Bs ol) (hbd : Bs dl) (ho : ol.length ≤ 100) (hd : dl.length ≤ 6000) (hl : ∀ x ∈ L, x.ol.length = x.on ∧ x.dl.length = x.dn) :
    L.length ≤ 6001 ∧ ∀ x ∈ L, x.on ≤ 100 ∧ x.dn ≤ 6000 ∧ Bs x.ol ∧ Bs x.dl := by
  obtain ⟨h1, h2⟩ := splIs_mem h hb hbd
  rw [List.length_map] at h1
  refine ⟨by omega, fun x hx => ?_⟩
  obtain ⟨a, b, c, d⟩ := h2 _ (List.mem_map_of_mem hx)
  obtain ⟨e, f⟩ := hl x hx
  simp only [Pm.plain] at a b c d
  exact ⟨by omega, by omega, a, b⟩

theorem PmRd.top {w : World} {base : Nat} {x : Pm} (h : PmRd w base x) (hb : base ≤ w.heap.size) : PmRd w w.heap.size x :=
  ⟨.inl (h.rbs hb).1, (h.rbs hb).2, h.2.2⟩
/-! ### pieces written over -/
def SpRel (W3 : World) (gb : Nat) (A : Option Addr) (n c : Nat) (L : List Pm) (k : Nat) (wr : World) : Prop :=
  PsAt wr gb (.slice A n c) n L ∧ (∀ x ∈ L.drop k, PmOk wr gb x) ∧ Below gb W3 wr ∧ gb ≤ wr.heap.size
def SpMid (W3 : World) (gb : Nat) (A : Option Addr) (n c : Nat) (L : List Pm) (k : Nat) (x : Pm) (wr : World) : Prop :=
  PsAt wr gb (.slice A n c) n L ∧ OB 5 wr gb x.oA x.on x.oc x.ol ∧ (∀ y ∈ L.drop (k + 1), PmOk wr gb y) ∧ Below gb W3 wr ∧ gb ≤ wr.heap.size
theorem drop_at {L : List Pm} {k : Nat} {x : Pm} (hk : L[k]? = some x) : L.drop k = x :: L.drop (k + 1) := by
  obtain ⟨h, rfl⟩ := List.getElem?_eq_some_iff.1 hk
  exact List.drop_eq_getElem_cons h
theorem sep_at {L : List Pm} {k : Nat} {x : Pm} (hk : L[k]? = some x) (hp : L.Pairwise Sep) : ∀ y ∈ L.drop (k + 1), Sep x y := by
  have := hp.sublist (List.drop_sublist k L)
  rw [drop_at hk] at this
  exact (List.pairwise_cons.1 this).1
theorem PsAt.kept8 {w w' : World} {base base' : Nat} {v : Value} {n : Nat} {L : List Pm} (h : PsAt w base v n L) {A : Option Addr} {k c : Nat} {l : List Int} (ho : OB 5 w base' A k c l) (hg : w.grownBy w' (blk A)) : PsAt w' base v n L := by
  refine World.ownsRow.kept h hg ?_
  cases hv : v.ownBlock with
  | none => exact .inl rfl
  | some b =>
    rcases h.ne8 ho with h1 | h1
    · rw [h1]; exact .inr (by simp)
    · rw [hv] at h1; exact .inr (fun e => h1 e.symm)
theorem sep_ne {A A' : Option Addr} (h : ∀ b, blk A = some b → blk A' ≠ some b) : blk A' = none ∨ blk A' ≠ blk A := by
  cases hA : blk A with
  | none => cases hA' : blk A' with
    | none => exact .inl rfl
    | some b => exact .inr (by simp)
  | some b => exact .inr (h b hA)
theorem grown_below {B : Nat} {a w w' : World} {A : Option Addr} {base k c : Nat} {l : List Int} (h : Below B a w) (hs : B ≤ w.heap.size) (ho : OB 5 w base A k c l) (hb : B ≤ base) (hg : w.grownBy w' (blk A)) : Below B a w' :=
  h.grown hg hs (fun b e => Nat.le_trans hb (Ow.lt ho b e).1)
theorem SpRel.mid {W3 : World} {gb : Nat} {A : Option Addr} {n c : Nat} {L : List Pm} {k : Nat} {x : Pm} {wr w1 : World} (h : SpRel W3 gb A n c L k wr) (hk : L[k]? = some x) (hp : L.Pairwise Sep) (hg : wr.grownBy w1 (blk x.dA)) : SpMid W3 gb A n c L k x w1 := by
  obtain ⟨h1, h2, h3, h4⟩ := h
  rw [drop_at hk] at h2
  have hx := h2 x (by simp)
  refine ⟨h1.kept8 hx.2.1 hg, Ow.kept hx.1 hg hx.2.2, fun y hy => ?_, grown_below h3 h4 hx.2.1 (Nat.le_refl _) hg, Nat.le_trans h4 hg.size⟩
  have hs := sep_at hk hp y hy
  exact (h2 y (by simp [hy])).keep hg (sep_ne fun b e => (hs b (.inr e)).1) (sep_ne fun b e => (hs b (.inr e)).2)
theorem SpMid.fin {W3 : World} {gb : Nat} {A : Option Addr} {n c : Nat} {L : List Pm} {k : Nat} {x : Pm} {wr w1 : World} (h : SpMid W3 gb A n c L k x wr) (hk : L[k]? = some x) (hp : L.Pairwise Sep) (hg : wr.grownBy w1 (blk x.oA)) : SpRel W3 gb A n c L (k + 1) w1 := by
  obtain ⟨h1, h2, h3, h4, h5⟩ := h
  refine ⟨h1.kept8 h2 hg, fun y hy => ?_, grown_below h4 h5 h2 (Nat.le_refl _) hg, Nat.le_trans h5 hg.size⟩
  have hs := sep_at hk hp y hy
  exact (h3 y hy).keep hg (sep_ne fun b e => (hs b (.inl e)).1) (sep_ne fun b e => (hs b (.inl e)).2)
end Go.Proofs.Ytcjkhonapafndaa
