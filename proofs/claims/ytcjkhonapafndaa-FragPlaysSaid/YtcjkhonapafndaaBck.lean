/- Proved: what the pieces of a packet are; a list of pieces written over, one by one; the pieces of a packet fit, and are the packet's, piece by piece (plain law); pieces of a packet told in any order bring it out, once all are there (plain); FragBack's state in memory: the Store, the pieces, what has been told. Conditions: as each law says. -/
import Derived.Test.YtcjkhonapafndaaKnw
import Derived.Test.YtcjkhonapafndaaPlf
import Derived.Test.YtcjkhonapafndaaSto
import Derived.Test.YtcjkhonapafndaaIn
set_option linter.unusedVariables false
set_option linter.unusedSimpArgs false
namespace Go.Proofs.Ytcjkhonapafndaa
open Go.RowKit

theorem splIs_one {p : PkV} {ol dl : List Int} {mtu k k' : Int} {R R' : List Pc} (h : splIs p ol dl mtu k R) (h' : splIs p ol dl mtu k' R') : k = k' ∧ R = R' := by
  rcases h with ⟨a, rfl, rfl⟩ | ⟨a, b, ⟨c, d, rfl⟩ | ⟨c, d, e, rfl, rfl⟩ | ⟨c, d, rfl, rfl⟩⟩ <;> rcases h' with ⟨a', rfl, rfl⟩ | ⟨a', b', ⟨c', d', rfl⟩ | ⟨c', d', e', rfl, rfl⟩ | ⟨c', d', rfl, rfl⟩⟩
  all_goals first
    | exact ⟨rfl, rfl⟩
    | (exfalso; omega)
    | exact ⟨errIs_one c c', rfl⟩
    | exact absurd (errIs_one c c') d
    | exact absurd (errIs_one c' c) d'
    | (exfalso; rcases d' with d' | d'; omega; rw [e] at d'; cases d')
    | (exfalso; rcases d with d | d; omega; rw [e'] at d; cases d)
theorem piecesF_len : ∀ (f : Nat) (p : PkV) (mtu : Nat) (ol0 opts rest : List Int) (at_ : Int), (piecesF f p mtu ol0 opts rest at_).length ≤ f
  | 0, _, _, _, _, _, _ => Nat.le_refl _
  | f + 1, p, mtu, ol0, opts, rest, at_ => by
    rw [piecesF]
    split
    · exact Nat.zero_le _
    · have := piecesF_len f p mtu ol0 (copO ol0) (rest.drop (cutN mtu opts.length rest.length)) (at_ + cutN mtu opts.length rest.length)
      simp only [List.length_cons]; omega
theorem piecesF_mem : ∀ (f : Nat) (p : PkV) (mtu : Nat) (ol0 opts rest : List Int) (at_ : Int), ∀ x ∈ piecesF f p mtu ol0 opts rest at_,
    (x.2.1 = opts ∨ x.2.1 = copO ol0) ∧ (Bs rest → Bs x.2.2) ∧ x.2.2.length ≤ rest.length
  | 0, _, _, _, _, _, _ => fun x hx => by cases hx
  | f + 1, p, mtu, ol0, opts, rest, at_ => fun x hx => by
    rw [piecesF] at hx
    split at hx
    · cases hx
    · rcases List.mem_cons.1 hx with rfl | hx
      · exact ⟨.inl rfl, fun h => h.take _, by simp only [List.length_take]; omega⟩
      · obtain ⟨a, b, c⟩ := piecesF_mem f p mtu ol0 (copO ol0) _ _ x hx
        refine ⟨.inr (a.elim id id), fun h => b (h.drop _), ?_⟩
        rw [List.length_drop] at c; omega
theorem copO_bs {ol : List Int} (hb : Bs ol) : Bs (copO ol) := by unfold copO; exact copF_bs _ _ _ hb
theorem splIs_mem {p : PkV} {ol dl : List Int} {mtu k : Int} {R : List Pc} (h : splIs p ol dl mtu k R) (hb : Bs ol) (hbd : Bs dl) : R.length ≤ dl.length + 1 ∧ ∀ x ∈ R, Bs x.2.1 ∧ Bs x.2.2 ∧ x.2.2.length ≤ dl.length ∧ x.2.1.length ≤ ol.length := by
  rcases h with ⟨a, rfl, rfl⟩ | ⟨a, b, ⟨c, d, rfl⟩ | ⟨c, d, e, rfl, rfl⟩ | ⟨c, d, rfl, rfl⟩⟩
  · exact ⟨Nat.zero_le _, fun x hx => by cases hx⟩
  · exact ⟨Nat.zero_le _, fun x hx => by cases hx⟩
  · exact ⟨Nat.zero_le _, fun x hx => by cases hx⟩
  · have hg : goodO ol = true := by
      rcases c with ⟨_, h⟩ | ⟨_, _, h⟩ | ⟨_, _, _, _, h⟩ | ⟨_, _, h, _⟩
      · cases h
      · cases h
      · cases h
      · exact h
    unfold splitP
    split
    · exact ⟨by simp, fun x hx => by simp at hx; subst hx; exact ⟨hb, hbd, Nat.le_refl _, Nat.le_refl _⟩⟩
    · refine ⟨piecesF_len _ _ _ _ _ _ _, fun x hx => ?_⟩
      obtain ⟨h1, h2, h3⟩ := piecesF_mem _ _ _ _ _ _ _ x hx
      rcases h1 with h1 | h1
      · exact ⟨h1 ▸ hb, h2 hbd, h3, by rw [h1]; exact Nat.le_refl _⟩
      · exact ⟨h1 ▸ copO_bs hb, h2 hbd, h3, by rw [h1]; exact copO_len hg⟩
/-- What is known of pieces in memory. -/
theorem splIs_pms {p : PkV} {ol dl : List Int} {mtu k : Int} {L : List Pm} (h : splIs p ol dl mtu k (L.map Pm.plain)) (hb : Bs ol) (hbd : Bs dl) (ho : ol.length ≤ 100) (hd : dl.length ≤ 6000) (hl : ∀ x ∈ L, x.ol.length = x.on ∧ x.dl.length = x.dn) :
    L.length ≤ 6001 ∧ ∀ x ∈ L, x.on ≤ 100 ∧ x.dn ≤ 6000 ∧ Bs x.ol ∧ Bs x.dl := by
  obtain ⟨h1, h2⟩ := splIs_mem h hb hbd
  rw [List.length_map] at h1
  refine ⟨by omega, fun x hx => ?_⟩
  obtain ⟨a, b, c, d⟩ := h2 _ (List.mem_map_of_mem hx)
  obtain ⟨e, f⟩ := hl x hx
  simp only [Pm.plain] at a b c d
  exact ⟨by omega, by omega, a, b⟩

theorem PmRd.top {w : World} {base : Nat} {x : Pm} (h : PmRd w base x) (hb : base ≤ w.heap.size) : PmRd w w.heap.size x :=
  ⟨.inl (h.rbs hb).1, (h.rbs hb).2, h.2.2⟩
/-! ### pieces written over -/
def SpRel (W3 : World) (gb : Nat) (A : Option Addr) (n c : Nat) (L : List Pm) (k : Nat) (wr : World) : Prop :=
  PsAt wr gb (.slice A n c) n L ∧ (∀ x ∈ L.drop k, PmOk wr gb x) ∧ Below gb W3 wr ∧ gb ≤ wr.heap.size
def SpMid (W3 : World) (gb : Nat) (A : Option Addr) (n c : Nat) (L : List Pm) (k : Nat) (x : Pm) (wr : World) : Prop :=
  PsAt wr gb (.slice A n c) n L ∧ OB 5 wr gb x.oA x.on x.oc x.ol ∧ (∀ y ∈ L.drop (k + 1), PmOk wr gb y) ∧ Below gb W3 wr ∧ gb ≤ wr.heap.size
theorem drop_at {L : List Pm} {k : Nat} {x : Pm} (hk : L[k]? = some x) : L.drop k = x :: L.drop (k + 1) := by
  obtain ⟨h, rfl⟩ := List.getElem?_eq_some_iff.1 hk
  exact List.drop_eq_getElem_cons h
theorem sep_at {L : List Pm} {k : Nat} {x : Pm} (hk : L[k]? = some x) (hp : L.Pairwise Sep) : ∀ y ∈ L.drop (k + 1), Sep x y := by
  have := hp.sublist (List.drop_sublist k L)
  rw [drop_at hk] at this
  exact (List.pairwise_cons.1 this).1
theorem PsAt.kept8 {w w' : World} {base base' : Nat} {v : Value} {n : Nat} {L : List Pm} (h : PsAt w base v n L) {A : Option Addr} {k c : Nat} {l : List Int} (ho : OB 5 w base' A k c l) (hg : w.grownBy w' (blk A)) : PsAt w' base v n L := by
  refine World.ownsRow.kept h hg ?_
  cases hv : v.ownBlock with
  | none => exact .inl rfl
  | some b =>
    rcases h.ne8 ho with h1 | h1
    · rw [h1]; exact .inr (by simp)
    · rw [hv] at h1; exact .inr (fun e => h1 e.symm)
theorem sep_ne {A A' : Option Addr} (h : ∀ b, blk A = some b → blk A' ≠ some b) : blk A' = none ∨ blk A' ≠ blk A := by
  cases hA : blk A with
  | none => cases hA' : blk A' with
    | none => exact .inl rfl
    | some b => exact .inr (by simp)
  | some b => exact .inr (h b hA)
theorem grown_below {B : Nat} {a w w' : World} {A : Option Addr} {base k c : Nat} {l : List Int} (h : Below B a w) (hs : B ≤ w.heap.size) (ho : OB 5 w base A k c l) (hb : B ≤ base) (hg : w.grownBy w' (blk A)) : Below B a w' :=
  h.grown hg hs (fun b e => Nat.le_trans hb (Ow.lt ho b e).1)
theorem SpRel.mid {W3 : World} {gb : Nat} {A : Option Addr} {n c : Nat} {L : List Pm} {k : Nat} {x : Pm} {wr w1 : World} (h : SpRel W3 gb A n c L k wr) (hk : L[k]? = some x) (hp : L.Pairwise Sep) (hg : wr.grownBy w1 (blk x.dA)) : SpMid W3 gb A n c L k x w1 := by
  obtain ⟨h1, h2, h3, h4⟩ := h
  rw [drop_at hk] at h2
  have hx := h2 x (by simp)
  refine ⟨h1.kept8 hx.2.1 hg, Ow.kept hx.1 hg hx.2.2, fun y hy => ?_, grown_below h3 h4 hx.2.1 (Nat.le_refl _) hg, Nat.le_trans h4 hg.size⟩
  have hs := sep_at hk hp y hy
  exact (h2 y (by simp [hy])).keep hg (sep_ne fun b e => (hs b (.inr e)).1) (sep_ne fun b e => (hs b (.inr e)).2)
theorem SpMid.fin {W3 : World} {gb : Nat} {A : Option Addr} {n c : Nat} {L : List Pm} {k : Nat} {x : Pm} {wr w1 : World} (h : SpMid W3 gb A n c L k x wr) (hk : L[k]? = some x) (hp : L.Pairwise Sep) (hg : wr.grownBy w1 (blk x.oA)) : SpRel W3 gb A n c L (k + 1) w1 := by
  obtain ⟨h1, h2, h3, h4, h5⟩ := h
  refine ⟨h1.kept8 h2 hg, fun y hy => ?_, grown_below h4 h5 h2 (Nat.le_refl _) hg, Nat.le_trans h5 hg.size⟩
  have hs := sep_at hk hp y hy
  exact (h3 y hy).keep hg (sep_ne fun b e => (hs b (.inl e)).1) (sep_ne fun b e => (hs b (.inl e)).2)
end Go.Proofs.Ytcjkhonapafndaa
namespace Go.Proofs.Ytcjkhonapafndaa
open Go.RowKit

theorem b8_mid {pre chunk rest : List Int} {t : Nat} (h : t < chunk.length) : b8 (pre ++ (chunk ++ rest)) (pre.length + t) = chunk[t]?.getD 0 := by
  unfold b8
  rw [List.getElem?_append_right (by omega), show pre.length + t - pre.length = t by omega, List.getElem?_append_left h]
theorem goodF_cop : ∀ (k : Nat) (l : List Int) (i : Nat), goodF k l i = true → ∀ (pre : List Int) (k' : Nat), goodF k' (pre ++ copF k l i) pre.length = true
  | 0, l, i, _, pre, k' => by
    rw [show copF 0 l i = [] from rfl, List.append_nil]
    exact goodF_end (Nat.le_refl _)
  | k + 1, l, i, hg, pre, 0 => rfl
  | k + 1, l, i, hg, pre, k' + 1 => by
    by_cases h : i < l.length ∧ b8 l i ≠ 0
    · by_cases h1 : b8 l i = 1
      · rw [copF_one h.1 h1]
        rw [goodF_one h.1 h1] at hg
        exact goodF_cop k l (i + 1) hg pre (k' + 1)
      · obtain ⟨a, b, c, d⟩ := goodF_inv h.1 h.2 h1 hg
        rcases (by omega : b8 l i < 128 ∨ 128 ≤ b8 l i) with e | e
        · rw [copF_low h.1 h.2 h1 e]
          exact goodF_cop k l _ d pre (k' + 1)
        · rw [copF_high h.1 e]
          obtain ⟨N, hN⟩ : ∃ N : Nat, b8 l (i + 1) = N := ⟨(b8 l (i + 1)).toNat, by omega⟩
          rw [hN] at b c d ⊢
          simp only [Int.toNat_natCast] at d ⊢
          have hcl : ((l.drop i).take N).length = N := by rw [List.length_take, List.length_drop]; omega
          have g0 : b8 (pre ++ ((l.drop i).take N ++ copF k l (i + N))) pre.length = b8 l i := by
            have := b8_mid (pre := pre) (chunk := (l.drop i).take N) (rest := copF k l (i + N)) (t := 0) (by omega)
            rw [Nat.add_zero] at this
            rw [this, List.getElem?_take, if_pos (by omega), List.getElem?_drop, Nat.add_zero]; rfl
          have g1 : b8 (pre ++ ((l.drop i).take N ++ copF k l (i + N))) (pre.length + 1) = N := by
            rw [b8_mid (by omega), List.getElem?_take, if_pos (by omega), List.getElem?_drop, ← hN]; rfl
          have hlen : (pre ++ ((l.drop i).take N ++ copF k l (i + N))).length = pre.length + N + (copF k l (i + N)).length := by
            rw [List.length_append, List.length_append, hcl]; omega
          rw [goodF_more (by omega) (by rw [g0]; omega) (by rw [g0]; omega) (by omega) (by rw [g1]; omega) (by rw [g1]; omega), g1, Int.toNat_natCast]
          have := goodF_cop k l (i + N) d (pre ++ (l.drop i).take N) k'
          rw [List.append_assoc, List.length_append, hcl] at this
          exact this
    · rw [copF_end h, List.append_nil]
      exact goodF_end (Nat.le_refl _)
theorem goodO_cop {l : List Int} (h : goodO l = true) : goodO (copO l) = true := by
  have := goodF_cop (l.length + 1) l 0 h [] ((copO l).length + 1)
  simpa [goodO, copO] using this
theorem hdN_mono {a b : Nat} (h : a ≤ b) : hdN a ≤ hdN b := by unfold hdN; omega
def PcsOk (p : PkV) (mtu : Nat) : List Pc → Int → List Int → Prop
  | [], _, rest => rest = []
  | x :: r, at_, rest => errIs x.1 x.2.1 x.2.2.length 0 ∧ x.1.Ok ∧ hdN x.2.1.length + x.2.2.length ≤ mtu ∧ x.1.off = at_ ∧ x.2.2 = rest.take x.2.2.length ∧ x.2.2.length ≤ rest.length ∧
      (r ≠ [] → x.2.2.length % 8 = 0 ∧ x.1.more = true) ∧ (r = [] → x.1.more = p.more) ∧ PcsOk p mtu r (at_ + x.2.2.length) (rest.drop x.2.2.length)
theorem piecesF_ne {f : Nat} {p : PkV} {mtu : Nat} {ol0 opts rest : List Int} {at_ : Int} (h : 0 < rest.length) : piecesF (f + 1) p mtu ol0 opts rest at_ ≠ [] := by
  rw [piecesF, if_neg (by omega)]; simp
theorem pcsok_F : ∀ (f : Nat) (p : PkV) (mtu : Nat) (ol0 opts rest : List Int) (at_ : Int), 68 ≤ mtu → p.Ok → numsP p → 0 ≤ at_ → at_ % 8 = 0 → at_ + rest.length + hdN opts.length ≤ 65535 → at_ + rest.length + hdN (copO ol0).length ≤ 65535 →
    goodO opts = true → opts.length ≤ 40 → goodO (copO ol0) = true → (copO ol0).length ≤ 40 → rest.length < f → PcsOk p mtu (piecesF f p mtu ol0 opts rest at_) at_ rest
  | 0, p, mtu, ol0, opts, rest, at_ => fun _ _ _ _ _ _ _ _ _ _ _ h => by omega
  | f + 1, p, mtu, ol0, opts, rest, at_ => fun hm hp hn h0 h8 hf hf2 hg ho hg2 ho2 hl => by
    rcases Nat.eq_zero_or_pos rest.length with hr | hr
    · rw [piecesF_end hr]
      exact List.eq_nil_of_length_eq_zero hr
    · obtain ⟨c1, c2⟩ := cutN_pos hm ho hr
      obtain ⟨n, hcn⟩ : ∃ n, cutN mtu opts.length rest.length = n := ⟨_, rfl⟩
      rw [hcn] at c1 c2
      rw [piecesF_more hr hcn]
      have hh := hdN_40 ho
      have hnm : hdN opts.length + n ≤ mtu := by
        rw [← hcn]; unfold cutN roomN; split <;> omega
      have hn8 : n < rest.length → n % 8 = 0 := by
        rw [← hcn]; unfold cutN; intro h; split at h
        · rw [if_pos (by assumption)]; omega
        · omega
      have htk : (rest.take n).length = n := by rw [List.length_take]; omega
      obtain ⟨a1, a2, a3, a4, a5, a6⟩ := hn
      refine ⟨?_, ?_, ?_, rfl, ?_, ?_, ?_, ?_, ?_⟩
      · refine .inr (.inr (.inr ⟨⟨a1, a2, a3, a4, ⟨h0, ?_⟩, h8⟩, ho, hg, ⟨?_, ?_⟩, rfl⟩))
        · show at_ ≤ 65528; omega
        · show hdN opts.length + (rest.take n).length ≤ 65535
          rw [htk]; omega
        · show at_ + ((rest.take n).length : Int) ≤ 65535 - (hdN opts.length : Int)
          rw [htk]; omega
      · exact ⟨hp.svc, hp.id, ⟨by show -9223372036854775808 ≤ at_; omega, by show at_ ≤ 9223372036854775807; omega⟩, hp.life, hp.proto, hp.src, hp.dst⟩
      · rw [htk]; exact hnm
      · show rest.take n = rest.take (rest.take n).length
        rw [htk]
      · show (rest.take n).length ≤ _; omega
      · intro hne
        have hlt : n < rest.length := by
          rcases Nat.lt_or_ge n rest.length with h | h
          · exact h
          · exact absurd (piecesF_end (by rw [List.length_drop]; omega)) hne
        refine ⟨by show (rest.take n).length % 8 = 0; rw [htk]; exact hn8 hlt, ?_⟩
        show (p.more || decide (n < rest.length)) = true
        rw [decide_eq_true hlt]; simp
      · intro he
        have hlt : ¬ n < rest.length := fun h => by
          obtain ⟨f', rfl⟩ : ∃ f', f = f' + 1 := ⟨f - 1, by omega⟩
          exact piecesF_ne (by rw [List.length_drop]; omega) he
        show (p.more || decide (n < rest.length)) = p.more
        rw [decide_eq_false hlt]; simp
      · show PcsOk p mtu _ (at_ + ((rest.take n).length : Nat)) (rest.drop (rest.take n).length)
        rw [htk]
        rcases Nat.lt_or_ge n rest.length with h | h
        · have := hn8 h
          exact pcsok_F f p mtu ol0 (copO ol0) (rest.drop n) (at_ + n) hm hp ⟨a1, a2, a3, a4, a5, a6⟩ (by omega) (by omega) (by rw [List.length_drop]; omega) (by rw [List.length_drop]; omega) hg2 ho2 hg2 ho2 (by rw [List.length_drop]; omega)
        · rw [piecesF_end (by rw [List.length_drop]; omega)]
          exact List.drop_eq_nil_of_le h
theorem splIs_ok {p : PkV} {ol dl : List Int} {mtu : Int} {R : List Pc} (hp : p.Ok) (h : splIs p ol dl mtu 0 R) : PcsOk p mtu.toNat R p.off dl ∧ R ≠ [] ∧ 68 ≤ mtu ∧ mtu ≤ 65535 := by
  rcases h with ⟨_, h, _⟩ | ⟨a, b, ⟨_, c, _⟩ | ⟨_, _, _, c, _⟩ | ⟨c, d, _, rfl⟩⟩
  · cases h
  · exact absurd rfl c
  · cases c
  · refine (fun (x : PcsOk p mtu.toNat (splitP p mtu.toNat ol dl) p.off dl ∧ splitP p mtu.toNat ol dl ≠ []) => ⟨x.1, x.2, a, b⟩) ?_
    have hc := c
    rcases hc with ⟨_, h⟩ | ⟨_, _, h⟩ | ⟨_, _, _, _, h⟩ | ⟨hn, ho, hg, hf, _⟩
    · cases h
    · cases h
    · cases h
    unfold splitP
    split
    · rename_i hh
      refine ⟨⟨c, hp, hh, rfl, (List.take_length).symm, Nat.le_refl _, fun h => absurd rfl h, fun _ => rfl, ?_⟩, by simp⟩
      show dl.drop dl.length = []
      exact List.drop_length
    · rename_i hh
      have h40 := hdN_40 ho
      have hcl := copO_len hg
      have hdm := hdN_mono hcl
      have hpos : 0 < dl.length := by omega
      obtain ⟨f1, f2⟩ := hf
      have hn5 := hn.2.2.2.2
      refine ⟨pcsok_F _ p mtu.toNat ol ol dl p.off (by omega) hp hn hn5.1.1 hn5.2 (by omega) (by omega) hg ho (goodO_cop hg) (by omega) (by omega), piecesF_ne hpos⟩
theorem pcs_last : ∀ (R : List Pc) (p : PkV) (mtu : Nat) (at_ : Int) (rest : List Int), PcsOk p mtu R at_ rest → R ≠ [] → ∃ x, R[R.length - 1]? = some x ∧ x.1.more = p.more
  | [], _, _, _, _, _, h => absurd rfl h
  | [x], _, _, _, _, h, _ => ⟨x, rfl, h.2.2.2.2.2.2.2.1 rfl⟩
  | x :: y :: r, p, mtu, at_, rest, h, _ => by
    obtain ⟨z, h1, h2⟩ := pcs_last (y :: r) p mtu _ _ h.2.2.2.2.2.2.2.2 (by simp)
    refine ⟨z, ?_, h2⟩
    simpa using h1
/-- The law's loop: what is collected, and what is still to come. -/
def FtRel (W4 : World) (p : PkV) (m : Nat) (dl : List Int) (L : List Pm) (dn : Nat) (v7 : Value) (j : Nat) (wr : World) : Prop :=
  ∃ (A7 : Option Addr) (n7 c7 : Nat), v7 = .slice A7 n7 c7 ∧ OB 5 wr W4.heap.size A7 n7 c7 (dl.take n7) ∧ n7 ≤ dn ∧ PcsOk p m ((L.drop j).map Pm.plain) (p.off + n7) (dl.drop n7) ∧ Below W4.heap.size W4 wr
theorem FtRel.next {W4 W' : World} {p : PkV} {m : Nat} {dl : List Int} {L : List Pm} {dn n7 j xdn c3 : Nat} {A3 : Option Addr} {xdl : List Int} (hdn : dl.length = dn) (hO3 : OB 5 W' W4.heap.size A3 (n7 + xdn) c3 (dl.take n7 ++ xdl)) (hn7 : n7 ≤ dn) (hl : xdl.length = xdn)
    (p5 : xdl = (dl.drop n7).take xdl.length) (p6 : xdl.length ≤ (dl.drop n7).length) (p9 : PcsOk p m ((L.drop (j + 1)).map Pm.plain) (p.off + n7 + xdl.length) ((dl.drop n7).drop xdl.length)) (hB : Below W4.heap.size W4 W') :
    FtRel W4 p m dl L dn (.slice A3 (n7 + xdn) c3) (j + 1) W' := by
  rw [hl] at p5 p6 p9
  rw [List.length_drop] at p6
  refine ⟨A3, n7 + xdn, c3, rfl, ?_, by omega, ?_, hB⟩
  · rw [List.take_add, ← p5]; exact hO3
  · rw [List.drop_drop] at p9
    rw [show p.off + ((n7 + xdn : Nat) : Int) = p.off + n7 + xdn by omega]
    exact p9
end Go.Proofs.Ytcjkhonapafndaa
namespace Go.Proofs.Ytcjkhonapafndaa
open Go.RowKit
/-- Each piece is one of the packet's, and has bytes. -/
theorem piecesF_pc : ∀ (f : Nat) (p : PkV) (mtu : Nat) (ol0 opts rest : List Int) (at_ : Int), 68 ≤ mtu → opts.length ≤ 40 → (copO ol0).length ≤ 40 → ∀ x ∈ piecesF f p mtu ol0 opts rest at_, 0 < x.2.2.length ∧ ∃ mo a, x.1 = piece p mo a
  | 0, _, _, _, _, _, _ => fun _ _ _ x hx => by cases hx
  | f + 1, p, mtu, ol0, opts, rest, at_ => fun hm ho hc x hx => by
    rw [piecesF] at hx
    split at hx
    · cases hx
    · rename_i hr
      have hcp := cutN_pos hm ho (Nat.pos_of_ne_zero hr)
      rcases List.mem_cons.1 hx with rfl | hx
      · refine ⟨?_, _, _, rfl⟩
        show 0 < (rest.take _).length
        rw [List.length_take]; omega
      · exact piecesF_pc f p mtu ol0 (copO ol0) _ _ hm hc hc x hx
theorem splIs_pc {p : PkV} {ol dl : List Int} {mtu : Int} {R : List Pc} (h : splIs p ol dl mtu 0 R) (h2 : 2 ≤ R.length) : ∀ x ∈ R, 0 < x.2.2.length ∧ ∃ mo a, x.1 = piece p mo a := by
  rcases h with ⟨_, h, _⟩ | ⟨a, b, ⟨_, c, _⟩ | ⟨_, _, _, c, _⟩ | ⟨c, d, _, rfl⟩⟩
  · cases h
  · exact absurd rfl c
  · cases c
  · rcases c with ⟨_, h⟩ | ⟨_, _, h⟩ | ⟨_, _, _, _, h⟩ | ⟨hn, ho, hg, hf, _⟩
    · cases h
    · cases h
    · cases h
    unfold splitP at h2 ⊢
    split at h2
    · simp at h2
    · rename_i hh
      rw [if_neg hh]
      exact piecesF_pc _ p mtu.toNat ol ol dl p.off (by omega) ho (by have := copO_len hg; omega)
def offs (R : List Pc) (j : Nat) : Nat := ((R.take j).map (fun x => x.2.2.length)).sum
theorem offs_zero (R : List Pc) : offs R 0 = 0 := rfl
theorem offs_succ {R : List Pc} {j : Nat} {x : Pc} (h : R[j]? = some x) : offs R (j + 1) = offs R j + x.2.2.length := by
  unfold offs
  rw [List.take_add_one, h]
  simp
theorem offs_cons (x : Pc) (R : List Pc) (j : Nat) : offs (x :: R) (j + 1) = x.2.2.length + offs R j := by
  unfold offs; simp
/-- What is known of one piece. -/
structure PcAt (p : PkV) (T : List Int) (R : List Pc) (j : Nat) (x : Pc) : Prop where
  off : x.1.off = p.off + offs R j
  dl : x.2.2 = (T.drop (offs R j)).take x.2.2.length
  le : offs R j + x.2.2.length ≤ T.length
  mid : j + 1 < R.length → x.2.2.length % 8 = 0 ∧ x.1.more = true
  last : j + 1 = R.length → x.1.more = p.more ∧ offs R j + x.2.2.length = T.length
  err : errIs x.1 x.2.1 x.2.2.length 0
  ok : x.1.Ok
theorem pcs_at : ∀ (R : List Pc) (p : PkV) (m : Nat) (a : Int) (T : List Int), PcsOk p m R a T → ∀ j x, R[j]? = some x →
    x.1.off = a + offs R j ∧ x.2.2 = (T.drop (offs R j)).take x.2.2.length ∧ offs R j + x.2.2.length ≤ T.length ∧ (j + 1 < R.length → x.2.2.length % 8 = 0 ∧ x.1.more = true) ∧ (j + 1 = R.length → x.1.more = p.more ∧ offs R j + x.2.2.length = T.length) ∧ errIs x.1 x.2.1 x.2.2.length 0 ∧ x.1.Ok
  | [], _, _, _, _ => fun _ j x h => by simp at h
  | y :: R, p, m, a, T => fun ⟨h1, h2, h3, h4, h5, h6, h7, h8, h9⟩ j x h => by
    rcases j with _ | j
    · simp only [List.getElem?_cons_zero, Option.some.injEq] at h
      subst h
      refine ⟨by rw [offs_zero, h4]; omega, by rw [offs_zero]; exact h5, by rw [offs_zero]; omega, fun h => h7 (fun e => by rw [e] at h; simp at h), fun h => ?_, h1, h2⟩
      have e : R = [] := List.eq_nil_of_length_eq_zero (by simpa using h)
      refine ⟨h8 e, ?_⟩
      rw [e] at h9
      have h9' : T.drop y.2.2.length = [] := h9
      have := congrArg List.length h9'
      rw [List.length_drop, List.length_nil] at this
      rw [offs_zero]; omega
    · rw [List.getElem?_cons_succ] at h
      obtain ⟨q1, q2, q3, q4, q5, q6, q7⟩ := pcs_at R p m _ _ h9 j x h
      rw [List.length_drop] at q3 q5
      rw [List.drop_drop] at q2
      rw [offs_cons]
      refine ⟨by rw [q1]; omega, q2, by omega, fun h => q4 (by simpa using h), fun h => ?_, q6, q7⟩
      have := q5 (by simpa using h)
      exact ⟨this.1, by omega⟩
theorem offs_mono {R : List Pc} : ∀ {j k : Nat} {x : Pc}, R[j]? = some x → j < k → offs R j + x.2.2.length ≤ offs R k := by
  intro j k x h hjk
  induction k with
  | zero => omega
  | succ k ih =>
    rcases Nat.lt_or_ge j k with c | c
    · have := ih c
      rcases hk : R[k]? with _ | y
      · have e : offs R (k + 1) = offs R k := by unfold offs; rw [List.take_add_one, hk]; simp
        omega
      · have := offs_succ hk; omega
    · have e : k = j := by omega
      subst e
      rw [offs_succ h]; exact Nat.le_refl _
theorem offs_eight {p : PkV} {T : List Int} {R : List Pc} (h : ∀ j x, R[j]? = some x → PcAt p T R j x) : ∀ j, j < R.length → offs R j % 8 = 0 := by
  intro j
  induction j with
  | zero => intro _; rfl
  | succ j ih =>
    intro hj
    have h1 := ih (by omega)
    have h2 := List.getElem?_eq_getElem (l := R) (i := j) (by omega)
    rw [offs_succ h2]
    have := (h j _ h2).mid hj
    omega
/-- The pieces cover all. -/
theorem offs_cover {p : PkV} {T : List Int} {R : List Pc} (h : ∀ j x, R[j]? = some x → PcAt p T R j x) (hR : R ≠ []) : ∀ c, c < T.length → ∃ j x, R[j]? = some x ∧ offs R j ≤ c ∧ c < offs R j + x.2.2.length := by
  intro c hc
  have key : ∀ n, n ≤ R.length → c < offs R n → ∃ j x, R[j]? = some x ∧ offs R j ≤ c ∧ c < offs R j + x.2.2.length := by
    intro n
    induction n with
    | zero => intro _ h; rw [offs_zero] at h; omega
    | succ n ih =>
      intro hn hc
      have h2 := List.getElem?_eq_getElem (l := R) (i := n) (by omega)
      rcases Nat.lt_or_ge c (offs R n) with d | d
      · exact ih (by omega) d
      · exact ⟨n, _, h2, d, by rw [offs_succ h2] at hc; exact hc⟩
  have hl : 0 < R.length := List.length_pos_iff.2 hR
  have h2 := List.getElem?_eq_getElem (l := R) (i := R.length - 1) (by omega)
  have h3 := ((h _ _ h2).last (by omega)).2
  have h4 := offs_succ h2
  rw [show R.length - 1 + 1 = R.length by omega] at h4
  exact key R.length (Nat.le_refl _) (by omega)
structure PcsAll (p : PkV) (T : List Int) (R : List Pc) : Prop where
  at_ : ∀ j x, R[j]? = some x → PcAt p T R j x
  pc : ∀ x ∈ R, 0 < x.2.2.length ∧ ∃ mo a, x.1 = piece p mo a
  ne : R ≠ []
  off : p.off = 0
  more : p.more = false
theorem splIs_all {p : PkV} {ol T : List Int} {mtu : Int} {R : List Pc} (hp : p.Ok) (h : splIs p ol T mtu 0 R) (h2 : 2 ≤ R.length) (ho : p.off = 0) (hm : p.more = false) : PcsAll p T R := by
  obtain ⟨h1, hne, _⟩ := splIs_ok hp h
  refine ⟨fun j x hx => ?_, splIs_pc h h2, hne, ho, hm⟩
  obtain ⟨q1, q2, q3, q4, q5, q6, q7⟩ := pcs_at R p _ _ T h1 j x hx
  exact ⟨q1, q2, q3, q4, q5, q6, q7⟩
theorem PcsAll.good {p : PkV} {T : List Int} {R : List Pc} (h : PcsAll p T R) {j : Nat} {x : Pc} (hx : R[j]? = some x) (h2 : 2 ≤ R.length) : Good x.1 x.2.2.length := by
  have ha := h.at_ j x hx
  have hj : j < R.length := (List.getElem?_eq_some_iff.1 hx).1
  have hpos := (h.pc x (List.mem_of_getElem? hx)).1
  have h8 := offs_eight h.at_ j hj
  have hoff := ha.off
  rw [h.off] at hoff
  have hfit : x.1.off + x.2.2.length ≤ 65515 := by
    rcases ha.err with ⟨_, h⟩ | ⟨_, _, h⟩ | ⟨_, _, _, _, h⟩ | ⟨_, _, _, hf, _⟩
    · cases h
    · cases h
    · cases h
    · have := hf.2; unfold hdN at this; omega
  refine ⟨hpos, by omega, ?_, fun hm => ?_, ?_, hfit⟩
  · rw [hoff, Int.tmod_eq_emod_of_nonneg (by omega)]; omega
  · rcases Nat.lt_or_ge (j + 1) R.length with c | c
    · exact (ha.mid c).1
    · rw [(ha.last (by omega)).1, h.more] at hm; cases hm
  · rcases Nat.lt_or_ge (j + 1) R.length with c | c
    · exact .inl (ha.mid c).2
    · right
      have h0 := List.getElem?_eq_getElem (l := R) (i := 0) (by omega)
      have := offs_mono h0 (by omega : 0 < j)
      have := (h.pc _ (List.mem_of_getElem? h0)).1
      omega
/-- A piece is there. -/
def CovB (R : List Pc) (B : List Bool) (c : Nat) : Prop := ∃ j x, R[j]? = some x ∧ B[j]? = some true ∧ offs R j ≤ c ∧ c < offs R j + x.2.2.length
structure BackS (p : PkV) (T : List Int) (R : List Pc) (B : List Bool) (r : Rec) : Prop where
  ok : RecOk r
  k : r.k = pkK p
  half : Half T r
  cov : ∀ c, Cov r.S c ↔ CovB R B c
  fin : r.fin = if B[R.length - 1]? = some true then (T.length : Int) else -1
  first : ∀ q ol dl, r.first = some (q, ol, dl) → ∃ mo a, q = piece p mo a
def BackL (p : PkV) (T : List Int) (R : List Pc) (B : List Bool) (L : List Rec) : Prop :=
  (L = [] ∧ ∀ j : Nat, B[j]? ≠ some true) ∨ ∃ r, L = [r] ∧ BackS p T R B r
theorem BackS.new (p : PkV) (T : List Int) (R : List Pc) (B : List Bool) (now : Int) (hB : ∀ j : Nat, B[j]? ≠ some true) : BackS p T R B (newRec (pkK p) now) := by
  refine ⟨RecOk.new _ _, rfl, Half.new _ _ _, fun c => ⟨(fun h => by obtain ⟨x, hx, _⟩ := h; cases hx), (fun h => by obtain ⟨j, x, _, h, _⟩ := h; exact absurd h (hB j))⟩, ?_, (fun q ol dl h => by cases h)⟩
  rw [if_neg (hB _)]; rfl
theorem pkK_piece (p : PkV) (mo : Bool) (a : Int) : pkK (piece p mo a) = pkK p := rfl
theorem BackL.of {p q : PkV} {T : List Int} {R : List Pc} {B : List Bool} {L K1 K2 : List Rec} {r : Rec} {now : Int} (h : BackL p T R B L) (hq : pkK q = pkK p) (hO : OfR L (pkK q) now K1 r K2) : K1 = [] ∧ K2 = [] ∧ BackS p T R B r := by
  rw [hq] at hO
  rcases h with ⟨rfl, hB⟩ | ⟨r0, rfl, hS⟩
  · rcases hO with ⟨e, _⟩ | ⟨_, e1, e2, e3⟩
    · simp at e
    · rcases e3 with ⟨_, e3⟩ | ⟨e3, _⟩
      · subst e2; exact ⟨e3, e1, BackS.new p T R B now hB⟩
      · simp at e3
  · rcases hO with ⟨e, _⟩ | ⟨e, _⟩
    · rcases K1 with _ | ⟨x, t⟩
      · simp at e; obtain ⟨e1, e2⟩ := e; subst e1; exact ⟨rfl, e2, hS⟩
      · simp at e
    · exact absurd hS.k (e r0 (by simp))
theorem covB_set {R : List Pc} {B : List Bool} {k : Nat} {x : Pc} (hk : R[k]? = some x) (hB : B.length = R.length) (c : Nat) : CovB R (B.set k true) c ↔ CovB R B c ∨ (offs R k ≤ c ∧ c < offs R k + x.2.2.length) := by
  have hkl : k < B.length := by rw [hB]; exact (List.getElem?_eq_some_iff.1 hk).1
  constructor
  · rintro ⟨j, y, h1, h2, h3, h4⟩
    by_cases e : k = j
    · subst e
      rw [hk] at h1; injection h1 with h1; subst h1
      exact .inr ⟨h3, h4⟩
    · rw [List.getElem?_set_ne e] at h2
      exact .inl ⟨j, y, h1, h2, h3, h4⟩
  · rintro (⟨j, y, h1, h2, h3, h4⟩ | ⟨h3, h4⟩)
    · refine ⟨j, y, h1, ?_, h3, h4⟩
      by_cases e : k = j
      · subst e; rw [List.getElem?_set_self hkl]
      · rw [List.getElem?_set_ne e]; exact h2
    · exact ⟨k, x, hk, by rw [List.getElem?_set_self hkl], h3, h4⟩
def allB (R : List Pc) (B : List Bool) : Prop := ∀ j, j < R.length → B[j]? = some true
theorem back_step {p : PkV} {T : List Int} {R : List Pc} {B : List Bool} {L L' : List Rec} {k : Nat} {x : Pc} {now er : Int} {out : Pk3} {is : Bool} (hA : PcsAll p T R) (h2 : 2 ≤ R.length) (hB : B.length = R.length) (hL : BackL p T R B L) (hk : R[k]? = some x) (ho : x.2.1.length ≤ 1000000)
    (h : GoodR L x.1 x.2.1 x.2.2 now L' out is er) :
    er = 0 ∧ (allB R (B.set k true) → is = true ∧ L' = [] ∧ out.2.2 = T ∧ ∃ mo a, out.1 = piece { piece p mo a with off := 0 } false 0) ∧ (¬ allB R (B.set k true) → is = false ∧ BackL p T R (B.set k true) L') := by
  obtain ⟨K1, r, K2, hO, hcase⟩ := h
  have ha := hA.at_ k x hk
  have hg := hA.good hk h2
  obtain ⟨hpos, mo, a, hpc⟩ := hA.pc x (List.mem_of_getElem? hk)
  have hkl : k < R.length := (List.getElem?_eq_some_iff.1 hk).1
  have hkx : pkK x.1 = pkK p := by rw [hpc]; rfl
  obtain ⟨rfl, rfl, hS⟩ := hL.of hkx hO
  have hoff := ha.off
  rw [hA.off] at hoff
  have hoN : x.1.off.toNat = offs R k := by omega
  have hle := ha.le
  have hcT : ∀ c, CovB R B c → c < T.length := fun c ⟨j, y, q1, q2, q3, q4⟩ => by have := (hA.at_ j y q1).le; omega
  -- it fits
  have hfit : fitsW r.fin r.S x.1.more (x.1.off + x.2.2.length) = true := by
    rw [fits_cov hS.ok.sps _ _ (by omega)]
    have hf := hS.fin
    cases hm : x.1.more with
    | true => 
      rw [if_pos rfl]
      split at hf <;> omega
    | false =>
      rw [if_neg (by decide)]
      have hlast : k + 1 = R.length := by
        rcases Nat.lt_or_ge (k + 1) R.length with c | c
        · rw [(ha.mid c).2] at hm; cases hm
        · omega
      have := (ha.last hlast).2
      refine ⟨?_, fun c hc => ?_⟩
      · split at hf <;> omega
      · have := hcT c ((hS.cov c).1 hc); omega
  rcases hcase with ⟨hf, _⟩ | ⟨_, rfl, S1, hl1, hcase⟩
  · rw [hfit] at hf; cases hf
  refine ⟨rfl, ?_⟩
  obtain ⟨hH, hC⟩ := lay_step (T := T) (ol := x.2.1) hS.ok hS.half hg hl1 (fun c q1 q2 _ => by
    rw [hoN] at q1 q2 ⊢
    rw [ha.dl, List.getElem?_take, if_pos (by omega), List.getElem?_drop]
    congr 1; omega) (by omega)
  have hR1 := hS.ok.lay hg ha.ok ho (hS.k.trans hkx.symm) hl1
  obtain ⟨f1, k1, b1, s1⟩ := layRec_f r x.1 x.2.1 x.2.2 S1
  generalize layRec (setR r x.1 x.2.1 x.2.2) x.1.off.toNat x.2.2 S1 = r' at *
  have hkB : k < B.length := by omega
  have hS' : BackS p T R (B.set k true) r' := by
    refine ⟨hR1, k1.trans hS.k, hH, fun c => ?_, ?_, fun q o1 d1 hq => ?_⟩
    · rw [hC, hoN, hS.cov, covB_set hk hB]
    · rw [f1]
      rcases Nat.lt_or_ge (k + 1) R.length with c | c
      · rw [(ha.mid c).2, if_pos rfl, List.getElem?_set_ne (by omega)]; exact hS.fin
      · have e : k = R.length - 1 := by omega
        have hl := ha.last (by omega)
        rw [hl.1, hA.more, if_neg (by decide), ← e, List.getElem?_set_self hkB, if_pos rfl]
        omega
    · rw [s1] at hq
      split at hq
      · injection hq with hq
        injection hq with hq _
        exact ⟨mo, a, hq ▸ hpc⟩
      · exact hS.first q o1 d1 hq
  have hTpos : 0 < T.length := by omega
  have hdone : doneR r' ↔ allB R (B.set k true) := by
    constructor
    · intro hd
      obtain ⟨d1, d2, d3⟩ := (doneR_cov hR1.sps).1 hd
      have hfin := hS'.fin
      have hfT : r'.fin = T.length := by
        split at hfin
        · exact hfin
        · omega
      intro j hj
      have hy := List.getElem?_eq_getElem (l := R) (i := j) hj
      generalize R[j] = y at hy
      have hyp := (hA.pc _ (List.mem_of_getElem? hy)).1
      have hyl := (hA.at_ _ _ hy).le
      have hc : CovB R (B.set k true) (offs R j) := (hS'.cov _).1 ((d3 _).2 (by rw [hfT]; omega))
      obtain ⟨i, z, q1, q2, q3, q4⟩ := hc
      rcases Nat.lt_trichotomy i j with c | c | c
      · have := offs_mono q1 c; omega
      · subst c; exact q2
      · have := offs_mono hy c; omega
    · intro hall
      have hfT : r'.fin = T.length := by rw [hS'.fin, if_pos (hall _ (by omega))]
      refine (done_iff hR1 hfT hTpos).2 fun c => ?_
      rw [hS'.cov]
      constructor
      · rintro ⟨j, y, q1, q2, q3, q4⟩
        have := (hA.at_ j y q1).le; omega
      · intro hc
        obtain ⟨j, y, q1, q2, q3⟩ := offs_cover hA.at_ hA.ne c hc
        exact ⟨j, y, q1, hall j (List.getElem?_eq_some_iff.1 q1).1, q2, q3⟩
  refine ⟨fun hall => ?_, fun hall => ?_⟩
  · have hd := hdone.2 hall
    rcases hcase with ⟨_, rfl, rfl, rfl⟩ | ⟨hd', _⟩
    · refine ⟨rfl, rfl, ?_⟩
      have hfT : r'.fin = T.length := by rw [hS'.fin, if_pos (hall _ (by omega))]
      have hw := Half.whole hR1 hH hd hfT
      have hsome : r'.first.isSome = true := hR1.fst ⟨(0, r'.fin.toNat), by rw [hd.2]; simp, rfl⟩
      unfold outP
      cases hfr : r'.first with
      | none => rw [hfr] at hsome; cases hsome
      | some z =>
        obtain ⟨q, o1, d1⟩ := z
        obtain ⟨mo1, a1, hq⟩ := hS'.first q o1 d1 hfr
        refine ⟨hw, mo1, a1, ?_⟩
        rw [hq]; rfl
    · exact absurd hd hd'
  · rcases hcase with ⟨hd, _⟩ | ⟨_, rfl, rfl, rfl⟩
    · exact absurd (hdone.1 hd) hall
    · exact ⟨rfl, .inr ⟨r', rfl, hS'⟩⟩
end Go.Proofs.Ytcjkhonapafndaa
namespace Go.Proofs.Ytcjkhonapafndaa
open Go.RowKit
/-! ### numbers that came in -/
def int64s (K : List Int) : List Value := K.map (Value.int .i64)
theorem int64s_get (K : List Int) (j : Nat) (h : j < K.length) : (int64s K)[j]? = some (.int .i64 (K[j]?.getD 0)) := by simp [int64s, h]
def RowI (w : World) (A : Option Addr) (n c : Nat) (l : List Int) : Prop := Rw w w.heap.size A (int64s l) ∧ l.length = n ∧ n ≤ c ∧ ∀ x ∈ l, okI x
theorem RowI.below {w w' : World} {A : Option Addr} {n c : Nat} {l : List Int} (h : RowI w A n c l) (hb : Below w.heap.size w w') : RowI w' A n c l := ⟨Rw.more (Rw.below h.1 hb) hb.size, h.2⟩
theorem IsRow.ri {w : World} {a : Option Addr} {len cap : Nat} {zs : List Int} (h : IsRow .i64 w a len cap zs) : ∃ l, RowI w a len cap l := by
  rcases h with ⟨rfl, rfl, rfl, rfl⟩ | ⟨x, rfl, hl, _, hz, hcell, hwf⟩
  · exact ⟨[], Rw.nil _ _ _, rfl, Nat.le_refl _, fun x hx => by cases hx⟩
  · refine ⟨zs.take len, fun hn => ?_, by rw [List.length_take]; omega, hl, fun n hn => bounds_i64 (hwf n (List.mem_of_mem_take hn))⟩
    have hlen : (int64s (zs.take len)).length = len := by rw [int64s, List.length_map, List.length_take]; omega
    rw [hlen] at hn
    have h0 := hcell 0 (by omega)
    obtain ⟨b, off, spot⟩ := x
    have hs : spot = none := by simpa [Addr.add] using World.cell?_spot h0
    subst hs
    refine ⟨b, off, rfl, ?_, fun j u hu => ?_⟩
    · have := World.block_lt_of_cell? w _ h0
      rwa [add_eq] at this
    · have hj : j < len := by
        rcases Nat.lt_or_ge j len with h1 | h1
        · exact h1
        · rw [List.getElem?_eq_none (by rw [hlen]; exact h1)] at hu; cases hu
      rw [int64s_get _ _ (by rw [List.length_take]; omega)] at hu
      injection hu with hu
      have h1 := hcell j (by omega)
      rw [add_eq] at h1
      rw [h1, ← hu, List.getElem?_take, if_pos (by omega)]
      simp
theorem RowI.at_ {w : World} {A : Option Addr} {n c : Nat} {l : List Int} (h : RowI w A n c l) {k : Nat} (hk : k < n) : ∃ b off, A = some ⟨b, off, none⟩ ∧ b < w.heap.size ∧ w.cell? ⟨b, off + k, none⟩ = some (.int .i64 (l[k]?.getD 0)) ∧ okI (l[k]?.getD 0) := by
  have hkl : k < l.length := by rw [h.2.1]; exact hk
  obtain ⟨b, off, e, hb, hc⟩ := h.1.at_ (int64s_get l k hkl)
  exact ⟨b, off, e, hb, hc, by rw [List.getElem?_eq_getElem hkl]; exact h.2.2.2 _ (List.getElem_mem hkl)⟩
theorem Ow.cell {E : TypeId} {w : World} {base : Nat} {A : Option Addr} {n c : Nat} {xs : List Value} (h : Ow E w base A n c xs) {k : Nat} {u : Value} (hk : xs[k]? = some u) : ∃ g, A = some ⟨g, 0, none⟩ ∧ w.cell? ⟨g, k, none⟩ = some u ∧ w.frozen? ⟨g, k, none⟩ = false := by
  rcases h.cases_ with ⟨_, _, _, rfl⟩ | ⟨g, cur, rfl, _, hg, _, _, _, ht⟩
  · simp at hk
  · refine ⟨g, rfl, ?_, h.frozen rfl k⟩
    rw [cell_of_row w g k cur E (0, 0) hg]
    rw [← ht, List.getElem?_take] at hk
    split at hk
    · simpa using hk
    · cases hk
/-! ### a row of truth values -/
def bls (B : List Bool) : List Value := B.map .bool
theorem bls_len (B : List Bool) : (bls B).length = B.length := by simp [bls]
theorem bls_get {B : List Bool} {k : Nat} {b : Bool} (h : B[k]? = some b) : (bls B)[k]? = some (.bool b) := by simp [bls, h]
theorem bls_set (B : List Bool) (k : Nat) (b : Bool) : bls (B.set k b) = (bls B).set k (.bool b) := by simp [bls, List.map_set]
theorem info_bool : (Try.prog.info? 4).map (fun i => (i.zero, i.size, i.bytes)) = some (some (.bool false), 1, 1) := by kernel_rfl
section
variable {ops : Array Oper} {rest : List Oper} {o : Oper} {a : Act} {w : World} {Q : Exit → Act → World → Prop}
theorem ap_bool (hgd : o.guard = none) (s x : Operand)
    (ho : o.op = .call { callee := .builtin .append, args := #[s, x], argTypes := #[51, 51] })
    (base : Nat) {A : Option Addr} {n c : Nat} {B : List Bool} (hs : a.eval s = .slice A n c) (hown : Ow 4 w base A n c (bls B))
    (hx : a.eval x = .slice (some ⟨w.heap.size, 0, none⟩) 1 1) (hn : n ≤ 100000) (hb : base ≤ w.heap.size)
    (h : ∀ A' c' w', Ow 4 w' base A' (n + 1) c' (bls (B ++ [false])) → Below base w w' → wpList Try.prog ops Q rest (a.put o.dst (.slice A' (n + 1) c')) w') :
    wpList Try.prog ops Q (o :: rest) a (w.alloc (.cells #[.bool false] 4)) := by
  have hz : (w.alloc (.cells #[.bool false] 4)).heap.size = w.heap.size + 1 := World.size_alloc _ _
  have hrow := Ow.rw (ow_lit w 4 w.heap.size [.bool false] (Nat.le_refl _) (by decide))
  refine wpList_append_rw (P := Try.prog) (w := w.alloc (.cells #[.bool false] 4)) hgd s x 51 ho base 4 (.bool false) 1 Try.underlying51 info_bool rfl hs (Ow.alloc hown _) hx hrow rfl (fun u hu => by
    simp at hu; subst hu; rfl) (by unfold maxLen; omega) (by omega) (by omega) fun A' c' w' h1 h2 h3 => ?_
  have e : bls B ++ [.bool false] = bls (B ++ [false]) := by simp [bls]
  rw [e] at h1
  refine h A' c' w' h1 (((Below.refl _ w).alloc hb _).trans ((Below.refl base _).grown h2 (by omega) (fun k hk => ?_)))
  exact (Ow.lt hown k hk).1
end
/-! ### what is missing -/
def mis (B : List Bool) : Nat := B.count false
theorem mis_set {B : List Bool} {k : Nat} (h : B[k]? = some false) : mis (B.set k true) + 1 = mis B := by
  induction B generalizing k with
  | nil => simp at h
  | cons b t ih =>
    rcases k with _ | k
    · simp only [List.getElem?_cons_zero, Option.some.injEq] at h
      subst h
      simp [mis, List.set]
    · rw [List.getElem?_cons_succ] at h
      have := ih h
      unfold mis at this ⊢
      rw [List.set_cons_succ, List.count_cons, List.count_cons]
      omega
theorem set_same {B : List Bool} {k : Nat} (h : B[k]? = some true) : B.set k true = B := by
  apply List.ext_getElem?
  intro j
  by_cases e : k = j
  · subst e
    rw [List.getElem?_set_self (List.getElem?_eq_some_iff.1 h).1, h]
  · rw [List.getElem?_set_ne e]
theorem mis_zero {R : List Pc} {B : List Bool} (hB : B.length = R.length) : mis B = 0 ↔ allB R B := by
  unfold mis allB
  rw [List.count_eq_zero]
  constructor
  · intro h j hj
    have hj' := List.getElem?_eq_getElem (l := B) (i := j) (by omega)
    rw [hj']
    cases hb : B[j] with
    | true => rfl
    | false => exact absurd (hb ▸ List.getElem_mem _) h
  · intro h hm
    obtain ⟨j, hj⟩ := List.mem_iff_getElem?.1 hm
    have := h j (by have := (List.getElem?_eq_some_iff.1 hj).1; omega)
    rw [this] at hj; cases hj
theorem mis_rep (n : Nat) : mis (List.replicate n false) = n := by simp [mis]
/-! ### the law's state -/
/-- Behind some calls: W1 is the world ahead of the Store. -/
structure BkW (W1 : World) (p : PkV) (T : List Int) (Lp : List Pm) (A : Option Addr) (n c : Nat) (B Bm : List Bool) (L : List Rec) (F : Nat → Prop) (wr : World) : Prop where
  st : Sto wr W1.heap.size F L
  fp : ∀ b, F b → W1.heap.size ≤ b
  bl : BackL p T (Lp.map Pm.plain) B L
  ln : B.length = Lp.length
  nn : n = Lp.length
  ow : Ow 4 wr W1.heap.size A n c (bls Bm)
  no : ∀ b, blk A = some b → ¬ F b
  be : Below W1.heap.size W1 wr
def BkT (W1 : World) (p : PkV) (T : List Int) (Lp : List Pm) (m : Nat) (A : Option Addr) (n c : Nat) (i : Nat) (B : List Bool) (wr : World) : Prop :=
  (∃ L F, BkW W1 p T Lp A n c B B L F wr) ∧ 0 < mis B ∧ ∀ j : Nat, j + m < i → j < n → B[j]? = some true
def BkM (W1 : World) (p : PkV) (T : List Int) (Lp : List Pm) (m : Nat) (A : Option Addr) (n c : Nat) (i k : Nat) (B : List Bool) (wr : World) : Prop :=
  (∃ L F, BkW W1 p T Lp A n c B (B.set k true) L F wr) ∧ ∀ j : Nat, j + m < i + 1 → j < n → (B.set k true)[j]? = some true
section
variable {W1 wr : World} {p : PkV} {T : List Int} {Lp : List Pm} {m n c i k : Nat} {A : Option Addr} {B : List Bool}
theorem BkT.below (h : BkT W1 p T Lp m A n c i B wr) : Below W1.heap.size W1 wr := by
  obtain ⟨⟨L, F, h⟩, _⟩ := h
  exact h.be
theorem BkM.below (h : BkM W1 p T Lp m A n c i k B wr) : Below W1.heap.size W1 wr := by
  obtain ⟨⟨L, F, h⟩, _⟩ := h
  exact h.be
theorem BkT.start (hO : Ow 4 wr (W1.heap.size + 1) A n c (bls (List.replicate n false))) (hB : Below (W1.heap.size + 1) (W1.alloc (.cells #[.map none, .slice none 0 0] 46)) wr) (hn : n = Lp.length) (h0 : 0 < n) : BkT W1 p T Lp m A n c 0 (List.replicate n false) wr := by
  have hz : (W1.alloc (.cells #[.map none, .slice none 0 0] 46)).heap.size = W1.heap.size + 1 := World.size_alloc _ _
  refine ⟨⟨[], fun b => b = W1.heap.size, ⟨(sto_new _ _ (Bk.new W1 _ _)).below (by rw [hz]; exact hB), fun b hb => by omega, .inl ⟨rfl, fun j hj => ?_⟩, by rw [List.length_replicate]; exact hn, hn, Ow.mono hO (by omega), fun b hb e => by have := (Ow.lt hO b hb).1; omega, ((Below.refl _ _).alloc (Nat.le_refl _) _).trans (hB.mono (by omega))⟩⟩, by rw [mis_rep]; exact h0, fun j h => by omega⟩
  rw [List.getElem?_replicate] at hj
  split at hj <;> simp at hj
theorem BkT.mle (h : BkT W1 p T Lp m A n c i B wr) : mis B ≤ n := by
  obtain ⟨⟨L, F, h⟩, h2, h3⟩ := h
  have h4 : mis B ≤ B.length := List.count_le_length
  have := h.ln
  have := h.nn
  omega
theorem BkT.stop (h : BkT W1 p T Lp m A n c i B wr) (hi : i = m + n) : False := by
  obtain ⟨⟨L, F, h⟩, h2, h3⟩ := h
  have : mis B = 0 := (mis_zero (R := Lp.map Pm.plain) (by rw [List.length_map]; exact h.ln)).2 fun j hj => by
    rw [List.length_map] at hj
    have := h.nn
    exact h3 j (by omega) (by omega)
  omega
theorem BkT.at_ (h : BkT W1 p T Lp m A n c i B wr) (hk : k < n) : ∃ g b, A = some ⟨g, 0, none⟩ ∧ B[k]? = some b ∧ wr.cell? ⟨g, k, none⟩ = some (.bool b) ∧ wr.frozen? ⟨g, k, none⟩ = false := by
  obtain ⟨⟨L, F, h⟩, h2, h3⟩ := h
  have hkB : k < B.length := by have := h.ln; have := h.nn; omega
  have hb := List.getElem?_eq_getElem hkB
  obtain ⟨g, hA, hc, hf⟩ := Ow.cell h.ow (bls_get hb)
  exact ⟨g, B[k], hA, hb, hc, hf⟩
theorem BkT.keep (h : BkT W1 p T Lp m A n c i B wr) (hk : k < n) (hb : B[k]? = some true) (hik : m ≤ i → k = i - m) : BkM W1 p T Lp m A n c i k B wr := by
  obtain ⟨⟨L, F, h⟩, h2, h3⟩ := h
  refine ⟨⟨L, F, by rw [set_same hb]; exact h⟩, fun j h4 h5 => ?_⟩
  rw [set_same hb]
  rcases Nat.lt_or_ge (j + m) i with q | q
  · exact h3 j q h5
  · have : j = k := by have := hik (by omega); omega
    subst this
    exact hb
theorem BkT.mark (h : BkT W1 p T Lp m A n c i B wr) (hk : k < n) (hik : m ≤ i → k = i - m) {g : Nat} (hA : A = some ⟨g, 0, none⟩) : BkM W1 p T Lp m A n c i k B (wr.setCell ⟨g, k, none⟩ (.bool true)) := by
  obtain ⟨⟨L, F, h⟩, h2, h3⟩ := h
  have hkB : k < B.length := by have := h.ln; have := h.nn; omega
  subst hA
  have hC : Chg (fun b => b = g) wr (wr.setCell ⟨g, k, none⟩ (.bool true)) := (Chg.refl (fun b => b = g) _).setCell (p := ⟨g, k, none⟩) (.inl rfl) _
  refine ⟨⟨L, F, ⟨h.st.chg hC (fun b hb e => by subst e; exact h.no b rfl hb), h.fp, h.bl, h.ln, h.nn, ?_, h.no, ?_⟩⟩, fun j h4 h5 => ?_⟩
  · obtain ⟨g', e, hO⟩ := Ow.store h.ow hk (.bool true)
    injection e with e; injection e with e
    subst e
    rw [bls_set]; exact hO
  · exact h.be.trans (hC.below (fun b hb => by subst hb; exact (Ow.lt h.ow b rfl).1) (by have := h.be.size; omega))
  · by_cases e : k = j
    · subst e; rw [List.getElem?_set_self hkB]
    · rw [List.getElem?_set_ne e]
      rcases Nat.lt_or_ge (j + m) i with q | q
      · exact h3 j q h5
      · have := hik (by omega); omega
theorem BkT.alloc (h : BkT W1 p T Lp m A n c i B wr) (o : Obj) : BkT W1 p T Lp m A n c i B (wr.alloc o) := by
  obtain ⟨⟨L, F, h⟩, h2⟩ := h
  exact ⟨⟨L, F, ⟨h.st.alloc o, h.fp, h.bl, h.ln, h.nn, Ow.alloc h.ow o, h.no, h.be.alloc (h.be.size) o⟩⟩, h2⟩
/-- What Add of a piece brings about. -/
def BkAdd (W1 : World) (p : PkV) (T : List Int) (Lp : List Pm) (m : Nat) (A : Option Addr) (n c : Nat) (i k : Nat) (B : List Bool) (wr : World) (e : Ending) (w' : World) : Prop :=
  ∃ (q : PkV) (is : Bool) (A1 A2 : Option Addr) (n1 c1 n2 c2 : Nat), e = .returned (.tuple #[.agg (pkC q (.slice A1 n1 c1) (.slice A2 n2 c2)), .bool is, .int .i64 0]) ∧ Below W1.heap.size W1 w' ∧
    ((mis (B.set k true) = 0 ∧ is = true ∧ (q.id = p.id ∧ q.proto = p.proto ∧ q.src = p.src ∧ q.dst = p.dst ∧ q.more = false ∧ q.off = 0) ∧ RB w' w'.heap.size A2 T ∧ T.length = n2 ∧ n2 ≤ c2 ∧ ∃ F, Sto w' W1.heap.size F []) ∨
     (mis (B.set k true) ≠ 0 ∧ is = false ∧ BkT W1 p T Lp m A n c (i + 1) (B.set k true) w'))
theorem bk_add (h : BkM W1 p T Lp m A n c i k B wr) (hA : PcsAll p T (Lp.map Pm.plain)) (h2 : 2 ≤ Lp.length) {x : Pm} (hx : Lp[k]? = some x) (hol : x.ol.length ≤ 1000000) (hdl : x.dl.length ≤ 1000000) {base : Nat} (hP : PmsOk W1 base Lp) :
    Calls Try.prog 21 #[.pointer (some ⟨W1.heap.size, 0, none⟩), .agg (pkC x.p (.slice x.oA x.on x.oc) (.slice x.dA x.dn x.dc)), .int .i64 5] wr (BkAdd W1 p T Lp m A n c i k B wr) := by
  obtain ⟨⟨L, F, h⟩, h3⟩ := h
  have hk : (Lp.map Pm.plain)[k]? = some x.plain := by rw [List.getElem?_map, hx]; rfl
  have hpm := hP.1 x (List.mem_of_getElem? hx)
  have hg : Good x.p x.dl.length := hA.good hk (by rw [List.length_map]; exact h2)
  have hpa := hA.at_ k _ hk
  have hro := Rw.below (Rw.more (OB.rb hpm.1) (Nat.le_refl _)) h.be
  have hrd := Rw.below (Rw.more (OB.rb hpm.2.1) (Nat.le_refl _)) h.be
  have l1 := OB.length hpm.1
  have l2 := OB.length hpm.2.1
  have hbs := h.be.size
  refine (sto_add W1.heap.size F L x.p hpa.ok x.oA x.dA x.on x.oc x.dn x.dc W1.heap.size x.ol x.dl l1 (by omega) l2 (Ow.cap hpm.2.1) (by omega) 5 wr hro hrd hbs h.st (fun b hb => ?_)).mono ?_
  · have hb' : b < W1.heap.size := by
      rcases hb with hb | hb
      · exact (Ow.lt hpm.1 b hb.2).2
      · exact (Ow.lt hpm.2.1 b hb).2
    exact ⟨by omega, fun hf => by have := h.fp b hf; omega⟩
  · rintro e w' ⟨F', L', ⟨q, ol', dl'⟩, is, er, A1, A2, n1, c1, n2, c2, he, q1, q2, q3, q4, q5, q6⟩
    have hG := addR_good q6 hg
    have hBw : Below W1.heap.size W1 w' := h.be.trans (q5.below h.fp hbs)
    obtain ⟨rfl, r1, r2⟩ := back_step hA (by rw [List.length_map]; exact h2) (by rw [List.length_map]; exact h.ln) h.bl hk hol hG
    have hlen : (B.set k true).length = (Lp.map Pm.plain).length := by rw [List.length_set, List.length_map]; exact h.ln
    refine ⟨q, is, A1, A2, n1, c1, n2, c2, he, hBw, ?_⟩
    rcases Nat.decEq (mis (B.set k true)) 0 with hz | hz
    · right
      obtain ⟨r3, r4⟩ := r2 (fun hall => hz ((mis_zero hlen).2 hall))
      refine ⟨hz, r3, ⟨L', F', ⟨q1, fun b hb => ?_, r4, by rw [List.length_set]; exact h.ln, h.nn, ?_, fun b hb hf => ?_, hBw⟩⟩, Nat.pos_of_ne_zero hz, h3⟩
      · rcases q4 b hb with h4 | h4
        · exact h.fp b h4
        · omega
      · exact Ow.chg h.ow q5 (fun b hb => h.no b hb)
      · rcases q4 b hf with h4 | h4
        · exact h.no b hb h4
        · have := (Ow.lt h.ow b hb).2; omega
    · left
      obtain ⟨r3, rfl, r5, mo, a, r6⟩ := r1 ((mis_zero hlen).1 hz)
      have e1 : q = piece { piece p mo a with off := 0 } false 0 := r6
      have e2 : dl' = T := r5
      refine ⟨hz, r3, by subst e1; exact ⟨rfl, rfl, rfl, rfl, rfl, rfl⟩, by rw [← e2]; exact OB.rb q2.2.1, by rw [← e2]; exact OB.length q2.2.1, Ow.cap q2.2.1, F', q1⟩
end
end Go.Proofs.Ytcjkhonapafndaa
