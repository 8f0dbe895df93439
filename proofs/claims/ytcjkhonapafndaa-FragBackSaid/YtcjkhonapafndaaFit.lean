/- Proved: the pieces of a packet fit, and are the packet's, piece by piece (plain law). Conditions: none. -/
import Derived.Test.YtcjkhonapafndaaPcm
set_option linter.unusedVariables false
set_option linter.unusedSimpArgs false
namespace Go.Proofs.Ytcjkhonapafndaa
open Go.RowKit

theorem b8_mid {pre chunk rest : List Int} {t : Nat} (h : t < chunk.length) : b8 (pre ++ (chunk ++ rest)) (pre.length + t) = chunk[t]?.getD 0 := by
  unfold b8
  rw [List.getElem?_append_right (by omega), show pre.length + t - pre.length = t by omega, List.getElem?_append_left h]
theorem goodF_cop : ∀ (k : Nat) (l : List Int) (i : Nat), goodF k l i = true → ∀ (pre : List Int) (k' : Nat), goodF k' (pre ++ copF k l i) pre.length = true
  | 0, l, i, _, pre, k' => by
    rw [show copF 0 l i = [] from rfl, List.append_nil]
    exact goodF_end (Nat.le_refl _)
  | k + 1, l, i, hg, pre, 0 => rfl
  | k + 1, l, i, hg, pre, k' + 1 => by
    by_cases h : i < l.length ∧ b8 l i ≠ 0
    · by_cases h1 : b8 l i = 1
      · rw [copF_one h.1 h1]
        rw [goodF_one h.1 h1] at hg
        exact goodF_cop k l (i + 1) hg pre (k' + 1)
      · obtain ⟨a, b, c, d⟩ := goodF_inv h.1 h.2 h1 hg
        rcases (by omega : b8 l i < 128 ∨ 128 ≤ b8 l i) with e | e
        · rw [copF_low h.1 h.2 h1 e]
          exact goodF_cop k l _ d pre (k' + 1)
        · rw [copF_high h.1 e]
          obtain ⟨N, hN⟩ : ∃ N : Nat, b8 l (i + 1) = N := ⟨(b8 l (i + 1)).toNat, by omega⟩
          rw [hN] at b c d ⊢
          simp only [Int.toNat_natCast] at d ⊢
          have hcl : ((l.drop i).take N).length = N := by rw [List.length_take, List.length_drop]; omega
          have g0 : b8 (pre ++ ((l.drop i).take N ++ copF k l (i + N))) pre.length = b8 l i := by
            have := b8_mid (pre := pre) (chunk := (l.drop i).take N) (rest := copF k l (i + N)) (t := 0) (by omega)
            rw [Nat.add_zero] at this
            rw [this, List.getElem?_take, if_pos (by omega), List.getElem?_drop, Nat.add_zero]; rfl
          have g1 : b8 (pre ++ ((l.drop i).take N ++ copF k l (i + N))) (pre.length + 1) = N := by
            rw [b8_mid (by omega), List.getElem?_take, if_pos (by omega), List.getElem?_drop, ← hN]; rfl
          have hlen : (pre ++ ((l.drop i).take N ++ copF k l (i + N))).length = pre.length + N + (copF k l (i + N)).length := by
            rw [List.length_append, List.length_append, hcl]; omega
          rw [goodF_more (by omega) (by rw [g0]; omega) (by rw [g0]; omega) (by omega) (by rw [g1]; omega) (by rw [g1]; omega), g1, Int.toNat_natCast]
          have := goodF_cop k l (i + N) d (pre ++ (l.drop i).take N) k'
          rw [List.append_assoc, List.length_append, hcl] at this
          exact this
    · rw [copF_end h, List.append_nil]
      exact goodF_end (Nat.le_refl _)
theorem goodO_cop {l : List Int} (h : goodO l = true) : goodO (copO l) = true := by
  have := goodF_cop (l.length + 1) l 0 h [] ((copO l).length + 1)
  simpa [goodO, copO] using this
theorem hdN_mono {a b : Nat} (h : a ≤ b) : hdN a ≤ hdN b := by unfold hdN; omega
def PcsOk (p : PkV) (mtu : Nat) : List Pc → Int → List Int → Prop
  | [], _, rest => rest = []
  | x :: r, at_, rest => errIs x.1 x.2.1 x.2.2.length 0 ∧ x.1.Ok ∧ hdN x.2.1.length + x.2.2.length ≤ mtu ∧ x.1.off = at_ ∧ x.2.2 = rest.take x.2.2.length ∧ x.2.2.length ≤ rest.length ∧
      (r ≠ [] → x.2.2.length % 8 = 0 ∧ x.1.more = true) ∧ (r = [] → x.1.more = p.more) ∧ PcsOk p mtu r (at_ + x.2.2.length) (rest.drop x.2.2.length)
theorem piecesF_ne {f : Nat} {p : PkV} {mtu : Nat} {ol0 opts rest : List Int} {at_ : Int} (h : 0 < rest.length) : piecesF (f + 1) p mtu ol0 opts rest at_ ≠ [] := by
  rw [piecesF, if_neg (by omega)]; simp
theorem pcsok_F : ∀ (f : Nat) (p : PkV) (mtu : Nat) (ol0 opts rest : List Int) (at_ : Int), 68 ≤ mtu → p.Ok → numsP p → 0 ≤ at_ → at_ % 8 = 0 → at_ + rest.length + hdN opts.length ≤ 65535 → at_ + rest.length + hdN (copO ol0).length ≤ 65535 →
    goodO opts = true → opts.length ≤ 40 → goodO (copO ol0) = true → (copO ol0).length ≤ 40 → rest.length < f → PcsOk p mtu (piecesF f p mtu ol0 opts rest at_) at_ rest
  | 0, p, mtu, ol0, opts, rest, at_ => fun _ _ _ _ _ _ _ _ _ _ _ h => by omega
  | f + 1, p, mtu, ol0, opts, rest, at_ => fun hm hp hn h0 h8 hf hf2 hg ho hg2 ho2 hl => by
    rcases Nat.eq_zero_or_pos rest.length with hr | hr
    · rw [piecesF_end hr]
      exact List.eq_nil_of_length_eq_zero hr
    · obtain ⟨c1, c2⟩ := cutN_pos hm ho hr
      obtain ⟨n, hcn⟩ : ∃ n, cutN mtu opts.length rest.length = n := ⟨_, rfl⟩
      rw [hcn] at c1 c2
      rw [piecesF_more hr hcn]
      have hh := hdN_40 ho
      have hnm : hdN opts.length + n ≤ mtu := by
        rw [← hcn]; unfold cutN roomN; split <;> omega
      have hn8 : n < rest.length → n % 8 = 0 := by
        rw [← hcn]; unfold cutN; intro h; split at h
        · rw [if_pos (by assumption)]; omega
        · omega
      have htk : (rest.take n).length = n := by rw [List.length_take]; omega
      obtain ⟨a1, a2, a3, a4, a5, a6⟩ := hn
      refine ⟨?_, ?_, ?_, rfl, ?_, ?_, ?_, ?_, ?_⟩
      · refine .inr (.inr (.inr ⟨⟨a1, a2, a3, a4, ⟨h0, ?_⟩, h8⟩, ho, hg, ⟨?_, ?_⟩, rfl⟩))
        · show at_ ≤ 65528; omega
        · show hdN opts.length + (rest.take n).length ≤ 65535
          rw [htk]; omega
        · show at_ + ((rest.take n).length : Int) ≤ 65535 - (hdN opts.length : Int)
          rw [htk]; omega
      · exact ⟨hp.svc, hp.id, ⟨by show -9223372036854775808 ≤ at_; omega, by show at_ ≤ 9223372036854775807; omega⟩, hp.life, hp.proto, hp.src, hp.dst⟩
      · rw [htk]; exact hnm
      · show rest.take n = rest.take (rest.take n).length
        rw [htk]
      · show (rest.take n).length ≤ _; omega
      · intro hne
        have hlt : n < rest.length := by
          rcases Nat.lt_or_ge n rest.length with h | h
          · exact h
          · exact absurd (piecesF_end (by rw [List.length_drop]; omega)) hne
        refine ⟨by show (rest.take n).length % 8 = 0; rw [htk]; exact hn8 hlt, ?_⟩
        show (p.more || decide (n < rest.length)) = true
        rw [decide_eq_true hlt]; simp
      · intro he
        have hlt : ¬ n < rest.length := fun h => by
          obtain ⟨f', rfl⟩ : ∃ f', f = f' + 1 := ⟨f - 1, by omega⟩
          exact piecesF_ne (by rw [List.length_drop]; omega) he
        show (p.more || decide (n < rest.length)) = p.more
        rw [decide_eq_false hlt]; simp
      · show PcsOk p mtu _ (at_ + ((rest.take n).length : Nat)) (rest.drop (rest.take n).length)
        rw [htk]
        rcases Nat.lt_or_ge n rest.length with h | h
        · have := hn8 h
          exact pcsok_F f p mtu ol0 (copO ol0) (rest.drop n) (at_ + n) hm hp ⟨a1, a2, a3, a4, a5, a6⟩ (by omega) (by omega) (by rw [List.length_drop]; omega) (by rw [List.length_drop]; omega) hg2 ho2 hg2 ho2 (by rw [List.length_drop]; omega)
        · rw [piecesF_end (by rw [List.length_drop]; omega)]
          exact List.drop_eq_nil_of_le h
theorem splIs_ok {p : PkV} {ol dl : List Int} {mtu : Int} {R : List Pc} (hp : p.Ok) (h : splIs p ol dl mtu 0 R) : PcsOk p mtu.toNat R p.off dl ∧ R ≠ [] ∧ 68 ≤ mtu ∧ mtu ≤ 65535 := by
  rcases h with ⟨_, h, _⟩ | ⟨a, b, ⟨_, c, _⟩ | ⟨_, _, _, c, _⟩ | ⟨c, d, _, rfl⟩⟩
  · cases h
  · exact absurd rfl c
  · cases c
  · refine (fun (x : PcsOk p mtu.toNat (splitP p mtu.toNat ol dl) p.off dl ∧ splitP p mtu.toNat ol dl ≠ []) => ⟨x.1, x.2, a, b⟩) ?_
    have hc := c
    rcases hc with ⟨_, h⟩ | ⟨_, _, h⟩ | ⟨_, _, _, _, h⟩ | ⟨hn, ho, hg, hf, _⟩
    · cases h
    · cases h
    · cases h
    unfold splitP
    split
    · rename_i hh
      refine ⟨⟨c, hp, hh, rfl, (List.take_length).symm, Nat.le_refl _, fun h => absurd rfl h, fun _ => rfl, ?_⟩, by simp⟩
      show dl.drop dl.length = []
      exact List.drop_length
    · rename_i hh
      have h40 := hdN_40 ho
      have hcl := copO_len hg
      have hdm := hdN_mono hcl
      have hpos : 0 < dl.length := by omega
      obtain ⟨f1, f2⟩ := hf
      have hn5 := hn.2.2.2.2
      refine ⟨pcsok_F _ p mtu.toNat ol ol dl p.off (by omega) hp hn hn5.1.1 hn5.2 (by omega) (by omega) hg ho (goodO_cop hg) (by omega) (by omega), piecesF_ne hpos⟩
theorem pcs_last : ∀ (R : List Pc) (p : PkV) (mtu : Nat) (at_ : Int) (rest : List Int), PcsOk p mtu R at_ rest → R ≠ [] → ∃ x, R[R.length - 1]? = some x ∧ x.1.more = p.more
  | [], _, _, _, _, _, h => absurd rfl h
  | [x], _, _, _, _, h, _ => ⟨x, rfl, h.2.2.2.2.2.2.2.1 rfl⟩
  | x :: y :: r, p, mtu, at_, rest, h, _ => by
    obtain ⟨z, h1, h2⟩ := pcs_last (y :: r) p mtu _ _ h.2.2.2.2.2.2.2.2 (by simp)
    refine ⟨z, ?_, h2⟩
    simpa using h1
/-- The law's loop: what is collected, and what is still to come. -/
def FtRel (W4 : World) (p : PkV) (m : Nat) (dl : List Int) (L : List Pm) (dn : Nat) (v7 : Value) (j : Nat) (wr : World) : Prop :=
  ∃ (A7 : Option Addr) (n7 c7 : Nat), v7 = .slice A7 n7 c7 ∧ OB 5 wr W4.heap.size A7 n7 c7 (dl.take n7) ∧ n7 ≤ dn ∧ PcsOk p m ((L.drop j).map Pm.plain) (p.off + n7) (dl.drop n7) ∧ Below W4.heap.size W4 wr
theorem FtRel.next {W4 W' : World} {p : PkV} {m : Nat} {dl : List Int} {L : List Pm} {dn n7 j xdn c3 : Nat} {A3 : Option Addr} {xdl : List Int} (hdn : dl.length = dn) (hO3 : OB 5 W' W4.heap.size A3 (n7 + xdn) c3 (dl.take n7 ++ xdl)) (hn7 : n7 ≤ dn) (hl : xdl.length = xdn)
    (p5 : xdl = (dl.drop n7).take xdl.length) (p6 : xdl.length ≤ (dl.drop n7).length) (p9 : PcsOk p m ((L.drop (j + 1)).map Pm.plain) (p.off + n7 + xdl.length) ((dl.drop n7).drop xdl.length)) (hB : Below W4.heap.size W4 W') :
    FtRel W4 p m dl L dn (.slice A3 (n7 + xdn) c3) (j + 1) W' := by
  rw [hl] at p5 p6 p9
  rw [List.length_drop] at p6
  refine ⟨A3, n7 + xdn, c3, rfl, ?_, by omega, ?_, hB⟩
  · rw [List.take_add, ← p5]; exact hO3
  · rw [List.drop_drop] at p9
    rw [show p.off + ((n7 + xdn : Nat) : Int) = p.off + n7 + xdn by omega]
    exact p9
end Go.Proofs.Ytcjkhonapafndaa
