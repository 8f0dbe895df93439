/- Proved: pieces of a packet told in any order bring it out, once all are there (plain). Conditions: as each law says. -/
import Derived.Test.YtcjkhonapafndaaPlf
import Derived.Test.YtcjkhonapafndaaFit
set_option linter.unusedVariables false
set_option linter.unusedSimpArgs false
namespace Go.Proofs.Ytcjkhonapafndaa
open Go.RowKit
/-- Each piece is one of the packet's, and has bytes. -/
theorem piecesF_pc : ∀ (f : Nat) (p : PkV) (mtu : Nat) (ol0 opts rest : List Int) (at_ : Int), 68 ≤ mtu → opts.length ≤ 40 → (copO ol0).length ≤ 40 → ∀ x ∈ piecesF f p mtu ol0 opts rest at_, 0 < x.2.2.length ∧ ∃ mo a, x.1 = piece p mo a
  | 0, _, _, _, _, _, _ => fun _ _ _ x hx => by cases hx
  | f + 1, p, mtu, ol0, opts, rest, at_ => fun hm ho hc x hx => by
    rw [piecesF] at hx
    split at hx
    · cases hx
    · rename_i hr
      have hcp := cutN_pos hm ho (Nat.pos_of_ne_zero hr)
      rcases List.mem_cons.1 hx with rfl | hx
      · refine ⟨?_, _, _, rfl⟩
        show 0 < (rest.take _).length
        rw [List.length_take]; omega
      · exact piecesF_pc f p mtu ol0 (copO ol0) _ _ hm hc hc x hx
theorem splIs_pc {p : PkV} {ol dl : List Int} {mtu : Int} {R : List Pc} (h : splIs p ol dl mtu 0 R) (h2 : 2 ≤ R.length) : ∀ x ∈ R, 0 < x.2.2.length ∧ ∃ mo a, x.1 = piece p mo a := by
  rcases h with ⟨_, h, _⟩ | ⟨a, b, ⟨_, c, _⟩ | ⟨_, _, _, c, _⟩ | ⟨c, d, _, rfl⟩⟩
  · cases h
  · exact absurd rfl c
  · cases c
  · rcases c with ⟨_, h⟩ | ⟨_, _, h⟩ | ⟨_, _, _, _, h⟩ | ⟨hn, ho, hg, hf, _⟩
    · cases h
    · cases h
    · cases h
    unfold splitP at h2 ⊢
    split at h2
    · simp at h2
    · rename_i hh
      rw [if_neg hh]
      exact piecesF_pc _ p mtu.toNat ol ol dl p.off (by omega) ho (by have := copO_len hg; omega)
def offs (R : List Pc) (j : Nat) : Nat := ((R.take j).map (fun x => x.2.2.length)).sum
theorem offs_zero (R : List Pc) : offs R 0 = 0 := rfl
theorem offs_succ {R : List Pc} {j : Nat} {x : Pc} (h : R[j]? = some x) : offs R (j + 1) = offs R j + x.2.2.length := by
  unfold offs
  rw [List.take_add_one, h]
  simp
theorem offs_cons (x : Pc) (R : List Pc) (j : Nat) : offs (x :: R) (j + 1) = x.2.2.length + offs R j := by
  unfold offs; simp
/-- What is known of one piece. -/
structure PcAt (p : PkV) (T : List Int) (R : List Pc) (j : Nat) (x : Pc) : Prop where
  off : x.1.off = p.off + offs R j
  dl : x.2.2 = (T.drop (offs R j)).take x.2.2.length
  le : offs R j + x.2.2.length ≤ T.length
  mid : j + 1 < R.length → x.2.2.length % 8 = 0 ∧ x.1.more = true
  last : j + 1 = R.length → x.1.more = p.more ∧ offs R j + x.2.2.length = T.length
  err : errIs x.1 x.2.1 x.2.2.length 0
  ok : x.1.Ok
theorem pcs_at : ∀ (R : List Pc) (p : PkV) (m : Nat) (a : Int) (T : List Int), PcsOk p m R a T → ∀ j x, R[j]? = some x →
    x.1.off = a + offs R j ∧ x.2.2 = (T.drop (offs R j)).take x.2.2.length ∧ offs R j + x.2.2.length ≤ T.length ∧ (j + 1 < R.length → x.2.2.length % 8 = 0 ∧ x.1.more = true) ∧ (j + 1 = R.length → x.1.more = p.more ∧ offs R j + x.2.2.length = T.length) ∧ errIs x.1 x.2.1 x.2.2.length 0 ∧ x.1.Ok
  | [], _, _, _, _ => fun _ j x h => by simp at h
  | y :: R, p, m, a, T => fun ⟨h1, h2, h3, h4, h5, h6, h7, h8, h9⟩ j x h => by
    rcases j with _ | j
    · simp only [List.getElem?_cons_zero, Option.some.injEq] at h
      subst h
      refine ⟨by rw [offs_zero, h4]; omega, by rw [offs_zero]; exact h5, by rw [offs_zero]; omega, fun h => h7 (fun e => by rw [e] at h; simp at h), fun h => ?_, h1, h2⟩
      have e : R = [] := List.eq_nil_of_length_eq_zero (by simpa using h)
      refine ⟨h8 e, ?_⟩
      rw [e] at h9
      have h9' : T.drop y.2.2.length = [] := h9
      have := congrArg List.length h9'
      rw [List.length_drop, List.length_nil] at this
      rw [offs_zero]; omega
    · rw [List.getElem?_cons_succ] at h
      obtain ⟨q1, q2, q3, q4, q5, q6, q7⟩ := pcs_at R p m _ _ h9 j x h
      rw [List.length_drop] at q3 q5
      rw [List.drop_drop] at q2
      rw [offs_cons]
      refine ⟨by rw [q1]; omega, q2, by omega, fun h => q4 (by simpa using h), fun h => ?_, q6, q7⟩
      have := q5 (by simpa using h)
      exact ⟨this.1, by omega⟩
theorem offs_mono {R : List Pc} : ∀ {j k : Nat} {x : Pc}, R[j]? = some x → j < k → offs R j + x.2.2.length ≤ offs R k := by
  intro j k x h hjk
  induction k with
  | zero => omega
  | succ k ih =>
    rcases Nat.lt_or_ge j k with c | c
    · have := ih c
      rcases hk : R[k]? with _ | y
      · have e : offs R (k + 1) = offs R k := by unfold offs; rw [List.take_add_one, hk]; simp
        omega
      · have := offs_succ hk; omega
    · have e : k = j := by omega
      subst e
      rw [offs_succ h]; exact Nat.le_refl _
theorem offs_eight {p : PkV} {T : List Int} {R : List Pc} (h : ∀ j x, R[j]? = some x → PcAt p T R j x) : ∀ j, j < R.length → offs R j % 8 = 0 := by
  intro j
  induction j with
  | zero => intro _; rfl
  | succ j ih =>
    intro hj
    have h1 := ih (by omega)
    have h2 := List.getElem?_eq_getElem (l := R) (i := j) (by omega)
    rw [offs_succ h2]
    have := (h j _ h2).mid hj
    omega
/-- The pieces cover all. -/
theorem offs_cover {p : PkV} {T : List Int} {R : List Pc} (h : ∀ j x, R[j]? = some x → PcAt p T R j x) (hR : R ≠ []) : ∀ c, c < T.length → ∃ j x, R[j]? = some x ∧ offs R j ≤ c ∧ c < offs R j + x.2.2.length := by
  intro c hc
  have key : ∀ n, n ≤ R.length → c < offs R n → ∃ j x, R[j]? = some x ∧ offs R j ≤ c ∧ c < offs R j + x.2.2.length := by
    intro n
    induction n with
    | zero => intro _ h; rw [offs_zero] at h; omega
    | succ n ih =>
      intro hn hc
      have h2 := List.getElem?_eq_getElem (l := R) (i := n) (by omega)
      rcases Nat.lt_or_ge c (offs R n) with d | d
      · exact ih (by omega) d
      · exact ⟨n, _, h2, d, by rw [offs_succ h2] at hc; exact hc⟩
  have hl : 0 < R.length := List.length_pos_iff.2 hR
  have h2 := List.getElem?_eq_getElem (l := R) (i := R.length - 1) (by omega)
  have h3 := ((h _ _ h2).last (by omega)).2
  have h4 := offs_succ h2
  rw [show R.length - 1 + 1 = R.length by omega] at h4
  exact key R.length (Nat.le_refl _) (by omega)
structure PcsAll (p : PkV) (T : List Int) (R : List Pc) : Prop where
  at_ : ∀ j x, R[j]? = some x → PcAt p T R j x
  pc : ∀ x ∈ R, 0 < x.2.2.length ∧ ∃ mo a, x.1 = piece p mo a
  ne : R ≠ []
  off : p.off = 0
  more : p.more = false
theorem splIs_all {p : PkV} {ol T : List Int} {mtu : Int} {R : List Pc} (hp : p.Ok) (h : splIs p ol T mtu 0 R) (h2 : 2 ≤ R.length) (ho : p.off = 0) (hm : p.more = false) : PcsAll p T R := by
  obtain ⟨h1, hne, _⟩ := splIs_ok hp h
  refine ⟨fun j x hx => ?_, splIs_pc h h2, hne, ho, hm⟩
  obtain ⟨q1, q2, q3, q4, q5, q6, q7⟩ := pcs_at R p _ _ T h1 j x hx
  exact ⟨q1, q2, q3, q4, q5, q6, q7⟩
theorem PcsAll.good {p : PkV} {T : List Int} {R : List Pc} (h : PcsAll p T R) {j : Nat} {x : Pc} (hx : R[j]? = some x) (h2 : 2 ≤ R.length) : Good x.1 x.2.2.length := by
  have ha := h.at_ j x hx
  have hj : j < R.length := (List.getElem?_eq_some_iff.1 hx).1
  have hpos := (h.pc x (List.mem_of_getElem? hx)).1
  have h8 := offs_eight h.at_ j hj
  have hoff := ha.off
  rw [h.off] at hoff
  have hfit : x.1.off + x.2.2.length ≤ 65515 := by
    rcases ha.err with ⟨_, h⟩ | ⟨_, _, h⟩ | ⟨_, _, _, _, h⟩ | ⟨_, _, _, hf, _⟩
    · cases h
    · cases h
    · cases h
    · have := hf.2; unfold hdN at this; omega
  refine ⟨hpos, by omega, ?_, fun hm => ?_, ?_, hfit⟩
  · rw [hoff, Int.tmod_eq_emod_of_nonneg (by omega)]; omega
  · rcases Nat.lt_or_ge (j + 1) R.length with c | c
    · exact (ha.mid c).1
    · rw [(ha.last (by omega)).1, h.more] at hm; cases hm
  · rcases Nat.lt_or_ge (j + 1) R.length with c | c
    · exact .inl (ha.mid c).2
    · right
      have h0 := List.getElem?_eq_getElem (l := R) (i := 0) (by omega)
      have := offs_mono h0 (by omega : 0 < j)
      have := (h.pc _ (List.mem_of_getElem? h0)).1
      omega
/-- A piece is there. -/
def CovB (R : List Pc) (B : List Bool) (c : Nat) : Prop := ∃ j x, R[j]? = some x ∧ B[j]? = some true ∧ offs R j ≤ c ∧ c < offs R j + x.2.2.length
structure BackS (p : PkV) (T : List Int) (R : List Pc) (B : List Bool) (r : Rec) : Prop where
  ok : RecOk r
  k : r.k = pkK p
  half : Half T r
  cov : ∀ c, Cov r.S c ↔ CovB R B c
  fin : r.fin = if B[R.length - 1]? = some true then (T.length : Int) else -1
  first : ∀ q ol dl, r.first = some (q, ol, dl) → ∃ mo a, q = piece p mo a
def BackL (p : PkV) (T : List Int) (R : List Pc) (B : List Bool) (L : List Rec) : Prop :=
  (L = [] ∧ ∀ j : Nat, B[j]? ≠ some true) ∨ ∃ r, L = [r] ∧ BackS p T R B r
theorem BackS.new (p : PkV) (T : List Int) (R : List Pc) (B : List Bool) (now : Int) (hB : ∀ j : Nat, B[j]? ≠ some true) : BackS p T R B (newRec (pkK p) now) := by
  refine ⟨RecOk.new _ _, rfl, Half.new _ _ _, fun c => ⟨(fun h => by obtain ⟨x, hx, _⟩ := h; cases hx), (fun h => by obtain ⟨j, x, _, h, _⟩ := h; exact absurd h (hB j))⟩, ?_, (fun q ol dl h => by cases h)⟩
  rw [if_neg (hB _)]; rfl
theorem pkK_piece (p : PkV) (mo : Bool) (a : Int) : pkK (piece p mo a) = pkK p := rfl
theorem BackL.of {p q : PkV} {T : List Int} {R : List Pc} {B : List Bool} {L K1 K2 : List Rec} {r : Rec} {now : Int} (h : BackL p T R B L) (hq : pkK q = pkK p) (hO : OfR L (pkK q) now K1 r K2) : K1 = [] ∧ K2 = [] ∧ BackS p T R B r := by
  rw [hq] at hO
  rcases h with ⟨rfl, hB⟩ | ⟨r0, rfl, hS⟩
  · rcases hO with ⟨e, _⟩ | ⟨_, e1, e2, e3⟩
    · simp at e
    · rcases e3 with ⟨_, e3⟩ | ⟨e3, _⟩
      · subst e2; exact ⟨e3, e1, BackS.new p T R B now hB⟩
      · simp at e3
  · rcases hO with ⟨e, _⟩ | ⟨e, _⟩
    · rcases K1 with _ | ⟨x, t⟩
      · simp at e; obtain ⟨e1, e2⟩ := e; subst e1; exact ⟨rfl, e2, hS⟩
      · simp at e
    · exact absurd hS.k (e r0 (by simp))
theorem covB_set {R : List Pc} {B : List Bool} {k : Nat} {x : Pc} (hk : R[k]? = some x) (hB : B.length = R.length) (c : Nat) : CovB R (B.set k true) c ↔ CovB R B c ∨ (offs R k ≤ c ∧ c < offs R k + x.2.2.length) := by
  have hkl : k < B.length := by rw [hB]; exact (List.getElem?_eq_some_iff.1 hk).1
  constructor
  · rintro ⟨j, y, h1, h2, h3, h4⟩
    by_cases e : k = j
    · subst e
      rw [hk] at h1; injection h1 with h1; subst h1
      exact .inr ⟨h3, h4⟩
    · rw [List.getElem?_set_ne e] at h2
      exact .inl ⟨j, y, h1, h2, h3, h4⟩
  · rintro (⟨j, y, h1, h2, h3, h4⟩ | ⟨h3, h4⟩)
    · refine ⟨j, y, h1, ?_, h3, h4⟩
      by_cases e : k = j
      · subst e; rw [List.getElem?_set_self hkl]
      · rw [List.getElem?_set_ne e]; exact h2
    · exact ⟨k, x, hk, by rw [List.getElem?_set_self hkl], h3, h4⟩
def allB (R : List Pc) (B : List Bool) : Prop := ∀ j, j < R.length → B[j]? = some true
theorem back_step {p : PkV} {T : List Int} {R : List Pc} {B : List Bool} {L L' : List Rec} {k : Nat} {x : Pc} {now er : Int} {out : Pk3} {is : Bool} (hA : PcsAll p T R) (h2 : 2 ≤ R.length) (hB : B.length = R.length) (hL : BackL p T R B L) (hk : R[k]? = some x) (ho : x.2.1.length ≤ 1000000)
    (h : GoodR L x.1 x.2.1 x.2.2 now L' out is er) :
    er = 0 ∧ (allB R (B.set k true) → is = true ∧ L' = [] ∧ out.2.2 = T ∧ ∃ mo a, out.1 = piece { piece p mo a with off := 0 } false 0) ∧ (¬ allB R (B.set k true) → is = false ∧ BackL p T R (B.set k true) L') := by
  obtain ⟨K1, r, K2, hO, hcase⟩ := h
  have ha := hA.at_ k x hk
  have hg := hA.good hk h2
  obtain ⟨hpos, mo, a, hpc⟩ := hA.pc x (List.mem_of_getElem? hk)
  have hkl : k < R.length := (List.getElem?_eq_some_iff.1 hk).1
  have hkx : pkK x.1 = pkK p := by rw [hpc]; rfl
  obtain ⟨rfl, rfl, hS⟩ := hL.of hkx hO
  have hoff := ha.off
  rw [hA.off] at hoff
  have hoN : x.1.off.toNat = offs R k := by omega
  have hle := ha.le
  have hcT : ∀ c, CovB R B c → c < T.length := fun c ⟨j, y, q1, q2, q3, q4⟩ => by have := (hA.at_ j y q1).le; omega
  -- it fits
  have hfit : fitsW r.fin r.S x.1.more (x.1.off + x.2.2.length) = true := by
    rw [fits_cov hS.ok.sps _ _ (by omega)]
    have hf := hS.fin
    cases hm : x.1.more with
    | true => 
      rw [if_pos rfl]
      split at hf <;> omega
    | false =>
      rw [if_neg (by decide)]
      have hlast : k + 1 = R.length := by
        rcases Nat.lt_or_ge (k + 1) R.length with c | c
        · rw [(ha.mid c).2] at hm; cases hm
        · omega
      have := (ha.last hlast).2
      refine ⟨?_, fun c hc => ?_⟩
      · split at hf <;> omega
      · have := hcT c ((hS.cov c).1 hc); omega
  rcases hcase with ⟨hf, _⟩ | ⟨_, rfl, S1, hl1, hcase⟩
  · rw [hfit] at hf; cases hf
  refine ⟨rfl, ?_⟩
  obtain ⟨hH, hC⟩ := lay_step (T := T) (ol := x.2.1) hS.ok hS.half hg hl1 (fun c q1 q2 _ => by
    rw [hoN] at q1 q2 ⊢
    rw [ha.dl, List.getElem?_take, if_pos (by omega), List.getElem?_drop]
    congr 1; omega) (by omega)
  have hR1 := hS.ok.lay hg ha.ok ho (hS.k.trans hkx.symm) hl1
  obtain ⟨f1, k1, b1, s1⟩ := layRec_f r x.1 x.2.1 x.2.2 S1
  generalize layRec (setR r x.1 x.2.1 x.2.2) x.1.off.toNat x.2.2 S1 = r' at *
  have hkB : k < B.length := by omega
  have hS' : BackS p T R (B.set k true) r' := by
    refine ⟨hR1, k1.trans hS.k, hH, fun c => ?_, ?_, fun q o1 d1 hq => ?_⟩
    · rw [hC, hoN, hS.cov, covB_set hk hB]
    · rw [f1]
      rcases Nat.lt_or_ge (k + 1) R.length with c | c
      · rw [(ha.mid c).2, if_pos rfl, List.getElem?_set_ne (by omega)]; exact hS.fin
      · have e : k = R.length - 1 := by omega
        have hl := ha.last (by omega)
        rw [hl.1, hA.more, if_neg (by decide), ← e, List.getElem?_set_self hkB, if_pos rfl]
        omega
    · rw [s1] at hq
      split at hq
      · injection hq with hq
        injection hq with hq _
        exact ⟨mo, a, hq ▸ hpc⟩
      · exact hS.first q o1 d1 hq
  have hTpos : 0 < T.length := by omega
  have hdone : doneR r' ↔ allB R (B.set k true) := by
    constructor
    · intro hd
      obtain ⟨d1, d2, d3⟩ := (doneR_cov hR1.sps).1 hd
      have hfin := hS'.fin
      have hfT : r'.fin = T.length := by
        split at hfin
        · exact hfin
        · omega
      intro j hj
      have hy := List.getElem?_eq_getElem (l := R) (i := j) hj
      generalize R[j] = y at hy
      have hyp := (hA.pc _ (List.mem_of_getElem? hy)).1
      have hyl := (hA.at_ _ _ hy).le
      have hc : CovB R (B.set k true) (offs R j) := (hS'.cov _).1 ((d3 _).2 (by rw [hfT]; omega))
      obtain ⟨i, z, q1, q2, q3, q4⟩ := hc
      rcases Nat.lt_trichotomy i j with c | c | c
      · have := offs_mono q1 c; omega
      · subst c; exact q2
      · have := offs_mono hy c; omega
    · intro hall
      have hfT : r'.fin = T.length := by rw [hS'.fin, if_pos (hall _ (by omega))]
      refine (done_iff hR1 hfT hTpos).2 fun c => ?_
      rw [hS'.cov]
      constructor
      · rintro ⟨j, y, q1, q2, q3, q4⟩
        have := (hA.at_ j y q1).le; omega
      · intro hc
        obtain ⟨j, y, q1, q2, q3⟩ := offs_cover hA.at_ hA.ne c hc
        exact ⟨j, y, q1, hall j (List.getElem?_eq_some_iff.1 q1).1, q2, q3⟩
  refine ⟨fun hall => ?_, fun hall => ?_⟩
  · have hd := hdone.2 hall
    rcases hcase with ⟨_, rfl, rfl, rfl⟩ | ⟨hd', _⟩
    · refine ⟨rfl, rfl, ?_⟩
      have hfT : r'.fin = T.length := by rw [hS'.fin, if_pos (hall _ (by omega))]
      have hw := Half.whole hR1 hH hd hfT
      have hsome : r'.first.isSome = true := hR1.fst ⟨(0, r'.fin.toNat), by rw [hd.2]; simp, rfl⟩
      unfold outP
      cases hfr : r'.first with
      | none => rw [hfr] at hsome; cases hsome
      | some z =>
        obtain ⟨q, o1, d1⟩ := z
        obtain ⟨mo1, a1, hq⟩ := hS'.first q o1 d1 hfr
        refine ⟨hw, mo1, a1, ?_⟩
        rw [hq]; rfl
    · exact absurd hd hd'
  · rcases hcase with ⟨hd, _⟩ | ⟨_, rfl, rfl, rfl⟩
    · exact absurd (hdone.1 hd) hall
    · exact ⟨rfl, .inr ⟨r', rfl, hS'⟩⟩
end Go.Proofs.Ytcjkhonapafndaa
