/- Proved: a crowd of packets, and how they come out (plain). Conditions: as each law says. -/
import Derived.Test.YtcjkhonapafndaaPlf
set_option linter.unusedVariables false
set_option linter.unusedSimpArgs false
namespace Go.Proofs.Ytcjkhonapafndaa
open Go.RowKit
def crP (i : Nat) : PkV := ⟨0, i, false, true, 0, 0, 0, 0, 0⟩
def crQ (i : Nat) : PkV := ⟨0, i, false, false, 8, 0, 0, 0, 0⟩
def crD (i : Nat) : List Int := [1, 2, 3, 4, 5, 6, 7, i]
def crK (i : Nat) : K4 := (0, 0, 0, i)
theorem crP_k (i : Nat) : pkK (crP i) = crK i := rfl
theorem crQ_k (i : Nat) : pkK (crQ i) = crK i := rfl
theorem crK_ne {i j : Nat} (h : i ≠ j) : crK i ≠ crK j := fun e => by
  unfold crK at e
  injection e with _ e; injection e with _ e; injection e with _ e
  omega
theorem crP_ok {i : Nat} (h : i ≤ 40) : (crP i).Ok := by
  constructor <;> (unfold crP; dsimp only; omega)
theorem crQ_ok {i : Nat} (h : i ≤ 40) : (crQ i).Ok := by
  constructor <;> (unfold crQ; dsimp only; omega)
theorem crP_good (i : Nat) : Good (crP i) 8 := ⟨by decide, Int.le_refl 0, rfl, fun _ => by decide, .inl rfl, by show (0 : Int) + (8 : Nat) ≤ 65515; omega⟩
theorem crQ_good (i : Nat) : Good (crQ i) 1 := ⟨by decide, (by show (0 : Int) ≤ 8; omega), rfl, (fun h => by cases h), .inr (by show (0 : Int) < 8; omega), by show (8 : Int) + (1 : Nat) ≤ 65515; omega⟩
structure CrS (j : Nat) (r : Rec) : Prop where
  ok : RecOk r
  k : r.k = crK j
  bg : r.bg = j
  fin : r.fin = -1
  cov : ∀ c, Cov r.S c ↔ c < 8
  half : Half (crD j ++ [9]) r
/-- The wholes from number a on. -/
def CrL (a : Nat) (L : List Rec) : Prop := ∀ (t : Nat) r, L[t]? = some r → CrS (a + t) r
theorem cr_new {i : Nat} {er : Int} {K1 : List Rec} {L' : List Rec} {out : Pk3} {is : Bool} (hi : i ≤ 40)
    (hcase : (fitsW (newRec (crK i) i).fin (newRec (crK i) i).S (crP i).more ((crP i).off + (crD i).length) = false ∧ L' = K1 ++ newRec (crK i) i :: [] ∧ out = (zeroP, [], []) ∧ is = false ∧ er = 3) ∨
    (fitsW (newRec (crK i) i).fin (newRec (crK i) i).S (crP i).more ((crP i).off + (crD i).length) = true ∧ er = 0 ∧ ∃ S', LayR (setR (newRec (crK i) i) (crP i) [] (crD i)) (crP i).off.toNat (crD i) S' ∧
      ((doneR (layRec (setR (newRec (crK i) i) (crP i) [] (crD i)) (crP i).off.toNat (crD i) S') ∧ L' = K1 ++ [] ∧ out = outP (layRec (setR (newRec (crK i) i) (crP i) [] (crD i)) (crP i).off.toNat (crD i) S') ∧ is = true) ∨
       (¬ doneR (layRec (setR (newRec (crK i) i) (crP i) [] (crD i)) (crP i).off.toNat (crD i) S') ∧ L' = K1 ++ layRec (setR (newRec (crK i) i) (crP i) [] (crD i)) (crP i).off.toNat (crD i) S' :: [] ∧ out = (zeroP, [], []) ∧ is = false)))) :
    ∃ r, L' = K1 ++ [r] ∧ CrS i r := by
  have hA := RecOk.new (crK i) i
  have hg := crP_good i
  rcases hcase with ⟨hf, _⟩ | ⟨hf, rfl, S1, hl1, hcase⟩
  · have : fitsW (newRec (crK i) i).fin (newRec (crK i) i).S (crP i).more ((crP i).off + (crD i).length) = true := (fits_cov hA.sps _ _ (by show (0 : Int) ≤ 0 + (8 : Nat); omega)).2 (by show (if true = true then (-1 : Int) < 0 ∨ _ else _); rw [if_pos rfl]; left; decide)
    rw [this] at hf; cases hf
  have h0 : (crP i).off.toNat = 0 := rfl
  obtain ⟨hH, hC⟩ := lay_step (T := crD i ++ [9]) (ol := []) hA (Half.new _ _ _) hg hl1 (fun c _ q2 _ => by
    rw [h0] at q2 ⊢
    rw [List.getElem?_append_left (by omega)]; rfl) (by rw [h0, List.length_append]; omega)
  obtain ⟨f1, k1, b1, s1⟩ := layRec_f (newRec (crK i) i) (crP i) [] (crD i) S1
  have hR1 := hA.lay hg (crP_ok hi) (by decide) rfl hl1
  generalize layRec (setR (newRec (crK i) i) (crP i) [] (crD i)) (crP i).off.toNat (crD i) S1 = r' at *
  have f1' : r'.fin = -1 := f1
  rcases hcase with ⟨hd, _⟩ | ⟨_, rfl, _, rfl⟩
  · have := hd.1; omega
  · refine ⟨r', rfl, hR1, k1, b1, f1', fun c => ?_, hH⟩
    rw [hC, h0]
    constructor
    · rintro (⟨x, hx, _⟩ | ⟨_, h⟩)
      · cases hx
      · have e : (crD i).length = 8 := rfl
        omega
    · intro h
      have e : (crD i).length = 8 := rfl
      exact .inr (by omega)
/-- One whole more; the oldest goes, if there are eight. -/
theorem crowd_in {i : Nat} {er : Int} {L L' : List Rec} {out : Pk3} {is : Bool} (hi : i ≤ 40) (hl : L.length = min i 8) (hL : CrL (i - min i 8) L) (h : GoodR L (crP i) [] (crD i) i L' out is er) :
    L'.length = min (i + 1) 8 ∧ CrL (i + 1 - min (i + 1) 8) L' := by
  obtain ⟨K1, r, K2, hO, hcase⟩ := h
  rw [crP_k] at hO
  have hno : ∀ x ∈ L, x.k ≠ crK i := fun x hx => by
    obtain ⟨t, ht⟩ := List.mem_iff_getElem?.1 hx
    have h1 := (hL t x ht).k
    have h2 := (List.getElem?_eq_some_iff.1 ht).1
    rw [h1]
    exact crK_ne (by omega)
  have hK : K2 = [] ∧ r = newRec (crK i) i ∧ K1.length + 1 = min (i + 1) 8 ∧ CrL (i + 1 - min (i + 1) 8) K1 := by
    rcases hO with ⟨e, e2⟩ | ⟨_, e1, e2, e3⟩
    · exact absurd e2 (hno r (by rw [e]; simp))
    · refine ⟨e1, e2, ?_⟩
      rcases e3 with ⟨q, rfl⟩ | ⟨q, A, x, B, rfl, hm, rfl⟩
      · have e : i - min i 8 = i + 1 - min (i + 1) 8 := by omega
        rw [e] at hL
        exact ⟨by omega, hL⟩
      · have hA : A = [] := by
          rcases A with _ | ⟨y, A⟩
          · rfl
          · exfalso
            have h1 := (hL 0 y (by simp)).bg
            have h2 := (hL (A.length + 1) x (by simp)).bg
            have h3 := hm.1 y (by simp)
            omega
        subst hA
        rw [List.nil_append] at hL q hl ⊢
        rw [List.length_cons] at q hl
        refine ⟨by omega, fun t r ht => ?_⟩
        have := hL (t + 1) r (by rw [List.getElem?_cons_succ]; exact ht)
        have e : i - min i 8 + (t + 1) = i + 1 - min (i + 1) 8 + t := by
          omega
        rw [e] at this
        exact this
  obtain ⟨rfl, rfl, hlen, hC⟩ := hK
  obtain ⟨r, rfl, hr⟩ := cr_new hi hcase
  refine ⟨by rw [List.length_append]; exact hlen, fun t x ht => ?_⟩
  rcases Nat.lt_trichotomy t K1.length with c | c | c
  · rw [List.getElem?_append_left c] at ht
    exact hC t x ht
  · subst c
    rw [List.getElem?_append_right (Nat.le_refl _), Nat.sub_self] at ht
    injection ht with ht; subst ht
    have e : i + 1 - min (i + 1) 8 + K1.length = i := by omega
    rw [e]; exact hr
  · rw [List.getElem?_eq_none (by rw [List.length_append]; simp; omega)] at ht; cases ht
/-- Behind o wholes that came out; the next one told is number i. -/
def CrO (n : Nat) (i : Int) (o : Nat) (L : List Rec) : Prop :=
  ((o : Int) = n - 1 - i ∧ o ≤ min n 8 ∧ L.length = min n 8 - o ∧ CrL (n - min n 8) L) ∨ (o = 8 ∧ 8 < n ∧ (L.length ≤ 8 ∧ ∀ x ∈ L, RecOk x) ∧ ∀ x ∈ L, ∃ j : Nat, i < j ∧ x.k = crK j)
theorem CrO.start {n : Nat} {L : List Rec} (hl : L.length = min n 8) (hL : CrL (n - min n 8) L) : CrO n (n - 1) 0 L := .inl ⟨by omega, by omega, hl, hL⟩
theorem CrO.fin {n o : Nat} {L : List Rec} (h : CrO n (-1) o L) : o = min n 8 := by
  rcases h with ⟨h1, h2, _⟩ | ⟨h1, h2, _⟩ <;> omega
theorem CrO.len {n o : Nat} {i : Int} {L : List Rec} (h : CrO n i o L) : L.length ≤ 8 ∧ ∀ x ∈ L, RecOk x := by
  rcases h with ⟨h1, h2, h3, h4⟩ | ⟨h1, h2, h3, _⟩
  · refine ⟨by omega, fun x hx => ?_⟩
    obtain ⟨t, ht⟩ := List.mem_iff_getElem?.1 hx
    exact (h4 t x ht).ok
  · exact h3
theorem crowd_out {n i o : Nat} {er : Int} {L L' : List Rec} {out : Pk3} {is : Bool} (hn : n ≤ 40) (hi : i < n) (h : CrO n i o L) (hG : GoodR L (crQ i) [] [9] n L' out is er) (hL' : L'.length ≤ 8 ∧ ∀ x ∈ L', RecOk x) :
    (o < 8 ∧ n ≤ i + 8 ∧ is = true ∧ out.2.2 = crD i ++ [9] ∧ CrO n ((i : Int) - 1) (o + 1) L') ∨ (o = 8 ∧ is = false ∧ CrO n ((i : Int) - 1) o L') := by
  obtain ⟨K1, r, K2, hO, hcase⟩ := hG
  rw [crQ_k] at hO
  have hg := crQ_good i
  have hlen1 : ([9] : List Int).length = 1 := rfl
  have h8 : (crQ i).off.toNat = 8 := rfl
  have ho8 : (crQ i).off = 8 := rfl
  have hmo : (crQ i).more = false := rfl
  by_cases hc : ((o : Int) = n - 1 - i ∧ o ≤ min n 8 ∧ L.length = min n 8 - o ∧ CrL (n - min n 8) L) ∧ o < min n 8
  · obtain ⟨⟨h1, h2, h3, h4⟩, h5⟩ := hc
    left
    have hK : L = K1 ++ r :: K2 ∧ K2 = [] ∧ CrS i r := by
      rcases hO with ⟨e, e2⟩ | ⟨hno, _⟩
      · have ht : L[K1.length]? = some r := by rw [e, List.getElem?_append_right (Nat.le_refl _), Nat.sub_self]; rfl
        have hr := h4 _ _ ht
        have e3 : n - min n 8 + K1.length = i := by
          rcases Nat.decEq (n - min n 8 + K1.length) i with q | q
          · exact absurd (hr.k.symm.trans e2) (crK_ne q)
          · exact q
        rw [e3] at hr
        refine ⟨e, ?_, hr⟩
        have := congrArg List.length e
        rw [List.length_append, List.length_cons] at this
        exact List.eq_nil_of_length_eq_zero (by omega)
      · exfalso
        have hlt : min n 8 - o - 1 < L.length := by omega
        have ht := List.getElem?_eq_getElem (l := L) hlt
        have hr := (h4 _ _ ht).k
        have e3 : n - min n 8 + (min n 8 - o - 1) = i := by omega
        rw [e3] at hr
        exact hno _ (List.mem_of_getElem? ht) hr
    obtain ⟨hLe, rfl, hr⟩ := hK
    rcases hcase with ⟨hf, _⟩ | ⟨hf, rfl, S1, hl1, hcase⟩
    · have : fitsW r.fin r.S (crQ i).more ((crQ i).off + ([9] : List Int).length) = true := (fits_cov hr.ok.sps _ _ (by rw [ho8, hlen1]; omega)).2 (by
        rw [hmo, if_neg (by decide), ho8, hlen1]
        refine ⟨.inl (by rw [hr.fin]; omega), fun c hc => ?_⟩
        have := (hr.cov c).1 hc; omega)
      rw [this] at hf; cases hf
    obtain ⟨hH, hC⟩ := lay_step (T := crD i ++ [9]) (ol := []) hr.ok hr.half hg hl1 (fun c q1 q2 _ => by
      rw [h8] at q1 q2 ⊢
      have e : c = 8 := by rw [hlen1] at q2; omega
      subst e; rfl) (by rw [h8, List.length_append]; show 8 + 1 ≤ 8 + 1; omega)
    obtain ⟨f1, k1, b1, s1⟩ := layRec_f r (crQ i) [] [9] S1
    have hR1 := hr.ok.lay hg (crQ_ok (by omega)) (by decide) hr.k hl1
    generalize layRec (setR r (crQ i) [] [9]) (crQ i).off.toNat [9] S1 = r' at *
    have f1' : r'.fin = ((9 : Nat) : Int) := f1
    have hdone : doneR r' := (done_iff hR1 f1' (by decide)).2 fun c => by
      rw [hC, hr.cov, h8, hlen1]; omega
    rcases hcase with ⟨_, rfl, rfl, rfl⟩ | ⟨hd, _⟩
    · have hw := Half.whole hR1 hH hdone f1'
      have hsome : r'.first.isSome = true := hR1.fst ⟨(0, r'.fin.toNat), by rw [hdone.2]; simp, rfl⟩
      refine ⟨by omega, by omega, rfl, ?_, .inl ⟨by omega, by omega, ?_, fun t x ht => ?_⟩⟩
      · unfold outP
        cases hfr : r'.first with
        | none => rw [hfr] at hsome; cases hsome
        | some z => exact hw
      · rw [List.append_nil]
        have := congrArg List.length hLe
        rw [List.length_append, List.length_singleton] at this
        omega
      · rw [List.append_nil] at ht
        refine h4 t x ?_
        rw [hLe, List.getElem?_append_left (List.getElem?_eq_some_iff.1 ht).1]
        exact ht
    · exact absurd hdone hd
  · right
    have hS : o = 8 ∧ 8 < n ∧ (L.length ≤ 8 ∧ ∀ x ∈ L, RecOk x) ∧ ∀ x ∈ L, ∃ j : Nat, (i : Int) < j ∧ x.k = crK j := by
      rcases h with h | h
      · have h5 : ¬ o < min n 8 := fun e => hc ⟨h, e⟩
        obtain ⟨h1, h2, h3, h4⟩ := h
        have e : L = [] := List.eq_nil_of_length_eq_zero (by omega)
        subst e
        exact ⟨by omega, by omega, ⟨by simp, (fun x hx => by cases hx)⟩, (fun x hx => by cases hx)⟩
      · exact h
    obtain ⟨h1, h2, h3, h4⟩ := hS
    have hK : r = newRec (crK i) n ∧ K2 = [] ∧ ∀ x ∈ K1, x ∈ L := by
      rcases hO with ⟨e, e2⟩ | ⟨_, e1, e2, e3⟩
      · exfalso
        obtain ⟨j, q1, q2⟩ := h4 r (by rw [e]; simp)
        rw [e2] at q2
        exact crK_ne (by omega) q2
      · refine ⟨e2, e1, ?_⟩
        rcases e3 with ⟨_, rfl⟩ | ⟨_, A, x, B, rfl, _, rfl⟩
        · exact fun x hx => hx
        · intro y hy
          rcases List.mem_append.1 hy with hy | hy
          · exact List.mem_append_left _ hy
          · exact List.mem_append_right _ (List.mem_cons_of_mem _ hy)
    obtain ⟨rfl, rfl, hK1⟩ := hK
    have hA := RecOk.new (crK i) n
    have fin : ∀ r' : Rec, r'.k = crK i → L' = K1 ++ r' :: [] → is = false → o = 8 ∧ is = false ∧ CrO n ((i : Int) - 1) o L' := fun r' hk hL2 his => by
      refine ⟨h1, his, .inr ⟨h1, h2, hL', fun x hx => ?_⟩⟩
      rw [hL2] at hx
      rcases List.mem_append.1 hx with hx | hx
      · obtain ⟨j, q1, q2⟩ := h4 x (hK1 x hx)
        exact ⟨j, by omega, q2⟩
      · rcases List.mem_cons.1 hx with rfl | hx
        · exact ⟨i, by omega, hk⟩
        · cases hx
    rcases hcase with ⟨hf, hL2, _, his, _⟩ | ⟨hf, rfl, S1, hl1, hcase⟩
    · exact fin _ rfl hL2 his
    obtain ⟨hH, hC⟩ := lay_step (T := [0, 0, 0, 0, 0, 0, 0, 0, 9]) (ol := []) hA (Half.new _ _ _) hg hl1 (fun c q1 q2 _ => by
      rw [h8] at q1 q2 ⊢
      have e : c = 8 := by rw [hlen1] at q2; omega
      subst e; rfl) (by rw [h8]; exact Nat.le_refl _)
    obtain ⟨f1, k1, b1, s1⟩ := layRec_f (newRec (crK i) n) (crQ i) [] [9] S1
    have hR1 := hA.lay hg (crQ_ok (by omega)) (by decide) rfl hl1
    generalize layRec (setR (newRec (crK i) n) (crQ i) [] [9]) (crQ i).off.toNat [9] S1 = r' at *
    rcases hcase with ⟨hd, _⟩ | ⟨_, hL2, _, his⟩
    · exfalso
      have f1' : r'.fin = ((9 : Nat) : Int) := f1
      have := ((done_iff hR1 f1' (by decide)).1 hd 0).2 (by decide)
      rw [hC, h8] at this
      rcases this with ⟨x, hx, _⟩ | h
      · cases hx
      · omega
    · exact fin r' k1 hL2 his
end Go.Proofs.Ytcjkhonapafndaa
