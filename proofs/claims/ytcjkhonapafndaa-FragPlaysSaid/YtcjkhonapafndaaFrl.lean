/- Proved: the reference's wholes go beside the program's (plain). Conditions: as each law says. -/
import Derived.Test.YtcjkhonapafndaaPlf
set_option linter.unusedVariables false
set_option linter.unusedSimpArgs false
namespace Go.Proofs.Ytcjkhonapafndaa
open Go.RowKit
/-! ### the reference's wholes (plain) -/
structure RV where
  k : K4
  bg : Int
  fin : Int
  data : List Int
  has : List Bool
  first : Option (PkV × List Int × List Int)
def newV (k : K4) (now : Int) : RV := ⟨k, now, -1, [], [], none⟩
/-- A whole and the reference's one. -/
structure RfR (r : Rec) (v : RV) : Prop where
  k : v.k = r.k
  bg : v.bg = r.bg
  fin : v.fin = r.fin
  dl : v.data.length = r.D.length
  hl : v.has.length = r.D.length
  cov : ∀ c, Cov r.S c ↔ v.has[c]? = some true
  dat : ∀ c, Cov r.S c → v.data[c]? = r.D[c]?
  fst : v.first = r.first
  top : 0 < r.D.length → Cov r.S (r.D.length - 1)
  le : 0 ≤ r.fin → (r.D.length : Int) ≤ r.fin
theorem RfR.new (k : K4) (now : Int) : RfR (newRec k now) (newV k now) :=
  ⟨rfl, rfl, rfl, rfl, rfl, fun c => ⟨(fun h => by obtain ⟨x, hx, _⟩ := h; cases hx), (fun h => by simp [newV] at h)⟩, (fun c h => by obtain ⟨x, hx, _⟩ := h; cases hx), rfl, (fun h => by cases h), (fun h => by have h' : (0 : Int) ≤ -1 := h; omega)⟩
theorem RfR.cov_lt {r : Rec} {v : RV} (h : RfR r v) (hr : RecOk r) {c : Nat} (hc : Cov r.S c) : c < r.D.length := by
  obtain ⟨x, hx, h1, h2⟩ := hc
  have := hr.sp x hx
  omega
/-- What the reference's lay makes of a whole. -/
def LayV (v : RV) (p : PkV) (ol dl : List Int) (v' : RV) : Prop :=
  v'.k = v.k ∧ v'.bg = v.bg ∧ v'.fin = (if p.more then v.fin else p.off + dl.length) ∧ v'.first = (if p.off = 0 ∧ v.first = none then some (p, ol, dl) else v.first) ∧
  v'.data.length = max v.has.length (p.off.toNat + dl.length) ∧ v'.has.length = max v.has.length (p.off.toNat + dl.length) ∧
  (∀ c : Nat, v'.has[c]? = some true ↔ v.has[c]? = some true ∨ (p.off.toNat ≤ c ∧ c < p.off.toNat + dl.length)) ∧
  (∀ c : Nat, v.has[c]? = some true → v'.data[c]? = v.data[c]?) ∧
  (∀ c : Nat, v.has[c]? ≠ some true → p.off.toNat ≤ c → c < p.off.toNat + dl.length → v'.data[c]? = dl[c - p.off.toNat]?)
/-- May the piece be put in? -/
def FitV (v : RV) (more : Bool) (e : Int) : Prop := if more then v.fin < 0 ∨ (e ≤ v.fin ∧ (v.has.length : Int) ≤ v.fin) else (v.fin < 0 ∨ v.fin = e) ∧ (v.has.length : Int) ≤ e
def DoneV (v : RV) : Prop := 0 ≤ v.fin ∧ v.fin ≤ v.has.length ∧ ∀ c : Nat, (c : Int) < v.fin → v.has[c]? = some true
theorem RfR.fits {r : Rec} {v : RV} (h : RfR r v) (hr : RecOk r) (more : Bool) (e : Int) (he : 0 ≤ e) : fitsW r.fin r.S more e = true ↔ FitV v more e := by
  rw [fits_cov hr.sps more e he]
  unfold FitV
  rw [h.fin, h.hl]
  cases more with
  | true =>
    simp only [if_true]
    constructor
    · rintro (h1 | h1)
      · exact .inl h1
      · rcases Int.lt_or_le r.fin 0 with h2 | h2
        · exact .inl h2
        · exact .inr ⟨h1, h.le h2⟩
    · rintro (h1 | ⟨h1, h2⟩)
      · exact .inl h1
      · exact .inr h1
  | false =>
    simp only [Bool.false_eq_true, if_false]
    refine and_congr Iff.rfl ?_
    constructor
    · intro h1
      rcases Nat.eq_zero_or_pos r.D.length with h2 | h2
      · omega
      · have := h1 _ (h.top h2); omega
    · intro h1 c hc
      have := h.cov_lt hr hc; omega
theorem RfR.done {r : Rec} {v : RV} (h : RfR r v) (hr : RecOk r) (hf : r.fin ≠ 0) : doneR r ↔ DoneV v := by
  rw [doneR_cov hr.sps]
  unfold DoneV
  rw [h.fin, h.hl]
  constructor
  · rintro ⟨h1, h2, h3⟩
    refine ⟨h1, ?_, fun c hc => (h.cov c).1 ((h3 c).2 hc)⟩
    have := h.cov_lt hr ((h3 (r.fin.toNat - 1)).2 (by omega))
    omega
  · rintro ⟨h1, h2, h3⟩
    refine ⟨h1, fun e => ?_, fun c => ⟨fun hc => ?_, fun hc => (h.cov c).2 (h3 c hc)⟩⟩
    · have := (h.cov 0).2 (h3 0 (by omega))
      rw [e] at this
      obtain ⟨x, hx, _⟩ := this; cases hx
    · have h4 := h.cov_lt hr hc
      have h5 := h.le h1
      omega
theorem RfR.lay {r : Rec} {v v' : RV} {p : PkV} {ol dl : List Int} {S' : List (Nat × Nat)} (h : RfR r v) (hr : RecOk r) (hg : Good p dl.length) (hl : LayR (setR r p ol dl) p.off.toNat dl S') (hv : LayV v p ol dl v') (hfit : FitV v p.more (p.off + dl.length)) :
    RfR (layRec (setR r p ol dl) p.off.toNat dl S') v' := by
  obtain ⟨e1, e2, e3, e4, e5, e6⟩ := setR_D r p ol dl
  have hs : Sps (setR r p ol dl).S (setR r p ol dl).D.length := by rw [e1, e2]; exact hr.sps
  obtain ⟨l1, l2, l3, l4⟩ := lay_law hs hl hg.pos
  rw [e2] at l2 l4
  rw [e1] at l3 l4
  obtain ⟨f1, k1, b1, s1⟩ := layRec_f r p ol dl S'
  have l2 : ∀ k, Cov (layRec (setR r p ol dl) p.off.toNat dl S').S k ↔ Cov r.S k ∨ (p.off.toNat ≤ k ∧ k < p.off.toNat + dl.length) := l2
  have l4 : ∀ k, Cov (layRec (setR r p ol dl) p.off.toNat dl S').S k → (layRec (setR r p ol dl) p.off.toNat dl S').D[k]? = if Cov r.S k then r.D[k]? else dl[k - p.off.toNat]? := l4
  obtain ⟨v1, v2, v3, v4, v5, v6, v7, v8, v9⟩ := hv
  generalize layRec (setR r p ol dl) p.off.toNat dl S' = r' at *
  have hoff := hg.off
  have hpos := hg.pos
  have hlen : r'.D.length = max r.D.length (p.off.toNat + dl.length) := by rw [l3]
  have hcov : ∀ c, Cov r'.S c ↔ v'.has[c]? = some true := fun c => by rw [l2, v7, h.cov]
  refine ⟨v1.trans (h.k.trans k1.symm), v2.trans (h.bg.trans b1.symm), by rw [v3, f1, h.fin], by rw [v5, hlen, h.hl], by rw [v6, hlen, h.hl], hcov, fun c hc => ?_, by rw [v4, s1, h.fst], fun hp => ?_, fun hf => ?_⟩
  · rw [l4 c hc]
    by_cases hc0 : Cov r.S c
    · rw [if_pos hc0, v8 c ((h.cov c).1 hc0)]; exact h.dat c hc0
    · rw [if_neg hc0]
      rcases (l2 c).1 hc with q | ⟨q1, q2⟩
      · exact absurd q hc0
      · exact v9 c (fun e => hc0 ((h.cov c).2 e)) q1 q2
  · rw [l2, hlen]
    rcases Nat.lt_or_ge r.D.length (p.off.toNat + dl.length) with q | q
    · right; omega
    · rw [Nat.max_eq_left q]
      exact .inl (h.top (by omega))
  · rw [f1] at hf ⊢
    rw [hlen]
    unfold FitV at hfit
    rw [h.fin, h.hl] at hfit
    cases hm : p.more with
    | true =>
      rw [hm, if_pos rfl] at hf hfit
      rw [if_pos rfl]
      rcases hfit with q | ⟨q1, q2⟩
      · omega
      · omega
    | false =>
      rw [hm] at hfit hf
      simp only [Bool.false_eq_true, if_false] at hfit hf ⊢
      omega
/-! ### the reference's row of wholes -/
inductive RfL : List Rec → List RV → Prop
  | nil : RfL [] []
  | cons {r : Rec} {v : RV} {L : List Rec} {M : List RV} : RfR r v → RfL L M → RfL (r :: L) (v :: M)
/-- Which whole a piece belongs to. -/
def OfV (M : List RV) (k : K4) (now : Int) (K1 : List RV) (v : RV) (K2 : List RV) (old : Bool) : Prop :=
  (old = true ∧ M = K1 ++ v :: K2 ∧ v.k = k) ∨ (old = false ∧ (∀ x ∈ M, x.k ≠ k) ∧ K2 = [] ∧ v = newV k now ∧ ((M.length < 8 ∧ K1 = M) ∨ (8 ≤ M.length ∧ ∃ A x B, M = A ++ x :: B ∧ ((∀ y ∈ A, x.bg < y.bg) ∧ ∀ y ∈ B, x.bg ≤ y.bg) ∧ K1 = A ++ B)))
def outV (v : RV) : Pk3 := match v.first with
  | some (p, ol, _) => (⟨p.svc, v.k.2.2.2, p.whole, false, 0, p.life, v.k.2.2.1, v.k.1, v.k.2.1⟩, ol, v.data.take v.fin.toNat)
  | none => (⟨0, v.k.2.2.2, false, false, 0, 0, v.k.2.2.1, v.k.1, v.k.2.1⟩, [], v.data.take v.fin.toNat)
/-- What a good piece brings about. -/
def GoodV (M : List RV) (p : PkV) (ol dl : List Int) (now : Int) (M' : List RV) (out : Pk3) (is : Bool) (er : Int) : Prop :=
  ∃ K1 v K2 old, OfV M (pkK p) now K1 v K2 old ∧ ((old = true ∧ ¬ FitV v p.more (p.off + dl.length) ∧ M' = M ∧ out = (zeroP, [], []) ∧ is = false ∧ er = 3) ∨
    ((old = true → FitV v p.more (p.off + dl.length)) ∧ er = 0 ∧ ∃ v', LayV v p ol dl v' ∧ ((DoneV v' ∧ M' = K1 ++ K2 ∧ out = outV v' ∧ is = true) ∨ (¬ DoneV v' ∧ M' = K1 ++ v' :: K2 ∧ out = (zeroP, [], []) ∧ is = false))))
theorem f2_split {L : List Rec} : ∀ {K1 K2 : List RV} {v : RV}, RfL L (K1 ++ v :: K2) → ∃ L1 r L2, L = L1 ++ r :: L2 ∧ RfL L1 K1 ∧ RfR r v ∧ RfL L2 K2 := by
  induction L with
  | nil =>
    intro K1 K2 v h
    cases K1 <;> cases h
  | cons x t ih =>
    intro K1 K2 v h
    rcases K1 with _ | ⟨y, K1⟩
    · cases h with
      | cons h1 h2 => exact ⟨[], x, t, rfl, .nil, h1, h2⟩
    · cases h with
      | cons h1 h2 =>
        obtain ⟨L1, r, L2, e, q1, q2, q3⟩ := ih h2
        exact ⟨x :: L1, r, L2, by rw [e]; rfl, .cons h1 q1, q2, q3⟩
theorem f2_split' {M : List RV} : ∀ {K1 K2 : List Rec} {r : Rec}, RfL (K1 ++ r :: K2) M → ∃ M1 v M2, M = M1 ++ v :: M2 ∧ RfL K1 M1 ∧ RfR r v ∧ RfL K2 M2 := by
  induction M with
  | nil =>
    intro K1 K2 v h
    cases K1 <;> cases h
  | cons x t ih =>
    intro K1 K2 v h
    rcases K1 with _ | ⟨y, K1⟩
    · cases h with
      | cons h1 h2 => exact ⟨[], x, t, rfl, .nil, h1, h2⟩
    · cases h with
      | cons h1 h2 =>
        obtain ⟨L1, r, L2, e, q1, q2, q3⟩ := ih h2
        exact ⟨x :: L1, r, L2, by rw [e]; rfl, .cons h1 q1, q2, q3⟩
theorem f2_app {A C : List Rec} {B D : List RV} (h : RfL A B) (k : RfL C D) : RfL (A ++ C) (B ++ D) := by
  induction h with
  | nil => exact k
  | cons h1 h2 ih => exact .cons h1 ih
theorem f2_len {A : List Rec} {B : List RV} (h : RfL A B) : A.length = B.length := by
  induction h with
  | nil => rfl
  | cons h1 h2 ih => simp [ih]
theorem f2_mem {A : List Rec} {B : List RV} (h : RfL A B) : ∀ x ∈ A, ∃ y ∈ B, RfR x y := by
  induction h with
  | nil => intro x hx; cases hx
  | cons h1 h2 ih =>
    intro x hx
    rcases List.mem_cons.1 hx with rfl | hx
    · exact ⟨_, by simp, h1⟩
    · obtain ⟨y, hy, h3⟩ := ih x hx
      exact ⟨y, List.mem_cons_of_mem _ hy, h3⟩
theorem f2_mem' {A : List Rec} {B : List RV} (h : RfL A B) : ∀ y ∈ B, ∃ x ∈ A, RfR x y := by
  induction h with
  | nil => intro x hx; cases hx
  | cons h1 h2 ih =>
    intro x hx
    rcases List.mem_cons.1 hx with rfl | hx
    · exact ⟨_, by simp, h1⟩
    · obtain ⟨y, hy, h3⟩ := ih x hx
      exact ⟨y, List.mem_cons_of_mem _ hy, h3⟩
/-- A place in a row is known by what holds there alone. -/
theorem at_one {α : Type} {P : α → Prop} : ∀ {A B A' B' : List α} {x y : α}, A ++ x :: B = A' ++ y :: B' → (∀ z ∈ A, ¬ P z) → (∀ z ∈ A', ¬ P z) → P x → P y → A = A' ∧ x = y ∧ B = B'
  | [], B, [], B', x, y, h, _, _, _, _ => by simp at h; exact ⟨rfl, h.1, h.2⟩
  | [], B, a' :: A', B', x, y, h, _, h2, hx, _ => by simp at h; exact absurd (h.1 ▸ hx) (h2 a' (by simp))
  | a :: A, B, [], B', x, y, h, h1, _, _, hy => by simp at h; exact absurd (h.1 ▸ hy) (h1 a (by simp))
  | a :: A, B, a' :: A', B', x, y, h, h1, h2, hx, hy => by
    simp only [List.cons_append, List.cons.injEq] at h
    obtain ⟨e1, e2, e3⟩ := at_one h.2 (fun z hz => h1 z (List.mem_cons_of_mem _ hz)) (fun z hz => h2 z (List.mem_cons_of_mem _ hz)) hx hy
    exact ⟨by rw [h.1, e1], e2, e3⟩
theorem min_one {A B A' B' : List Rec} {x y : Rec} (h : A ++ x :: B = A' ++ y :: B') (h1 : MinRr A x B) (h2 : MinRr A' y B') : A = A' ∧ x = y ∧ B = B' := by
  have hx : x ∈ A' ++ y :: B' := by rw [← h]; simp
  have hy : y ∈ A ++ x :: B := by rw [h]; simp
  have e : x.bg = y.bg := by
    have a1 : y.bg ≤ x.bg := by
      rcases List.mem_append.1 hx with q | q
      · have := h2.1 x q; omega
      · rcases List.mem_cons.1 q with rfl | q
        · omega
        · exact h2.2 x q
    have a2 : x.bg ≤ y.bg := by
      rcases List.mem_append.1 hy with q | q
      · have := h1.1 y q; omega
      · rcases List.mem_cons.1 q with rfl | q
        · omega
        · exact h1.2 y q
    omega
  refine at_one (P := fun z => z.bg = x.bg) h (fun z hz => ?_) (fun z hz => ?_) rfl e.symm
  · have := h1.1 z hz; omega
  · have := h2.1 z hz; omega
theorem of_same {L : List Rec} {M : List RV} {k : K4} {now : Int} {K1 K2 : List Rec} {r : Rec} {N1 N2 : List RV} {v : RV} {old : Bool} (h : RfL L M) (hn : (L.map (·.k)).Nodup) (h1 : OfR L k now K1 r K2) (h2 : OfV M k now N1 v N2 old) :
    RfL K1 N1 ∧ RfR r v ∧ RfL K2 N2 ∧ (old = false → r = newRec k now) := by
  rcases h1 with ⟨e1, e2⟩ | ⟨e1, e2, e3, e4⟩ <;> rcases h2 with ⟨o, d1, d2⟩ | ⟨o, d1, d2, d3, d4⟩
  · subst d1
    obtain ⟨L1, r', L2, q0, q1, q2, q3⟩ := f2_split h
    have hk : r'.k = k := q2.k.symm.trans d2
    rw [e1] at q0
    have nd : ∀ {A B : List Rec} {x : Rec}, L = A ++ x :: B → x.k = k → ∀ z ∈ A, ¬ z.k = k := fun {A B x} e hx z hz hzk => by
      rw [e, List.map_append, List.nodup_append] at hn
      exact hn.2.2 _ (List.mem_map_of_mem hz) _ (List.mem_map_of_mem (List.mem_cons_self)) (hzk.trans hx.symm)
    obtain ⟨rfl, rfl, rfl⟩ := at_one (P := fun z : Rec => z.k = k) q0 (nd e1 e2) (nd (by rw [e1, q0]) hk) e2 hk
    exact ⟨q1, q2, q3, fun e => by rw [o] at e; cases e⟩
  · exfalso
    obtain ⟨y, hy, h3⟩ := f2_mem h r (by rw [e1]; simp)
    exact d1 y hy (h3.k.trans e2)
  · exfalso
    obtain ⟨y, hy, h3⟩ := f2_mem' h v (by rw [d1]; simp)
    exact e1 y hy (h3.k.symm.trans d2)
  · subst e2; subst e3; subst d2; subst d3
    refine ⟨?_, RfR.new k now, .nil, fun _ => rfl⟩
    have hlen := f2_len h
    rcases e4 with ⟨q, rfl⟩ | ⟨q, A, x, B, rfl, hm, rfl⟩ <;> rcases d4 with ⟨s, rfl⟩ | ⟨s, A', y, B', rfl, hm', rfl⟩
    · exact h
    · omega
    · omega
    · obtain ⟨L1, r', L2, q0, q1, q2, q3⟩ := f2_split h
      have hm2 : MinRr L1 r' L2 := ⟨fun z hz => by
        obtain ⟨w, hw, h4⟩ := f2_mem q1 z hz
        have := hm'.1 w hw; rw [q2.bg, h4.bg] at this; exact this, fun z hz => by
        obtain ⟨w, hw, h4⟩ := f2_mem q3 z hz
        have := hm'.2 w hw; rw [q2.bg, h4.bg] at this; exact this⟩
      obtain ⟨rfl, rfl, rfl⟩ := min_one q0 hm hm2
      exact f2_app q1 q3
theorem good_same {L L' : List Rec} {M M' : List RV} {p : PkV} {ol dl : List Int} {now er er' : Int} {out out' : Pk3} {is is' : Bool} (h : RfL L M) (hn : (L.map (·.k)).Nodup) (hL : ∀ x ∈ L, RecOk x) (hg : Good p dl.length) (hp : p.Ok) (hol : ol.length ≤ 1000000)
    (h1 : GoodR L p ol dl now L' out is er) (h2 : GoodV M p ol dl now M' out' is' er') : is = is' ∧ er = er' ∧ out = out' ∧ RfL L' M' := by
  obtain ⟨K1, r, K2, hO, hc⟩ := h1
  obtain ⟨N1, v, N2, old, hO', hc'⟩ := h2
  obtain ⟨r1, r2, r3, r4⟩ := of_same h hn hO hO'
  have hrk : RecOk r ∧ r.k = pkK p := by
    rcases hO with ⟨e1, e2⟩ | ⟨e1, e2, e3, e4⟩
    · exact ⟨hL r (by rw [e1]; simp), e2⟩
    · subst e3; exact ⟨RecOk.new _ _, rfl⟩
  have hoff := hg.off
  have hpos := hg.pos
  have hfit := r2.fits hrk.1 p.more (p.off + dl.length) (by omega)
  have hnew : old = false → FitV v p.more (p.off + dl.length) := fun e => by
    have e5 : r = newRec (pkK p) now := r4 e
    have e6 : v.fin = -1 := r2.fin.trans (by rw [e5]; rfl)
    have e7 : v.has.length = 0 := r2.hl.trans (by rw [e5]; rfl)
    unfold FitV
    rw [e6, e7]
    split
    · left; decide
    · exact ⟨.inl (by decide), by simp; omega⟩
  rcases hc' with ⟨c1, c2, c3, c4, c5, c6⟩ | ⟨c1, c2, v', c3, c4⟩
  · rcases hc with ⟨d1, d2, d3, d4, d5⟩ | ⟨d1, _⟩
    · subst c3; subst d2
      refine ⟨d4.trans c5.symm, d5.trans c6.symm, d3.trans c4.symm, ?_⟩
      rcases hO' with ⟨_, e1, _⟩ | ⟨e1, _⟩
      · rw [e1]; exact f2_app r1 (.cons r2 r3)
      · rw [c1] at e1; cases e1
    · exact absurd (hfit.1 d1) c2
  · have hF : FitV v p.more (p.off + dl.length) := by
      cases old with
      | true => exact c1 rfl
      | false => exact hnew rfl
    rcases hc with ⟨d1, _⟩ | ⟨d1, rfl, S', d2, d3⟩
    · rw [hfit.2 hF] at d1; cases d1
    have hR := r2.lay hrk.1 hg d2 c3 hF
    have hk := hrk.1.lay hg hp hol hrk.2 d2
    have hkey : v'.k = pkK p := c3.1.trans (r2.k.trans hrk.2)
    obtain ⟨f1, k1, b1, s1⟩ := layRec_f r p ol dl S'
    generalize layRec (setR r p ol dl) p.off.toNat dl S' = r' at *
    have hfin : r'.fin ≠ 0 := by
      rw [f1]
      split
      · rename_i hm
        intro e
        unfold FitV at hF
        rw [r2.fin, r2.hl, if_pos hm] at hF
        rcases hF with q | ⟨q, _⟩
        · omega
        · omega
      · omega
    have hd := hR.done hk hfin
    rcases d3 with ⟨e1, rfl, rfl, rfl⟩ | ⟨e1, rfl, rfl, rfl⟩ <;> rcases c4 with ⟨g1, rfl, rfl, rfl⟩ | ⟨g1, rfl, rfl, rfl⟩
    · refine ⟨rfl, c2.symm, ?_, f2_app r1 r3⟩
      have hsome : r'.first.isSome = true := hk.fst ⟨(0, r'.fin.toNat), by rw [e1.2]; simp, rfl⟩
      obtain ⟨⟨q, o1, d1'⟩, hq⟩ := Option.isSome_iff_exists.1 hsome
      have hq' : v'.first = some (q, o1, d1') := hR.fst.trans hq
      have hqk := (hk.fok q o1 d1' hq).1
      unfold outP outV
      rw [hq, hq']
      dsimp only
      have hkk : pkK q = v'.k := by rw [hqk, hkey, k1]; exact hrk.2
      rw [← hkk]
      refine Prod.ext ?_ (Prod.ext rfl ?_)
      · rfl
      · show r'.D = v'.data.take v'.fin.toNat
        rw [hR.fin]
        obtain ⟨g1a, g1b, g1c⟩ := g1
        rw [hR.fin] at g1a g1b g1c
        have hle := hR.le g1a
        have hhl := hR.hl
        have hdl := hR.dl
        have e : r'.fin.toNat = v'.data.length := by omega
        rw [e, List.take_length]
        refine List.ext_getElem? fun c => ?_
        rcases Nat.lt_or_ge c r'.D.length with q | q
        · exact (hR.dat c ((hR.cov c).2 (g1c c (by omega)))).symm
        · rw [List.getElem?_eq_none q, List.getElem?_eq_none (by omega)]
    · exact absurd (hd.1 e1) g1
    · exact absurd (hd.2 g1) e1
    · exact ⟨rfl, c2.symm, rfl, f2_app r1 (.cons hR r3)⟩
end Go.Proofs.Ytcjkhonapafndaa
