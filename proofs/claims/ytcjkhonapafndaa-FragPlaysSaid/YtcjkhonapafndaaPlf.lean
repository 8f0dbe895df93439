/- Proved: what pieces told to a Store bring about (plain): one that agrees with a packet's bytes, and the end. Conditions: as each law says. -/
import Derived.Test.YtcjkhonapafndaaLwr
set_option linter.unusedVariables false
set_option linter.unusedSimpArgs false
namespace Go.Proofs.Ytcjkhonapafndaa
open Go.RowKit
/-- What is there agrees with the bytes T. -/
def Half (T : List Int) (r : Rec) : Prop := (∀ k, Cov r.S k → r.D[k]? = T[k]?) ∧ r.D.length ≤ T.length
theorem Half.new (T : List Int) (k : K4) (now : Int) : Half T (newRec k now) := ⟨(fun j h => by obtain ⟨x, hx, _⟩ := h; cases hx), Nat.zero_le _⟩
theorem lay_step {T : List Int} {r : Rec} {p : PkV} {ol dl : List Int} {S' : List (Nat × Nat)} (h : RecOk r) (hT : Half T r) (hg : Good p dl.length) (hl : LayR (setR r p ol dl) p.off.toNat dl S')
    (hnew : ∀ k, p.off.toNat ≤ k → k < p.off.toNat + dl.length → ¬ Cov r.S k → dl[k - p.off.toNat]? = T[k]?) (hlen : p.off.toNat + dl.length ≤ T.length) :
    Half T (layRec (setR r p ol dl) p.off.toNat dl S') ∧ ∀ k, Cov (layRec (setR r p ol dl) p.off.toNat dl S').S k ↔ Cov r.S k ∨ (p.off.toNat ≤ k ∧ k < p.off.toNat + dl.length) := by
  obtain ⟨e1, e2, e3, e4, e5, e6⟩ := setR_D r p ol dl
  have hs : Sps (setR r p ol dl).S (setR r p ol dl).D.length := by rw [e1, e2]; exact h.sps
  obtain ⟨h1, h2, h3, h4⟩ := lay_law hs hl hg.pos
  rw [e2] at h2 h4
  rw [e1] at h3 h4
  refine ⟨⟨fun k hk => ?_, by rw [h3]; have := hT.2; omega⟩, h2⟩
  rw [h4 k hk]
  by_cases c : Cov r.S k
  · rw [if_pos c]; exact hT.1 k c
  · rw [if_neg c]
    rcases (h2 k).1 hk with d | ⟨d1, d2⟩
    · exact absurd d c
    · exact hnew k d1 d2 c
theorem Half.whole {T : List Int} {r : Rec} (h : RecOk r) (hT : Half T r) (hd : doneR r) (hf : r.fin = (T.length : Int)) : r.D = T := by
  obtain ⟨_, _, h3⟩ := (doneR_cov h.sps).1 hd
  have hl : r.D.length = T.length := by
    rcases Nat.lt_or_ge r.D.length T.length with c | c
    · have hc := (h3 r.D.length).2 (by omega)
      have h5 := hT.1 _ hc
      rw [List.getElem?_eq_none (Nat.le_refl _), List.getElem?_eq_getElem c] at h5
      cases h5
    · have := hT.2; omega
  refine List.ext_getElem? fun k => ?_
  rcases Nat.lt_or_ge k T.length with c | c
  · exact hT.1 k ((h3 k).2 (by omega))
  · rw [List.getElem?_eq_none c, List.getElem?_eq_none (by omega)]
theorem done_iff {r : Rec} {T : Nat} (h : RecOk r) (hf : r.fin = (T : Int)) (hT : 0 < T) : doneR r ↔ ∀ k, Cov r.S k ↔ k < T := by
  rw [doneR_cov h.sps, hf]
  constructor
  · rintro ⟨_, _, h3⟩ k
    rw [h3]; omega
  · intro h3
    refine ⟨by omega, fun e => ?_, fun k => by rw [h3]; omega⟩
    have := (h3 0).2 hT
    rw [e] at this
    obtain ⟨x, hx, _⟩ := this
    cases hx
/-- The fields of a whole behind a piece. -/
theorem layRec_f (r : Rec) (p : PkV) (ol dl : List Int) (S' : List (Nat × Nat)) : (layRec (setR r p ol dl) p.off.toNat dl S').fin = (if p.more then r.fin else p.off + dl.length) ∧ (layRec (setR r p ol dl) p.off.toNat dl S').k = r.k ∧ (layRec (setR r p ol dl) p.off.toNat dl S').bg = r.bg ∧
    (layRec (setR r p ol dl) p.off.toNat dl S').first = (if p.off = 0 ∧ r.first = none then some (p, ol, dl) else r.first) := by
  obtain ⟨e1, e2, e3, e4, e5, e6⟩ := setR_D r p ol dl
  exact ⟨e5, e3, e4, e6⟩
/-- Two pieces from the front, and the one behind them. -/
theorem first_law (p1 p2 p3 : PkV) (o1 o2 o3 al bl tl : List Int) (hk2 : pkK p2 = pkK p1) (hk3 : pkK p3 = pkK p1) (hp1 : p1.Ok) (hp2 : p2.Ok) (hp3 : p3.Ok) (ho1 : o1.length ≤ 1000000) (ho2 : o2.length ≤ 1000000) (ho3 : o3.length ≤ 1000000) (h1 : p1.more = true ∧ p1.off = 0) (h2 : p2.more = true ∧ p2.off = 0)
    (h3 : p3.more = false ∧ p3.off = ((max al.length bl.length : Nat) : Int)) (hg1 : Good p1 al.length) (hg2 : Good p2 bl.length) (hg3 : Good p3 tl.length) (L1 L2 L3 : List Rec) (q1 q2 q3 : Pk3) (i1 i2 i3 : Bool) (r1 r2 r3 : Int)
    (g1 : GoodR [] p1 o1 al 0 L1 q1 i1 r1) (g2 : GoodR L1 p2 o2 bl 0 L2 q2 i2 r2) (g3 : GoodR L2 p3 o3 tl 0 L3 q3 i3 r3) :
    (i1 = false ∧ r1 = 0) ∧ (i2 = false ∧ r2 = 0) ∧ i3 = true ∧ r3 = 0 ∧ q3.2.2 = al ++ bl.drop al.length ++ tl := by
  have hT : (al ++ bl.drop al.length ++ tl).length = max al.length bl.length + tl.length := by simp; omega
  generalize hTT : al ++ bl.drop al.length ++ tl = T at *
  have hTa : ∀ k, k < al.length → T[k]? = al[k]? := fun k h => by rw [← hTT, List.append_assoc, List.getElem?_append_left h]
  have hTb : ∀ k, al.length ≤ k → k < bl.length → T[k]? = bl[k]? := fun k h h' => by
    rw [← hTT, List.getElem?_append_left (by simp; omega), List.getElem?_append_right h, List.getElem?_drop]; congr 1; omega
  have hTt : ∀ k, max al.length bl.length ≤ k → T[k]? = tl[k - max al.length bl.length]? := fun k h => by
    rw [← hTT, List.getElem?_append_right (by simp; omega)]
    congr 1
    simp; omega
  -- the first piece
  obtain ⟨K1, ra, K2, hO, hcase⟩ := g1
  have hra : K1 = [] ∧ K2 = [] ∧ ra = newRec (pkK p1) 0 := by
    rcases hO with ⟨e, _⟩ | ⟨_, e1, e2, e3⟩
    · simp at e
    · rcases e3 with ⟨_, e3⟩ | ⟨e3, _⟩
      · exact ⟨e3, e1, e2⟩
      · simp at e3
  obtain ⟨rfl, rfl, rfl⟩ := hra
  have hA := RecOk.new (pkK p1) 0
  rw [h1.1] at hcase
  rcases hcase with ⟨hf, _⟩ | ⟨hf, rfl, S1, hl1, hcase⟩
  · have : fitsW (newRec (pkK p1) 0).fin (newRec (pkK p1) 0).S true (p1.off + ↑al.length) = true := (fits_cov hA.sps true _ (by rw [h1.2]; omega)).2 (by simp [newRec])
    rw [this] at hf; cases hf
  obtain ⟨hH1, hc1⟩ := lay_step (T := T) (ol := o1) hA (Half.new T (pkK p1) 0) hg1 hl1 (fun k _ h _ => by rw [h1.2] at h ⊢; rw [hTa k (by simpa using h)]; simp) (by rw [h1.2, hT]; simp; omega)
  have hR1 := hA.lay hg1 hp1 ho1 rfl hl1
  obtain ⟨f1, k1, b1, _⟩ := layRec_f (newRec (pkK p1) 0) p1 o1 al S1
  rw [h1.1, if_pos rfl] at f1
  have f1' : (layRec (setR (newRec (pkK p1) 0) p1 o1 al) p1.off.toNat al S1).fin = -1 := f1
  have k1' : (layRec (setR (newRec (pkK p1) 0) p1 o1 al) p1.off.toNat al S1).k = pkK p1 := k1
  generalize layRec (setR (newRec (pkK p1) 0) p1 o1 al) p1.off.toNat al S1 = rb at *
  rcases hcase with ⟨hd, _⟩ | ⟨hd, rfl, rfl, rfl⟩
  · have := hd.1; rw [f1'] at this; omega
  have hcb : ∀ k, Cov rb.S k ↔ k < al.length := fun k => by
    rw [hc1, h1.2]
    constructor
    · rintro (⟨x, hx, _⟩ | h)
      · cases hx
      · simpa using h.2
    · intro h; exact .inr ⟨by simp, by simpa using h⟩
  -- the second one
  obtain ⟨K1, rb', K2, hO, hcase⟩ := g2
  have hrb : K1 = [] ∧ K2 = [] ∧ rb' = rb := by
    rcases hO with ⟨e, _⟩ | ⟨e, _⟩
    · rcases K1 with _ | ⟨x, t⟩
      · simp at e; exact ⟨rfl, e.2, e.1.symm⟩
      · simp at e
    · exact absurd (k1'.trans hk2.symm) (e rb (by simp))
  obtain ⟨rfl, rfl, rfl⟩ := hrb
  rw [h2.1] at hcase
  rcases hcase with ⟨hf, _⟩ | ⟨hf, rfl, S2, hl2, hcase⟩
  · have : fitsW rb'.fin rb'.S true (p2.off + ↑bl.length) = true := (fits_cov hR1.sps true _ (by rw [h2.2]; omega)).2 (by simp [f1'])
    rw [this] at hf; cases hf
  obtain ⟨hH2, hc2⟩ := lay_step (T := T) (ol := o2) hR1 hH1 hg2 hl2 (fun k _ h hc => by rw [h2.2] at h ⊢; rw [hcb] at hc; rw [hTb k (by omega) (by simpa using h)]; simp) (by rw [h2.2, hT]; simp; omega)
  have hR2 := hR1.lay hg2 hp2 ho2 (k1'.trans hk2.symm) hl2
  obtain ⟨f2, k2, b2, _⟩ := layRec_f rb' p2 o2 bl S2
  rw [h2.1, if_pos rfl, f1'] at f2
  rw [k1'] at k2
  generalize layRec (setR rb' p2 o2 bl) p2.off.toNat bl S2 = rc at *
  rcases hcase with ⟨hd, _⟩ | ⟨hd, rfl, rfl, rfl⟩
  · have := hd.1; rw [f2] at this; omega
  have hcc : ∀ k, Cov rc.S k ↔ k < max al.length bl.length := fun k => by
    rw [hc2, hcb, h2.2]
    simp; omega
  -- the last one
  obtain ⟨K1, rc', K2, hO, hcase⟩ := g3
  have hrc : K1 = [] ∧ K2 = [] ∧ rc' = rc := by
    rcases hO with ⟨e, _⟩ | ⟨e, _⟩
    · rcases K1 with _ | ⟨x, t⟩
      · simp at e; exact ⟨rfl, e.2, e.1.symm⟩
      · simp at e
    · exact absurd (k2.trans hk3.symm) (e rc (by simp))
  obtain ⟨rfl, rfl, rfl⟩ := hrc
  have ho : p3.off.toNat = max al.length bl.length := by rw [h3.2]; omega
  rw [h3.1] at hcase
  rcases hcase with ⟨hf, _⟩ | ⟨hf, rfl, S3, hl3, hcase⟩
  · have : fitsW rc'.fin rc'.S false (p3.off + ↑tl.length) = true := (fits_cov hR2.sps false _ (by rw [h3.2]; omega)).2 ⟨.inl (by omega), fun k hk => by rw [hcc] at hk; rw [h3.2]; omega⟩
    rw [this] at hf; cases hf
  obtain ⟨hH3, hc3⟩ := lay_step (T := T) (ol := o3) hR2 hH2 hg3 hl3 (fun k h _ hc => by rw [ho] at h ⊢; rw [hTt k h]) (by rw [ho, hT]; exact Nat.le_refl _)
  have hR3 := hR2.lay hg3 hp3 ho3 (k2.trans hk3.symm) hl3
  obtain ⟨f3, k3, b3, _⟩ := layRec_f rc' p3 o3 tl S3
  rw [h3.1] at f3
  have f3' : (layRec (setR rc' p3 o3 tl) p3.off.toNat tl S3).fin = (T.length : Int) := by rw [f3, hT]; simp [h3.2]
  generalize layRec (setR rc' p3 o3 tl) p3.off.toNat tl S3 = rd at *
  have hpos := hg3.pos
  have hdone : doneR rd := (done_iff hR3 f3' (by omega)).2 fun k => by rw [hc3, hcc, ho, hT]; omega
  rcases hcase with ⟨_, rfl, rfl, rfl⟩ | ⟨hd, _⟩
  · refine ⟨⟨rfl, rfl⟩, ⟨rfl, rfl⟩, rfl, rfl, ?_⟩
    have hw := Half.whole hR3 hH3 hdone f3'
    have hsome : rd.first.isSome = true := hR3.fst ⟨(0, rd.fin.toNat), by rw [hdone.2]; simp, rfl⟩
    unfold outP
    cases hfr : rd.first with
    | none => rw [hfr] at hsome; cases hsome
    | some x => exact hw
  · exact absurd hdone hd
end Go.Proofs.Ytcjkhonapafndaa
