/- Proved: what a Store does with a piece (plain), and how a whole's state follows it in memory; what laying does to the bytes and to the spans (plain); what a piece does to a packet that is being put together (plain). Conditions: as each law says. -/
import Derived.Test.YtcjkhonapafndaaOfa
import Derived.Test.YtcjkhonapafndaaLy
set_option linter.unusedVariables false
set_option linter.unusedSimpArgs false
namespace Go.Proofs.Ytcjkhonapafndaa
open Go.RowKit
/-- What holds of a packet that is being put together. -/
structure RecOk (r : Rec) : Prop where
  len : r.D.length ≤ 65515
  sp : ∀ x ∈ r.S, x.1 < x.2 ∧ x.2 ≤ r.D.length
  srt : r.S.Pairwise (fun x y => x.2 < y.1)
  fin : -1 ≤ r.fin ∧ r.fin ≤ 65515
  fst : (∃ x ∈ r.S, x.1 = 0) → r.first.isSome = true
  fok : ∀ p ol dl, r.first = some (p, ol, dl) → pkK p = r.k ∧ p.Ok ∧ ol.length ≤ 1000000 ∧ dl.length ≤ 65515
theorem sp_len : ∀ (S : List (Nat × Nat)) (n : Nat), (∀ x ∈ S, x.1 < x.2 ∧ x.2 ≤ n) → S.Pairwise (fun x y => x.2 < y.1) → S.length ≤ n
  | [], n, _, _ => Nat.zero_le _
  | [x], n, h, _ => by have := h x (by simp); simp; omega
  | x :: y :: r, n, h, hp => by
    have hp' := List.pairwise_cons.1 hp
    -- all behind x are ahead of it: count from the end
    have key : ∀ (S : List (Nat × Nat)) (m n : Nat), (∀ z ∈ S, m < z.1 ∧ z.1 < z.2 ∧ z.2 ≤ n) → S.Pairwise (fun x y => x.2 < y.1) → m ≤ n → m + S.length ≤ n := by
      intro S
      induction S with
      | nil => intro m n _ _ h; simpa using h
      | cons z t ih =>
        intro m n h1 h2 h3
        have h4 := List.pairwise_cons.1 h2
        have hz := h1 z (by simp)
        have := ih z.2 n (fun u hu => ⟨h4.1 u hu, (h1 u (by simp [hu])).2.1, (h1 u (by simp [hu])).2.2⟩) h4.2 hz.2.2
        simp only [List.length_cons]
        omega
    have hx := h x (by simp)
    have := key (y :: r) x.2 n (fun u hu => ⟨hp'.1 u hu, (h u (by simp [hu])).1, (h u (by simp [hu])).2⟩) hp'.2 hx.2
    simp only [List.length_cons] at this ⊢
    omega
theorem RecOk.tn {r : Rec} (h : RecOk r) : r.S.length ≤ 65515 := Nat.le_trans (sp_len r.S r.D.length h.sp h.srt) h.len
theorem RecOk.new (k : K4) (now : Int) : RecOk (newRec k now) := ⟨Nat.zero_le _, (fun x h => by cases h), List.Pairwise.nil, ⟨Int.le_refl _, by show (-1 : Int) ≤ 65515; omega⟩, (fun h => by obtain ⟨x, hx, _⟩ := h; cases hx), (fun p ol dl h => by cases h)⟩
/-- The end and the first piece are told. -/
def finR (r : Rec) (p : PkV) (dn : Nat) : Rec := if p.more then r else { r with fin := p.off + dn }
def fstR (r : Rec) (p : PkV) (ol dl : List Int) : Rec := if p.off = 0 ∧ r.first = none then { r with first := some (p, ol, dl) } else r
def setR (r : Rec) (p : PkV) (ol dl : List Int) : Rec := fstR (finR r p dl.length) p ol dl
/-- The bytes are laid. -/
def layF (r : Rec) (a : Nat) (al : List Int) : LySt := lyF a (a + al.length) al (lyD r.D (a + al.length)) r.S
def layRec (r : Rec) (a : Nat) (al : List Int) (S' : List (Nat × Nat)) : Rec := { r with D := lyEnd a (a + al.length) al (layF r a al), S := S' }
def LayR (r : Rec) (a : Nat) (al : List Int) (S' : List (Nat × Nat)) : Prop := S'.Perm ((layF r a al).L ++ [((layF r a al).lo, (layF r a al).hi)]) ∧ S'.Pairwise (fun x y => x.1 ≤ y.1)
def doneR (r : Rec) : Prop := 0 ≤ r.fin ∧ r.S = [(0, r.fin.toNat)]
abbrev Pk3 := PkV × List Int × List Int
def zeroP : PkV := ⟨0, 0, false, false, 0, 0, 0, 0, 0⟩
def outP (r : Rec) : Pk3 := match r.first with
  | some (p, ol, _) => ({ p with more := false, off := 0 }, ol, r.D)
  | none => (zeroP, [], [])
/-- A piece that may be put in. -/
structure Good (p : PkV) (dn : Nat) : Prop where
  pos : 0 < dn
  off : 0 ≤ p.off
  o8 : p.off.tmod 8 = 0
  d8 : p.more = true → dn % 8 = 0
  mo : p.more = true ∨ 0 < p.off
  lng : p.off + dn ≤ 65515
/-- What a good piece brings about. -/
def GoodR (L : List Rec) (p : PkV) (ol dl : List Int) (now : Int) (L' : List Rec) (out : Pk3) (is : Bool) (er : Int) : Prop :=
  ∃ K1 r K2, OfR L (pkK p) now K1 r K2 ∧ ((fitsW r.fin r.S p.more (p.off + dl.length) = false ∧ L' = K1 ++ r :: K2 ∧ out = (zeroP, [], []) ∧ is = false ∧ er = 3) ∨
    (fitsW r.fin r.S p.more (p.off + dl.length) = true ∧ er = 0 ∧ ∃ S', LayR (setR r p ol dl) p.off.toNat dl S' ∧
      ((doneR (layRec (setR r p ol dl) p.off.toNat dl S') ∧ L' = K1 ++ K2 ∧ out = outP (layRec (setR r p ol dl) p.off.toNat dl S') ∧ is = true) ∨
       (¬ doneR (layRec (setR r p ol dl) p.off.toNat dl S') ∧ L' = K1 ++ layRec (setR r p ol dl) p.off.toNat dl S' :: K2 ∧ out = (zeroP, [], []) ∧ is = false))))
section
variable {w w' : World} {F G : Nat → Prop} {g : Nat} {r : Rec}
theorem WhAt.mono (h : WhAt w F g r) (hF : ∀ b, F b → G b) : WhAt w G g r := by
  obtain ⟨f, dA, tA, dn, dc, tn, tc, h1, h2, h3, h4, h5, h6, h7⟩ := h
  exact ⟨f, dA, tA, dn, dc, tn, tc, h1, h2, h3, h4.mono (fun b _ hb => ⟨hF b hb.1, hb.2⟩), hF g h5, fun b hb => ⟨hF b (h6 b hb).1, (h6 b hb).2⟩, fun b hb => ⟨hF b (h7 b hb).1, (h7 b hb).2⟩⟩
theorem WhAt.fin (h : WhAt w F g r) (v : Int) : WhAt (w.setCell ⟨g, 6, none⟩ (.int .i64 v)) F g { r with fin := v } := by
  obtain ⟨f, dA, tA, dn, dc, tn, tc, h1, h2, h3, h4, h5, h6, h7⟩ := h
  have hC : Chg (fun b => b = g) w (w.setCell ⟨g, 6, none⟩ (.int .i64 v)) := (Chg.refl (fun b => b = g) _).setCell (p := ⟨g, 6, none⟩) (.inl rfl) _
  refine ⟨f, dA, tA, dn, dc, tn, tc, h1.set 6 _, Ow.chg h2 hC (fun b hb => (h6 b hb).2.1), h3.chg hC (fun b hb => (h7 b hb).2), h4.chg hC (fun b hb => hb.2.1), h5, h6, h7⟩
/-- The first piece is kept. -/
theorem WhAt.fst {base n1 c1 n2 c2 : Nat} {A1 A2 : Option Addr} {p : PkV} {ol dl : List Int} (h : WhAt w F g r) (hO : OwnAt w base A1 n1 c1 ol A2 n2 c2 dl) (hb : ∀ b, F b → b < base) (hbs : base ≤ w.heap.size) :
    WhAt ((w.alloc (.cells (pkC p (.slice A1 n1 c1) (.slice A2 n2 c2)) 26)).setCell ⟨g, 5, none⟩ (ptr w.heap.size)) (fun b => F b ∨ (base ≤ b ∧ b < w.heap.size + 1)) g { r with first := some (p, ol, dl) } := by
  obtain ⟨f, dA, tA, dn, dc, tn, tc, h1, h2, h3, h4, h5, h6, h7⟩ := h
  have hC : Chg (fun b => b = g) w ((w.alloc (.cells (pkC p (.slice A1 n1 c1) (.slice A2 n2 c2)) 26)).setCell ⟨g, 5, none⟩ (ptr w.heap.size)) := ((Chg.refl (fun b => b = g) _).alloc _).setCell (p := ⟨g, 5, none⟩) (.inl rfl) _
  have hgb := hb g h5
  have hno : ∀ b, base ≤ b → b ≠ g ∧ blk dA ≠ some b := fun b hbb => ⟨by omega, fun e => by have := hb b (h6 b e).1; omega⟩
  refine ⟨ptr w.heap.size, dA, tA, dn, dc, tn, tc, (h1.alloc _).set 5 _, Ow.chg h2 hC (fun b hb => (h6 b hb).2.1), h3.chg hC (fun b hb => (h7 b hb).2), ?_, .inl h5, fun b hb => ⟨.inl (h6 b hb).1, (h6 b hb).2⟩, fun b hb => ⟨.inl (h7 b hb).1, (h7 b hb).2⟩⟩
  refine ⟨w.heap.size, n1, c1, n2, c2, A1, A2, rfl, (Bk.new w _ _).far (by show w.heap.size ≠ g; omega) _, Ow.chg (Ow.mono hO.1 (Nat.zero_le _)) hC (fun b hbl => ?_), Ow.chg (Ow.mono hO.2.1 (Nat.zero_le _)) hC (fun b hbl => ?_), ⟨.inr ⟨hbs, by omega⟩, hno _ hbs⟩, fun b hbl => ?_, fun b hbl => ?_⟩
  · exact (hno b (Ow.lt hO.1 b hbl).1).1
  · exact (hno b (Ow.lt hO.2.1 b hbl).1).1
  · have := Ow.lt hO.1 b hbl
    exact ⟨.inr ⟨this.1, by omega⟩, hno b this.1⟩
  · have := Ow.lt hO.2.1 b hbl
    exact ⟨.inr ⟨this.1, by omega⟩, hno b this.1⟩
end
/-- The bytes are laid, in memory. -/
theorem lay_st (F : Nat → Prop) (g : Nat) (r : Rec) (a : Nat) (aA : Option Addr) (an ac B : Nat) (al : List Int) (w : World) (h : WhAt w F g r) (hr : RB w B aA al) (hB : B ≤ w.heap.size) (hra : ∀ b, blk aA = some b → ¬ F b) (hal : al.length = an) (hac : an ≤ ac) (ha0 : 0 < an) (hat : a + an ≤ 65535)
    (hD : r.D.length ≤ 65515) (htn : r.S.length ≤ 65515) (hS : ∀ x ∈ r.S, x.1 ≤ x.2 ∧ x.2 ≤ r.D.length) :
    Calls Try.prog 46 #[.pointer (some ⟨g, 0, none⟩), .int .i64 a, .slice aA an ac] w fun e w' => e = .returned (.tuple #[]) ∧ ∃ S', LayR r a al S' ∧ WhAt w' (fun b => F b ∨ (w.heap.size ≤ b ∧ b < w'.heap.size)) g (layRec r a al S') ∧ Chg F w w' := by
  obtain ⟨f, dA, tA, dn, dc, tn, tc, h1, h2, h3, h4, h5, h6, h7⟩ := h
  have hDl := OB.length h2
  have hTl := h3.len
  rw [List.length_map] at hTl
  refine (wlay_any g _ _ _ _ _ f r.fin dA dn dc r.D tA tn tc r.S a aA an ac B al w h1 h2 h3 (fun b hb => (h6 b hb).2.2) (fun e => (h6 g e).2.1 rfl) (fun e => (h7 g e).2 rfl) hr hB (fun b hb => ⟨fun e => hra b hb (by rw [e]; exact h5), fun e => hra b hb (h6 b e).1⟩) hal hac ha0 hat (by omega) (by omega) (fun x hx => by have := hS x hx; omega)).mono ?_
  rintro e w' ⟨rfl, gd, dn', dc', tn', tc', tA', S', q1, q2, q3, q4, q5, q6, q7, q8⟩
  subst hal
  have hC : Chg F w w' := q8.mono (fun b _ hb => by rcases hb with rfl | hb; exact h5; exact (h6 b hb).1)
  have hgl := h1.lt
  have hgd : F gd ∨ (w.heap.size ≤ gd ∧ gd < w'.heap.size) := by
    rcases q6 with e | e
    · exact .inl (h6 gd e).1
    · exact .inr ⟨e, (Ow.lt q2 gd rfl).2⟩
  have hgdg : gd ≠ g := by
    rcases q6 with e | e
    · exact (h6 gd e).2.1
    · omega
  have htl : ∀ b, blk tA' = some b → w.heap.size ≤ b ∧ b < w'.heap.size := fun b hb => q3.lt b hb
  refine ⟨rfl, S', ⟨q4, q5⟩, ⟨f, some ⟨gd, 0, none⟩, tA', dn', dc', tn', tc', q1, q2, q3.mono (Nat.zero_le _), ?_, .inl h5, fun b hb => ?_, fun b hb => ⟨.inr (htl b hb), by have := htl b hb; omega⟩⟩, hC⟩
  · refine (h4.mono (G' := fun b => b < w.heap.size ∧ (F b ∧ b ≠ g ∧ blk dA ≠ some b)) (fun b hb h => ⟨hb, h⟩)).chg q8 (fun b hb hc => ?_) |>.mono (fun b _ hb => ⟨.inl hb.2.1, hb.2.2.1, fun e => ?_⟩)
    · rcases hc with hc | hc
      · exact hb.2.2.1 hc
      · exact hb.2.2.2 hc
    · have e2 := (by simpa [blk] using e : gd = b)
      rcases q6 with e3 | e3
      · rw [e2] at e3; exact hb.2.2.2 e3
      · have := hb.1; omega
  · have e2 := (by simpa [blk] using hb : gd = b)
    subst e2
    exact ⟨hgd, hgdg, q7⟩
end Go.Proofs.Ytcjkhonapafndaa
namespace Go.Proofs.Ytcjkhonapafndaa
open Go.RowKit
/-- Which bytes are there. -/
def Cov (S : List (Nat × Nat)) (k : Nat) : Prop := ∃ x ∈ S, x.1 ≤ k ∧ k < x.2
instance decCov (S : List (Nat × Nat)) (k : Nat) : Decidable (Cov S k) := by unfold Cov; exact inferInstance
/-- Spans that rise, apart from each other, up to n. -/
structure Sps (S : List (Nat × Nat)) (n : Nat) : Prop where
  sp : ∀ x ∈ S, x.1 < x.2 ∧ x.2 ≤ n
  srt : S.Pairwise (fun x y => x.2 < y.1)
theorem cpy_get {D al : List Int} {a f t k : Nat} (h1 : a ≤ f) (h2 : f ≤ t) (h3 : t ≤ D.length) (h4 : t ≤ a + al.length) : (cpy D al a f t)[k]? = if f ≤ k ∧ k < t then al[k - a]? else D[k]? := by
  unfold cpy
  have hl : (D.take f).length = f := by rw [List.length_take]; omega
  have hm : ((al.drop (f - a)).take (t - f)).length = t - f := by rw [List.length_take, List.length_drop]; omega
  by_cases c : k < f
  · rw [if_neg (by omega), List.append_assoc, List.getElem?_append_left (by omega), List.getElem?_take_of_lt c]
  · by_cases c2 : k < t
    · rw [if_pos ⟨by omega, c2⟩, List.append_assoc, List.getElem?_append_right (by omega), List.getElem?_append_left (by omega), hl, List.getElem?_take_of_lt (by omega), List.getElem?_drop]
      congr 1; omega
    · rw [if_neg (by omega), List.getElem?_append_right (by rw [List.length_append]; omega), List.length_append, hl, hm, List.getElem?_drop]
      congr 1; omega
theorem cpy_length {D al : List Int} {a f t : Nat} (h1 : a ≤ f) (h2 : f ≤ t) (h3 : t ≤ D.length) (h4 : t ≤ a + al.length) : (cpy D al a f t).length = D.length := by
  unfold cpy
  rw [List.length_append, List.length_append, List.length_take, List.length_take, List.length_drop, List.length_drop]; omega
/-- What holds while the spans S1 have been seen, S2 not yet. -/
structure LyInv (a e : Nat) (al D : List Int) (S1 S2 : List (Nat × Nat)) (s : LySt) : Prop where
  fra : a ≤ s.fr
  loa : s.lo ≤ a
  hie : e ≤ s.hi
  hin : s.hi ≤ D.length
  lx : ∀ x ∈ s.L, (x.2 < a ∨ e < x.1) ∧ x ∈ S1
  lsub : s.L.Sublist S1
  lall : ∀ x ∈ S1, (x.2 < a ∨ e < x.1) → x ∈ s.L
  frx : ∀ x ∈ S1, ¬ (x.2 < a ∨ e < x.1) → x.2 ≤ s.fr ∧ s.lo ≤ x.1 ∧ x.2 ≤ s.hi
  frw : s.fr = a ∨ ∃ x ∈ S1, ¬ (x.2 < a ∨ e < x.1) ∧ s.fr = x.2
  low : s.lo = a ∨ ∃ x ∈ S1, ¬ (x.2 < a ∨ e < x.1) ∧ s.lo = x.1
  hiw : s.hi = e ∨ ∃ x ∈ S1, ¬ (x.2 < a ∨ e < x.1) ∧ s.hi = x.2
  len : s.D.length = D.length
  get : ∀ k, s.D[k]? = if a ≤ k ∧ k < s.fr ∧ k < e ∧ ¬ Cov S1 k then al[k - a]? else D[k]?
theorem LyInv.step {a e : Nat} {al D : List Int} {S1 S2 : List (Nat × Nat)} {s : LySt} {x : Nat × Nat} (h : LyInv a e al D S1 (x :: S2) s) (he : e = a + al.length) (hel : e ≤ D.length)
    (hs : Sps (S1 ++ x :: S2) D.length) : LyInv a e al D (S1 ++ [x]) S2 (lyStep a e al s x) := by
  have hx := hs.sp x (by simp)
  have hp := List.pairwise_append.1 hs.srt
  have hlt : ∀ y ∈ S1, y.2 < x.1 := fun y hy => hp.2.2 y hy x (by simp)
  have hcov : ∀ k, Cov (S1 ++ [x]) k ↔ Cov S1 k ∨ (x.1 ≤ k ∧ k < x.2) := fun k => by
    unfold Cov
    constructor
    · rintro ⟨y, hy, h1⟩
      rcases List.mem_append.1 hy with hy | hy
      · exact .inl ⟨y, hy, h1⟩
      · simp at hy; subst hy; exact .inr h1
    · rintro (⟨y, hy, h1⟩ | h1)
      · exact ⟨y, by simp [hy], h1⟩
      · exact ⟨x, by simp, h1⟩
  have hcl : ∀ k, Cov S1 k → k < x.1 := fun k ⟨y, hy, h1⟩ => by have := hlt y hy; omega
  have hfr : s.fr = a ∨ s.fr < x.1 := by
    rcases h.frw with e1 | ⟨y, hy, _, e1⟩
    · exact .inl e1
    · right; have := hlt y hy; omega
  unfold lyStep
  split
  · rename_i hc
    refine ⟨h.fra, h.loa, h.hie, h.hin, fun y hy => ?_, ?_, fun y hy hyc => ?_, fun y hy hyc => ?_, ?_, ?_, ?_, h.len, fun k => ?_⟩
    · rcases List.mem_append.1 hy with hy | hy
      · exact ⟨(h.lx y hy).1, by simp [(h.lx y hy).2]⟩
      · simp at hy; subst hy; exact ⟨hc, by simp⟩
    · exact h.lsub.append (List.Sublist.refl _)
    · rcases List.mem_append.1 hy with hy | hy
      · simp [h.lall y hy hyc]
      · simp at hy; subst hy; simp
    · rcases List.mem_append.1 hy with hy | hy
      · exact h.frx y hy hyc
      · simp at hy; subst hy; exact absurd hc hyc
    · rcases h.frw with e1 | ⟨y, hy, h2⟩
      · exact .inl e1
      · exact .inr ⟨y, by simp [hy], h2⟩
    · rcases h.low with e1 | ⟨y, hy, h2⟩
      · exact .inl e1
      · exact .inr ⟨y, by simp [hy], h2⟩
    · rcases h.hiw with e1 | ⟨y, hy, h2⟩
      · exact .inl e1
      · exact .inr ⟨y, by simp [hy], h2⟩
    · show s.D[k]? = _
      rw [h.get k]
      have : (a ≤ k ∧ k < s.fr ∧ k < e ∧ ¬ Cov S1 k) ↔ (a ≤ k ∧ k < s.fr ∧ k < e ∧ ¬ Cov (S1 ++ [x]) k) := by
        rw [hcov]
        constructor
        · rintro ⟨h1, h2, h3, h4⟩
          refine ⟨h1, h2, h3, fun hc2 => ?_⟩
          rcases hc2 with hc2 | hc2
          · exact h4 hc2
          · omega
        · rintro ⟨h1, h2, h3, h4⟩
          exact ⟨h1, h2, h3, fun hc2 => h4 (.inl hc2)⟩
      by_cases c : a ≤ k ∧ k < s.fr ∧ k < e ∧ ¬ Cov S1 k
      · rw [if_pos c, if_pos (this.1 c)]
      · rw [if_neg c, if_neg (fun d => c (this.2 d))]
  · rename_i hc
    refine ⟨by show a ≤ max s.fr x.2; have := h.fra; omega, by show min s.lo x.1 ≤ a; have := h.loa; omega, by show e ≤ max s.hi x.2; have := h.hie; omega, by show max s.hi x.2 ≤ D.length; have := h.hin; omega,
      fun y hy => ⟨(h.lx y hy).1, by simp [(h.lx y hy).2]⟩, ?_, fun y hy hyc => ?_, fun y hy hyc => ?_, ?_, ?_, ?_, ?_, fun k => ?_⟩
    · exact h.lsub.trans (List.sublist_append_left _ _)
    · rcases List.mem_append.1 hy with hy | hy
      · exact h.lall y hy hyc
      · simp at hy; subst hy; exact absurd hyc hc
    · show y.2 ≤ max s.fr x.2 ∧ min s.lo x.1 ≤ y.1 ∧ y.2 ≤ max s.hi x.2
      rcases List.mem_append.1 hy with hy | hy
      · have := h.frx y hy hyc; omega
      · simp at hy; subst hy; omega
    · show max s.fr x.2 = a ∨ _
      right
      refine ⟨x, by simp, hc, ?_⟩
      show max s.fr x.2 = x.2
      rcases hfr with h1 | h1 <;> omega
    · show min s.lo x.1 = a ∨ ∃ y ∈ S1 ++ [x], _ ∧ min s.lo x.1 = y.1
      rcases Nat.lt_or_ge x.1 s.lo with c | c
      · exact .inr ⟨x, by simp, hc, by omega⟩
      · rcases h.low with e1 | ⟨y, hy, h2, e1⟩
        · exact .inl (by omega)
        · exact .inr ⟨y, by simp [hy], h2, by omega⟩
    · show max s.hi x.2 = e ∨ ∃ y ∈ S1 ++ [x], _ ∧ max s.hi x.2 = y.2
      rcases Nat.lt_or_ge s.hi x.2 with c | c
      · exact .inr ⟨x, by simp, hc, by omega⟩
      · rcases h.hiw with e1 | ⟨y, hy, h2, e1⟩
        · exact .inl (by omega)
        · exact .inr ⟨y, by simp [hy], h2, by omega⟩
    · show List.length (if s.fr < x.1 then cpy s.D al a s.fr x.1 else s.D) = _
      split
      · rw [cpy_length h.fra (by omega) (by have := h.len; omega) (by omega)]; exact h.len
      · exact h.len
    · show (if s.fr < x.1 then cpy s.D al a s.fr x.1 else s.D)[k]? = _
      have hnew : ∀ k, s.fr ≤ k → k < x.1 → ¬ Cov (S1 ++ [x]) k := fun k h1 h2 hc2 => by
        rcases (hcov k).1 hc2 with ⟨y, hy, h3⟩ | h3
        · by_cases hyt : y.2 < a ∨ e < y.1
          · have := h.fra; have := hlt y hy; omega
          · have := (h.frx y hy hyt).1; omega
        · omega
      have hkeep : ∀ k, k < s.fr → (Cov (S1 ++ [x]) k ↔ Cov S1 k ∨ (s.fr = a ∧ x.1 ≤ k ∧ k < x.2)) := fun k hk => by
        rw [hcov]
        constructor
        · rintro (h1 | h1)
          · exact .inl h1
          · rcases hfr with h2 | h2
            · exact .inr ⟨h2, h1⟩
            · omega
        · rintro (h1 | h1)
          · exact .inl h1
          · exact .inr h1.2
      have hmx : (k < max s.fr x.2) ↔ (k < s.fr ∨ k < x.2) := by omega
      split
      · rename_i hlt2
        rw [cpy_get h.fra (by omega) (by have := h.len; omega) (by omega), h.get k]
        by_cases c1 : s.fr ≤ k ∧ k < x.1
        · rw [if_pos c1, if_pos ⟨by have := h.fra; omega, by show k < max s.fr x.2; omega, by omega, hnew k c1.1 c1.2⟩]
        · rw [if_neg c1]
          by_cases c2 : k < s.fr
          · have hk := hkeep k c2
            by_cases c3 : a ≤ k ∧ k < s.fr ∧ k < e ∧ ¬ Cov S1 k
            · rw [if_pos c3, if_pos ⟨c3.1, by show k < max s.fr x.2; omega, c3.2.2.1, fun hc2 => by rcases hk.1 hc2 with h1 | h1; exact c3.2.2.2 h1; omega⟩]
            · rw [if_neg c3, if_neg (fun d => c3 ⟨d.1, c2, d.2.2.1, fun hc2 => d.2.2.2 (hk.2 (.inl hc2))⟩)]
          · rw [if_neg (fun d => c2 d.2.1), if_neg]
            rintro ⟨d1, d2, d3, d4⟩
            have d2' : k < max s.fr x.2 := d2
            exact d4 ((hcov k).2 (.inr (by omega)))
      · rename_i hlt2
        rw [h.get k]
        have hfa : s.fr = a := by rcases hfr with h1 | h1; exact h1; omega
        rw [if_neg (by omega), if_neg]
        rintro ⟨d1, d2, d3, d4⟩
        have d2' : k < max s.fr x.2 := d2
        exact d4 ((hcov k).2 (.inr (by omega)))
theorem LyInv.run {a e : Nat} {al D : List Int} : ∀ (S2 S1 : List (Nat × Nat)) (s : LySt), LyInv a e al D S1 S2 s → e = a + al.length → e ≤ D.length → Sps (S1 ++ S2) D.length → LyInv a e al D (S1 ++ S2) [] (S2.foldl (lyStep a e al) s)
  | [], S1, s, h, _, _, _ => by rw [List.append_nil]; exact h
  | x :: S2, S1, s, h, he, hel, hs => by
    have h1 := h.step he hel hs
    have h2 := LyInv.run S2 (S1 ++ [x]) _ h1 he hel (by rw [List.append_assoc]; exact hs)
    rw [List.append_assoc] at h2
    exact h2
theorem lyInv (a e : Nat) (al D : List Int) (S : List (Nat × Nat)) (he : e = a + al.length) (hel : e ≤ D.length) (hs : Sps S D.length) : LyInv a e al D S [] (lyF a e al D S) := by
  have h0 : LyInv a e al D [] S ⟨a, a, e, [], D⟩ := ⟨Nat.le_refl _, Nat.le_refl _, Nat.le_refl _, hel, (fun x h => by cases h), List.Sublist.refl _, (fun x h => by cases h), (fun x h => by cases h), .inl rfl, .inl rfl, .inl rfl, rfl, fun k => by
    rw [if_neg (by show ¬ (a ≤ k ∧ k < a ∧ _); omega)]⟩
  exact LyInv.run S [] _ h0 he hel hs
/-- What laying does to the bytes. -/
theorem lyEnd_get (a e : Nat) (al D : List Int) (S : List (Nat × Nat)) (he : e = a + al.length) (hel : e ≤ D.length) (hs : Sps S D.length) :
    (lyEnd a e al (lyF a e al D S)).length = D.length ∧ ∀ k, (lyEnd a e al (lyF a e al D S))[k]? = if a ≤ k ∧ k < e ∧ ¬ Cov S k then al[k - a]? else D[k]? := by
  have h := lyInv a e al D S he hel hs
  have hnew : ∀ k, (lyF a e al D S).fr ≤ k → k < e → ¬ Cov S k := fun k h1 h2 ⟨y, hy, h3⟩ => by
    by_cases hyt : y.2 < a ∨ e < y.1
    · have := h.fra; omega
    · have := (h.frx y hy hyt).1; omega
  unfold lyEnd
  split
  · rename_i hlt
    refine ⟨by rw [cpy_length h.fra (by omega) (by have := h.len; omega) (by omega)]; exact h.len, fun k => ?_⟩
    rw [cpy_get h.fra (by omega) (by have := h.len; omega) (by omega), h.get k]
    by_cases c1 : (lyF a e al D S).fr ≤ k ∧ k < e
    · rw [if_pos c1, if_pos ⟨by have := h.fra; omega, c1.2, hnew k c1.1 c1.2⟩]
    · rw [if_neg c1]
      by_cases c3 : a ≤ k ∧ k < (lyF a e al D S).fr ∧ k < e ∧ ¬ Cov S k
      · rw [if_pos c3, if_pos ⟨c3.1, c3.2.2⟩]
      · rw [if_neg c3, if_neg]
        rintro ⟨d1, d2, d3⟩
        exact c3 ⟨d1, by omega, d2, d3⟩
  · rename_i hlt
    refine ⟨h.len, fun k => ?_⟩
    rw [h.get k]
    by_cases c3 : a ≤ k ∧ k < (lyF a e al D S).fr ∧ k < e ∧ ¬ Cov S k
    · rw [if_pos c3, if_pos ⟨c3.1, c3.2.2⟩]
    · rw [if_neg c3, if_neg]
      rintro ⟨d1, d2, d3⟩
      exact c3 ⟨d1, by omega, d2, d3⟩
/-- What laying does to the spans. -/
theorem lyF_spans (a e : Nat) (al D : List Int) (S S' : List (Nat × Nat)) (he : e = a + al.length) (hel : e ≤ D.length) (hs : Sps S D.length) (hae : a < e)
    (hp : S'.Perm ((lyF a e al D S).L ++ [((lyF a e al D S).lo, (lyF a e al D S).hi)])) (hsr : S'.Pairwise (fun x y => x.1 ≤ y.1)) :
    Sps S' D.length ∧ ∀ k, Cov S' k ↔ Cov S k ∨ (a ≤ k ∧ k < e) := by
  have h := lyInv a e al D S he hel hs
  have hpw := hs.srt
  generalize hst : lyF a e al D S = s at *
  have hmem : ∀ x, x ∈ S' ↔ x ∈ s.L ∨ x = (s.lo, s.hi) := fun x => by rw [hp.mem_iff]; simp
  -- each one of L is wholly ahead of the merged one, or wholly behind it
  have htot : ∀ x y : Nat × Nat, x ∈ S → y ∈ S → x = y ∨ x.2 < y.1 ∨ y.2 < x.1 := by
    intro x y hx hy
    obtain ⟨i, hi, rfl⟩ := List.mem_iff_getElem.1 hx
    obtain ⟨j, hj, rfl⟩ := List.mem_iff_getElem.1 hy
    rw [List.pairwise_iff_getElem] at hpw
    rcases Nat.lt_trichotomy i j with c | c | c
    · exact .inr (.inl (hpw i j hi hj c))
    · subst c; exact .inl rfl
    · exact .inr (.inr (hpw j i hj hi c))
  have hfar : ∀ x ∈ s.L, x.2 < s.lo ∨ s.hi < x.1 := fun x hx => by
    obtain ⟨hc, hxS⟩ := h.lx x hx
    have hx12 := hs.sp x hxS
    rcases hc with hc | hc
    · left
      rcases h.low with e1 | ⟨y, hy, hyc, e1⟩
      · omega
      · rw [e1]
        have hy12 := hs.sp y hy
        rcases htot x y hxS hy with c | c | c
        · subst c; omega
        · exact c
        · omega
    · right
      rcases h.hiw with e1 | ⟨y, hy, hyc, e1⟩
      · omega
      · rw [e1]
        have hy12 := hs.sp y hy
        rcases htot x y hxS hy with c | c | c
        · subst c; omega
        · omega
        · exact c
  have hlohi : s.lo < s.hi := by have := h.loa; have := h.hie; omega
  have hnd : S'.Nodup := by
    refine hp.nodup_iff.2 ?_
    refine List.nodup_append.2 ⟨?_, by simp, ?_⟩
    · refine List.Nodup.sublist h.lsub ?_
      rw [List.nodup_iff_pairwise_ne]
      refine List.Pairwise.imp_of_mem ?_ hpw
      intro x y hx hy hxy e1
      subst e1
      have := hs.sp x hx; omega
    · intro x hx y hy e1
      simp at hy; subst hy; subst e1
      have := hfar _ hx
      simp only at this
      omega
  refine ⟨⟨fun x hx => ?_, ?_⟩, fun k => ?_⟩
  · rcases (hmem x).1 hx with hx | rfl
    · exact hs.sp x (h.lx x hx).2
    · exact ⟨hlohi, h.hin⟩
  · have hnd' := List.nodup_iff_pairwise_ne.1 hnd
    refine List.Pairwise.imp_of_mem ?_ (hsr.and hnd')
    intro x y hx hy hxy
    obtain ⟨h1, h2⟩ := hxy
    rcases (hmem x).1 hx with hxL | hxm
    · have hx12 := hs.sp x (h.lx x hxL).2
      rcases (hmem y).1 hy with hyL | hym
      · have hy12 := hs.sp y (h.lx y hyL).2
        rcases htot x y (h.lx x hxL).2 (h.lx y hyL).2 with c | c | c
        · exact absurd c h2
        · exact c
        · omega
      · subst hym
        simp only at h1 ⊢
        rcases hfar x hxL with c | c
        · exact c
        · omega
    · subst hxm
      simp only at h1 ⊢
      rcases (hmem y).1 hy with hyL | hym
      · have hy12 := hs.sp y (h.lx y hyL).2
        rcases hfar y hyL with c | c
        · omega
        · exact c
      · subst hym; exact absurd rfl h2
  · constructor
    · rintro ⟨x, hx, h1, h2⟩
      rcases (hmem x).1 hx with hxL | rfl
      · exact .inl ⟨x, (h.lx x hxL).2, h1, h2⟩
      · simp only at h1 h2
        by_cases c : a ≤ k ∧ k < e
        · exact .inr c
        · left
          by_cases c2 : k < a
          · rcases h.low with e1 | ⟨y, hy, hyc, e1⟩
            · omega
            · exact ⟨y, hy, by omega, by omega⟩
          · rcases h.hiw with e1 | ⟨y, hy, hyc, e1⟩
            · omega
            · exact ⟨y, hy, by omega, by omega⟩
    · rintro (⟨x, hx, h1, h2⟩ | ⟨h1, h2⟩)
      · by_cases c : x.2 < a ∨ e < x.1
        · exact ⟨x, (hmem x).2 (.inl (h.lall x hx c)), h1, h2⟩
        · have := h.frx x hx c
          exact ⟨(s.lo, s.hi), (hmem _).2 (.inr rfl), by simp only; omega, by simp only; omega⟩
      · exact ⟨(s.lo, s.hi), (hmem _).2 (.inr rfl), by have := h.loa; simp only; omega, by have := h.hie; simp only; omega⟩
/-- One span covers all up to n. -/
theorem canon {S : List (Nat × Nat)} {m n : Nat} (hs : Sps S m) (hn : 0 < n) (hc : ∀ k, Cov S k ↔ k < n) : S = [(0, n)] := by
  obtain ⟨x, hx, h1, h2⟩ := (hc 0).2 hn
  have hx12 := hs.sp x hx
  have hxn : x.2 = n := by
    rcases Nat.lt_trichotomy x.2 n with c | c | c
    · obtain ⟨y, hy, h3, h4⟩ := (hc x.2).2 c
      exfalso
      have hpw := hs.srt
      obtain ⟨i, hi, rfl⟩ := List.mem_iff_getElem.1 hx
      obtain ⟨j, hj, rfl⟩ := List.mem_iff_getElem.1 hy
      rw [List.pairwise_iff_getElem] at hpw
      rcases Nat.lt_trichotomy i j with d | d | d
      · have := hpw i j hi hj d; omega
      · subst d; omega
      · have := hpw j i hj hi d; omega
    · exact c
    · have := (hc (x.2 - 1)).1 ⟨x, hx, by omega, by omega⟩; omega
  have hall : ∀ y ∈ S, y = x := fun y hy => by
    have hpw := hs.srt
    have hy12 := hs.sp y hy
    obtain ⟨i, hi, rfl⟩ := List.mem_iff_getElem.1 hx
    obtain ⟨j, hj, rfl⟩ := List.mem_iff_getElem.1 hy
    rw [List.pairwise_iff_getElem] at hpw
    rcases Nat.lt_trichotomy i j with d | d | d
    · have h5 := hpw i j hi hj d
      have := (hc (S[j].2 - 1)).1 ⟨S[j], hy, by omega, by omega⟩; omega
    · subst d; rfl
    · have := hpw j i hj hi d; omega
  obtain rfl : x = (0, n) := by
    obtain ⟨x1, x2⟩ := x
    simp only at h1 hxn
    subst hxn
    obtain rfl : x1 = 0 := by omega
    rfl
  match S, hx, hall, hs with
  | [], hx, _, _ => cases hx
  | [y], _, hall, _ => rw [hall y (by simp)]
  | y :: z :: r, _, hall, hs =>
    have h3 := hall y (by simp)
    have h4 := hall z (by simp)
    have := (List.pairwise_cons.1 hs.srt).1 z (by simp)
    rw [h3, h4] at this
    simp only at this
    omega
theorem cov_one (n k : Nat) : Cov [(0, n)] k ↔ k < n := by unfold Cov; simp
/-- The end of what is there. -/
theorem lastS_cov {S : List (Nat × Nat)} {n : Nat} (hs : Sps S n) (last : Nat) (hl : last = (S[S.length - 1]?.map (·.2)).getD 0) : (∀ k, Cov S k → k < last) ∧ (0 < last → Cov S (last - 1)) ∧ last ≤ n := by
  rcases Nat.eq_zero_or_pos S.length with h0 | h0
  · obtain rfl := List.eq_nil_of_length_eq_zero h0
    simp at hl; subst hl
    exact ⟨(fun k ⟨x, hx, _⟩ => by cases hx), (fun h => by omega), Nat.zero_le _⟩
  · have hi : S.length - 1 < S.length := by omega
    rw [List.getElem?_eq_getElem hi] at hl
    simp only [Option.map_some, Option.getD_some] at hl
    have hz := hs.sp _ (List.getElem_mem hi)
    refine ⟨fun k ⟨x, hx, h1, h2⟩ => ?_, fun h => ⟨_, List.getElem_mem hi, by omega, by omega⟩, by omega⟩
    obtain ⟨j, hj, rfl⟩ := List.mem_iff_getElem.1 hx
    rcases Nat.lt_or_ge j (S.length - 1) with c | c
    · have := (List.pairwise_iff_getElem.1 hs.srt) j (S.length - 1) hj hi c
      omega
    · have e1 : j = S.length - 1 := by omega
      subst e1; omega
end Go.Proofs.Ytcjkhonapafndaa
namespace Go.Proofs.Ytcjkhonapafndaa
open Go.RowKit
theorem lyD_len (D : List Int) (e : Nat) : (lyD D e).length = max D.length e := by
  unfold lyD
  split
  · rw [List.length_append, List.length_replicate]; omega
  · omega
theorem lyD_get (D : List Int) (e k : Nat) (h : k < D.length) : (lyD D e)[k]? = D[k]? := by
  unfold lyD
  split
  · rw [List.getElem?_append_left h]
  · rfl
theorem Sps.mono {S : List (Nat × Nat)} {m n : Nat} (h : Sps S m) (hmn : m ≤ n) : Sps S n := ⟨fun x hx => ⟨(h.sp x hx).1, Nat.le_trans (h.sp x hx).2 hmn⟩, h.srt⟩
theorem RecOk.sps {r : Rec} (h : RecOk r) : Sps r.S r.D.length := ⟨h.sp, h.srt⟩
/-- What laying does. -/
theorem lay_law {r : Rec} {a : Nat} {al : List Int} {S' : List (Nat × Nat)} (hs : Sps r.S r.D.length) (h : LayR r a al S') (hp : 0 < al.length) :
    Sps S' (layRec r a al S').D.length ∧ (∀ k, Cov S' k ↔ Cov r.S k ∨ (a ≤ k ∧ k < a + al.length)) ∧ (layRec r a al S').D.length = max r.D.length (a + al.length) ∧
      ∀ k, Cov S' k → (layRec r a al S').D[k]? = if Cov r.S k then r.D[k]? else al[k - a]? := by
  have hl := lyD_len r.D (a + al.length)
  have hs1 : Sps r.S (lyD r.D (a + al.length)).length := hs.mono (by omega)
  obtain ⟨h1, h2⟩ := lyEnd_get a (a + al.length) al (lyD r.D (a + al.length)) r.S rfl (by omega) hs1
  obtain ⟨h3, h4⟩ := lyF_spans a (a + al.length) al (lyD r.D (a + al.length)) r.S S' rfl (by omega) hs1 (by omega) h.1 h.2
  have hD : (layRec r a al S').D = lyEnd a (a + al.length) al (lyF a (a + al.length) al (lyD r.D (a + al.length)) r.S) := rfl
  rw [hD]
  refine ⟨by rw [h1]; exact h3, h4, by rw [h1, hl], fun k hk => ?_⟩
  rw [h2 k]
  by_cases c : Cov r.S k
  · rw [if_pos c, if_neg (fun d => d.2.2 c)]
    obtain ⟨x, hx, h5, h6⟩ := c
    exact lyD_get _ _ _ (by have := hs.sp x hx; omega)
  · rw [if_neg c]
    have := (h4 k).1 hk
    rcases this with d | d
    · exact absurd d c
    · rw [if_pos ⟨d.1, d.2, c⟩]
theorem finR_f (r : Rec) (p : PkV) (dn : Nat) : (finR r p dn).D = r.D ∧ (finR r p dn).S = r.S ∧ (finR r p dn).k = r.k ∧ (finR r p dn).bg = r.bg ∧ (finR r p dn).fin = (if p.more then r.fin else p.off + dn) ∧ (finR r p dn).first = r.first := by
  unfold finR
  split <;> exact ⟨rfl, rfl, rfl, rfl, rfl, rfl⟩
theorem fstR_f (r : Rec) (p : PkV) (ol dl : List Int) : (fstR r p ol dl).D = r.D ∧ (fstR r p ol dl).S = r.S ∧ (fstR r p ol dl).k = r.k ∧ (fstR r p ol dl).bg = r.bg ∧ (fstR r p ol dl).fin = r.fin ∧ (fstR r p ol dl).first = (if p.off = 0 ∧ r.first = none then some (p, ol, dl) else r.first) := by
  unfold fstR
  split <;> exact ⟨rfl, rfl, rfl, rfl, rfl, rfl⟩
theorem setR_D (r : Rec) (p : PkV) (ol dl : List Int) : (setR r p ol dl).D = r.D ∧ (setR r p ol dl).S = r.S ∧ (setR r p ol dl).k = r.k ∧ (setR r p ol dl).bg = r.bg ∧ (setR r p ol dl).fin = (if p.more then r.fin else p.off + dl.length) ∧ (setR r p ol dl).first = (if p.off = 0 ∧ r.first = none then some (p, ol, dl) else r.first) := by
  obtain ⟨a1, a2, a3, a4, a5, a6⟩ := finR_f r p dl.length
  obtain ⟨b1, b2, b3, b4, b5, b6⟩ := fstR_f (finR r p dl.length) p ol dl
  unfold setR
  rw [a6] at b6
  exact ⟨b1.trans a1, b2.trans a2, b3.trans a3, b4.trans a4, b5.trans a5, b6⟩
/-- What holds stays so. -/
theorem RecOk.lay {r : Rec} {p : PkV} {ol dl : List Int} {S' : List (Nat × Nat)} (h : RecOk r) (hg : Good p dl.length) (hp : p.Ok) (hol : ol.length ≤ 1000000) (hk : r.k = pkK p) (hl : LayR (setR r p ol dl) p.off.toNat dl S') : RecOk (layRec (setR r p ol dl) p.off.toNat dl S') := by
  obtain ⟨e1, e2, e3, e4, e5, e6⟩ := setR_D r p ol dl
  have hs : Sps (setR r p ol dl).S (setR r p ol dl).D.length := by rw [e1, e2]; exact h.sps
  obtain ⟨h1, h2, h3, h4⟩ := lay_law hs hl hg.pos
  rw [e1] at h3
  have hoff := hg.off
  have hlng := hg.lng
  have hlen := h.len
  refine ⟨by rw [h3]; omega, h1.sp, h1.srt, ?_, fun hx => ?_, fun q ol' dl' hq => ?_⟩
  · show -1 ≤ (setR r p ol dl).fin ∧ (setR r p ol dl).fin ≤ 65515
    rw [e5]
    split
    · exact h.fin
    · omega
  · show (setR r p ol dl).first.isSome = true
    rw [e6]
    split
    · rfl
    · rename_i hc
      obtain ⟨x, hx, hx0⟩ := hx
      have hx12 := h1.sp x hx
      rcases (h2 0).1 ⟨x, hx, by omega, by omega⟩ with ⟨y, hy, h5, h6⟩ | h5
      · rw [e2] at hy
        exact h.fst ⟨y, hy, by omega⟩
      · cases hf : r.first with
        | none => exact absurd ⟨by omega, hf⟩ hc
        | some _ => rfl
  · have hq' : (setR r p ol dl).first = some (q, ol', dl') := hq
    show pkK q = (setR r p ol dl).k ∧ _
    rw [e3]
    rw [e6] at hq'
    split at hq'
    · injection hq' with hq'
      injection hq' with q1 q2
      injection q2 with q2 q3
      subst q1; subst q2; subst q3
      exact ⟨hk.symm, hp, hol, by omega⟩
    · exact h.fok q ol' dl' hq'
theorem doneR_cov {r : Rec} {n : Nat} (hs : Sps r.S n) : doneR r ↔ 0 ≤ r.fin ∧ r.S ≠ [] ∧ ∀ k, Cov r.S k ↔ (k : Int) < r.fin := by
  unfold doneR
  constructor
  · rintro ⟨h1, h2⟩
    refine ⟨h1, by rw [h2]; simp, fun k => ?_⟩
    rw [h2, cov_one]; omega
  · rintro ⟨h1, h0, h2⟩
    refine ⟨h1, canon hs ?_ (fun k => by rw [h2]; omega)⟩
    rcases Nat.eq_zero_or_pos r.fin.toNat with h3 | h3
    · exfalso
      cases hS : r.S with
      | nil => exact h0 hS
      | cons x t =>
        have := hs.sp x (by rw [hS]; simp)
        have := (h2 x.1).1 ⟨x, by rw [hS]; simp, Nat.le_refl _, this.1⟩
        omega
    · exact h3
/-- Whether a piece's end goes with what is there. -/
theorem fits_cov {r : Rec} {n : Nat} (hs : Sps r.S n) (more : Bool) (e : Int) (he : 0 ≤ e) : fitsW r.fin r.S more e = true ↔ if more then r.fin < 0 ∨ e ≤ r.fin else (r.fin < 0 ∨ r.fin = e) ∧ ∀ k, Cov r.S k → (k : Int) < e := by
  obtain ⟨h1, h2, h3⟩ := lastS_cov hs (lastS r.S) rfl
  unfold fitsW
  cases more
  · simp only [Bool.false_eq_true, if_false, decide_eq_true_eq]
    refine and_congr_right fun _ => ⟨fun h k hk => by have := h1 k hk; omega, fun h => ?_⟩
    rcases Nat.eq_zero_or_pos (lastS r.S) with h0 | h0
    · omega
    · have := h _ (h2 h0); omega
  · simp only [if_true, decide_eq_true_eq]
end Go.Proofs.Ytcjkhonapafndaa
