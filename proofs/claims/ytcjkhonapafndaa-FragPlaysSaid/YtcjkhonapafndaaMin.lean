/- Proved: laws of a Store's state in memory: what keeps it, one whole changed, one forgotten; the whole that was begun first is found: slices.MinFunc with the closure of of, by its walk. Conditions: as each law says. -/
import Derived.Test.YtcjkhonapafndaaFo
import Derived.Test.YtcjkhonapafndaaOwn
import Derived.Test.YtcjkhonapafndaaSrt
set_option linter.unusedVariables false
set_option linter.unusedSimpArgs false
namespace Go.Proofs.Ytcjkhonapafndaa
open Go.RowKit
theorem IM.chg {F : Nat → Prop} {w w' : World} {b : Nat} {L : List (K4 × Value)} (h : IM mkK okK w b L) (hc : Chg F w w') (hb : ¬ F b) : IM mkK okK w' b L := by
  have hl := h.lt
  obtain ⟨es, clock, h1, rest⟩ := h
  exact ⟨es, clock, (hc.block b hl hb).trans h1, rest⟩
theorem Ow.chg {F : Nat → Prop} {E : TypeId} {w w' : World} {base : Nat} {A : Option Addr} {n c : Nat} {xs : List Value} (h : Ow E w base A n c xs) (hc : Chg F w w') (hb : ∀ b, blk A = some b → ¬ F b) : Ow E w' base A n c xs := by
  have hl := h.lt
  refine ⟨h.1, ?_⟩
  rcases h.2 with h1 | ⟨g, cap, cur, hA, hbg, hh, rest⟩
  · exact .inl h1
  · injection hA with hA _ e3
    subst hA
    exact .inr ⟨g, cap, cur, by rw [e3], hbg, (hc.block g (hl g rfl).2 (hb g rfl)).trans hh, rest⟩
/-- A packet that is being put together (plain). -/
structure Rec where
  k : K4
  bg : Int
  first : Option (PkV × List Int × List Int)
  fin : Int
  D : List Int
  S : List (Nat × Nat)
def ptr (g : Nat) : Value := .pointer (some ⟨g, 0, none⟩)
/-- The first piece, kept; its blocks are of G. -/
def FstAt (w : World) (G : Nat → Prop) (f : Value) : Option (PkV × List Int × List Int) → Prop
  | none => f = .pointer none
  | some (p, ol, dl) => ∃ (gf n1 c1 n2 c2 : Nat) (A1 A2 : Option Addr), f = ptr gf ∧ Bk w gf 26 (pkC p (.slice A1 n1 c1) (.slice A2 n2 c2)) ∧ OB 5 w 0 A1 n1 c1 ol ∧ OB 5 w 0 A2 n2 c2 dl ∧ G gf ∧ (∀ b, blk A1 = some b → G b) ∧ (∀ b, blk A2 = some b → G b)
theorem FstAt.chg {w w' : World} {G F : Nat → Prop} {f : Value} {o : Option (PkV × List Int × List Int)} (h : FstAt w G f o) (hc : Chg F w w') (hG : ∀ b, G b → ¬ F b) : FstAt w' G f o := by
  cases o with
  | none => exact h
  | some x =>
    obtain ⟨p, ol, dl⟩ := x
    obtain ⟨gf, n1, c1, n2, c2, A1, A2, h1, h2, h3, h4, h5, h6, h7⟩ := h
    exact ⟨gf, n1, c1, n2, c2, A1, A2, h1, h2.chg hc (hG _ h5), Ow.chg h3 hc (fun b hb => hG b (h6 b hb)), Ow.chg h4 hc (fun b hb => hG b (h7 b hb)), h5, h6, h7⟩
theorem FstAt.mono {w : World} {G G' : Nat → Prop} {f : Value} {o : Option (PkV × List Int × List Int)} (h : FstAt w G f o) (hG : ∀ b, b < w.heap.size → G b → G' b) : FstAt w G' f o := by
  cases o with
  | none => exact h
  | some x =>
    obtain ⟨p, ol, dl⟩ := x
    obtain ⟨gf, n1, c1, n2, c2, A1, A2, h1, h2, h3, h4, h5, h6, h7⟩ := h
    exact ⟨gf, n1, c1, n2, c2, A1, A2, h1, h2, h3, h4, hG _ h2.lt h5, fun b hb => hG b (Ow.lt h3 b hb).2 (h6 b hb), fun b hb => hG b (Ow.lt h4 b hb).2 (h7 b hb)⟩
/-- A whole at block g; its blocks are of F. -/
def WhAt (w : World) (F : Nat → Prop) (g : Nat) (r : Rec) : Prop :=
  ∃ (f : Value) (dA tA : Option Addr) (dn dc tn tc : Nat), Bk w g 86 (whA r.k.1 r.k.2.1 r.k.2.2.1 r.k.2.2.2 r.bg f r.fin (.slice dA dn dc) (.slice tA tn tc)) ∧ OB 5 w 0 dA dn dc r.D ∧ Tm 89 w 0 tA tn tc (r.S.map spI) ∧
    FstAt w (fun b => F b ∧ b ≠ g ∧ blk dA ≠ some b) f r.first ∧ F g ∧ (∀ b, blk dA = some b → F b ∧ b ≠ g ∧ blk tA ≠ some b) ∧ (∀ b, blk tA = some b → F b ∧ b ≠ g)
theorem WhAt.g {w : World} {F : Nat → Prop} {g : Nat} {r : Rec} (h : WhAt w F g r) : F g := by
  obtain ⟨_, _, _, _, _, _, _, _, _, _, _, h, _⟩ := h
  exact h
theorem WhAt.bk {w : World} {F : Nat → Prop} {g : Nat} {r : Rec} (h : WhAt w F g r) : ∃ cs, Bk w g 86 cs := by
  obtain ⟨_, _, _, _, _, _, _, h, _⟩ := h
  exact ⟨_, h⟩
theorem WhAt.chg {w w' : World} {F G : Nat → Prop} {g : Nat} {r : Rec} (h : WhAt w F g r) (hc : Chg G w w') (hG : ∀ b, F b → ¬ G b) : WhAt w' F g r := by
  obtain ⟨f, dA, tA, dn, dc, tn, tc, h1, h2, h3, h4, h5, h6, h7⟩ := h
  exact ⟨f, dA, tA, dn, dc, tn, tc, h1.chg hc (hG _ h5), Ow.chg h2 hc (fun b hb => hG b (h6 b hb).1), h3.chg hc (fun b hb => hG b (h7 b hb).1), h4.chg hc (fun b hb => hG b hb.1), h5, h6, h7⟩
/-- A whole with its blocks. -/
structure WR where
  g : Nat
  F : Nat → Prop
  r : Rec
def entW (x : WR) : K4 × Value := (x.r.k, ptr x.g)
/-- The Store at block ps. -/
structure StW (w : World) (ps : Nat) (mv : Option Nat) (aA : Option Addr) (ac : Nat) (Ws : List WR) : Prop where
  bk : Bk w ps 46 #[.map mv, .slice aA Ws.length ac]
  mp : (mv = none ∧ Ws = [] ∧ aA = none ∧ ac = 0) ∨ ∃ b, mv = some b ∧ IM mkK okK w b (Ws.map entW)
  pt : Pt w 0 aA Ws.length ac (Ws.map (·.g))
  wh : ∀ x ∈ Ws, WhAt w x.F x.g x.r
  ap : Ws.Pairwise (fun x y => ∀ b, x.F b → ¬ y.F b)
  lt : ∀ x ∈ Ws, ∀ b, x.F b → b < w.heap.size
  no : ∀ x ∈ Ws, ¬ x.F ps ∧ (∀ b, mv = some b → ¬ x.F b) ∧ (∀ b, blk aA = some b → ¬ x.F b)
  ne : (∀ b, mv = some b → b ≠ ps ∧ blk aA ≠ some b) ∧ blk aA ≠ some ps
/-- The Store's own blocks, those of its wholes not. -/
def ownB (ps : Nat) (mv : Option Nat) (aA : Option Addr) (b : Nat) : Prop := b = ps ∨ mv = some b ∨ blk aA = some b
def foot (ps : Nat) (mv : Option Nat) (aA : Option Addr) (Ws : List WR) (b : Nat) : Prop := ownB ps mv aA b ∨ ∃ x ∈ Ws, x.F b
section
variable {w w' : World} {ps ac : Nat} {mv : Option Nat} {aA : Option Addr} {Ws K1 K2 : List WR} {x : WR}
theorem StW.no' (h : StW w ps mv aA ac Ws) {x : WR} (hx : x ∈ Ws) {b : Nat} (hb : ownB ps mv aA b) : ¬ x.F b := by
  obtain ⟨h1, h2, h3⟩ := h.no x hx
  rcases hb with rfl | hb | hb
  · exact h1
  · exact h2 b hb
  · exact h3 b hb
theorem StW.chg {G : Nat → Prop} (h : StW w ps mv aA ac Ws) (hc : Chg G w w') (hG : ∀ b, foot ps mv aA Ws b → ¬ G b) : StW w' ps mv aA ac Ws where
  bk := h.bk.chg hc (hG _ (.inl (.inl rfl)))
  mp := by
    rcases h.mp with h1 | ⟨b, h1, h2⟩
    · exact .inl h1
    · exact .inr ⟨b, h1, h2.chg hc (hG b (.inl (.inr (.inl h1))))⟩
  pt := Ow.chg h.pt hc (fun b hb => hG b (.inl (.inr (.inr hb))))
  wh := fun x hx => (h.wh x hx).chg hc (fun b hb => hG b (.inr ⟨x, hx, hb⟩))
  ap := h.ap
  lt := fun x hx b hb => Nat.lt_of_lt_of_le (h.lt x hx b hb) hc.size
  no := h.no
  ne := h.ne
theorem StW.foot_lt (h : StW w ps mv aA ac Ws) {b : Nat} (hb : foot ps mv aA Ws b) : b < w.heap.size := by
  rcases hb with (rfl | hb | hb) | ⟨x, hx, hb⟩
  · exact h.bk.lt
  · rcases h.mp with ⟨h1, _⟩ | ⟨b', h1, h2⟩
    · rw [h1] at hb; cases hb
    · rw [h1] at hb; injection hb with hb; subst hb; exact h2.lt
  · exact (Ow.lt h.pt b hb).2
  · exact h.lt x hx b hb
theorem StW.below (h : StW w ps mv aA ac Ws) (hc : Below w.heap.size w w') : StW w' ps mv aA ac Ws :=
  h.chg (Chg.of_below (F := fun _ => False) hc) (fun _ _ e => e)
/-- The wholes' pointers are apart. -/
theorem StW.gs (h : StW w ps mv aA ac (K1 ++ x :: K2)) : (∀ y ∈ K1, y.g ≠ x.g) ∧ (∀ y ∈ K2, y.g ≠ x.g) := by
  have ha := List.pairwise_append.1 h.ap
  have hc := List.pairwise_cons.1 ha.2.1
  have hx := (h.wh x (by simp)).g
  refine ⟨fun y hy e => ?_, fun y hy e => ?_⟩
  · exact ha.2.2 y hy x (by simp) x.g (by rw [← e]; exact (h.wh y (by simp [hy])).g) hx
  · exact hc.1 y hy x.g hx (by rw [← e]; exact (h.wh y (by simp [hy])).g)
/-- One whole is changed. -/
theorem StW.upd (h : StW w ps mv aA ac (K1 ++ x :: K2)) (hc : Chg x.F w w') {F' : Nat → Prop} {r' : Rec} (hw : WhAt w' F' x.g r') (hF : ∀ b, F' b → x.F b ∨ w.heap.size ≤ b) (hl : ∀ b, F' b → b < w'.heap.size) (hk : r'.k = x.r.k) :
    StW w' ps mv aA ac (K1 ++ (⟨x.g, F', r'⟩ : WR) :: K2) := by
  have ha := List.pairwise_append.1 h.ap
  have hc2 := List.pairwise_cons.1 ha.2.1
  have hxm : x ∈ K1 ++ x :: K2 := by simp
  have hlen : (K1 ++ (⟨x.g, F', r'⟩ : WR) :: K2).length = (K1 ++ x :: K2).length := by simp
  have hgs : (K1 ++ (⟨x.g, F', r'⟩ : WR) :: K2).map (·.g) = (K1 ++ x :: K2).map (·.g) := by simp
  have hen : (K1 ++ (⟨x.g, F', r'⟩ : WR) :: K2).map entW = (K1 ++ x :: K2).map entW := by simp [entW, hk]
  have hmem : ∀ y ∈ K1 ++ (⟨x.g, F', r'⟩ : WR) :: K2, y = ⟨x.g, F', r'⟩ ∨ ((y ∈ K1 ∨ y ∈ K2) ∧ y ∈ K1 ++ x :: K2) := fun y hy => by
    simp at hy ⊢
    rcases hy with hy | hy | hy
    · exact .inr ⟨.inl hy, .inl hy⟩
    · exact .inl hy
    · exact .inr ⟨.inr hy, .inr (.inr hy)⟩
  have hfar : ∀ y, y ∈ K1 ∨ y ∈ K2 → ∀ b, y.F b → ¬ x.F b := fun y hy b hb => by
    rcases hy with hy | hy
    · exact ha.2.2 y hy x (by simp) b hb
    · exact fun hxb => hc2.1 y hy b hxb hb
  have hfar' : ∀ y, (y ∈ K1 ∨ y ∈ K2) → ∀ b, y.F b → ¬ F' b := fun y hy b hb hb' => by
    rcases hF b hb' with h1 | h1
    · exact hfar y hy b hb h1
    · have := h.lt y (by rcases hy with hy | hy <;> simp [hy]) b hb; omega
  refine ⟨?_, ?_, ?_, ?_, ?_, ?_, ?_, h.ne⟩
  · rw [hlen]; exact h.bk.chg hc (fun e => h.no' hxm (.inl rfl) e)
  · rcases h.mp with ⟨_, h1, _⟩ | ⟨b, h1, h2⟩
    · simp at h1
    · exact .inr ⟨b, h1, by rw [hen]; exact h2.chg hc (fun e => h.no' hxm (.inr (.inl h1)) e)⟩
  · rw [hlen, hgs]; exact Ow.chg h.pt hc (fun b hb e => h.no' hxm (.inr (.inr hb)) e)
  · intro y hy
    rcases hmem y hy with rfl | ⟨hy1, hy2⟩
    · exact hw
    · exact (h.wh y hy2).chg hc (fun b hb => hfar y hy1 b hb)
  · refine List.pairwise_append.2 ⟨ha.1, List.pairwise_cons.2 ⟨fun y hy b hb hb' => hfar' y (.inr hy) b hb' hb, hc2.2⟩, fun y hy z hz b hb => ?_⟩
    rcases List.mem_cons.1 hz with rfl | hz
    · exact hfar' y (.inl hy) b hb
    · exact ha.2.2 y hy z (by simp [hz]) b hb
  · intro y hy
    rcases hmem y hy with rfl | ⟨_, hy2⟩
    · exact hl
    · exact fun b hb => Nat.lt_of_lt_of_le (h.lt y hy2 b hb) hc.size
  · intro y hy
    rcases hmem y hy with rfl | ⟨_, hy2⟩
    · have hno : ∀ b, ownB ps mv aA b → ¬ F' b := fun b hb hb' => by
        rcases hF b hb' with h1 | h1
        · exact h.no' hxm hb h1
        · have := h.foot_lt (.inl hb); omega
      exact ⟨hno _ (.inl rfl), fun b hb => hno b (.inr (.inl hb)), fun b hb => hno b (.inr (.inr hb))⟩
    · exact h.no y hy2
theorem StW.mapv (h : StW w ps mv aA ac Ws) (hn : Ws ≠ []) : ∃ b, mv = some b := by
  rcases h.mp with ⟨_, h1, _⟩ | ⟨b, h1, _⟩
  · exact absurd h1 hn
  · exact ⟨b, h1⟩
theorem StW.okk (h : StW w ps mv aA ac Ws) (hx : x ∈ Ws) : okK x.r.k := by
  rcases h.mp with ⟨_, h1, _⟩ | ⟨b, _, h2⟩
  · rw [h1] at hx; cases hx
  · exact h2.oks (entW x) (List.mem_map.2 ⟨x, hx, rfl⟩)
theorem StW.nodup (h : StW w ps mv aA ac Ws) : (Ws.map (·.r.k)).Nodup := by
  rcases h.mp with ⟨_, h1, _⟩ | ⟨b, _, h2⟩
  · rw [h1]; exact List.nodup_nil
  · have := h2.nodup
    unfold NoDup at this
    rw [List.map_map] at this
    exact this
end
set_option maxHeartbeats 1000000 in
/-- One is forgotten. -/
theorem forget_st (ps : Nat) (mv : Option Nat) (aA : Option Addr) (ac : Nat) (K1 K2 : List WR) (x : WR) (w : World) (h : StW w ps mv aA ac (K1 ++ x :: K2)) (hn : (K1 ++ x :: K2).length ≤ 100000) :
    Calls Try.prog 47 #[.pointer (some ⟨ps, 0, none⟩), .pointer (some ⟨x.g, 0, none⟩)] w fun e w' => e = .returned (.tuple #[]) ∧ StW w' ps mv aA ac (K1 ++ K2) ∧ WhAt w' x.F x.g x.r ∧ Chg (ownB ps mv aA) w w' := by
  have hxm : x ∈ K1 ++ x :: K2 := by simp
  obtain ⟨b, rfl⟩ := h.mapv (by simp)
  have hI : IM mkK okK w b ((K1 ++ x :: K2).map entW) := by
    rcases h.mp with ⟨h1, _⟩ | ⟨b', h1, h2⟩
    · cases h1
    · injection h1 with h1; subst h1; exact h2
  obtain ⟨f, dA, tA, dn, dc, tn, tc, q1, q2, q3, q4, q5, q6, q7⟩ := h.wh x hxm
  have hgs := h.gs
  have hpt := h.pt
  have hbk := h.bk
  rw [List.map_append, List.map_cons] at hpt
  have hne1 := h.ne.1 b rfl
  refine (forget_any ps b x.g 0 aA (K1 ++ x :: K2).length ac ((K1 ++ x :: K2).map entW) (K1.map (·.g)) (K2.map (·.g)) _ _ _ _ _ _ _ _ _ w hbk hI q1 (h.okk hxm) hpt hn
    (fun y hy => by obtain ⟨z, hz, rfl⟩ := List.mem_map.1 hy; exact hgs.1 z hz) (fun y hy => by obtain ⟨z, hz, rfl⟩ := List.mem_map.1 hy; exact hgs.2 z hz)
    (fun y hy => by
      rw [← List.map_cons, ← List.map_append] at hy
      obtain ⟨z, hz, rfl⟩ := List.mem_map.1 hy
      exact (h.wh z hz).bk)
    (fun y hy => by
      rw [← List.map_cons, ← List.map_append] at hy
      obtain ⟨z, hz, rfl⟩ := List.mem_map.1 hy
      have hzg := (h.wh z hz).g
      exact ⟨fun e => h.no' hz (.inr (.inr e)) hzg, fun e => h.no' hz (b := b) (.inr (.inl rfl)) (by rw [← e]; exact hzg)⟩)
    hne1.1 hne1.2 h.ne.2).mono ?_
  rintro e w' ⟨rfl, r1, r2, r3, r4⟩
  have hC : Chg (ownB ps (some b) aA) w w' := r4.mono (fun y _ hy => by
    rcases hy with h1 | h1 | h1
    · exact .inl h1
    · exact .inr (.inl (by rw [h1]))
    · exact .inr (.inr h1))
  have hlen : (K1 ++ x :: K2).length - 1 = (K1 ++ K2).length := by simp
  have hsub : ∀ y, y ∈ K1 ++ K2 → y ∈ K1 ++ x :: K2 := fun y hy => by
    simp at hy ⊢
    rcases hy with hy | hy
    · exact .inl hy
    · exact .inr (.inr hy)
  rw [hlen] at r1 r3
  have hdel : delL ((K1 ++ x :: K2).map entW) (x.r.k.1, x.r.k.2.1, x.r.k.2.2.1, x.r.k.2.2.2) = (K1 ++ K2).map entW := by
    have hj : ((K1 ++ x :: K2).map entW)[K1.length]? = some (x.r.k, ptr x.g) := by
      rw [List.getElem?_map, List.getElem?_append_right (Nat.le_refl _), Nat.sub_self]; rfl
    rw [show (x.r.k.1, x.r.k.2.1, x.r.k.2.2.1, x.r.k.2.2.2) = x.r.k from rfl, delL_at hI.nodup hj, List.map_append, List.map_cons, List.eraseIdx_append_of_length_le (by simp)]
    simp
  rw [hdel] at r2
  rw [← List.map_append] at r3
  refine ⟨rfl, ⟨r1, .inr ⟨b, rfl, r2⟩, r3, fun y hy => (h.wh y (hsub y hy)).chg hC (fun c hc ho => h.no' (hsub y hy) ho hc), ?_, fun y hy c hc => Nat.lt_of_lt_of_le (h.lt y (hsub y hy) c hc) hC.size, fun y hy => h.no y (hsub y hy), h.ne⟩, (h.wh x hxm).chg hC (fun c hc ho => h.no' hxm ho hc), hC⟩
  have ha := List.pairwise_append.1 h.ap
  have hc2 := List.pairwise_cons.1 ha.2.1
  exact List.pairwise_append.2 ⟨ha.1, hc2.2, fun y hy z hz => ha.2.2 y hy z (by simp [hz])⟩
end Go.Proofs.Ytcjkhonapafndaa
namespace Go.Proofs.Ytcjkhonapafndaa
open Go.RowKit
/-- The first of those that were begun first. -/
def MinR (K1 : List WR) (x : WR) (K2 : List WR) : Prop := (∀ y ∈ K1, x.r.bg < y.r.bg) ∧ ∀ y ∈ K2, x.r.bg ≤ y.r.bg
def MinP (Ws : List WR) (i : Nat) (v : Value) : Prop := ∃ K1 x K2, Ws.take i = K1 ++ x :: K2 ∧ MinR K1 x K2 ∧ v = .pointer (some ⟨x.g, 0, none⟩)
theorem MinP.one {Ws : List WR} {x : WR} (h : Ws[0]? = some x) : MinP Ws 1 (.pointer (some ⟨x.g, 0, none⟩)) := by
  refine ⟨[], x, [], ?_, ⟨(fun _ h => by cases h), (fun _ h => by cases h)⟩, rfl⟩
  rw [List.take_add_one, h]
  simp
theorem MinP.keep {Ws K1 K2 : List WR} {i : Nat} {x y : WR} (h : Ws.take i = K1 ++ x :: K2) (hm : MinR K1 x K2) (hy : Ws[i]? = some y) (hb : ¬ y.r.bg < x.r.bg) : MinP Ws (i + 1) (.pointer (some ⟨x.g, 0, none⟩)) := by
  refine ⟨K1, x, K2 ++ [y], ?_, ⟨hm.1, fun z hz => ?_⟩, rfl⟩
  · rw [List.take_add_one, h, hy]; simp
  · rcases List.mem_append.1 hz with hz | hz
    · exact hm.2 z hz
    · simp at hz; subst hz; omega
theorem MinP.less {Ws K1 K2 : List WR} {i : Nat} {x y : WR} (h : Ws.take i = K1 ++ x :: K2) (hm : MinR K1 x K2) (hy : Ws[i]? = some y) (hb : y.r.bg < x.r.bg) : MinP Ws (i + 1) (.pointer (some ⟨y.g, 0, none⟩)) := by
  refine ⟨Ws.take i, y, [], ?_, ⟨fun z hz => ?_, (fun _ h => by cases h)⟩, rfl⟩
  · rw [List.take_add_one, hy]; simp
  · rw [h] at hz
    simp at hz
    rcases hz with hz | rfl | hz
    · have := hm.1 z hz; omega
    · exact hb
    · have := hm.2 z hz; omega
theorem WhAt.c4 {w : World} {F : Nat → Prop} {g : Nat} {r : Rec} (h : WhAt w F g r) : w.cell? ⟨g, 4, none⟩ = some (.int .i64 r.bg) := by
  obtain ⟨f, dA, tA, dn, dc, tn, tc, h1, _⟩ := h
  exact h1.cell 4
set_option maxRecDepth 100000 in
theorem of1_any (a b : Nat) (x y : Int) (w : World) (ha : w.cell? ⟨a, 4, none⟩ = some (.int .i64 x)) (hb : w.cell? ⟨b, 4, none⟩ = some (.int .i64 y)) :
    Calls Try.prog 61 #[.pointer (some ⟨a, 0, none⟩), .pointer (some ⟨b, 0, none⟩)] w fun e w' => e = .returned (.int .i64 (cmpI x y)) ∧ ∃ k, w' = w.drewN k := by
  have h0 := fun w => compare_any x y w
  generalize cmpI x y = c0 at h0 ⊢
  go_enter Try.func61, Try.ntmps61
  go_wp2
  go_quiet ((go_at_call 62; exact Calls.quiet_of_same (h0 _)))
  go_wp2
  go_ret
  exact ⟨rfl, _, rfl⟩
set_option maxHeartbeats 1000000 in
set_option maxRecDepth 100000 in
theorem min_st (ps : Nat) (mv : Option Nat) (aA : Option Addr) (ac : Nat) (Ws : List WR) (w : World) (h : StW w ps mv aA ac Ws) (hne : Ws ≠ []) (hn : Ws.length ≤ 100000) :
    Calls Try.prog 60 #[.slice aA Ws.length ac, .func (.func 61) #[] #[]] w fun e w' => ∃ K1 x K2, Ws = K1 ++ x :: K2 ∧ MinR K1 x K2 ∧ e = .returned (.pointer (some ⟨x.g, 0, none⟩)) ∧ Below w.heap.size w w' := by
  obtain ⟨n, hnn⟩ : ∃ n, Ws.length = n := ⟨_, rfl⟩
  have hpos : 0 < n := by rw [← hnn]; exact List.length_pos_iff.2 hne
  rw [hnn] at hn
  have HST := Lib.hid h
  have HN := Lib.hid hnn
  have hP : Pt w 0 aA n ac (Ws.map (·.g)) := by rw [← hnn]; exact h.pt
  obtain ⟨x0, hx0⟩ : ∃ x, Ws[0]? = some x := ⟨_, List.getElem?_eq_getElem (by omega)⟩
  obtain ⟨ga, rfl, c0⟩ := hP.cell (k := 0) (x := x0.g) (by rw [List.getElem?_map, hx0]; rfl)
  have HP := Lib.hid hP
  have HGA : Hid (ga < w.heap.size) := Lib.hid (Ow.lt hP ga rfl).2
  have HM0 := Lib.hid (MinP.one hx0)
  have t0 : (decide ((n : Int) < 1)) = false := decide_eq_false (by omega)
  have t1 : (0 : Int) < (n : Int) := by omega
  rw [hnn]
  clear h hnn hP hx0
  go_enter Try.func60, Try.ntmps60
  go_wp2
  go_loopw [5, 6] (fun v5 v6 wr => ∃ i : Nat, 1 ≤ i ∧ i ≤ n ∧ v6 = .int .i64 i ∧ Hid (MinP Ws i v5) ∧ Hid (Below w.heap.size w wr)) (fun _ v6 _ => n - (intOf v6).toNat)
  case atStart => exact ⟨1, Nat.le_refl _, hpos, rfl, HM0, Lib.hid (Below.refl _ _)⟩
  case round =>
    obtain ⟨i, hi1, hi, rfl, HMP, HB⟩ := hrel
    obtain ⟨K1, x, K2, hK, hmr, rfl⟩ := HMP.out
    rcases Nat.lt_or_ge i n with q | q
    · have t2 : decide ((i : Int) < (n : Int)) = true := decide_eq_true (by omega)
      obtain ⟨y, hy⟩ : ∃ y, Ws[i]? = some y := ⟨_, List.getElem?_eq_getElem (by have := HN.out; omega)⟩
      have hSr := HST.out.below HB.out
      have hPr : Pt wr 0 (some ⟨ga, 0, none⟩) n ac (Ws.map (·.g)) := Ow.below HP.out HB.out (fun g hg => by have h2 := (by simpa [blk] using hg : ga = g); have := HGA.out; omega)
      obtain ⟨ga', e, c1⟩ := hPr.cell (k := i) (x := y.g) (by rw [List.getElem?_map, hy]; rfl)
      injection e with e
      injection e with e
      subst e
      have hxm : x ∈ Ws := List.mem_of_mem_take (i := i) (by rw [hK]; simp)
      have hym : y ∈ Ws := List.mem_of_getElem? hy
      have HCL := Lib.hid (of1_any y.g x.g y.r.bg x.r.bg wr (hSr.wh y hym).c4 (hSr.wh x hxm).c4)
      have HK := Lib.hid hK
      have HMR := Lib.hid hmr
      have HY := Lib.hid hy
      have hin : (i : Int) < (n : Int) := by omega
      obtain ⟨xg, hxg⟩ : ∃ xg, x.g = xg := ⟨_, rfl⟩
      obtain ⟨yg, hyg⟩ : ∃ yg, y.g = yg := ⟨_, rfl⟩
      rw [hxg, hyg] at HCL
      rw [hyg] at c1
      rw [hxg]
      have HXG := Lib.hid hxg
      have HYG := Lib.hid hyg
      clear hSr hPr hxm hym hK hmr hy hxg hyg
      rcases (by omega : y.r.bg < x.r.bg ∨ ¬ y.r.bg < x.r.bg) with d | d
      · have hc : cmpI y.r.bg x.r.bg = -1 := if_pos d
        rw [hc] at HCL
        have HN2 := Lib.hid (MinP.less HK.out HMR.out HY.out d)
        rw [HYG.out] at HN2
        clear hc d
        go_wp2_with fail
        refine HCL.out.mono ?_
        rintro e w2 ⟨rfl, k, rfl⟩
        have HB2 : Hid (Below w.heap.size w (wr.drewN k)) := Lib.hid (bel_drewN HB.out k)
        have c2 : (wr.drewN k).cell? ⟨ga, i, none⟩ = some (.pointer (some ⟨yg, 0, none⟩)) := c1
        go_wp2
        go_roundw
        case rel => exact ⟨i + 1, by omega, by omega, by go_num, HN2, HB2⟩
        case measure => simp [intOf]; omega
      · have hc : cmpI y.r.bg x.r.bg = 0 ∨ cmpI y.r.bg x.r.bg = 1 := by unfold cmpI; split; omega; split; exact .inr rfl; exact .inl rfl
        obtain ⟨cv, hcv⟩ : ∃ cv, cmpI y.r.bg x.r.bg = cv := ⟨_, rfl⟩
        rw [hcv] at HCL hc
        have t3 : decide (cv < 0) = false := decide_eq_false (by omega)
        have HN2 := Lib.hid (MinP.keep HK.out HMR.out HY.out d)
        rw [HXG.out] at HN2
        clear hc d hcv
        go_wp2_with fail
        refine HCL.out.mono ?_
        rintro e w2 ⟨rfl, k, rfl⟩
        have HB2 : Hid (Below w.heap.size w (wr.drewN k)) := Lib.hid (bel_drewN HB.out k)
        go_wp2
        go_roundw
        case rel => exact ⟨i + 1, by omega, by omega, by go_num, HN2, HB2⟩
        case measure => simp [intOf]; omega
    · have t2 : decide ((i : Int) < (n : Int)) = false := decide_eq_false (by omega)
      have HB0 := HB
      have hin : i = n := by omega
      have HR : Hid (∃ K1 x' K2, Ws = K1 ++ x' :: K2 ∧ MinR K1 x' K2 ∧ x.g = x'.g) := Lib.hid ⟨K1, x, K2, by rw [← hK, List.take_of_length_le (by have := HN.out; omega)], hmr, rfl⟩
      obtain ⟨xg, hxg⟩ : ∃ xg, x.g = xg := ⟨_, rfl⟩
      rw [hxg] at HR ⊢
      clear hK hmr hin hxg
      go_wp2
      go_ret
      obtain ⟨K1', x', K2', q1, q2, q3⟩ := HR.out
      exact ⟨K1', x', K2', q1, q2, by rw [q3]; rfl, HB0.out⟩
end Go.Proofs.Ytcjkhonapafndaa
