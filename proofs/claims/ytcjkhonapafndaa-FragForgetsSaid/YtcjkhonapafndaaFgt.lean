/- Proved: FragForgets' state in memory: the packet made ready, told to a new Store, given up. Conditions: as each law says. -/
import Derived.Test.YtcjkhonapafndaaSto
import Derived.Test.YtcjkhonapafndaaFgl
import Derived.Test.YtcjkhonapafndaaKnw
set_option linter.unusedVariables false
set_option linter.unusedSimpArgs false
namespace Go.Proofs.Ytcjkhonapafndaa
open Go.RowKit
theorem eights {x : Int} (h0 : 0 ≤ x) (h1 : x ≤ 60000) : 0 ≤ wrap64 (wrap64 (x.tdiv 8) * 8) ∧ wrap64 (wrap64 (x.tdiv 8) * 8) ≤ 60000 ∧ (wrap64 (wrap64 (x.tdiv 8) * 8)).tmod 8 = 0 := by
  obtain ⟨o, ho⟩ : ∃ o, x / 8 = o := ⟨_, rfl⟩
  have h2 : 0 ≤ o ∧ o * 8 ≤ x := by omega
  rw [Int.tdiv_eq_ediv_of_nonneg h0, ho, IntWalk.wrap64_in o (by omega), IntWalk.wrap64_in (o * 8) (by omega)]
  refine ⟨by omega, by omega, ?_⟩
  rw [Int.tmod_eq_emod_of_nonneg (by omega)]
  omega
def lenAt : Option Value → Nat
  | some (.slice _ n _) => n
  | _ => 0
/-- The packet's cells with its data in bytes of its own. -/
structure FgS (W1 : World) (gp : Nat) (p : PkV) (oV : Value) (A : Option Addr) (n c : Nat) (l : List Int) (wr : World) : Prop where
  bk : Bk wr gp 26 (pkC p oV (.slice A n c))
  ob : OB 5 wr W1.heap.size A n c l
  n8 : n ≤ 8
  bs : Bs l
  be : Below gp W1 wr
  gz : gp < W1.heap.size
section
variable {W1 wr w' : World} {gp n c n' c' : Nat} {p : PkV} {oV : Value} {A A' : Option Addr} {l l' : List Int}
theorem FgS.first (hm : Bk W1 gp 26 (pkC p oV (.slice A n c))) (hO : OB 5 w' W1.heap.size A' n' c' l') (hB : Below W1.heap.size W1 w') (h8 : n' ≤ 8) (hb : Bs l') :
    FgS W1 gp p oV A' n' c' l' (w'.setCell ⟨gp, 10, none⟩ (.slice A' n' c')) := by
  have hgl := hm.lt
  have hm' : Bk w' gp 26 (pkC p oV (.slice A n c)) := hm.below hB hgl
  refine ⟨hm'.set 10 _, Ow.setCell hO (fun e => ?_) _, h8, hb, (hB.mono (Nat.le_of_lt hgl)).trans ((Chg.refl (fun b => b = gp) w').setCell (p := ⟨gp, 10, none⟩) (.inl rfl) _ |>.below (fun b hb => by omega) (by have := hB.size; omega)), hgl⟩
  have := (Ow.lt hO gp e).1; omega
theorem FgS.put (h : FgS W1 gp p oV A n c l wr) (hO : OB 5 w' W1.heap.size A' n' c' l') (hB : Below W1.heap.size wr w') (h8 : n' ≤ 8) (hb : Bs l') :
    FgS W1 gp p oV A' n' c' l' (w'.setCell ⟨gp, 10, none⟩ (.slice A' n' c')) := by
  have hgl := h.gz
  have hm' : Bk w' gp 26 (pkC p oV (.slice A n c)) := h.bk.below hB hgl
  refine ⟨hm'.set 10 _, Ow.setCell hO (fun e => ?_) _, h8, hb, (h.be.trans (hB.mono (Nat.le_of_lt hgl))).trans ((Chg.refl (fun b => b = gp) w').setCell (p := ⟨gp, 10, none⟩) (.inl rfl) _ |>.below (fun b hb => by omega) (by have := h.bk.lt; have := hB.size; omega)), hgl⟩
  have := (Ow.lt hO gp e).1; omega
theorem FgS.more (h : FgS W1 gp p oV A n c l wr) : FgS W1 gp { p with more := true } oV A n c l (wr.setCell ⟨gp, 3, none⟩ (.bool true)) := by
  have hgl := h.gz
  refine ⟨h.bk.set 3 _, Ow.setCell h.ob (fun e => ?_) _, h.n8, h.bs, h.be.trans ((Chg.refl (fun b => b = gp) wr).setCell (p := ⟨gp, 3, none⟩) (.inl rfl) _ |>.below (fun b hb => by omega) (by have := h.bk.lt; omega)), hgl⟩
  have := (Ow.lt h.ob gp e).1; omega
theorem FgS.off (h : FgS W1 gp p oV A n c l wr) (v : Int) : FgS W1 gp { p with off := v } oV A n c l (wr.setCell ⟨gp, 4, none⟩ (.int .i64 v)) := by
  have hgl := h.gz
  refine ⟨h.bk.set 4 _, Ow.setCell h.ob (fun e => ?_) _, h.n8, h.bs, h.be.trans ((Chg.refl (fun b => b = gp) wr).setCell (p := ⟨gp, 4, none⟩) (.inl rfl) _ |>.below (fun b hb => by omega) (by have := h.bk.lt; omega)), hgl⟩
  have := (Ow.lt h.ob gp e).1; omega
end
/-- The Store with the one packet. -/
def FgT (W0 : World) (ps : Nat) (p : PkV) (ol l : List Int) (now : Int) (w : World) : Prop :=
  ∃ F r, Sto w ps F [r] ∧ (∀ b, F b → ps ≤ b) ∧ r.bg = now ∧ r.first = (if p.off = 0 then some (p, ol, l) else none) ∧ Below ps W0 w ∧ ps < w.heap.size
theorem FgT.alloc {W0 w : World} {ps : Nat} {p : PkV} {ol l : List Int} {now : Int} (h : FgT W0 ps p ol l now w) (o : Obj) : FgT W0 ps p ol l now (w.alloc o) := by
  obtain ⟨F, r, h1, h2, h3, h4, h5, h6⟩ := h
  exact ⟨F, r, h1.alloc o, h2, h3, h4, h5.alloc (Nat.le_of_lt h6) o, by rw [World.size_alloc]; omega⟩
theorem FgT.below {W0 w : World} {ps : Nat} {p : PkV} {ol l : List Int} {now : Int} (h : FgT W0 ps p ol l now w) : Below ps W0 w := by
  obtain ⟨F, r, h1, h2, h3, h4, h5, h6⟩ := h
  exact h5
theorem fg_add {W1 wr : World} {gp n c on oc : Nat} {p : PkV} {oA A : Option Addr} {ol l : List Int} {now : Int} (h : FgS W1 gp p (.slice oA on oc) A n c l wr) (hp : p.Ok) (hn : n = 8) (hol : ol.length = on) (ho1 : on ≤ 1000000) (hr : RB W1 gp oA ol) (hm : p.more = true) (ho : 0 ≤ p.off ∧ p.off ≤ 60000 ∧ p.off.tmod 8 = 0) :
    Calls Try.prog 21 #[.pointer (some ⟨wr.heap.size, 0, none⟩), .agg (pkC p (.slice oA on oc) (.slice A n c)), .int .i64 now] (wr.alloc (.cells #[.map none, .slice none 0 0] 46)) fun e w' =>
      ∃ (q : PkV) (A1 A2 : Option Addr) (n1 c1 n2 c2 : Nat), e = .returned (.tuple #[.agg (pkC q (.slice A1 n1 c1) (.slice A2 n2 c2)), .bool false, .int .i64 0]) ∧ FgT wr wr.heap.size p ol l now w' := by
  have hz : (wr.alloc (.cells #[.map none, .slice none 0 0] 46)).heap.size = wr.heap.size + 1 := World.size_alloc _ _
  have hdl := OB.length h.ob
  have hgl := h.bk.lt
  have hS : Sto (wr.alloc (.cells #[.map none, .slice none 0 0] 46)) wr.heap.size (fun b => b = wr.heap.size) [] := sto_new _ _ (Bk.new wr _ _)
  have hro : RB (wr.alloc (.cells #[.map none, .slice none 0 0] 46)) wr.heap.size oA ol := Rw.alloc (Rw.more (Rw.below hr h.be) (Nat.le_of_lt hgl)) (Nat.le_refl _) _
  have hrd : RB (wr.alloc (.cells #[.map none, .slice none 0 0] 46)) wr.heap.size A l := Rw.alloc (OB.rb h.ob) (Nat.le_refl _) _
  have hg : Good p l.length := ⟨by omega, ho.1, ho.2.2, fun _ => by omega, .inl hm, by omega⟩
  refine (sto_add wr.heap.size _ [] p hp oA A on oc n c wr.heap.size ol l hol ho1 hdl (Ow.cap h.ob) (by omega) now _ hro hrd (by omega) hS (fun b hb => ?_)).mono ?_
  · rcases hb with ⟨hb1, hb2⟩ | hb
    · have := rb_lt hr hb1 hb2
      exact ⟨by omega, fun e => by omega⟩
    · have := (Ow.lt h.ob b hb).2
      exact ⟨by omega, fun e => by omega⟩
  · rintro e w' ⟨F', L', ⟨q, q2, q3⟩, is, er, A1, A2, n1, c1, n2, c2, he, k1, k2, k3, k4, k5, k6⟩
    obtain ⟨rfl, rfl, r, rfl, r1, r2, r3⟩ := one_law hp (by omega) hg hm (addR_good k6 hg)
    refine ⟨q, A1, A2, n1, c1, n2, c2, he, F', r, k1, fun b hb => ?_, r1, r3, ((Below.refl _ _).alloc (Nat.le_refl _) _).trans (k5.below (fun b hb => by omega) (by omega)), by have := k5.size; omega⟩
    rcases k4 b hb with e | e <;> omega
theorem fg_keep {W0 w : World} {ps : Nat} {p : PkV} {ol l : List Int} {from_ : Int} (h : FgT W0 ps p ol l from_ w) (hf : 0 ≤ from_ ∧ from_ ≤ 1099511626776) :
    Calls Try.prog 24 #[.pointer (some ⟨ps, 0, none⟩), .int .i64 (from_ + 300 - 1)] w fun e w' => (∃ A c, e = .returned (.slice A 0 c)) ∧ FgT W0 ps p ol l from_ w' := by
  obtain ⟨F, r, h1, h2, h3, h4, h5, h6⟩ := h
  refine (sto_tick ps F [r] _ (by unfold okI; omega) w h1).mono ?_
  rintro e w' ⟨F', A, n, c, Lp, he, k1, k2, k3, k4, k5, k6⟩
  have hu : untilF (from_ + 300 - 1) = from_ - 1 := by unfold untilF; rw [if_neg (by omega)]; omega
  have hk : keepB (from_ - 1) r = true := by unfold keepB; rw [h3]; exact decide_eq_true (by omega)
  have e1 : tickL (untilF (from_ + 300 - 1)) [r] = [r] := by rw [hu]; unfold tickL; simp [List.filter_cons, hk]
  have e2 : tickO (untilF (from_ + 300 - 1)) [r] = [] := by rw [hu]; unfold tickO; simp [List.filter_cons, hk]
  rw [e1] at k2
  rw [e2] at k1
  have hL : Lp = [] := List.map_eq_nil_iff.1 k1
  have hn : n = 0 := by have := k4.len; rw [hL] at this; exact this.symm
  subst hn
  exact ⟨⟨A, c, he⟩, F', r, k2, fun b hb => h2 b (k3 b hb), h3, h4, h5.trans (k6.below h2 (Nat.le_of_lt h6)), by have := k6.size; omega⟩
theorem fg_len {W0 w : World} {ps : Nat} {p : PkV} {ol l : List Int} {from_ : Int} (h : FgT W0 ps p ol l from_ w) : Calls Try.prog 22 #[.pointer (some ⟨ps, 0, none⟩)] w fun e w' => e = .returned (.int .i64 1) ∧ w' = w := by
  obtain ⟨F, r, h1, _⟩ := h
  exact sto_len ps F [r] w h1
/-- What giving up brings. -/
def FgG (W0 : World) (ps : Nat) (p : PkV) (ol l : List Int) (w : World) (e : Ending) (w' : World) : Prop :=
  ∃ (A : Option Addr) (n c : Nat) (Lp : List Pm), e = .returned (.slice A n c) ∧ Lp.map Pm.plain = (if p.off = 0 then [(p, ol, l)] else []) ∧ PsAt w' w.heap.size (.slice A n c) n Lp ∧ PmsOk w' w.heap.size Lp ∧ (∃ F, Sto w' ps F []) ∧ Below ps W0 w'
theorem fg_give {W0 w : World} {ps : Nat} {p : PkV} {ol l : List Int} {from_ : Int} (h : FgT W0 ps p ol l from_ w) (hf : 0 ≤ from_ ∧ from_ ≤ 1099511626776) :
    Calls Try.prog 24 #[.pointer (some ⟨ps, 0, none⟩), .int .i64 (from_ + 300)] w (FgG W0 ps p ol l w) := by
  obtain ⟨F, r, h1, h2, h3, h4, h5, h6⟩ := h
  refine (sto_tick ps F [r] _ (by unfold okI; omega) w h1).mono ?_
  rintro e w' ⟨F', A, n, c, Lp, he, k1, k2, k3, k4, k5, k6⟩
  have hu : untilF (from_ + 300) = from_ := by unfold untilF; rw [if_neg (by omega)]; omega
  have hk : keepB from_ r = false := by unfold keepB; rw [h3]; exact decide_eq_false (by omega)
  have e1 : tickL (untilF (from_ + 300)) [r] = [] := by rw [hu]; unfold tickL; simp [List.filter_cons, hk]
  have e2 : tickO (untilF (from_ + 300)) [r] = outT r := by rw [hu]; unfold tickO; simp [List.filter_cons, hk]
  rw [e1] at k2
  rw [e2] at k1
  refine ⟨A, n, c, Lp, he, ?_, k4, k5, ⟨F', k2⟩, h5.trans (k6.below h2 (Nat.le_of_lt h6))⟩
  rw [k1]
  unfold outT
  rw [h4]
  by_cases c0 : p.off = 0
  · rw [if_pos c0, if_pos c0]
  · rw [if_neg c0, if_neg c0]
end Go.Proofs.Ytcjkhonapafndaa
