/- Proved: a neighbour of the reference's is laid anew, and one of its cells; a later tick; inside Send; what Send of the reference's answers and what becomes of its cache, way by way. Conditions: as each law says. -/
import Derived.Test.YtocigdkndlmikaaRfi
set_option linter.unusedVariables false
set_option linter.unusedSimpArgs false
namespace Go.Proofs.Ytocigdkndlmikaa
open Go.RowKit
theorem nrsC_set (L : List En) (k : Nat) (y : En) (hk : k < L.length) : nrsC (L.set k y) = (nrsC L).take (k * 11) ++ nrC y ++ (nrsC L).drop (k * 11 + 11) := by
  have e : L.set k y = L.take k ++ (y :: L.drop (k + 1)) := by rw [List.set_eq_take_append_cons_drop, if_pos hk]
  rw [e, nrsC_append, nrsC_take, show y :: L.drop (k + 1) = [y] ++ L.drop (k + 1) from rfl, nrsC_append, nrsC_drop, show (k + 1) * 11 = k * 11 + 11 by omega]
  simp [nrsC]
theorem Rs.set_ {w : World} {base g n c : Nat} {L : List En} (h : Rs w base (some ⟨g, 0, none⟩) n c L) {k : Nat} (hk : k < n) (y : En) (vs : List Value) (hvs : nrC y = vs) :
    Rs (w.setCells g (k * 11) vs) base (some ⟨g, 0, none⟩) n c (L.set k y) ∧ w.there g (k * 11) 11 ∧ Chg (fun b => b = g) w (w.setCells g (k * 11) vs) := by
  have hl := h.len
  have hvl : vs.length = 11 := by rw [← hvs, nrC_len]
  have hG : w.grownBy (w.setCells g (k * 11) vs) (some g) := grownBy_setCells w g _ _
  rcases h.cases_ with ⟨h1, _⟩ | ⟨g', cur, h1, h2, h3, h4, h5, h6, h7⟩
  · cases h1
  · injection h1 with h1
    injection h1 with e1
    subst e1
    obtain ⟨cur', q1, q2, q3⟩ := heap_setCells_same w g 101 (0, 0) vs (k * 11) w cur h3 (by omega)
    refine ⟨⟨by rw [nrsC_len, List.length_set]; omega, .inr ⟨g, c, cur', rfl, h2, q1, h4, h5, by omega, ?_⟩⟩, fun j hj => ?_, Chg.of_grown hG (fun b e => by injection e with e; exact e.symm)⟩
    · rw [q3, nrsC_set L k y (by omega), ← h7, hvs, hvl]
      have hcl : cur.toList.length = c * 11 := by simpa using h6
      have hkn : k * 11 + 11 ≤ n * 11 := by omega
      rw [List.take_append, List.take_append, List.take_take, show min (n * 11) (k * 11) = k * 11 by omega, List.length_take, List.length_append, List.length_take, hvl]
      have m1 : min (k * 11) cur.toList.length = k * 11 := by rw [hcl]; omega
      rw [m1, List.take_of_length_le (l := vs) (by omega), List.take_take, show min (k * 11) (n * 11) = k * 11 by omega, List.drop_take]
    · refine ⟨?_, by simp [World.frozen?, h3]⟩
      rw [cell_of_row w g (k * 11 + j) cur _ (0, 0) h3]
      simp; omega
theorem Rs.set {w : World} {base g n c : Nat} {L : List En} (h : Rs w base (some ⟨g, 0, none⟩) n c L) {k : Nat} (hk : k < n) (y : En) :
    Rs (w.setCells g (k * 11) (nrC y)) base (some ⟨g, 0, none⟩) n c (L.set k y) ∧ w.there g (k * 11) 11 ∧ Chg (fun b => b = g) w (w.setCells g (k * 11) (nrC y)) := h.set_ hk y _ rfl
theorem nrsC_at (L : List En) (j : Nat) : (nrsC L)[j]? = (L[j / 11]?).bind fun x => (nrC x)[j % 11]? := by
  cases hx : L[j / 11]? with
  | none =>
    have := List.getElem?_eq_none_iff.1 hx
    rw [List.getElem?_eq_none (by rw [nrsC_len]; omega)]; rfl
  | some x =>
    have := nrsC_get L (j / 11) (j % 11) x hx (by omega)
    rw [show j / 11 * 11 + j % 11 = j by omega] at this
    exact this
theorem nrsC_set1 {L : List En} {i : Nat} {x y : En} {r : Nat} {v : Value} (hx : L[i]? = some x) (hr : r < 11) (hy : nrC y = (nrC x).set r v) : nrsC (L.set i y) = (nrsC L).set (i * 11 + r) v := by
  have hi := (List.getElem?_eq_some_iff.1 hx).1
  refine List.ext_getElem? fun j => ?_
  rw [nrsC_at, List.getElem?_set, List.getElem?_set]
  by_cases e : i = j / 11
  · rw [if_pos e, if_pos hi]
    by_cases e2 : i * 11 + r = j
    · rw [if_pos e2, if_pos (by rw [nrsC_len]; omega)]
      have : j % 11 = r := by omega
      rw [this, Option.bind_some, hy, List.getElem?_set, if_pos rfl, if_pos (by rw [nrC_len]; exact hr)]
    · rw [if_neg e2, Option.bind_some, hy, List.getElem?_set, if_neg (by omega), nrsC_at, ← e, hx, Option.bind_some]
  · rw [if_neg e, if_neg (by omega), nrsC_at]
/-- One cell of one neighbour is stored. -/
theorem Rs.set1 {w : World} {base g n c : Nat} {L : List En} (h : Rs w base (some ⟨g, 0, none⟩) n c L) {i r : Nat} {x y : En} {v : Value} (hx : L[i]? = some x) (hr : r < 11) (hy : nrC y = (nrC x).set r v) :
    Rs (w.setCell ⟨g, i * 11 + r, none⟩ v) base (some ⟨g, 0, none⟩) n c (L.set i y) := by
  have hi := (List.getElem?_eq_some_iff.1 hx).1
  have hl := h.len
  rcases h.cases_ with ⟨h1, _⟩ | ⟨g', cur, h1, h2, h3, h4, h5, h6, h7⟩
  · cases h1
  · injection h1 with h1
    injection h1 with e1
    subst e1
    refine ⟨by rw [nrsC_len, List.length_set]; omega, .inr ⟨g, c, cur.setIfInBounds (i * 11 + r) v, rfl, h2, ?_, h4, h5, by rw [Array.size_setIfInBounds]; exact h6, ?_⟩⟩
    · simp [World.setCell, Array.getElem?_modify, h3]
    · rw [Array.toList_setIfInBounds, List.take_set, h7, nrsC_set1 hx hr hy]
theorem rlater_any (a n : Int) (h0 : 0 ≤ a) (h1 : a ≤ 1099511627776) (hn : 0 < n ∧ n ≤ 1000) (w : World) :
    Calls Try.prog 56 #[.int .i64 a, .int .i64 n] w fun e w' => e = .returned (.int .i64 (laterP a n)) ∧ w' = w := by
  have t1 : decide (a + n < a) = false := decide_eq_false (by omega)
  have t2 : decide (a < a + n) = true := decide_eq_true (by omega)
  have t3 : decide (0 < n) = true := decide_eq_true (by omega)
  have t4 : decide (n < 0) = false := decide_eq_false (by omega)
  have hL : Hid (laterP a n = a + n) := Lib.hid (by unfold laterP; rw [if_neg (by omega)])
  go_enter Try.func56, Try.ntmps56
  go_wp2
  go_ret
  exact ⟨by rw [hL.out]; rfl, rfl⟩
def told0 : Array Value := #[.bool false, .int .u8 0, .int .u8 0, .int .u8 0, .int .u8 0, .int .u8 0, .int .u8 0, .bool false, .bool false]
/-- Inside Send. -/
structure SdS (w W : World) (q : Nat) (A : Option Addr) : Prop where
  ch : Chg (ownC q A) w W
  tb : Bk W w.heap.size 34 told0
section
variable {w W W' : World} {q B : Nat} {A Ap : Option Addr} {l : List Int}
theorem SdS.below (h : SdS w W q A) (hb : Below W.heap.size W W') : SdS w W' q A :=
  ⟨h.ch.trans (Chg.of_below (F := fun _ => False) hb) (fun _ e => e.elim), h.tb.below hb h.tb.lt⟩
theorem SdS.chq (h : SdS w W q A) (hc : Chg (fun b => b = q) W W') (hq : q < w.heap.size) : SdS w W' q A :=
  ⟨h.ch.trans hc (fun x hx => .inl (.inl hx)), h.tb.chg hc (by omega)⟩
theorem SdS.rb (h : SdS w W q A) (hr : RB w B Ap l) (hB : B ≤ w.heap.size) (hq : B ≤ q) (hA : ∀ b, blk A = some b → B ≤ b) : RB W B Ap l :=
  Rw.keep hr fun p hp => h.ch.cell (by omega) (by
    rintro (e | e)
    · omega
    · have := hA _ e; omega)
theorem SdS.size (h : SdS w W q A) : w.heap.size < W.heap.size := h.tb.lt
end
theorem RcK.mono {w : World} {q : Nat} {G G' : Nat → Prop} {A : Option Addr} {n c : Nat} {S : List En} (h : RcK w q G A n c S) (hG : ∀ b, G b → G' b) (hq : ¬ G' q) (hA : ∀ b, blk A = some b → ¬ G' b) (hl : ∀ b, G' b → b < w.heap.size) : RcK w q G' A n c S :=
  ⟨h.st, fun e he => (h.ok e he).keep (fun _ _ _ => rfl) hG, hq, hA, hl, h.so⟩
/-- What Send of the reference's answers and leaves. -/
def RSend (w : World) (q : Nat) (G : Nat → Prop) (A : Option Addr) (S : List En) (a now : Int) (l : List Int) (e : Ending) (w' : World) : Prop :=
  ∃ told M S', e = .returned (.agg told) ∧ SendT (absT S) a now l told M ∧ (absT S').Perm M ∧ RcTo w q G A S' w'
end Go.Proofs.Ytocigdkndlmikaa
namespace Go.Proofs.Ytocigdkndlmikaa
open Go.RowKit
theorem RcTo.tail {w w4 w5 : World} {q t : Nat} {G G' : Nat → Prop} {A A' : Option Addr} {n' c' : Nat} {S' : List En} (h : RcK w4 q G' A' n' c' S') (hG : ∀ b, G' b → G b ∨ w.heap.size ≤ b) (hA : ∀ b, blk A' = some b → blk A = some b ∨ w.heap.size ≤ b) (hc : Chg (ownC q A) w w4)
    (ht : w.heap.size = t) (hGt : ¬ G' t) (hAt : blk A' ≠ some t) (hqt : q ≠ t) (h5 : Chg (fun b => b = t) w4 w5) : RcTo w q G A S' w5 :=
  ⟨G', A', n', c', h.chg h5 (fun b hb e => by
    have e' : b = t := e
    subst e'
    rcases hb with (hb | hb) | hb
    · exact hqt hb.symm
    · exact hAt hb
    · exact hGt hb), hG, hA, hc.trans h5 (fun x hx => .inr (by have e' : x = t := hx; omega))⟩
theorem spot_is {S : List En} {a : Int} {i : Nat} {v : Bool} (h : SpotR S a i v) (hs : (S.map (·.a)).Pairwise (· < ·)) {x : En} (hx : x ∈ S) (hxa : x.a = a) : v = true ∧ S[i]? = some x := by
  obtain ⟨j, hj⟩ := List.getElem?_of_mem hx
  have hjl := (List.getElem?_eq_some_iff.1 hj).1
  have hij : i ≤ j := by
    rcases Nat.lt_or_ge j i with q | q
    · have := h.lo j x q hj; omega
    · exact q
  obtain ⟨y, hy⟩ : ∃ y, S[i]? = some y := ⟨_, List.getElem?_eq_getElem (by omega)⟩
  have h1 := h.hi y hy
  rcases Nat.eq_or_lt_of_le hij with q | q
  · subst q
    rw [hj] at hy; injection hy with hy; subst hy
    refine ⟨?_, hj⟩
    cases hv : v with
    | true => rfl
    | false => exact absurd hxa (h.no hv x hj)
  · have hp := List.pairwise_iff_getElem.1 hs i j (by rw [List.length_map]; omega) (by rw [List.length_map]; omega) q
    rw [List.getElem_map, List.getElem_map] at hp
    have e1 : S[i] = y := by have := hy; rw [List.getElem?_eq_getElem (by omega)] at this; injection this
    have e2 : S[j] = x := by have := hj; rw [List.getElem?_eq_getElem (by omega)] at this; injection this
    rw [e1, e2] at hp
    omega
theorem spot_not {S : List En} {a : Int} {i : Nat} {v : Bool} (h : SpotR S a i v) (hno : ∀ x ∈ S, x.a ≠ a) : v = false := by
  cases hv : v with
  | false => rfl
  | true =>
    obtain ⟨x, hx, hxa⟩ := h.yes hv
    exact absurd hxa (hno x (List.mem_of_getElem? hx))
set_option maxHeartbeats 4000000 in
set_option maxRecDepth 1000000 in
theorem rsend_known (q : Nat) (G : Nat → Prop) (A : Option Addr) (n c : Nat) (S : List En) (a : Int) (ha : okA a) (Ap : Option Addr) (np cp B : Nat) (l : List Int) (hnp : l.length = np) (hmax : np ≤ 140737488355328) (hbs : Bs l) (now : Int) (hnow : 0 ≤ now ∧ now ≤ 1099511627776) (w : World) (hr : RB w B Ap l) (hB : B ≤ q) (hBA : ∀ b, blk A = some b → B ≤ b) (h : RcK w q G A n c S) (hn : n ≤ 16)
    (x : En) (hx : x ∈ S) (hxa : x.a = a) (hk : x.n.kn = true) (htk : now < x.n.tk) :
    Calls Try.prog 43 #[.pointer (some ⟨q, 0, none⟩), .int .u32 a, .slice Ap np cp, .int .i64 now] w (RSend w q G A S a now l) := by
  have HX := Lib.hid (And.intro hx (And.intro hxa (And.intro hk htk)))
  clear hx hxa hk htk
  have hlen := h.len
  have HS := Lib.hid h
  have HLEN := Lib.hid hlen
  have hql := h.st.1.lt
  have HNP := Lib.hid hnp
  have HBS := Lib.hid hbs
  have HR := Lib.hid hr
  have HBA := Lib.hid hBA
  have HA := Lib.hid ha
  obtain ⟨t, ht⟩ : ∃ t, w.heap.size = t := ⟨_, rfl⟩
  have HT := Lib.hid ht
  obtain ⟨W0, hW0⟩ : ∃ W0, w.alloc (.cells told0 34) = W0 := ⟨_, rfl⟩
  have hS0 : SdS w W0 q A := by rw [← hW0]; exact ⟨(Chg.refl _ w).alloc _, Bk.new w _ _⟩
  have HD0 := Lib.hid hS0
  have hB0 : Below w.heap.size w W0 := by rw [← hW0]; exact (Below.refl _ _).alloc (Nat.le_refl _) _
  have HK0 := Lib.hid (h.below hB0)
  have HW0 : Hid (w.alloc (.cells #[.bool false, .int .u8 0, .int .u8 0, .int .u8 0, .int .u8 0, .int .u8 0, .int .u8 0, .bool false, .bool false] 34) = W0) := Lib.hid (by rw [← hW0]; rfl)
  clear h hlen hW0 hS0 hB0 hnp hbs hr hBA ha ht
  go_enter Try.func43, Try.ntmps43
  go_wp2_with fail
  rw [HW0.out, HT.out]
  refine (spot_any q A n c S a _ HK0.out.st (by omega)).mono ?_
  rintro e1 w1 ⟨i, v, rfl, hsp, k, rfl⟩
  have HSP := Lib.hid hsp
  generalize hW1 : World.drewN W0 k = W1
  have HK1 : Hid (RcK W1 q G A n c S) := Lib.hid (by rw [← hW1]; exact HK0.out.drewN k)
  have HD1 : Hid (SdS w W1 q A) := Lib.hid (by rw [← hW1]; exact ⟨HD0.out.ch.drewN k, HD0.out.tb.drewN k⟩)
  clear hW1 hsp
  obtain ⟨rfl, hxi⟩ : v = true ∧ S[i]? = some x := spot_is HSP.out HS.out.so HX.out.1 HX.out.2.1
  have hin : i < n := by have := (List.getElem?_eq_some_iff.1 hxi).1; have := HLEN.out; omega
  obtain ⟨g, rfl, _, hg, hcl⟩ := HK1.out.st.2.1.cell hxi
  have c0 : W1.cell? ⟨q, 0, none⟩ = some (.slice (some ⟨g, 0, none⟩) n c) := HK1.out.st.1.cell 0
  have hki : (0 : Int) ≤ (i : Int) ∧ (i : Int) < (n : Int) := by omega
  obtain ⟨tk, htk⟩ : ∃ z, x.n.tk = z := ⟨_, rfl⟩
  have hx1 : W1.cell? ⟨g, i * 11 + 1, none⟩ = some (.bool true) := by rw [← HX.out.2.2.1]; exact (hcl 1 _ rfl).1
  have hx8 : W1.cell? ⟨g, i * 11 + 8, none⟩ = some (.int .i64 tk) := by rw [← htk]; exact (hcl 8 _ rfl).1
  have hx2 : W1.cell? ⟨g, i * 11 + 2, none⟩ = some (.int .u8 x.n.m0) := (hcl 2 _ rfl).1
  have hx3 : W1.cell? ⟨g, i * 11 + 3, none⟩ = some (.int .u8 x.n.m1) := (hcl 3 _ rfl).1
  have hx4 : W1.cell? ⟨g, i * 11 + 4, none⟩ = some (.int .u8 x.n.m2) := (hcl 4 _ rfl).1
  have hx5 : W1.cell? ⟨g, i * 11 + 5, none⟩ = some (.int .u8 x.n.m3) := (hcl 5 _ rfl).1
  have hx6 : W1.cell? ⟨g, i * 11 + 6, none⟩ = some (.int .u8 x.n.m4) := (hcl 6 _ rfl).1
  have hx7 : W1.cell? ⟨g, i * 11 + 7, none⟩ = some (.int .u8 x.n.m5) := (hcl 7 _ rfl).1
  have t1 : decide (now < tk) = true := decide_eq_true (by rw [← htk]; exact HX.out.2.2.2)
  have HDz := HD1
  have htb : Bk W1 t 34 told0 := by have := HDz.out.tb; rw [HT.out] at this; exact this
  have hql' : q < W1.heap.size := by have := HDz.out.size; omega
  have y0 := htb.cell 0
  have y1 := htb.cell 1
  have y2 := htb.cell 2
  have y3 := htb.cell 3
  have y4 := htb.cell 4
  have y5 := htb.cell 5
  have y6 := htb.cell 6
  have y7 := htb.cell 7
  have y8 := htb.cell 8
  simp only [told0, List.getElem?_toArray, List.getElem?_cons_zero, List.getElem?_cons_succ] at y0 y1 y2 y3 y4 y5 y6 y7 y8
  have x0 := htb.frozen 0
  have x1 := htb.frozen 1
  have x2 := htb.frozen 2
  have x3 := htb.frozen 3
  have x4 := htb.frozen 4
  have x5 := htb.frozen 5
  have x6 := htb.frozen 6
  have x7 := htb.frozen 7
  have x8 := htb.frozen 8
  clear htb
  have HFIN : Hid (∀ w5, Chg (fun b => b = t) W1 w5 → RSend w q G (some ⟨g, 0, none⟩) S a now l (.returned (.agg (toldC true (macOf x.n) false false))) w5) := Lib.hid fun w5 h5 =>
    ⟨_, absT S, S, rfl, .inl ⟨x.n, by rw [← HX.out.2.1]; exact List.mem_map.2 ⟨x, HX.out.1, rfl⟩, HX.out.2.2.1, HX.out.2.2.2, rfl, rfl⟩, List.Perm.refl _,
      RcTo.tail HK1.out (fun b hb => .inl hb) (fun b hb => .inl hb) HD1.out.ch HT.out (fun hb => by have := HS.out.lt t hb; have := HT.out; omega) (fun hb => by have := HS.out.olt t (.inr hb); have := HT.out; omega) (by have := HT.out; omega) h5⟩
  clear hcl hxi htk
  go_wp2_with fail
  refine bodyPost_ret (v := .agg #[.bool true, .int .u8 x.n.m0, .int .u8 x.n.m1, .int .u8 x.n.m2, .int .u8 x.n.m3, .int .u8 x.n.m4, .int .u8 x.n.m5, .bool false, .bool false]) (by simp [results, Try.results43, go_sem, *]) rfl ?_
  refine HFIN.out _ ?_
  refine Chg.set1 ?_ _
  refine Chg.set1 ?_ _
  refine Chg.set1 ?_ _
  refine Chg.set1 ?_ _
  refine Chg.set1 ?_ _
  refine Chg.set1 ?_ _
  refine Chg.set1 ?_ _
  refine Chg.set1 ?_ _
  refine Chg.set1 ?_ _
  exact Chg.refl _ _
theorem split_at {S : List En} {m : Nat} {x : En} (h : S[m]? = some x) : S = S.take m ++ x :: S.drop (m + 1) := by
  have hl := (List.getElem?_eq_some_iff.1 h).1
  have e : S[m] = x := by have := h; rw [List.getElem?_eq_getElem hl] at this; injection this
  have := (List.take_append_drop m S).symm
  rw [List.drop_eq_getElem_cons hl, e] at this
  exact this
theorem filter_out {S : List En} (hs : (S.map (·.a)).Pairwise (· < ·)) {m : Nat} {x : En} (h : S[m]? = some x) : S.filter (fun e => decide (e.a ≠ x.a)) = S.take m ++ S.drop (m + 1) := by
  have e := split_at h
  have hs' := hs
  rw [e, List.map_append, List.map_cons, List.pairwise_append, List.pairwise_cons] at hs'
  conv => lhs; rw [e]
  rw [List.filter_append, List.filter_cons, if_neg (by simp)]
  have h1 : (S.take m).filter (fun e => decide (e.a ≠ x.a)) = S.take m := List.filter_eq_self.2 fun y hy => by
    have := hs'.2.2 y.a (List.mem_map_of_mem hy) x.a (by simp)
    simp; omega
  have h2 : (S.drop (m + 1)).filter (fun e => decide (e.a ≠ x.a)) = S.drop (m + 1) := List.filter_eq_self.2 fun y hy => by
    have := hs'.2.1.1 y.a (List.mem_map_of_mem hy)
    simp; omega
  rw [h1, h2]
theorem drop_abs {S : List En} (hs : (S.map (·.a)).Pairwise (· < ·)) {m : Nat} {x : En} (h : S[m]? = some x) : absT (S.take m ++ S.drop (m + 1)) = dropT (absT S) x.a := by
  rw [← filter_out hs h, absT_filter]
theorem best_room {S : List En} (hs : (S.map (·.a)).Pairwise (· < ·)) {n m : Nat} (hn : S.length = n) (h16 : 16 ≤ n) (h : BestR S n m) : RoomT (absT S) (absT (S.take m ++ S.drop (m + 1))) := by
  obtain ⟨x, hx, hk, hm, hall⟩ := h
  refine .inr ⟨by unfold absT; rw [List.length_map]; omega, (x.a, x.n), ⟨List.mem_map.2 ⟨x, List.mem_of_getElem? hx, rfl⟩, hk, fun y hy hky => ?_⟩, drop_abs hs hx⟩
  obtain ⟨z, hz, rfl⟩ := List.mem_map.1 hy
  obtain ⟨j, hj⟩ := List.getElem?_of_mem hz
  have hjl := (List.getElem?_eq_some_iff.1 hj).1
  rcases hall j z (by omega) hj hky with q | ⟨q, q2⟩
  · exact .inl q
  · refine .inr ⟨q, ?_⟩
    rcases Nat.eq_or_lt_of_le q2 with e | e
    · subst e; rw [hx] at hj; injection hj with hj; rw [hj]; exact Int.le_refl _
    · have hml := (List.getElem?_eq_some_iff.1 hx).1
      have hp := List.pairwise_iff_getElem.1 hs m j (by rw [List.length_map]; omega) (by rw [List.length_map]; omega) e
      rw [List.getElem_map, List.getElem_map] at hp
      have e1 : S[m] = x := by have := hx; rw [List.getElem?_eq_getElem hml] at this; injection this
      have e2 : S[j] = z := by have := hj; rw [List.getElem?_eq_getElem hjl] at this; injection this
      rw [e1, e2] at hp
      exact Int.le_of_lt hp
theorem none_full {S : List En} {n : Nat} (hn : S.length = n) (h16 : 16 ≤ n) (h : NoneR S n) : FullT (absT S) := ⟨by unfold absT; rw [List.length_map]; omega, fun x hx => by
  obtain ⟨z, hz, rfl⟩ := List.mem_map.1 hx
  obtain ⟨j, hj⟩ := List.getElem?_of_mem hz
  exact h j z (by have := (List.getElem?_eq_some_iff.1 hj).1; omega) hj⟩
theorem none_abs {S : List En} {a : Int} (h : ∀ x ∈ S, x.a ≠ a) : noneT (absT S) a := fun x hx => by
  obtain ⟨z, hz, rfl⟩ := List.mem_map.1 hx
  exact h z hz
/-- The blocks behind a new neighbour. -/
def newG (G : Nat → Prop) (A3 : Option Addr) (z : Nat) (b : Nat) : Prop := G b ∨ blk A3 = some b ∨ b = z
def newE (a now : Int) (l : List Int) (z : Nat) : En := ⟨a, 0, some ⟨z, 0, none⟩, 1, 1, newNb now l⟩
theorem new_ok {W2 W3 W4 : World} {G : Nat → Prop} {A3 : Option Addr} {np c3 : Nat} {l : List Int} {a now : Int} (hO : OB 5 W3 W2.heap.size A3 np c3 l) (hbs : Bs l) (hmax : np ≤ 140737488355328) (ha : okA a)
    (hc : ∀ b, W2.heap.size ≤ b → b < W3.heap.size → W4.heap[b]? = W3.heap[b]?) (hz : W3.heap.size ≤ W4.heap.size) :
    NrOk (W4.alloc (.cells #[.slice A3 np c3] 27)) (newG G A3 W4.heap.size) (newE a now l W4.heap.size) := by
  have hrow : RowAt (W4.alloc (.cells #[.slice A3 np c3] 27)) (newG G A3 W4.heap.size) (.slice A3 np c3) l := by
    have h0 : RowAt W3 (fun b => blk A3 = some b) (.slice A3 np c3) l := ⟨A3, np, c3, rfl, Ow.mono hO (Nat.zero_le _), fun b hb => hb, hbs, hmax⟩
    refine h0.keep (fun b hb hl => ?_) (fun b hb => .inr (.inl hb))
    have h1 := (Ow.lt hO b hb).1
    rw [← hc b h1 hl]
    exact ((Below.refl W4.heap.size W4).alloc (Nat.le_refl _) _).block b (by omega)
  have hblk : ∀ b, blk (newE a now l W4.heap.size).A = some b → newG G A3 W4.heap.size b := fun b hb => by
    have e : W4.heap.size = b := by simpa [blk, newE] using hb
    exact .inr (.inr e.symm)
  have hcap : (1 : Nat) ≤ maxLen := by unfold maxLen; omega
  refine ⟨⟨[.slice A3 np c3], ⟨rfl, .inr ⟨W4.heap.size, 0, #[.slice A3 np c3], rfl, Nat.zero_le _, heap_alloc_new W4 _, Nat.le_refl _, hcap, rfl, rfl⟩⟩, hrow, trivial⟩, hblk, ?_, ha, ?_⟩
  · show ([l] : List (List Int)).length ≤ 3
    simp
  · exact ⟨show (0 : Int) ≤ 1 by omega, show (1 : Int) ≤ 3 by omega⟩
theorem new_rc {W4 : World} {q : Nat} {G : Nat → Prop} {A3 A4 : Option Addr} {n4 c4 : Nat} {S4 : List En} (h : RcK W4 q G A4 n4 c4 S4) (hd : ∀ b, blk A3 = some b → b ≠ q ∧ blk A4 ≠ some b ∧ b < W4.heap.size) (o : Obj) : RcK (W4.alloc o) q (newG G A3 W4.heap.size) A4 n4 c4 S4 := by
  refine (RcK.below (w' := W4.alloc o) h ((Below.refl _ _).alloc (Nat.le_refl _) _)).mono (fun b hb => .inl hb) ?_ (fun b hb => ?_) (fun b hb => ?_)
  · rintro (e | e | e)
    · exact h.nq e
    · exact (hd q e).1 rfl
    · have := h.st.1.lt; omega
  · rintro (e | e | e)
    · exact h.na b hb e
    · exact (hd b e).2.1 hb
    · have := h.olt b (.inr hb); omega
  · rw [World.size_alloc]
    rcases hb with e | e | e
    · have := h.lt b e; omega
    · have := (hd b e).2.2; omega
    · omega
end Go.Proofs.Ytocigdkndlmikaa
