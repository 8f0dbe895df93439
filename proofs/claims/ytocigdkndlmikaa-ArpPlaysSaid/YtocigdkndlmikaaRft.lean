/- Proved: Tick of the reference's cache, by its walk. Conditions: as the law says. -/
import Derived.Test.YtocigdkndlmikaaRfl
import Derived.Deep.DeepCutAuto
set_option linter.unusedVariables false
set_option linter.unusedSimpArgs false
namespace Go.Proofs.Ytocigdkndlmikaa
open Go.RowKit
def askF (now : Int) (e : En) : Bool := decide (e.n.tk ≤ now) && !e.n.kn && decide (e.n.tr < 3)
def lostF (now : Int) (e : En) : Bool := decide (e.n.tk ≤ now) && !e.n.kn && decide (3 ≤ e.n.tr)
def askL (now : Int) (L : List En) : List Int := (L.filter (askF now)).map (·.a)
def lostL (now : Int) (L : List En) : List Int := (L.filter (lostF now)).map (·.a)
theorem take_snoc {L : List En} {k : Nat} {x : En} (hk : L[k]? = some x) : L.take (k + 1) = L.take k ++ [x] := by
  rw [List.take_add_one, hk]; rfl
/-- How far Tick has come. -/
structure RtS (w : World) (L : List En) (now : Int) (k : Nat) (A6 : Option Addr) (n6 c6 : Nat) (A7 : Option Addr) (n7 c7 : Nat) (A8 : Option Addr) (n8 c8 : Nat) (wr : World) : Prop where
  bl : Below w.heap.size w wr
  as_ : OA wr w.heap.size A6 n6 c6 (askL now (L.take k))
  ls : OA wr w.heap.size A7 n7 c7 (lostL now (L.take k))
  l : Rs wr w.heap.size A8 n8 c8 ((L.take k).filterMap (stepE now))
  ne : blk A6 = none ∨ blk A6 ≠ blk A7
section
variable {w : World} {L : List En} {now : Int} {k : Nat} {A6 A7 A8 : Option Addr} {n6 c6 n7 c7 n8 c8 : Nat} {wr w2 : World} {x : En}
theorem RtS.le6 (h : RtS w L now k A6 n6 c6 A7 n7 c7 A8 n8 c8 wr) (hL : L.length ≤ 100) : n6 ≤ 100 ∧ n7 ≤ 100 ∧ n8 ≤ 100 := by
  have h1 := OA.len h.as_
  have h2 := OA.len h.ls
  have h3 := h.l.len
  have e1 := List.length_filter_le (askF now) (L.take k)
  have e2 := List.length_filter_le (lostF now) (L.take k)
  have e3 := List.length_filterMap_le (stepE now) (L.take k)
  unfold askL at h1
  unfold lostL at h2
  rw [List.length_map] at h1 h2
  rw [List.length_take] at e1 e2 e3
  omega
theorem rs_oa {w : World} {b b' n n' c c' : Nat} {A A' : Option Addr} {L : List En} {l : List Int} (h : Rs w b A n c L) (k : OA w b' A' n' c' l) : blk A = none ∨ blk A ≠ blk A' := by
  rcases h.cases_ with ⟨rfl, _⟩ | ⟨g, cur, rfl, _, h3, _⟩
  · exact .inl rfl
  · refine .inr fun e => ?_
    rcases Ow.cases_ k with ⟨rfl, _⟩ | ⟨g', cur', rfl, _, h4, _⟩
    · cases e
    · have e2 : g = g' := by simpa [blk] using e
      subst e2
      rw [h3] at h4
      injection h4 with h4
      injection h4 with _ h4
      cases h4
theorem ne_symm {a b : Option Nat} (h : a = none ∨ a ≠ b) : b = none ∨ b ≠ a := by
  cases b with
  | none => exact .inl rfl
  | some x =>
    refine .inr fun e => ?_
    rcases h with h | h
    · rw [h] at e; cases e
    · exact h e.symm
/-- The row of those that stay has grown. -/
theorem RtS.grow8 {A' : Option Addr} {n' c' : Nat} {M : List En} (h : RtS w L now k A6 n6 c6 A7 n7 c7 A8 n8 c8 wr) (hb : Below wr.heap.size wr w2) {w3 : World} (hG : w2.grownBy w3 (blk A8)) (hR : Rs w3 w.heap.size A' n' c' M) (hz : w.heap.size ≤ wr.heap.size) :
    Below w.heap.size w w3 ∧ OA w3 w.heap.size A6 n6 c6 (askL now (L.take k)) ∧ OA w3 w.heap.size A7 n7 c7 (lostL now (L.take k)) := by
  have h6 : OA w2 w.heap.size A6 n6 c6 (askL now (L.take k)) := Ow.stays h.as_ hb
  have h7 : OA w2 w.heap.size A7 n7 c7 (lostL now (L.take k)) := Ow.stays h.ls hb
  refine ⟨Below.gr (h.bl.trans (hb.mono hz)) hG (fun b e => (h.l.lt b e).1), Ow.kept h6 hG (ne_symm (rs_oa h.l h.as_)), Ow.kept h7 hG (ne_symm (rs_oa h.l h.ls))⟩
theorem RtS.stay {A' : Option Addr} {c' : Nat} (h : RtS w L now k A6 n6 c6 A7 n7 c7 A8 n8 c8 wr) (hk : L[k]? = some x) (ht : now < x.n.tk) (hb : Below wr.heap.size wr w2) {w3 : World} (hG : w2.grownBy w3 (blk A8)) (hR : Rs w3 w.heap.size A' (n8 + 1) c' ((L.take k).filterMap (stepE now) ++ [x])) :
    RtS w L now (k + 1) A6 n6 c6 A7 n7 c7 A' (n8 + 1) c' w3 := by
  obtain ⟨h1, h2, h3⟩ := h.grow8 hb hG hR h.bl.size
  have e1 : askF now x = false := by unfold askF; rw [decide_eq_false (by omega)]; rfl
  have e2 : lostF now x = false := by unfold lostF; rw [decide_eq_false (by omega)]; rfl
  refine ⟨h1, ?_, ?_, ?_, h.ne⟩
  · rw [take_snoc hk]; unfold askL; rw [List.filter_append, List.filter_cons, if_neg (by rw [e1]; simp), List.filter_nil, List.append_nil]; exact h2
  · rw [take_snoc hk]; unfold lostL; rw [List.filter_append, List.filter_cons, if_neg (by rw [e2]; simp), List.filter_nil, List.append_nil]; exact h3
  · rw [take_snoc hk, List.filterMap_append]
    have : stepE now x = some x := by unfold stepE; rw [if_pos ht]
    rw [List.filterMap_cons, this]; exact hR
theorem RtS.known (h : RtS w L now k A6 n6 c6 A7 n7 c7 A8 n8 c8 wr) (hk : L[k]? = some x) (ht : x.n.tk ≤ now) (hkn : x.n.kn = true) (hb : Below wr.heap.size wr w2) : RtS w L now (k + 1) A6 n6 c6 A7 n7 c7 A8 n8 c8 w2 := by
  have e1 : askF now x = false := by unfold askF; rw [hkn]; simp
  have e2 : lostF now x = false := by unfold lostF; rw [hkn]; simp
  refine ⟨h.bl.trans (hb.mono h.bl.size), ?_, ?_, ?_, h.ne⟩
  · rw [take_snoc hk]; unfold askL; rw [List.filter_append, List.filter_cons, if_neg (by rw [e1]; simp), List.filter_nil, List.append_nil]; exact Ow.stays h.as_ hb
  · rw [take_snoc hk]; unfold lostL; rw [List.filter_append, List.filter_cons, if_neg (by rw [e2]; simp), List.filter_nil, List.append_nil]; exact Ow.stays h.ls hb
  · rw [take_snoc hk, List.filterMap_append]
    have : stepE now x = none := by unfold stepE; rw [if_neg (by omega), if_pos hkn]
    rw [List.filterMap_cons, this, List.filterMap_nil, List.append_nil]; exact h.l.chg (Chg.of_below (F := fun _ => False) hb) (fun _ _ e => e)
theorem RtS.lost {A' : Option Addr} {c' : Nat} (h : RtS w L now k A6 n6 c6 A7 n7 c7 A8 n8 c8 wr) (hk : L[k]? = some x) (ht : x.n.tk ≤ now) (hkn : x.n.kn = false) (htr : 3 ≤ x.n.tr) (hb : Below wr.heap.size wr w2) {w3 : World} (hG : w2.grownBy w3 (blk A7)) (hO : OA w3 w.heap.size A' (n7 + 1) c' (lostL now (L.take k) ++ [x.a])) (hA : NewOr A7 A' w2.heap.size) :
    RtS w L now (k + 1) A6 n6 c6 A' (n7 + 1) c' A8 n8 c8 w3 := by
  have e1 : askF now x = false := by unfold askF; rw [decide_eq_false (show ¬ x.n.tr < 3 by omega)]; simp
  have e2 : lostF now x = true := by unfold lostF; rw [decide_eq_true ht, hkn, decide_eq_true htr]; rfl
  have h6 : OA w2 w.heap.size A6 n6 c6 (askL now (L.take k)) := Ow.stays h.as_ hb
  have h8 : Rs w2 w.heap.size A8 n8 c8 ((L.take k).filterMap (stepE now)) := h.l.chg (Chg.of_below (F := fun _ => False) hb) (fun _ _ e => e)
  refine ⟨Below.gr (h.bl.trans (hb.mono h.bl.size)) hG (fun b e => (Ow.lt h.ls b e).1), ?_, ?_, ?_, ?_⟩
  · rw [take_snoc hk]; unfold askL; rw [List.filter_append, List.filter_cons, if_neg (by rw [e1]; simp), List.filter_nil, List.append_nil]; exact Ow.kept h6 hG h.ne
  · rw [take_snoc hk]; unfold lostL; rw [List.filter_append, List.filter_cons, if_pos e2, List.map_append]; exact hO
  · rw [take_snoc hk, List.filterMap_append]
    have : stepE now x = none := by unfold stepE; rw [if_neg (by omega), if_neg (by rw [hkn]; simp), if_pos htr]
    rw [List.filterMap_cons, this, List.filterMap_nil, List.append_nil]
    exact h8.chg (Chg.of_grown (F := fun b => blk A7 = some b) hG (fun b e => e)) (fun b e1 e2 => by
      rcases rs_oa h.l h.ls with e | e
      · rw [e] at e1; cases e1
      · exact e (e1.trans e2.symm))
  · rcases hA with e | e
    · rw [e]; exact h.ne
    · cases h6b : blk A6 with
      | none => exact .inl rfl
      | some b =>
        refine .inr fun e3 => ?_
        have h1 := (Ow.lt h.as_ b h6b).2
        have h2 := e b e3.symm
        have h3 := hb.size
        omega
theorem RtS.again {A' A9 : Option Addr} {c' c9 : Nat} {y : En} (h : RtS w L now k A6 n6 c6 A7 n7 c7 A8 n8 c8 wr) (hk : L[k]? = some x) (ht : x.n.tk ≤ now) (hkn : x.n.kn = false) (htr : x.n.tr < 3) (hy : y = { x with n := stepN now x.n }) (hb : Below wr.heap.size wr w2)
    {w3 w4 w5 : World} (hG : w2.grownBy w3 (blk A6)) (hO : OA w3 w.heap.size A' (n6 + 1) c' (askL now (L.take k) ++ [x.a])) (hA : NewOr A6 A' w2.heap.size)
    (hb3 : Below w3.heap.size w3 w4) (hG4 : w4.grownBy w5 (blk A8)) (hR : Rs w5 w.heap.size A9 (n8 + 1) c9 ((L.take k).filterMap (stepE now) ++ [y])) :
    RtS w L now (k + 1) A' (n6 + 1) c' A7 n7 c7 A9 (n8 + 1) c9 w5 := by
  have e1 : askF now x = true := by unfold askF; rw [decide_eq_true ht, hkn, decide_eq_true htr]; rfl
  have e2 : lostF now x = false := by unfold lostF; rw [decide_eq_false (show ¬ 3 ≤ x.n.tr by omega)]; simp
  have h7 : OA w3 w.heap.size A7 n7 c7 (lostL now (L.take k)) := Ow.kept (Ow.stays h.ls hb) hG (ne_symm h.ne)
  have h8 : Rs w2 w.heap.size A8 n8 c8 ((L.take k).filterMap (stepE now)) := h.l.chg (Chg.of_below (F := fun _ => False) hb) (fun _ _ e => e)
  have h83 : Rs w3 w.heap.size A8 n8 c8 ((L.take k).filterMap (stepE now)) := h8.chg (Chg.of_grown (F := fun b => blk A6 = some b) hG (fun b e => e)) (fun b e1 e2 => by
      rcases rs_oa h.l h.as_ with e | e
      · rw [e] at e1; cases e1
      · exact e (e1.trans e2.symm))
  have h84 : Rs w4 w.heap.size A8 n8 c8 ((L.take k).filterMap (stepE now)) := h83.chg (Chg.of_below (F := fun _ => False) hb3) (fun _ _ e => e)
  have hO4 : OA w4 w.heap.size A' (n6 + 1) c' (askL now (L.take k) ++ [x.a]) := Ow.stays hO hb3
  have h74 : OA w4 w.heap.size A7 n7 c7 (lostL now (L.take k)) := Ow.stays h7 hb3
  have hbl : Below w.heap.size w w3 := Below.gr (h.bl.trans (hb.mono h.bl.size)) hG (fun b e => (Ow.lt h.as_ b e).1)
  refine ⟨Below.gr (hbl.trans (hb3.mono hbl.size)) hG4 (fun b e => (h.l.lt b e).1), ?_, ?_, ?_, ?_⟩
  · rw [take_snoc hk]; unfold askL; rw [List.filter_append, List.filter_cons, if_pos e1, List.map_append]; exact Ow.kept hO4 hG4 (ne_symm (rs_oa h84 hO4))
  · rw [take_snoc hk]; unfold lostL; rw [List.filter_append, List.filter_cons, if_neg (by rw [e2]; simp), List.filter_nil, List.append_nil]; exact Ow.kept h74 hG4 (ne_symm (rs_oa h84 h74))
  · rw [take_snoc hk, List.filterMap_append]
    have : stepE now x = some y := by unfold stepE; rw [if_neg (by omega), if_neg (by rw [hkn]; simp), if_neg (by omega), hy]
    rw [List.filterMap_cons, this]; exact hR
  · rcases hA with e | e
    · rw [e]; exact h.ne
    · cases h7b : blk A7 with
      | none => exact .inr (fun e3 => by
          have h9 := Ow.cases_ hO
          rcases h9 with ⟨_, h0, _⟩ | ⟨g, _, rfl, _⟩
          · omega
          · cases e3)
      | some b =>
        refine .inr fun e3 => ?_
        have h1 := (Ow.lt h.ls b h7b).2
        have h2 := e b e3
        have h3 := hb.size
        omega
end
theorem RtS.mid8 {w : World} {L : List En} {now : Int} {k : Nat} {A6 A7 A8 : Option Addr} {n6 c6 n7 c7 n8 c8 : Nat} {wr w2 w3 : World} (h : RtS w L now k A6 n6 c6 A7 n7 c7 A8 n8 c8 wr) (hb : Below wr.heap.size wr w2) (hG : w2.grownBy w3 (blk A6)) : Rs w3 w.heap.size A8 n8 c8 ((L.take k).filterMap (stepE now)) :=
  (h.l.chg (Chg.of_below (F := fun _ => False) hb) (fun _ _ e => e)).chg (Chg.of_grown (F := fun b => blk A6 = some b) hG (fun b e => e)) (fun b e1 e2 => by
      rcases rs_oa h.l h.as_ with e | e
      · rw [e] at e1; cases e1
      · exact e (e1.trans e2.symm))
def tried (x : En) : En := { x with n := { x.n with tr := x.n.tr + 1 } }
def again (now : Int) (x : En) : En := { x with n := stepN now x.n }
/-- What Tick of the reference's answers and leaves. -/
def RTickP (w : World) (q : Nat) (G : Nat → Prop) (A : Option Addr) (S : List En) (now : Int) (e : Ending) (w' : World) : Prop :=
  ∃ A1 n1 c1 A2 n2 c2 asks losts S', e = .returned (.tuple #[.slice A1 n1 c1, .slice A2 n2 c2]) ∧ OA w' 0 A1 n1 c1 asks ∧ OA w' 0 A2 n2 c2 losts ∧ asks.length ≤ 100 ∧ losts.length ≤ 100 ∧ TickT (absT S) now asks losts (absT S') ∧ RcTo w q G A S' w'
theorem abs_step (now : Int) (S : List En) : absT (S.filterMap (stepE now)) = (absT S).filterMap (stepT now) := by
  unfold absT
  rw [List.map_filterMap, List.filterMap_map]
  refine filterMap_congr_ fun x _ => ?_
  show Option.map _ (stepE now x) = stepT now (x.a, x.n)
  unfold stepE stepT
  split
  · rfl
  · split
    · rfl
    · split <;> rfl
theorem tick_T (now : Int) {S : List En} (hs : (S.map (·.a)).Pairwise (· < ·)) : TickT (absT S) now (askL now S) (lostL now S) (absT (S.filterMap (stepE now))) := by
  refine ⟨abs_step now S, ⟨hs.sublist (List.filter_sublist.map _), fun a => ?_⟩, ⟨hs.sublist (List.filter_sublist.map _), fun a => ?_⟩⟩
  · unfold askL
    rw [List.mem_map]
    constructor
    · rintro ⟨x, hx, rfl⟩
      obtain ⟨h1, h2⟩ := List.mem_filter.1 hx
      refine ⟨(x.a, x.n), List.mem_map.2 ⟨x, h1, rfl⟩, rfl, ?_⟩
      unfold askF at h2
      simp only [Bool.and_eq_true, decide_eq_true_eq, Bool.not_eq_true'] at h2
      exact ⟨h2.1.1, h2.1.2, h2.2⟩
    · rintro ⟨e, he, rfl, h1, h2, h3⟩
      obtain ⟨x, hx, rfl⟩ := List.mem_map.1 he
      refine ⟨x, List.mem_filter.2 ⟨hx, ?_⟩, rfl⟩
      unfold askF
      simp only [Bool.and_eq_true, decide_eq_true_eq, Bool.not_eq_true']
      exact ⟨⟨h1, h2⟩, h3⟩
  · unfold lostL
    rw [List.mem_map]
    constructor
    · rintro ⟨x, hx, rfl⟩
      obtain ⟨h1, h2⟩ := List.mem_filter.1 hx
      refine ⟨(x.a, x.n), List.mem_map.2 ⟨x, h1, rfl⟩, rfl, ?_⟩
      unfold lostF at h2
      simp only [Bool.and_eq_true, decide_eq_true_eq, Bool.not_eq_true'] at h2
      exact ⟨h2.1.1, h2.1.2, h2.2⟩
    · rintro ⟨e, he, rfl, h1, h2, h3⟩
      obtain ⟨x, hx, rfl⟩ := List.mem_map.1 he
      refine ⟨x, List.mem_filter.2 ⟨hx, ?_⟩, rfl⟩
      unfold lostF
      simp only [Bool.and_eq_true, decide_eq_true_eq, Bool.not_eq_true']
      exact ⟨⟨h1, h2⟩, h3⟩
set_option maxHeartbeats 4000000 in
set_option maxRecDepth 1000000 in
theorem rtick_any (q : Nat) (G : Nat → Prop) (A : Option Addr) (n c : Nat) (S : List En) (now : Int) (hnow : 0 ≤ now ∧ now ≤ 1099511627776) (w : World) (h : RcK w q G A n c S) (hn : n ≤ 16) :
    Calls Try.prog 46 #[.pointer (some ⟨q, 0, none⟩), .int .i64 now] w (RTickP w q G A S now) := by
  have hlen := h.len
  have HS := Lib.hid h
  have HLEN := Lib.hid hlen
  have hn0 : (0 : Int) ≤ (n : Int) := by omega
  have HLAT := Lib.hid (rlater_any now 10 hnow.1 hnow.2 (by omega))
  clear hlen h
  go_enter Try.func46, Try.ntmps46
  go_wp2_with fail
  go_loopw [6, 7, 8, 9, 10] (fun v6 v7 v8 v9 _ wr => ∃ k A6 n6 c6 A7 n7 c7 A8 n8 c8, k ≤ n ∧ v6 = .slice A6 n6 c6 ∧ v7 = .slice A7 n7 c7 ∧ v8 = .slice A8 n8 c8 ∧ v9 = .int .i64 (k : Nat) ∧ Hid (RtS w S now k A6 n6 c6 A7 n7 c7 A8 n8 c8 wr)) (fun _ _ _ v9 _ _ => n - (intOf v9).toNat)
  case atStart => exact ⟨0, none, 0, 0, none, 0, 0, none, 0, 0, Nat.zero_le _, rfl, rfl, rfl, rfl, Lib.hid ⟨Below.refl _ _, Ow.none_ _ _ _, Ow.none_ _ _ _, Rs.none_ _ _, .inl rfl⟩⟩
  case round =>
    obtain ⟨k, A6, n6, c6, A7, n7, c7, A8, n8, c8, hk, rfl, rfl, rfl, rfl, HR⟩ := hrel
    have HSR := Lib.hid (HS.out.below HR.out.bl)
    have c0 : wr.cell? ⟨q, 0, none⟩ = some (.slice A n c) := HSR.out.st.1.cell 0
    obtain ⟨hn6, hn7, hn8⟩ := HR.out.le6 (by have := HLEN.out; omega)
    have hzz := HR.out.bl.size
    rcases Nat.lt_or_ge k n with r | r
    · have t1 : decide ((k : Int) < (n : Int)) = true := decide_eq_true (by omega)
      have hki : (0 : Int) ≤ (k : Int) ∧ (k : Int) < (n : Int) := by omega
      obtain ⟨x, hx⟩ : ∃ x, S[k]? = some x := ⟨_, List.getElem?_eq_getElem (by have := HLEN.out; omega)⟩
      obtain ⟨g, rfl, _, hg, hcl⟩ := HSR.out.st.2.1.cell hx
      have HRG := Lib.hid (HSR.out.st.2.1.range hx)
      obtain ⟨xa, hxa⟩ : ∃ b, x.a = b := ⟨_, rfl⟩
      obtain ⟨kn, hkn⟩ : ∃ b, x.n.kn = b := ⟨_, rfl⟩
      obtain ⟨tk, htk⟩ : ∃ b, x.n.tk = b := ⟨_, rfl⟩
      obtain ⟨tr, htr⟩ : ∃ b, x.n.tr = b := ⟨_, rfl⟩
      have hbn := Bk.new wr 101 (nrC x).toArray
      have m0 : (wr.alloc (.cells (nrC x).toArray 101)).cell? ⟨wr.heap.size, 0, none⟩ = some (.int .u32 xa) := by rw [← hxa]; exact hbn.cell 0
      have m1 : (wr.alloc (.cells (nrC x).toArray 101)).cell? ⟨wr.heap.size, 1, none⟩ = some (.bool kn) := by rw [← hkn]; exact hbn.cell 1
      have m8 : (wr.alloc (.cells (nrC x).toArray 101)).cell? ⟨wr.heap.size, 8, none⟩ = some (.int .i64 tk) := by rw [← htk]; exact hbn.cell 8
      have m9 : (wr.alloc (.cells (nrC x).toArray 101)).cell? ⟨wr.heap.size, 9, none⟩ = some (.int .i64 tr) := by rw [← htr]; exact hbn.cell 9
      have f9 := hbn.frozen 9
      have HBN := Lib.hid hbn
      have HZA : Hid (wr.heap.size + 1 = (wr.alloc (.cells (nrC x).toArray 101)).heap.size) := Lib.hid (World.size_alloc _ _).symm
      have HRN := Lib.hid hbn.range
      have hbA : Below wr.heap.size wr (wr.alloc (.cells (nrC x).toArray 101)) := (Below.refl _ _).alloc (Nat.le_refl _) _
      have HBA := Lib.hid hbA
      have HX := Lib.hid (And.intro hx (And.intro hxa (And.intro hkn (And.intro htk htr))))
      have HOKX := Lib.hid (HS.out.ok x (List.mem_of_getElem? hx)).2.2.2
      have hz1 : w.heap.size ≤ (wr.alloc (.cells (nrC x).toArray 101)).heap.size := by rw [World.size_alloc]; omega
      clear hcl hx hxa hkn htk htr hbn hbA
      rcases Int.lt_or_le now tk with rk | rk
      · as_aux_lemma =>
        have t2 : decide (now < tk) = true := decide_eq_true rk
        have HK := Lib.hid rk
        have HR8 : Hid (Rs (wr.alloc (.cells (nrC x).toArray 101)) w.heap.size A8 n8 c8 ((S.take k).filterMap (stepE now))) := Lib.hid (HR.out.l.chg (Chg.of_below (F := fun _ => False) HBA.out) (fun _ _ e => e))
        clear rk m0 m1 m9 f9
        go_wp2_with (first
          | (refine ld_nr rfl (.tmp 25) rfl rfl x HRG.out ?_)
          | (refine st_nr_new rfl (.tmp 10) (.tmp 26) rfl rfl rfl rfl x rfl ?_)
          | (refine ld_nr rfl (.tmp 10) rfl rfl x HRN.out ?_)
          | (refine lit_nr rfl 32 rfl x rfl ?_)
          | (refine ap_nr rfl (.tmp 31) (.tmp 33) rfl w.heap.size rfl HR8.out x rfl (by omega) hz1 ?_; intro A2 c2 w2 hR2 hG2))
        have HN := Lib.hid (HR.out.stay HX.out.1 (by rw [HX.out.2.2.2.1]; exact HK.out) HBA.out hG2 hR2)
        clear hR2 hG2
        go_wp2_with fail
        go_roundw
        case rel => exact ⟨k + 1, A6, n6, c6, A7, n7, c7, A2, n8 + 1, c2, by omega, rfl, rfl, by go_num, by rw [Int.natCast_succ], HN⟩
        case measure => simp only [intOf]; omega
      · have t2 : decide (now < tk) = false := decide_eq_false (by omega)
        have HK := Lib.hid rk
        clear rk
        cases kn with
        | true =>
          as_aux_lemma =>
          clear m0 m9 f9
          go_wp2_with (first
            | (refine ld_nr rfl (.tmp 25) rfl rfl x HRG.out ?_)
            | (refine st_nr_new rfl (.tmp 10) (.tmp 26) rfl rfl rfl rfl x rfl ?_))
          have HN := Lib.hid (HR.out.known HX.out.1 (by rw [HX.out.2.2.2.1]; exact HK.out) HX.out.2.2.1 HBA.out)
          go_roundw
          case rel => exact ⟨k + 1, A6, n6, c6, A7, n7, c7, A8, n8, c8, by omega, rfl, rfl, rfl, by rw [Int.natCast_succ], HN⟩
          case measure => simp only [intOf]; omega
        | false =>
          rcases Int.lt_or_le tr 3 with rt | rt
          · as_aux_lemma =>
            have t3 : decide (3 ≤ tr) = false := decide_eq_false (by omega)
            have hok := HOKX.out
            rw [HX.out.2.2.2.2] at hok
            have htw : IntKind.i64.wrap (tr + 1) = tr + 1 := IntWalk.i64_in _ (by omega)
            have HTR := Lib.hid rt
            clear rt
            go_wp2_with (first
              | (refine ld_nr rfl (.tmp 25) rfl rfl x HRG.out ?_)
              | (refine st_nr_new rfl (.tmp 10) (.tmp 26) rfl rfl rfl rfl x rfl ?_))
            have e1 : (nrC x).set 9 (.int .i64 (tr + 1)) = nrC (tried x) := by rw [← HX.out.2.2.2.2]; rfl
            rw [e1]
            refine (HLAT.out _).mono ?_
            rintro e9 w9 ⟨rfl, rfl⟩
            have hbt := Bk.new wr 101 (nrC (tried x)).toArray
            have f8 := hbt.frozen 8
            have d8 : (wr.alloc (.cells (nrC (tried x)).toArray 101)).cell? ⟨wr.heap.size, 8, none⟩ = some (.int .i64 tk) := by rw [← HX.out.2.2.2.1]; exact hbt.cell 8
            clear hbt e1 m0 m1 m8 m9 f9
            go_upto_region 14 with (fail)
            have e2 : (nrC (tried x)).set 8 (.int .i64 (laterP now 10)) = nrC (again now x) := rfl
            have HEY := Lib.hid e2
            have hby := Bk.new wr 101 (nrC (again now x)).toArray
            have d0 : (wr.alloc (.cells (nrC (again now x)).toArray 101)).cell? ⟨wr.heap.size, 0, none⟩ = some (.int .u32 xa) := by rw [← HX.out.2.1]; exact hby.cell 0
            have HBY := Lib.hid hby
            have HBAY : Hid (Below wr.heap.size wr (wr.alloc (.cells (nrC (again now x)).toArray 101))) := Lib.hid ((Below.refl _ _).alloc (Nat.le_refl _) _)
            have HZY : Hid (wr.heap.size + 1 = (wr.alloc (.cells (nrC (again now x)).toArray 101)).heap.size) := Lib.hid (World.size_alloc _ _).symm
            have HO6 : Hid (OA (wr.alloc (.cells (nrC (again now x)).toArray 101)) w.heap.size A6 n6 c6 (askL now (S.take k))) := Lib.hid (Ow.stays HR.out.as_ HBAY.out)
            have hz2 : w.heap.size ≤ (wr.alloc (.cells (nrC (again now x)).toArray 101)).heap.size := by have := HZY.out; omega
            clear e2 f8 d8 hby
            rw [HEY.out]
            go_wp2_with (first
              | (at_builtin; refine ap32_one rfl (.tmp 52) (.tmp 55) rfl w.heap.size rfl HO6.out xa (wr.heap.size + 1) HZY.out rfl (by omega) hz2 ?_; intro A3 c3 w3 hO3 hg3 hA3; have HO3 := Lib.hid hO3; have HG3 := Lib.hid hg3; have HA3 := Lib.hid hA3; have HR8 := Lib.hid (HR.out.mid8 HBAY.out hg3); have HRY := Lib.hid (Bk.range (HBY.out.grown hg3 (fun e => by have := (Ow.lt HR.out.as_ _ e.symm).2; omega))); have hz3 : w.heap.size ≤ w3.heap.size := Nat.le_trans hz2 hg3.size; clear hO3 hg3 hA3)
              | (refine ld_nr rfl (.tmp 10) rfl rfl (again now x) HRY.out ?_)
              | (refine lit_nr rfl 58 rfl (again now x) rfl ?_)
              | (refine ap_nr rfl (.tmp 57) (.tmp 59) rfl w.heap.size rfl HR8.out (again now x) rfl (by omega) hz3 ?_; intro A9 c9 w9 hR9 hG9))
            have HN := Lib.hid (HR.out.again HX.out.1 (by rw [HX.out.2.2.2.1]; exact HK.out) HX.out.2.2.1 (by rw [HX.out.2.2.2.2]; exact HTR.out) rfl HBAY.out HG3.out (by rw [HX.out.2.1]; exact HO3.out) HA3.out (Below.refl _ _) hG9 hR9)
            clear hR9 hG9
            go_wp2_with fail
            go_roundw
            case rel => exact ⟨k + 1, A3, n6 + 1, c3, A7, n7, c7, A9, n8 + 1, c9, by omega, by go_num, rfl, by go_num, by rw [Int.natCast_succ], HN⟩
            case measure => simp only [intOf]; omega
          · as_aux_lemma =>
            have t3 : decide (3 ≤ tr) = true := decide_eq_true rt
            have HTR := Lib.hid rt
            have HO7 : Hid (OA (wr.alloc (.cells (nrC x).toArray 101)) w.heap.size A7 n7 c7 (lostL now (S.take k))) := Lib.hid (Ow.stays HR.out.ls HBA.out)
            clear rt f9
            go_wp2_with (first
              | (refine ld_nr rfl (.tmp 25) rfl rfl x HRG.out ?_)
              | (refine st_nr_new rfl (.tmp 10) (.tmp 26) rfl rfl rfl rfl x rfl ?_)
              | (at_builtin; refine ap32_one rfl (.tmp 40) (.tmp 43) rfl w.heap.size rfl HO7.out xa (wr.heap.size + 1) HZA.out rfl (by omega) hz1 ?_; intro A3 c3 w3 hO3 hg3 hA3))
            have HN := Lib.hid (HR.out.lost HX.out.1 (by rw [HX.out.2.2.2.1]; exact HK.out) HX.out.2.2.1 (by rw [HX.out.2.2.2.2]; exact HTR.out) HBA.out hg3 (by rw [HX.out.2.1]; exact hO3) hA3)
            clear hO3 hg3 hA3
            go_wp2_with fail
            go_roundw
            case rel => exact ⟨k + 1, A6, n6, c6, A3, n7 + 1, c3, A8, n8, c8, by omega, rfl, by go_num, rfl, by rw [Int.natCast_succ], HN⟩
            case measure => simp only [intOf]; omega
    · obtain rfl : k = n := by omega
      have t1 : decide ((k : Int) < (k : Int)) = false := decide_eq_false (by omega)
      have hfq : wr.frozen? ⟨q, 0, none⟩ = false := HSR.out.st.1.frozen 0
      go_wp2_with fail
      go_ret2
      have hlk : S.take k = S := List.take_of_length_le (by rw [HLEN.out]; exact Nat.le_refl _)
      have h6 := HR.out.as_
      have h7 := HR.out.ls
      have h8 := HR.out.l
      rw [hlk] at h6 h7 h8
      have hql : q < w.heap.size := HS.out.st.1.lt
      have hc : Chg (fun b => b = q) wr (wr.setCell ⟨q, 0, none⟩ (.slice A8 n8 c8)) := (Chg.refl (fun b => b = q) wr).setCell (p := ⟨q, 0, none⟩) (.inl rfl) _
      have hA8 : ∀ b, blk A8 = some b → w.heap.size ≤ b := fun b hb => (h8.lt b hb).1
      have hkept : ∀ {B : Option Addr} {m d : Nat} {l : List Int}, OA wr w.heap.size B m d l → OA (wr.setCell ⟨q, 0, none⟩ (.slice A8 n8 c8)) 0 B m d l := fun {B m d l} h => Ow.mono (Ow.kept (row := some q) h ⟨hc.os, hc.tape, hc.output, hc.size, fun x hx hne => hc.block x hx (fun e0 => hne (by rw [e0]))⟩ (by
        cases hB : blk B with
        | none => exact .inl rfl
        | some b => exact .inr (fun e => by have h1 := (Ow.lt h b hB).1; injection e with e; omega))) (Nat.zero_le _)
      have hla : (askL now S).length ≤ 100 := by have := OA.len h6; omega
      have hlb : (lostL now S).length ≤ 100 := by have := OA.len h7; omega
      refine ⟨A6, n6, c6, A7, n7, c7, _, _, S.filterMap (stepE now), rfl, hkept h6, hkept h7, hla, hlb, tick_T now HS.out.so, G, A8, n8, c8, ⟨⟨HSR.out.st.1.set 0 _, (h8.mono (Nat.zero_le _)).chg hc (fun b hb e => ?_), fun e => ?_⟩, fun y hy => ?_, HS.out.nq, fun b hb hg => ?_, fun b hb => Nat.lt_of_lt_of_le (HSR.out.lt b hb) hc.size, ?_⟩, fun b hb => .inl hb, fun b hb => .inr (hA8 b hb), (Chg.of_below (F := fun _ => False) HR.out.bl |>.mono (fun _ _ e => e.elim)).trans hc (fun b e => .inl (.inl e))⟩
      · have h1 := hA8 b hb
        have h2 : b = q := e
        omega
      · have h1 := hA8 q e; omega
      · obtain ⟨x, hx, hxy⟩ := List.mem_filterMap.1 hy
        have hk := (HSR.out.ok x hx).chg hc (fun b hb e => HS.out.nq (e ▸ hb))
        unfold stepE at hxy
        split at hxy
        · injection hxy with hxy; subst hxy; exact hk
        · split at hxy
          · cases hxy
          · split at hxy
            · cases hxy
            · injection hxy with hxy
              subst hxy
              obtain ⟨a1, a2, a3, a4, a5, a6⟩ := hk
              exact ⟨a1, a2, a3, a4, show (0 : Int) ≤ x.n.tr + 1 by omega, show x.n.tr + 1 ≤ 3 by omega⟩
      · have h1 := hA8 b hb
        have h2 := HS.out.lt b hg; omega
      · have hso := HS.out.so
        have : ∀ (L : List En), (L.map (·.a)).Pairwise (· < ·) → ((L.filterMap (stepE now)).map (·.a)).Pairwise (· < ·) := fun L hL => by
          have hsub : ((L.filterMap (stepE now)).map (·.a)).Sublist (L.map (·.a)) := by
            clear hL
            induction L with
            | nil => exact List.Sublist.refl _
            | cons z r ih =>
              rw [List.filterMap_cons]
              cases hz : stepE now z with
              | none => exact ih.cons _
              | some y =>
                have := (stepE_a hz).1
                show List.Sublist (y.a :: (r.filterMap (stepE now)).map (·.a)) (z.a :: r.map (·.a))
                rw [this]
                exact ih.cons_cons _
          exact hL.sublist hsub
        exact this S hso
end Go.Proofs.Ytocigdkndlmikaa
