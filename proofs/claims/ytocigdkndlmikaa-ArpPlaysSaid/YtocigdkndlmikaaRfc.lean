/- Proved: the reference's Cache in memory with the packets that wait at its neighbours: what keeps it; rows of neighbours that grow. Conditions: as each law says. -/
import Derived.Test.YtocigdkndlmikaaRfd
import Derived.Test.YtocigdkndlmikaaTick
import Derived.Test.YtocigdkndlmikaaSameRows
set_option linter.unusedVariables false
set_option linter.unusedSimpArgs false
namespace Go.Proofs.Ytocigdkndlmikaa
open Go.RowKit
theorem ra_fill (y : En) : Instr.fill (fun i => some (i * 11, 11)) ((Array.range (1 * 11)).map (zeroNr.cells[· % zeroNr.cells.size]!)) [(0, .agg (nrC y).toArray)] = some (nrC y).toArray := by kernel_rfl
theorem ra_lit {o : Oper} {a : Act} {w : World} {K : Act → World → Prop} {Q : Exit → Act → World → Prop} (t : Nat) (y : En) (ho : o.op = .buildSlice 61 1 #[(0, .tmp t)]) (he : a.eval (.tmp t) = .agg (nrC y).toArray)
    (h : K (a.put o.dst (.slice (some ⟨w.heap.size, 0, none⟩) 1 1)) (w.alloc (.cells (nrC y).toArray 101))) : o.wp Try.prog a w K Q := by
  obtain ⟨ie, i1, i2, i3, i4⟩ := info_nr
  refine wp_buildSlice 61 101 1 _ ho (nrC y).toArray ie zeroNr Try.underlying61 i1 i2 (by rw [i3]; decide) (by rw [i3]; decide) ?_ h
  simp only [List.map_toArray, List.map_cons, List.map_nil, he, i3]
  exact ra_fill y
section
variable {ops : Array Oper} {rest : List Oper} {o : Oper} {a : Act} {w : World} {Q : Exit → Act → World → Prop}
/-- A row with one neighbour. -/
theorem lit_nr (hgd : o.guard = none) (t : Nat) (ho : o.op = .buildSlice 61 1 #[(0, .tmp t)]) (y : En) (he : a.eval (.tmp t) = .agg (nrC y).toArray)
    (h : wpList Try.prog ops Q rest (a.put o.dst (.slice (some ⟨w.heap.size, 0, none⟩) 1 1)) (w.alloc (.cells (nrC y).toArray 101))) : wpList Try.prog ops Q (o :: rest) a w :=
  wpList_plain hgd fun _ hK => ra_lit t y ho he (hK _ _ h)
/-- One neighbour more. -/
theorem ap_nr (hgd : o.guard = none) (s x : Operand)
    (ho : o.op = .call { callee := .builtin .append, args := #[s, x], argTypes := #[61, 61] })
    (base : Nat) {A : Option Addr} {n c : Nat} {L : List En} (hs : a.eval s = .slice A n c) (hown : Rs w base A n c L)
    (y : En) (hx : a.eval x = .slice (some ⟨w.heap.size, 0, none⟩) 1 1) (hsz : n ≤ 100000) (hbase : base ≤ w.heap.size)
    (h : ∀ A' c' w', Rs w' base A' (n + 1) c' (L ++ [y]) → w.grownBy w' (blk A) → wpList Try.prog ops Q rest (a.put o.dst (.slice A' (n + 1) c')) w') :
    wpList Try.prog ops Q (o :: rest) a (w.alloc (.cells (nrC y).toArray 101)) := by
  obtain ⟨i, h1, h2, h3, h4⟩ := info_nr
  refine wpList_append_own (w.alloc (.cells (nrC y).toArray 101)) hgd s x 61 ho base 101 i _ 11 56 Try.underlying61 h1 h2 h3 h4 rfl (by omega)
    (.slice A n c) n (nrsC L) hs (World.ownsRow.alloc hown _) ⟨w.heap.size, 0, none⟩ 1 1 (nrC y) hx (by rw [nrC_len]) (fun j u hu => ?_) (nrC_one y) (by unfold maxLen; omega) (by omega) (by rw [World.size_alloc]; omega) fun v' w' q1 q2 _ => ?_
  · rw [add_eq, Nat.zero_add]
    have := (Bk.new w 101 (nrC y).toArray).cell j
    rw [this]; simpa using hu
  · have q1' : w'.ownsRow base 101 11 v' (n + 1) (nrsC (L ++ [y])) := by
      have e : nrsC L ++ nrC y = nrsC (L ++ [y]) := by rw [nrsC_append]; simp [nrsC]
      rw [← e]; exact q1
    have q2' : w.grownBy w' (blk A) := by
      have := (World.grownBy_alloc w (.cells (nrC y).toArray 101) _).trans q2
      rwa [ownBlock_slice] at this
    rcases q1'.2 with ⟨h5, h6⟩ | ⟨g, cap, cur, h5, h6⟩
    · omega
    · subst h5
      exact h _ _ _ q1' q2'
end
/-- One of the reference's neighbours stands whole. -/
def NrOk (w : World) (G : Nat → Prop) (e : En) : Prop :=
  (∃ vs, Of 27 w 0 e.A e.k e.c vs ∧ RowsAt w G vs e.n.ws) ∧ (∀ b, blk e.A = some b → G b) ∧ e.n.ws.length ≤ 3 ∧ okA e.a ∧ 0 ≤ e.n.tr ∧ e.n.tr ≤ 3
theorem NrOk.keep {w w' : World} {G G' : Nat → Prop} {e : En} (h : NrOk w G e) (hk : ∀ b, G b → b < w.heap.size → w'.heap[b]? = w.heap[b]?) (hG : ∀ b, G b → G' b) : NrOk w' G' e := by
  obtain ⟨⟨vs, h1, h2⟩, h3, h4⟩ := h
  exact ⟨⟨vs, h1.of_block (fun g hg => hk g (h3 g hg) (h1.lt g hg).2), h2.keep hk hG⟩, fun b hb => hG b (h3 b hb), h4⟩
theorem NrOk.chg {w w' : World} {F G : Nat → Prop} {e : En} (h : NrOk w G e) (hc : Chg F w w') (hF : ∀ b, G b → ¬ F b) : NrOk w' G e :=
  h.keep (fun b hb hl => hc.block b hl (hF b hb)) (fun _ h => h)
/-- The reference's Cache: its block q, its row, the packets that wait (in blocks of G). -/
structure RcK (w : World) (q : Nat) (G : Nat → Prop) (A : Option Addr) (n c : Nat) (S : List En) : Prop where
  st : RcS w q A n c S
  ok : ∀ e ∈ S, NrOk w G e
  nq : ¬ G q
  na : ∀ b, blk A = some b → ¬ G b
  lt : ∀ b, G b → b < w.heap.size
  so : (S.map (·.a)).Pairwise (· < ·)
/-- The Cache's own blocks. -/
def ownC (q : Nat) (A : Option Addr) (b : Nat) : Prop := b = q ∨ blk A = some b
section
variable {w w' : World} {q : Nat} {F G : Nat → Prop} {A : Option Addr} {n c : Nat} {S : List En}
theorem RcS.chg (h : RcS w q A n c S) (hc : Chg F w w') (hF : ∀ b, ownC q A b → ¬ F b) : RcS w' q A n c S :=
  ⟨h.1.chg hc (hF q (.inl rfl)), h.2.1.chg hc (fun b hb => hF b (.inr hb)), h.2.2⟩
theorem RcK.chg (h : RcK w q G A n c S) (hc : Chg F w w') (hF : ∀ b, ownC q A b ∨ G b → ¬ F b) : RcK w' q G A n c S :=
  ⟨h.st.chg hc (fun b hb => hF b (.inl hb)), fun x hx => (h.ok x hx).chg hc (fun b hb => hF b (.inr hb)), h.nq, h.na, fun b hb => Nat.lt_of_lt_of_le (h.lt b hb) hc.size, h.so⟩
theorem RcK.below (h : RcK w q G A n c S) (hb : Below w.heap.size w w') : RcK w' q G A n c S :=
  h.chg (Chg.of_below (F := fun _ => False) hb) (fun _ _ e => e)
theorem RcK.drewN (h : RcK w q G A n c S) (k : Nat) : RcK (w.drewN k) q G A n c S :=
  h.chg ((Chg.refl (fun _ => False) w).drewN k) (fun _ _ e => e)
theorem RcK.olt (h : RcK w q G A n c S) : ∀ b, ownC q A b → b < w.heap.size := fun b hb => by
  rcases hb with rfl | hb
  · exact h.st.1.lt
  · exact (h.st.2.1.lt b hb).2
theorem RcK.len (h : RcK w q G A n c S) : S.length = n := h.st.2.1.len
end
/-- What a call of the reference's leaves: a Cache with these neighbours, in blocks of its own. -/
def RcTo (w : World) (q : Nat) (G : Nat → Prop) (A : Option Addr) (S' : List En) (w' : World) : Prop :=
  ∃ G' A' n' c', RcK w' q G' A' n' c' S' ∧ (∀ b, G' b → G b ∨ w.heap.size ≤ b) ∧ (∀ b, blk A' = some b → blk A = some b ∨ w.heap.size ≤ b) ∧ Chg (ownC q A) w w'
theorem ownC_q {q : Nat} {A : Option Addr} {b : Nat} (h : b = q) : ownC q A b := .inl h
/-- One goes. -/
theorem cdrop {w : World} {q : Nat} {G : Nat → Prop} {A : Option Addr} {n c : Nat} {S : List En} (h : RcK w q G A n c S) (hn : n ≤ 1000) (i : Nat) (hi : i < n) :
    Calls Try.prog 53 #[.pointer (some ⟨q, 0, none⟩), .int .i64 i] w fun e w' => e = .returned (.tuple #[]) ∧ ∃ A' n' c', RcK w' q G A' n' c' (S.take i ++ S.drop (i + 1)) ∧ Chg (fun b => b = q) w w' ∧ ∀ b, blk A' = some b → w.heap.size ≤ b := by
  obtain ⟨x, hx⟩ : ∃ x, S[i]? = some x := ⟨_, List.getElem?_eq_getElem (by have := h.len; omega)⟩
  obtain ⟨g, rfl, _⟩ := h.st.2.1.cell hx
  refine (drop_st q g n c i S w h.st hn hi).mono ?_
  rintro e w' ⟨rfl, A', n', c', h1, h2, h3⟩
  refine ⟨rfl, A', n', c', ⟨h1, fun y hy => ?_, h.nq, fun b hb hg => by have := h3 b hb; have := h.lt b hg; omega, fun b hb => Nat.lt_of_lt_of_le (h.lt b hb) h2.size, ?_⟩, h2, h3⟩
  · have hy' : y ∈ S := by
      rcases List.mem_append.1 hy with q | q
      · exact List.mem_of_mem_take q
      · exact List.mem_of_mem_drop q
    exact (h.ok y hy').chg h2 (fun b hb e => h.nq (e ▸ hb))
  · have hs := h.so
    have hsub : (S.take i ++ S.drop (i + 1)).Sublist S := by
      have e : S = S.take i ++ S.drop i := (List.take_append_drop i S).symm
      have h5 : (S.drop (i + 1)).Sublist (S.drop i) := by rw [← List.drop_drop]; exact List.drop_sublist _ _
      have h6 := List.Sublist.append (List.Sublist.refl (S.take i)) h5
      rw [← e] at h6
      exact h6
    exact hs.sublist (hsub.map _)
end Go.Proofs.Ytocigdkndlmikaa
