/- Proved: rows of spans: what they hold, what keeps them, one that is stored, one more. Conditions: as each law says. -/
import Derived.Test.YtcjkhonapafndaaRows
import Derived.Test.YtcjkhonapafndaaChg
set_option linter.unusedVariables false
set_option linter.unusedSimpArgs false
namespace Go.Proofs.Ytcjkhonapafndaa
open Go.RowKit

def tmC (t : Int × Int) : List Value := [.int .i64 t.1, .int .i64 t.2]
def tmsC (S : List (Int × Int)) : List Value := S.flatMap tmC
theorem tmsC_len (S : List (Int × Int)) : (tmsC S).length = S.length * 2 := by
  unfold tmsC
  induction S with
  | nil => rfl
  | cons x r ih => rw [List.flatMap_cons, List.length_append, ih]; simp [tmC]; omega
theorem tmsC_cons (t : Int × Int) (S : List (Int × Int)) : tmsC (t :: S) = .int .i64 t.1 :: .int .i64 t.2 :: tmsC S := rfl
theorem tmsC_get : ∀ (S : List (Int × Int)) (k : Nat) (t : Int × Int), S[k]? = some t → (tmsC S)[k * 2]? = some (.int .i64 t.1) ∧ (tmsC S)[k * 2 + 1]? = some (.int .i64 t.2)
  | [], k, t, h => by simp at h
  | y :: r, 0, t, h => by
    simp at h; subst h
    exact ⟨rfl, rfl⟩
  | y :: r, k + 1, t, h => by
    simp at h
    have := tmsC_get r k t h
    rw [tmsC_cons, show (k + 1) * 2 = k * 2 + 1 + 1 by omega, show k * 2 + 1 + 1 + 1 = (k * 2 + 1) + 1 + 1 by omega]
    simpa using this
theorem tmsC_append (S T : List (Int × Int)) : tmsC (S ++ T) = tmsC S ++ tmsC T := by unfold tmsC; rw [List.flatMap_append]
theorem tmsC_take : ∀ (S : List (Int × Int)) (k : Nat), tmsC (S.take k) = (tmsC S).take (k * 2)
  | [], k => by simp [tmsC]
  | t :: r, 0 => by simp [tmsC]
  | t :: r, k + 1 => by
    rw [List.take_succ_cons, tmsC_cons, tmsC_cons, tmsC_take r k, show (k + 1) * 2 = k * 2 + 1 + 1 by omega, List.take_succ_cons, List.take_succ_cons]
theorem tmsC_set : ∀ (S : List (Int × Int)) (k : Nat) (t : Int × Int), tmsC (S.set k t) = ((tmsC S).set (k * 2) (.int .i64 t.1)).set (k * 2 + 1) (.int .i64 t.2)
  | [], k, t => by simp [tmsC]
  | y :: r, 0, t => by rw [List.set_cons_zero, tmsC_cons, tmsC_cons]; rfl
  | y :: r, k + 1, t => by
    rw [List.set_cons_succ, tmsC_cons, tmsC_cons, tmsC_set r k t, show (k + 1) * 2 = k * 2 + 1 + 1 by omega]
    rfl
/-- A row of timers of the call's own. -/
def Tm (E : TypeId) (w : World) (base : Nat) (A : Option Addr) (n c : Nat) (S : List (Int × Int)) : Prop := w.ownsRow base E 2 (.slice A n c) n (tmsC S)
section
variable {E : TypeId} {w w' : World} {base : Nat} {A : Option Addr} {n c : Nat} {S : List (Int × Int)}
theorem Tm.none_ (E : TypeId) (w : World) (base : Nat) : Tm E w base none 0 0 [] := World.ownsRow_nil w base E 2
theorem Tm.len (h : Tm E w base A n c S) : S.length = n := by
  have h1 := h.1
  rw [tmsC_len] at h1; omega
theorem Tm.cases_ (h : Tm E w base A n c S) : (A = none ∧ n = 0 ∧ c = 0 ∧ S = []) ∨ ∃ g cur, A = some ⟨g, 0, none⟩ ∧ base ≤ g ∧ w.heap[g]? = some (.cells cur E (0, 0)) ∧ n ≤ c ∧ c ≤ maxLen ∧ cur.size = c * 2 ∧ cur.toList.take (n * 2) = tmsC S := by
  have hl := h.len
  rcases h.2 with ⟨h1, h2⟩ | ⟨g, cap, cur, h1, h2, h3, h4, h5, h6, h7⟩
  · injection h1 with a b d
    exact .inl ⟨a, b, d, List.eq_nil_of_length_eq_zero (by omega)⟩
  · injection h1 with a b d
    subst a; subst d
    exact .inr ⟨g, cur, rfl, h2, h3, h4, h5, h6, h7⟩
theorem Tm.cap (h : Tm E w base A n c S) : n ≤ c := by
  rcases h.cases_ with ⟨_, rfl, rfl, _⟩ | ⟨_, _, _, _, _, h1, _⟩
  · exact Nat.le_refl _
  · exact h1
theorem Tm.lt (h : Tm E w base A n c S) : ∀ g, blk A = some g → base ≤ g ∧ g < w.heap.size := fun g hg => World.ownsRow.lt h g (by rw [ownBlock_slice]; exact hg)
theorem Tm.kept {row : Option Nat} (h : Tm E w base A n c S) (hg : w.grownBy w' row) (hne : blk A = none ∨ blk A ≠ row) : Tm E w' base A n c S :=
  World.ownsRow.kept h hg (by rw [ownBlock_slice]; exact hne)
theorem Tm.of_block (h : Tm E w base A n c S) (hb : ∀ g, blk A = some g → w'.heap[g]? = w.heap[g]?) : Tm E w' base A n c S := by
  refine ⟨h.1, ?_⟩
  rcases h.2 with h1 | ⟨g, cap, cur, h1, h2, h3, h4⟩
  · exact .inl h1
  · have a := (Value.slice.inj h1).1
    exact .inr ⟨g, cap, cur, h1, h2, (hb g (by rw [a]; rfl)).trans h3, h4⟩
theorem Tm.alloc (h : Tm E w base A n c S) (o : Obj) : Tm E (w.alloc o) base A n c S := World.ownsRow.alloc h o
theorem Tm.drewN (h : Tm E w base A n c S) (k : Nat) : Tm E (w.drewN k) base A n c S := h
theorem Tm.drew (h : Tm E w base A n c S) : Tm E w.drew base A n c S := h
theorem Tm.mono {base' : Nat} (h : Tm E w base A n c S) (hb : base' ≤ base) : Tm E w base' A n c S := by
  refine ⟨h.1, ?_⟩
  rcases h.2 with h1 | ⟨g, cap, cur, h1, h2, h3⟩
  · exact .inl h1
  · exact .inr ⟨g, cap, cur, h1, by omega, h3⟩
theorem Tm.stays (h : Tm E w base A n c S) (hb : Below w.heap.size w w') : Tm E w' base A n c S := h.of_block fun g hg => hb.block g (h.lt g hg).2
theorem Tm.chg {F : Nat → Prop} (h : Tm E w base A n c S) (hc : Chg F w w') (hF : ∀ g, blk A = some g → ¬ F g) : Tm E w' base A n c S := h.of_block fun g hg => hc.block g (h.lt g hg).2 (hF g hg)
theorem Tm.cell (h : Tm E w base A n c S) {k : Nat} {t : Int × Int} (hk : S[k]? = some t) :
    ∃ g, A = some ⟨g, 0, none⟩ ∧ base ≤ g ∧ g < w.heap.size ∧ w.cell? ⟨g, k * 2, none⟩ = some (.int .i64 t.1) ∧ w.cell? ⟨g, k * 2 + 1, none⟩ = some (.int .i64 t.2) ∧ w.frozen? ⟨g, k * 2, none⟩ = false ∧ w.frozen? ⟨g, k * 2 + 1, none⟩ = false := by
  have hl := h.len
  have hkl := (List.getElem?_eq_some_iff.1 hk).1
  rcases h.cases_ with ⟨_, _, _, rfl⟩ | ⟨g, cur, rfl, h1, h2, h3, h4, h5, h6⟩
  · simp at hk
  · obtain ⟨e1, e2⟩ := tmsC_get S k t hk
    rw [← h6, List.getElem?_take, if_pos (by omega)] at e1 e2
    refine ⟨g, rfl, h1, (Array.getElem?_eq_some_iff.1 h2).1, ?_, ?_, by simp [World.frozen?, h2], by simp [World.frozen?, h2]⟩
    · rw [cell_of_row w g (k * 2) cur E (0, 0) h2]; simpa using e1
    · rw [cell_of_row w g (k * 2 + 1) cur E (0, 0) h2]; simpa using e2
theorem Tm.set {g : Nat} (h : Tm E w base (some ⟨g, 0, none⟩) n c S) {k : Nat} (hk : k < n) (t : Int × Int) : Tm E ((w.setCell ⟨g, k * 2, none⟩ (.int .i64 t.1)).setCell ⟨g, k * 2 + 1, none⟩ (.int .i64 t.2)) base (some ⟨g, 0, none⟩) n c (S.set k t) := by
  rcases h.cases_ with ⟨h1, _⟩ | ⟨g', cur, h0, hb, hh, hnc, hcm, hcs, ht⟩
  · cases h1
  · injection h0 with h0
    injection h0 with h0
    subst h0
    refine ⟨by rw [tmsC_len, List.length_set, h.len], .inr ⟨g, c, (cur.setIfInBounds (k * 2) (.int .i64 t.1)).setIfInBounds (k * 2 + 1) (.int .i64 t.2), rfl, hb, ?_, hnc, hcm, by simp [hcs], ?_⟩⟩
    · simp [World.setCell, Array.getElem?_modify, hh]
    · rw [Array.toList_setIfInBounds, Array.toList_setIfInBounds, tmsC_set, ← ht, List.take_set, List.take_set]
theorem Tm.take {m : Nat} (h : Tm E w base A n c S) (hm : m ≤ n) : Tm E w base A m c (S.take m) := by
  rcases h.cases_ with ⟨rfl, rfl, rfl, rfl⟩ | ⟨g, cur, rfl, hb, hh, hnc, hcm, hcs, ht⟩
  · obtain rfl : m = 0 := by omega
    exact Tm.none_ E w base
  · refine ⟨by rw [tmsC_len, List.length_take, h.len]; congr 1; omega, .inr ⟨g, c, cur, rfl, hb, hh, by omega, hcm, by omega, ?_⟩⟩
    rw [tmsC_take, ← ht, List.take_take, Nat.min_eq_left (by omega)]
end
/-- Append to a row of the call's own, and where the row lies then. -/
theorem run_append_at {P : Program} (w : World) (base : Nat) (t ty e : TypeId) (i : TypeInfo) (z : Value) (size bytes : Nat) (ht : P.underlying t = some (.slice e)) (hi : P.info? e = some i) (hz : i.zero = some z)
    (hsize : i.size = size) (hby : i.bytes = bytes) (hzs : z.cells.size = size) (hsz : 0 < size)
    (A : Option Addr) (n cp : Nat) (xs : List Value) (hown : w.ownsRow base e size (.slice A n cp) n xs)
    (a : Addr) (m c : Nat) (news : List Value) (hl : news.length = m * size) (hnews : ∀ j u, news[j]? = some u → w.cell? (a.add j) = some u) (h1 : ∀ u ∈ news, u.oneCell' = true)
    (hm0 : 0 < m) (h63 : n + m ≤ maxLen) (hbytes : (n + m) * bytes ≤ 140737488355328) (hbase : base ≤ w.heap.size) :
    ∃ g' c' w', (Builtin.append_ #[t, t] ty #[.slice A n cp, .slice (some a) m c]).run P w = .ok (.slice (some ⟨g', 0, none⟩) (n + m) c') w' ∧ w'.ownsRow base e size (.slice (some ⟨g', 0, none⟩) (n + m) c') (n + m) (xs ++ news) ∧ w.grownBy w' (blk A) ∧
      (blk A = some g' ∨ g' = w.heap.size) := by
  obtain ⟨v', w', hrun, h2, h3, _⟩ := run_append_own (P := P) w base t ty e i z size bytes ht hi hz hsize hby hzs hsz (.slice A n cp) n xs hown a m c news hl hnews h1 h63 hbytes hbase
  rw [ownBlock_slice] at h3
  have hsmall : n + m ≤ 9223372036854775807 := by simp only [maxLen] at h63; omega
  subst hsize; subst hby
  rcases hown.2 with ⟨e1, rfl⟩ | ⟨g, cap, cur, e1, hbg, hg, hnc, hcm, hcs, htake⟩
  · injection e1 with ea eb ec
    subst ea; subst ec
    have hr := run_append_nil (P := P) w t ty e i z ht hi hz a m c news hl hnews hm0 (by omega) (by have hb := hbytes; simp only [Nat.zero_add] at hb; omega)
    rw [hrun] at hr
    injection hr with hv hw
    subst hv
    exact ⟨w.heap.size, grownCap w m 0 e, w', by rw [hrun]; simp, by simpa using h2, h3, .inr rfl⟩
  · injection e1 with ea eb ec
    subst ea; subst ec
    by_cases hroom : n + m ≤ cp
    · have hfit : n * i.size + news.length ≤ cur.size := by rw [hl, hcs, ← Nat.add_mul]; exact Nat.mul_le_mul_right _ hroom
      have hr := run_append_room (P := P) w t ty e i ht hi g n cp cur hg a m c news hl hnews h1 hroom hfit
      rw [hrun] at hr
      injection hr with hv hw
      subst hv
      exact ⟨_, _, w', hrun, h2, h3, .inl rfl⟩
    · have holds : ∀ j u, xs[j]? = some u → w.cell? ((⟨g, 0, none⟩ : Addr).add j) = some u := hown.cells (g := g) rfl
      have hr := run_append_grow (P := P) w t ty e i z ht hi hz ⟨g, 0, none⟩ n cp xs hown.1 holds a m c news hl hnews (by omega) (by omega) (growslice_fits (by omega) hbytes)
      rw [hrun] at hr
      injection hr with hv hw
      subst hv
      exact ⟨_, _, w', hrun, h2, h3, .inr rfl⟩
theorem info_tm : ∃ i, Try.prog.info? 89 = some i ∧ i.zero = some (.agg #[.int .i64 0, .int .i64 0]) ∧ i.size = 2 ∧ i.bytes = 16 := by
  have h : (Try.prog.info? 89).map (fun i => (i.zero, i.size, i.bytes)) = some (some (.agg #[.int .i64 0, .int .i64 0]), 2, 16) := by kernel_rfl
  obtain ⟨i, h1, h2⟩ := info_parts h
  exact ⟨i, h1, h2⟩
section
variable {ops : Array Oper} {rest : List Oper} {o : Oper} {a : Act} {w : World} {Q : Exit → Act → World → Prop}
/-- One timer more. -/
theorem ap_tm (hgd : o.guard = none) (s x : Operand)
    (ho : o.op = .call { callee := .builtin .append, args := #[s, x], argTypes := #[84, 84] })
    (base : Nat) {A : Option Addr} {n c : Nat} {S : List (Int × Int)} (hs : a.eval s = .slice A n c) (hown : Tm 89 w base A n c S)
    (y : Int × Int) {c2 : Nat} {cs : Array Value} (hcs : cs = (tmC y).toArray) (hx : a.eval x = .slice (some ⟨w.heap.size, 0, none⟩) 1 c2) (hsz : n ≤ 100000) (hbase : base ≤ w.heap.size)
    (h : ∀ g' c' w', Tm 89 w' base (some ⟨g', 0, none⟩) (n + 1) c' (S ++ [y]) → w.grownBy w' (blk A) → (blk A = some g' ∨ g' = w.heap.size + 1) → wpList Try.prog ops Q rest (a.put o.dst (.slice (some ⟨g', 0, none⟩) (n + 1) c')) w') :
    wpList Try.prog ops Q (o :: rest) a (w.alloc (.cells cs 89)) := by
  subst hcs
  obtain ⟨i, h1, h2, h3, h4⟩ := info_tm
  refine wpList_plain hgd fun K hK => ?_
  obtain ⟨g', c', w', hr, q1, q2, q3⟩ := run_append_at (P := Try.prog) (w.alloc (.cells (tmC y).toArray 89)) base 84 o.type 89 i _ 2 16 Try.underlying84 h1 h2 h3 h4 rfl (by omega)
    A n c (tmsC S) (World.ownsRow.alloc hown _) ⟨w.heap.size, 0, none⟩ 1 c2 (tmC y) rfl (fun j u hu => by
      rw [add_eq, Nat.zero_add]
      have := (Bk.new w 89 (tmC y).toArray).cell j
      rw [this]; simpa using hu) (fun u hu => by
      unfold tmC at hu
      simp at hu
      rcases hu with rfl | rfl <;> rfl) (by omega) (by unfold maxLen; omega) (by omega) (by rw [World.size_alloc]; omega)
  unfold Oper.wp execOp
  simp only [ho, resolve, invoke, builtin, Sem.run_bind, Sem.run_pure, Result.andThen_ok, List.map_toArray, List.map_cons, List.map_nil, hs, hx, hr]
  refine hK _ _ (h g' c' w' ?_ ((World.grownBy_alloc w _ _).trans q2) (by rw [World.size_alloc] at q3; exact q3))
  unfold Tm
  rw [tmsC_append]
  exact q1
end
end Go.Proofs.Ytcjkhonapafndaa
