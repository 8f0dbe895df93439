/- Proved: rows of the reference's neighbours: what they hold, what keeps them, one more, one that is stored; drop of the reference's Cache: a new row without the one, by its walk. Conditions: as each law says. -/
import Derived.Test.YtocigdkndlmikaaApl
import Derived.Test.YtocigdkndlmikaaInv
import Derived.Deep.MidRow
import Derived.Deep.WholeRow
import Derived.Great.BuildSlice
import Derived.LoopTactic
set_option linter.unusedVariables false
set_option linter.unusedSimpArgs false
namespace Go.Proofs.Ytocigdkndlmikaa
open Go.RowKit
def nrC (e : En) : List Value := [.int .u32 e.a, .bool e.n.kn, .int .u8 e.n.m0, .int .u8 e.n.m1, .int .u8 e.n.m2, .int .u8 e.n.m3, .int .u8 e.n.m4, .int .u8 e.n.m5, .int .i64 e.n.tk, .int .i64 e.n.tr, .slice e.A e.k e.c]
theorem nrC_len (e : En) : (nrC e).length = 11 := rfl
def nrsC (L : List En) : List Value := L.flatMap nrC
theorem nrsC_len (L : List En) : (nrsC L).length = L.length * 11 := by
  unfold nrsC
  induction L with
  | nil => rfl
  | cons x r ih => rw [List.flatMap_cons, List.length_append, ih, nrC_len, List.length_cons]; omega
theorem nrsC_get : ∀ (L : List En) (k i : Nat) (x : En), L[k]? = some x → i < 11 → (nrsC L)[k * 11 + i]? = (nrC x)[i]?
  | [], k, i, x, h, _ => by simp at h
  | y :: r, 0, i, x, h, hi => by
    simp at h; subst h
    unfold nrsC
    rw [List.flatMap_cons, Nat.zero_mul, Nat.zero_add, List.getElem?_append_left (by rw [nrC_len]; exact hi)]
  | y :: r, k + 1, i, x, h, hi => by
    simp at h
    have := nrsC_get r k i x h hi
    unfold nrsC at this ⊢
    rw [List.flatMap_cons, List.getElem?_append_right (by rw [nrC_len]; omega), nrC_len, show (k + 1) * 11 + i - 11 = k * 11 + i by omega]
    exact this
theorem nrsC_append (S T : List En) : nrsC (S ++ T) = nrsC S ++ nrsC T := by unfold nrsC; rw [List.flatMap_append]
theorem nrC_one (x : En) : ∀ u ∈ nrC x, u.oneCell' = true := by
  intro u hu
  unfold nrC at hu
  simp only [List.mem_cons, List.not_mem_nil, or_false] at hu
  rcases hu with rfl | rfl | rfl | rfl | rfl | rfl | rfl | rfl | rfl | rfl | rfl <;> rfl
theorem nrsC_one (L : List En) : ∀ u ∈ nrsC L, u.oneCell' = true := by
  intro u hu
  obtain ⟨x, _, hx⟩ := List.mem_flatMap.1 hu
  exact nrC_one x u hx
def zeroNr : Value := .agg #[.int .u32 0, .bool false, .int .u8 0, .int .u8 0, .int .u8 0, .int .u8 0, .int .u8 0, .int .u8 0, .int .i64 0, .int .i64 0, .slice none 0 0]
theorem info_nr : ∃ i, Try.prog.info? 101 = some i ∧ i.zero = some zeroNr ∧ i.size = 11 ∧ i.bytes = 56 := by
  have h : (Try.prog.info? 101).map (fun i => (i.zero, i.size, i.bytes)) = some (some zeroNr, 11, 56) := by kernel_rfl
  cases hi : Try.prog.info? 101 with
  | none => rw [hi] at h; cases h
  | some i =>
    rw [hi] at h
    simp only [Option.map_some, Option.some.injEq, Prod.mk.injEq] at h
    exact ⟨i, rfl, h.1, h.2.1, h.2.2⟩
/-- A row of its own. -/
def Rs (w : World) (base : Nat) (A : Option Addr) (n c : Nat) (L : List En) : Prop := w.ownsRow base 101 11 (.slice A n c) n (nrsC L)
section
variable {w w' : World} {base : Nat} {A : Option Addr} {n c : Nat} {L : List En}
theorem Rs.none_ (w : World) (base : Nat) : Rs w base none 0 0 [] := World.ownsRow_nil w base _ 11
theorem Rs.len (h : Rs w base A n c L) : L.length = n := by
  have h1 := h.1
  rw [nrsC_len] at h1; omega
theorem Rs.cases_ (h : Rs w base A n c L) : (A = none ∧ n = 0 ∧ c = 0 ∧ L = []) ∨ ∃ g cur, A = some ⟨g, 0, none⟩ ∧ base ≤ g ∧ w.heap[g]? = some (.cells cur 101 (0, 0)) ∧ n ≤ c ∧ c ≤ maxLen ∧ cur.size = c * 11 ∧ cur.toList.take (n * 11) = nrsC L := by
  have hl := h.len
  rcases h.2 with ⟨h1, h2⟩ | ⟨g, cap, cur, h1, h2, h3, h4, h5, h6, h7⟩
  · injection h1 with a b d
    exact .inl ⟨a, b, d, List.eq_nil_of_length_eq_zero (by omega)⟩
  · injection h1 with a b d
    subst a; subst d
    exact .inr ⟨g, cur, rfl, h2, h3, h4, h5, h6, h7⟩
theorem Rs.lt (h : Rs w base A n c L) : ∀ g, blk A = some g → base ≤ g ∧ g < w.heap.size := fun g hg => World.ownsRow.lt h g (by rw [ownBlock_slice]; exact hg)
theorem Rs.cap (h : Rs w base A n c L) : n ≤ c := by
  rcases h.cases_ with ⟨_, rfl, rfl, _⟩ | ⟨_, _, _, _, _, h1, _⟩
  · exact Nat.le_refl _
  · exact h1
theorem Rs.mono {base' : Nat} (h : Rs w base A n c L) (hb : base' ≤ base) : Rs w base' A n c L := by
  refine ⟨h.1, ?_⟩
  rcases h.2 with h1 | ⟨g, cap, cur, h1, h2, h3⟩
  · exact .inl h1
  · exact .inr ⟨g, cap, cur, h1, by omega, h3⟩
theorem Rs.chg {F : Nat → Prop} (h : Rs w base A n c L) (hc : Chg F w w') (hb : ∀ b, blk A = some b → ¬ F b) : Rs w' base A n c L := by
  refine ⟨h.1, ?_⟩
  rcases h.2 with h1 | ⟨g, cap, cur, h1, h2, h3, h4⟩
  · exact .inl h1
  · have e := (Value.slice.inj h1).1
    exact .inr ⟨g, cap, cur, h1, h2, (hc.block g (Array.getElem?_eq_some_iff.1 h3).1 (hb g (by rw [e]; rfl))).trans h3, h4⟩
theorem Rs.cell (h : Rs w base A n c L) {k : Nat} {x : En} (hk : L[k]? = some x) :
    ∃ g, A = some ⟨g, 0, none⟩ ∧ base ≤ g ∧ g < w.heap.size ∧ ∀ j u, (nrC x)[j]? = some u → w.cell? ⟨g, k * 11 + j, none⟩ = some u ∧ w.frozen? ⟨g, k * 11 + j, none⟩ = false := by
  have hkl := (List.getElem?_eq_some_iff.1 hk).1
  have hln := h.len
  rcases h.cases_ with ⟨_, rfl, _, rfl⟩ | ⟨g, cur, rfl, h2, h3, h4, h5, h6, h7⟩
  · simp at hk
  · refine ⟨g, rfl, h2, (Array.getElem?_eq_some_iff.1 h3).1, fun j u hu => ⟨?_, by simp [World.frozen?, h3]⟩⟩
    have hj : j < 11 := by have := (List.getElem?_eq_some_iff.1 hu).1; rwa [nrC_len] at this
    rw [cell_of_row w g (k * 11 + j) cur _ (0, 0) h3]
    have := nrsC_get L k j x hk hj
    rw [hu, ← h7, List.getElem?_take, if_pos (by omega)] at this
    simpa using this
end
theorem nrsC_take (S : List En) (k : Nat) : nrsC (S.take k) = (nrsC S).take (k * 11) := by
  have h := nrsC_append (S.take k) (S.drop k)
  rw [List.take_append_drop] at h
  by_cases hk : k ≤ S.length
  · rw [h, List.take_left' (by rw [nrsC_len, List.length_take, Nat.min_eq_left hk])]
  · rw [List.take_of_length_le (by omega), List.take_of_length_le (by rw [nrsC_len]; omega)]
theorem nrsC_drop (S : List En) (k : Nat) : nrsC (S.drop k) = (nrsC S).drop (k * 11) := by
  have h := nrsC_append (S.take k) (S.drop k)
  rw [List.take_append_drop] at h
  by_cases hk : k ≤ S.length
  · rw [h, List.drop_left' (by rw [nrsC_len, List.length_take, Nat.min_eq_left hk])]
  · rw [List.drop_of_length_le (by omega), List.drop_of_length_le (by rw [nrsC_len]; omega)]; rfl
theorem Rs.rw {w : World} {base g off n c : Nat} {L : List En} (h : Rs w base (some ⟨g, off, none⟩) n c L) : off = 0 ∧ g < w.heap.size ∧ ∀ j u, (nrsC L)[j]? = some u → w.cell? ⟨g, j, none⟩ = some u := by
  rcases h.cases_ with ⟨h1, _⟩ | ⟨g', cur, h1, h2, h3, h4, h5, h6, h7⟩
  · cases h1
  · injection h1 with h1
    injection h1 with e1 e2
    subst e1; subst e2
    refine ⟨rfl, (Array.getElem?_eq_some_iff.1 h3).1, fun j u hu => ?_⟩
    rw [cell_of_row w g j cur _ (0, 0) h3]
    rw [← h7, List.getElem?_take] at hu
    split at hu
    · simpa using hu
    · cases hu
/-- The reference's Cache at q, its row of neighbours. -/
def RcS (w : World) (q : Nat) (A : Option Addr) (n c : Nat) (L : List En) : Prop := Bk w q 63 #[.slice A n c] ∧ Rs w 0 A n c L ∧ blk A ≠ some q
theorem nr_size : (Try.prog.info? 101).map (·.size) = some 11 := by kernel_rfl
theorem nr_row : ∃ d, Try.prog.underlying 101 = some d ∧ d.isRow = true := ⟨_, Try.underlying101, rfl⟩
theorem nrC_all (y : En) : (nrC y).toArray.all (·.oneCell') = true := all_oneCell_toArray (nrC_one y)
theorem Rs.range {w : World} {base g n c : Nat} {L : List En} (h : Rs w base (some ⟨g, 0, none⟩) n c L) {k : Nat} {x : En} (hk : L[k]? = some x) : w.rangeAt g (k * 11) (nrC x) := by
  obtain ⟨g', e, _, _, hc⟩ := h.cell hk
  injection e with e
  injection e with e
  subst e
  exact fun j u hu => (hc j u hu).1
theorem Bk.range {w : World} {g : Nat} {y : En} (h : Bk w g 101 (nrC y).toArray) : w.rangeAt g 0 (nrC y) := fun j u hu => by
  rw [Nat.zero_add, h.cell j]
  simpa using hu
section
variable {ops : Array Oper} {rest : List Oper} {o : Oper} {a : Act} {w : World} {Q : Exit → Act → World → Prop}
/-- A neighbour is loaded, its cells unopened. -/
theorem ld_nr (hgd : o.guard = none) (x : Operand) (ho : o.op = .load 101 x) {g off : Nat} (hx : a.eval x = .pointer (some ⟨g, off, none⟩)) (y : En) (hc : w.rangeAt g off (nrC y))
    (h : wpList Try.prog ops Q rest (a.put o.dst (.agg (nrC y).toArray)) w) : wpList Try.prog ops Q (o :: rest) a w := by
  obtain ⟨d, hu, hd⟩ := nr_row
  exact wpList_load_mid hgd _ x ho g off hx (nrC y) d hc hu hd nr_size h
/-- A neighbour is stored into the block that was made last. -/
theorem st_nr_new (hgd : o.guard = none) (p x : Operand) (ho : o.op = .store 101 p x) (hd : o.dst = none) {old : Array Value} (hold : old.size = 11) (hp : a.eval p = .pointer (some ⟨w.heap.size, 0, none⟩)) (y : En) (hy : a.eval x = .agg (nrC y).toArray)
    (h : wpList Try.prog ops Q rest a (w.alloc (.cells (nrC y).toArray 101))) : wpList Try.prog ops Q (o :: rest) a (w.alloc (.cells old 101)) := by
  refine wpList_store_rowTo hgd _ p x ho hd w.heap.size (nrC y).toArray hp hy 101 old (heap_alloc_new w _) nr_size hold (nrC_all y) ?_
  rw [World.setRow_alloc_new]
  exact h
/-- A neighbour is stored at any place of a row. -/
theorem st_nr_mid (hgd : o.guard = none) (p x : Operand) (ho : o.op = .store 101 p x) (hd : o.dst = none) {g off : Nat} (hp : a.eval p = .pointer (some ⟨g, off, none⟩)) (y : En) (hy : a.eval x = .agg (nrC y).toArray) (ht : w.there g off 11)
    (h : wpList Try.prog ops Q rest a (w.setCells g off (nrC y))) : wpList Try.prog ops Q (o :: rest) a w := by
  refine wpList_store_mid hgd _ p x ho g off (nrC y).toArray hp hy ht nr_size (nrC_all y) ?_
  rw [hd]
  exact h
end
theorem setRow_bk {w : World} {g : Nat} {t : TypeId} {old c : Array Value} (h : Bk w g t old) : Bk (w.setRow g c) g t c ∧ Chg (fun b => b = g) w (w.setRow g c) := by
  have hl := h.lt
  have h' : w.heap[g]? = some (.cells old t (0, 0)) := h
  refine ⟨?_, rfl, rfl, rfl, ?_, fun b hb hn => ?_⟩
  · show (w.setRow g c).heap[g]? = some (.cells c t (0, 0))
    simp only [World.setRow]
    rw [Array.getElem?_modify, if_pos rfl, h']
    rfl
  · simp only [World.setRow, Array.size_modify]
    exact Nat.le_refl _
  · simp only [World.setRow]
    rw [Array.getElem?_modify, if_neg (fun e => hn e.symm)]
section
variable {ops : Array Oper} {rest : List Oper} {o : Oper} {a : Act} {w : World} {Q : Exit → Act → World → Prop}
/-- A neighbour is stored into a block of its own. -/
theorem st_nr_box (hgd : o.guard = none) (p x : Operand) (ho : o.op = .store 101 p x) (hd : o.dst = none) {g : Nat} (hp : a.eval p = .pointer (some ⟨g, 0, none⟩)) (y : En) (hy : a.eval x = .agg (nrC y).toArray) {old : Array Value} (hb : Bk w g 101 old) (hs : old.size = 11)
    (h : ∀ w', Bk w' g 101 (nrC y).toArray → Chg (fun b => b = g) w w' → wpList Try.prog ops Q rest a w') : wpList Try.prog ops Q (o :: rest) a w := by
  refine wpList_store_rowTo hgd _ p x ho hd g (nrC y).toArray hp hy 101 old hb nr_size hs (nrC_all y) ?_
  obtain ⟨h1, h2⟩ := setRow_bk (c := (nrC y).toArray) hb
  exact h _ h1 h2
end
end Go.Proofs.Ytocigdkndlmikaa
namespace Go.Proofs.Ytocigdkndlmikaa
open Go.RowKit
/-- What each operation of region 0 yields, but for the memory that is made. -/
def cnC (q g n c i : Nat) (A2 : Option Addr) : Nat → Value
  | 0 => .pointer (some ⟨q, 0, none⟩)
  | 2 => .pointer (some ⟨q, 0, none⟩)
  | 3 => .pointer (some ⟨q, 0, none⟩)
  | 4 => .pointer (some ⟨q, 0, none⟩)
  | 5 => .slice (some ⟨g, 0, none⟩) n c
  | 6 => .int .i64 (i : Int)
  | 7 => .slice (some ⟨g, 0, none⟩) i c
  | 9 => .pointer (some ⟨q, 0, none⟩)
  | 10 => .pointer (some ⟨q, 0, none⟩)
  | 11 => .pointer (some ⟨q, 0, none⟩)
  | 12 => .slice (some ⟨g, 0, none⟩) n c
  | 13 => .int .i64 (i : Int)
  | 14 => .int .i64 ((i : Int) + 1)
  | 15 => .slice A2 (n - (i + 1)) (c - (i + 1))
  | 17 => .pointer (some ⟨q, 0, none⟩)
  | 18 => .pointer (some ⟨q, 0, none⟩)
  | _ => undef
def cnPlain (j : Nat) : Bool := !(j == 1 || j == 8 || j == 16 || j == 19)
/-- What waits for what. -/
def cnD (L : Nat → Bool) : Prop := (L 19 = true → L 16 = true) ∧ (L 16 = true → L 8 = true ∧ L 15 = true) ∧ (L 15 = true → L 12 = true) ∧ (L 8 = true → L 7 = true) ∧ (L 7 = true → L 5 = true)
def cnR (q g n c i : Nat) (A2 : Option Addr) (S : List En) (w0 : World) (L : Nat → Bool) (v : Nat → Value) (w : World) : Prop :=
  (∀ j, L j = true → cnPlain j = true → v j = cnC q g n c i A2 j) ∧ Chg (fun b => b = q) w0 w ∧ cnD L ∧
  (L 1 = true → L 8 = false → w.ownsRow w0.heap.size 101 11 (v 1) 0 []) ∧
  (L 8 = true → L 16 = false → w.ownsRow w0.heap.size 101 11 (v 8) i (nrsC (S.take i))) ∧
  (L 16 = true → w.ownsRow w0.heap.size 101 11 (v 16) (i + (n - (i + 1))) (nrsC (S.take i) ++ nrsC (S.drop (i + 1)))) ∧
  (L 19 = false → Bk w q 63 #[.slice (some ⟨g, 0, none⟩) n c]) ∧ (L 19 = true → Bk w q 63 #[v 16])
section
variable {q g n c i : Nat} {A2 : Option Addr} {S : List En} {w0 : World} {L : Nat → Bool} {v : Nat → Value} {w : World}
theorem cnR_plain (h : cnR q g n c i A2 S w0 L v w) : ∀ j, L j = true → cnPlain j = true → v j = cnC q g n c i A2 j := h.1
theorem cnD_old (h : cnD L) (hL : L 5 = false ∨ L 12 = false) : L 19 = false := by
  obtain ⟨h1, h2, h3, h4, h5⟩ := h
  cases e : L 19 with
  | false => rfl
  | true =>
    have a := h2 (h1 e)
    rcases hL with hL | hL
    · rw [h5 (h4 a.1)] at hL; cases hL
    · rw [h3 a.2] at hL; cases hL
theorem cnD_step {x : Nat} (h : cnD L) (h7 : x = 7 → L 5 = true) (h8 : x = 8 → L 7 = true) (h15 : x = 15 → L 12 = true) (h16 : x = 16 → L 8 = true ∧ L 15 = true) (h19 : x = 19 → L 16 = true) : cnD (upd L x true) := by
  obtain ⟨e1, e2, e3, e4, e5⟩ := h
  have up : ∀ j, L j = true → upd L x true j = true := fun j hj => by
    unfold upd; split
    · rfl
    · exact hj
  have dn : ∀ j, upd L x true j = true → x = j ∨ L j = true := fun j hj => by
    unfold upd at hj; split at hj
    · next h => exact .inl h.symm
    · exact .inr hj
  refine ⟨fun h => up _ ((dn _ h).elim h19 e1), fun h => ?_, fun h => up _ ((dn _ h).elim h15 e3), fun h => up _ ((dn _ h).elim h8 e4), fun h => up _ ((dn _ h).elim h7 e5)⟩
  have := (dn _ h).elim h16 e2
  exact ⟨up _ this.1, up _ this.2⟩
/-- One more of the plain ones. -/
theorem cnR_step (h : cnR q g n c i A2 S w0 L v w) {x : Nat} {u : Value} (hp : cnPlain x = true) (hu : u = cnC q g n c i A2 x) (h7 : x = 7 → L 5 = true) (h15 : x = 15 → L 12 = true) : cnR q g n c i A2 S w0 (upd L x true) (upd v x u) w := by
  obtain ⟨h1, h2, hd, h3, h4, h5, h6, h8⟩ := h
  have n1 : 1 ≠ x := by rintro rfl; cases hp
  have n8 : 8 ≠ x := by rintro rfl; cases hp
  have n16 : 16 ≠ x := by rintro rfl; cases hp
  have n19 : 19 ≠ x := by rintro rfl; cases hp
  refine ⟨fun y hy hpy => ?_, h2, cnD_step hd h7 (fun e => absurd e.symm n8) h15 (fun e => absurd e.symm n16) (fun e => absurd e.symm n19), ?_, ?_, ?_, ?_, ?_⟩
  · by_cases e : y = x
    · subst e; rw [upd_same]; exact hu
    · rw [upd_ne _ _ e]; rw [upd_ne _ _ e] at hy; exact h1 y hy hpy
  · rw [upd_ne _ _ n1, upd_ne _ _ n8, upd_ne _ _ n1]; exact h3
  · rw [upd_ne _ _ n8, upd_ne _ _ n16, upd_ne _ _ n8]; exact h4
  · rw [upd_ne _ _ n16, upd_ne _ _ n16]; exact h5
  · rw [upd_ne _ _ n19]; exact h6
  · rw [upd_ne _ _ n19, upd_ne _ _ n16]; exact h8
end

set_option maxHeartbeats 4000000 in
set_option maxRecDepth 100000 in
theorem drop_st (q g n c i : Nat) (S : List En) (w : World) (h : RcS w q (some ⟨g, 0, none⟩) n c S) (hn : n ≤ 1000) (hi : i < n) :
    Calls Try.prog 53 #[.pointer (some ⟨q, 0, none⟩), .int .i64 i] w fun e w' => e = .returned (.tuple #[]) ∧ ∃ A' n' c', RcS w' q A' n' c' (S.take i ++ S.drop (i + 1)) ∧ Chg (fun b => b = q) w w' ∧ ∀ b, blk A' = some b → w.heap.size ≤ b := by
  obtain ⟨hbq, hrs, hnb⟩ := h
  have hql := hbq.lt
  have hgq : g ≠ q := fun e => hnb (by rw [e]; rfl)
  obtain ⟨_, hgl, hcs⟩ := hrs.rw
  have hlen := hrs.len
  have hnc := hrs.cap
  have hch : ∀ w3, Chg (fun b => b = q) w w3 → ∀ j u, (nrsC S)[j]? = some u → w3.cell? ⟨g, j, none⟩ = some u := fun w3 hc j u hu => (hc.cell (p := ⟨g, j, none⟩) hgl hgq).trans (hcs j u hu)
  have hs8 : ∀ w3, Chg (fun b => b = q) w w3 → ∀ j u, (nrsC (S.take i))[j]? = some u → w3.cell? ((⟨g, 0, none⟩ : Addr).add j) = some u := fun w3 hc j u hu => by
    rw [add_eq, Nat.zero_add]
    refine hch w3 hc j u ?_
    rw [nrsC_take, List.getElem?_take] at hu
    split at hu
    · exact hu
    · cases hu
  obtain ⟨a2, ha2⟩ : ∃ a2, (if c = i + 1 then (⟨g, 0, none⟩ : Addr) else ⟨g, (i + 1) * 11, none⟩) = a2 := ⟨_, rfl⟩
  have hs16 : ∀ w3, Chg (fun b => b = q) w w3 → ∀ j u, (nrsC (S.drop (i + 1)))[j]? = some u → w3.cell? (a2.add j) = some u := fun w3 hc j u hu => by
    rw [nrsC_drop, List.getElem?_drop] at hu
    have hj := (List.getElem?_eq_some_iff.1 hu).1
    rw [nrsC_len] at hj
    rw [← ha2, if_neg (by omega), add_eq]
    exact hch w3 hc _ u hu
  obtain ⟨A2, hA2⟩ : ∃ A2, (if c = i + 1 then some (⟨g, 0, none⟩ : Addr) else some ⟨g, (i + 1) * 11, none⟩) = A2 := ⟨_, rfl⟩
  have ha2 : A2 = some a2 := by rw [← hA2, ← ha2]; split <;> rfl
  have HA2 := Lib.hid hA2
  have HB := Lib.hid hbq
  clear hA2 hbq hrs hcs
  go_enter Try.func53, Try.ntmps53
  refine wp_region_inv [some 4, some 5, some 6, some 7, some 8, some 9, some 10, some 11, some 12, some 13, some 14, some 15, some 16, some 17, some 18, some 19, some 20, some 21, some 22, none] (cnR q g n c i A2 S w) (by kernel_rfl) rfl (by kernel_rfl) (by kernel_rfl) (by kernel_rfl) (by kernel_rfl) ?_ ?_ ?_
  · exact ⟨(fun _ h => by cases h), (Chg.refl _ w).drewN 1, ⟨(fun h => by cases h), (fun h => by cases h), (fun h => by cases h), (fun h => by cases h), (fun h => by cases h)⟩, (fun h => by cases h), (fun h => by cases h), (fun h => by cases h), (fun _ => HB.out), (fun h => by cases h)⟩
  · refine ⟨?_, ?_, ?_, ?_, ?_, ?_, ?_, ?_, ?_, ?_, ?_, ?_, ?_, ?_, ?_, ?_, ?_, ?_, ?_, ?_, trivial⟩
    · intro L v w3 f hL hdep hF hR K hK
      have e0 : f.eval (.tmp 0) = .pointer (some ⟨q, 0, none⟩) := (hF.1 0 (by decide)).trans rfl
      unfold Oper.wp
      simp only [execOp, e0]
      exact hK _ _ (cnR_step hR rfl rfl (fun h => by cases h) (fun h => by cases h))
    · intro L v w3 f hL hdep hF hR K hK
      clear hdep
      obtain ⟨q1, q2, q3, q4, q5, q6, q7, q8⟩ := hR
      unfold Oper.wp
      go_simp
      refine hK _ _ ⟨fun y hy hpy => ?_, q2.alloc _, cnD_step q3 (fun h => by cases h) (fun h => by cases h) (fun h => by cases h) (fun h => by cases h) (fun h => by cases h), ?_, ?_, ?_, ?_, ?_⟩
      · have ny : y ≠ 1 := by rintro rfl; cases hpy
        rw [upd_ne _ _ ny]; rw [upd_ne _ _ ny] at hy; exact q1 y hy hpy
      · exact fun _ _ => by rw [upd_same]; exact ⟨rfl, .inr ⟨w3.heap.size, 0, #[], rfl, q2.size, heap_alloc_new w3 _, Nat.le_refl _, Nat.zero_le _, rfl, rfl⟩⟩
      · exact fun a b => World.ownsRow.alloc (q5 a b) _
      · exact fun a => World.ownsRow.alloc (q6 a) _
      · exact fun a => (q7 a).alloc _
      · exact fun a => (q8 a).alloc _
    · intro L v w3 f hL hdep hF hR K hK
      have e0 : f.eval (.tmp 0) = .pointer (some ⟨q, 0, none⟩) := (hF.1 0 (by decide)).trans rfl
      unfold Oper.wp
      simp only [execOp, e0]
      exact hK _ _ (cnR_step hR rfl rfl (fun h => by cases h) (fun h => by cases h))
    · intro L v w3 f hL hdep hF hR K hK
      simp [Region.binds] at hdep
      have e2 : f.eval (.tmp 6) = _ := ((hF.2 2 6 rfl hdep).trans (cnR_plain hR 2 hdep rfl)).trans (show cnC q g n c i A2 2 = .pointer (some ⟨q, 0, none⟩) from rfl)
      have g2 : f.tmps[6]?.getD undef = .pointer (some ⟨q, 0, none⟩) := by have := e2; simpa [Act.eval] using this
      clear e2
      unfold Oper.wp
      go_simp
      exact hK _ _ (cnR_step hR rfl rfl (fun h => by cases h) (fun h => by cases h))
    · intro L v w3 f hL hdep hF hR K hK
      simp [Region.binds] at hdep
      have e3 : f.eval (.tmp 7) = _ := ((hF.2 3 7 rfl hdep).trans (cnR_plain hR 3 hdep rfl)).trans (show cnC q g n c i A2 3 = .pointer (some ⟨q, 0, none⟩) from rfl)
      have g3 : f.tmps[7]?.getD undef = .pointer (some ⟨q, 0, none⟩) := by have := e3; simpa [Act.eval] using this
      clear e3
      unfold Oper.wp
      go_simp
      exact hK _ _ (cnR_step hR rfl rfl (fun h => by cases h) (fun h => by cases h))
    · intro L v w3 f hL hdep hF hR K hK
      simp [Region.binds] at hdep
      have hold := cnD_old hR.2.2.1 (.inl hL)
      have hcq : w3.cell? ⟨q, 0, none⟩ = some (.slice (some ⟨g, 0, none⟩) n c) := ((hR.2.2.2.2.2.2.1 hold).cell 0).trans rfl
      have e4 : f.eval (.tmp 8) = _ := ((hF.2 4 8 rfl hdep).trans (cnR_plain hR 4 hdep rfl)).trans (show cnC q g n c i A2 4 = .pointer (some ⟨q, 0, none⟩) from rfl)
      have g4 : f.tmps[8]?.getD undef = .pointer (some ⟨q, 0, none⟩) := by have := e4; simpa [Act.eval] using this
      clear e4
      unfold Oper.wp
      go_simp
      exact hK _ _ (cnR_step hR rfl rfl (fun h => by cases h) (fun h => by cases h))
    · intro L v w3 f hL hdep hF hR K hK
      have e0 : f.eval (.tmp 1) = .int .i64 (i : Int) := (hF.1 1 (by decide)).trans rfl
      unfold Oper.wp
      simp only [execOp, e0]
      exact hK _ _ (cnR_step hR rfl rfl (fun h => by cases h) (fun h => by cases h))
    · intro L v w3 f hL hdep hF hR K hK
      simp [Region.binds] at hdep
      obtain ⟨d5, d6⟩ := hdep
      have e5 : f.eval (.tmp 9) = _ := ((hF.2 5 9 rfl d5).trans (cnR_plain hR 5 d5 rfl)).trans (show cnC q g n c i A2 5 = .slice (some ⟨g, 0, none⟩) n c from rfl)
      have g5 : f.tmps[9]?.getD undef = .slice (some ⟨g, 0, none⟩) n c := by have := e5; simpa [Act.eval] using this
      clear e5
      have e6 : f.eval (.tmp 10) = _ := ((hF.2 6 10 rfl d6).trans (cnR_plain hR 6 d6 rfl)).trans (show cnC q g n c i A2 6 = .int .i64 (i : Int) from rfl)
      have g6 : f.tmps[10]?.getD undef = .int .i64 (i : Int) := by have := e6; simpa [Act.eval] using this
      clear e6
      have c7 : i ≤ c := by omega
      unfold Oper.wp
      go_simp
      exact hK _ _ (cnR_step hR rfl rfl (fun _ => d5) (fun h => by cases h))
    · intro L v w3 f hL hdep hF hR K hK
      simp [Region.binds] at hdep
      obtain ⟨d1, d7⟩ := hdep
      have e7 : f.eval (.tmp 11) = _ := ((hF.2 7 11 rfl d7).trans (cnR_plain hR 7 d7 rfl)).trans (show cnC q g n c i A2 7 = .slice (some ⟨g, 0, none⟩) i c from rfl)
      have e1 : f.eval (.tmp 5) = v 1 := hF.2 1 5 rfl d1
      obtain ⟨q1, q2, q3, q4, q5, q6, q7, q8⟩ := hR
      have hO := q4 d1 hL
      have hold : L 19 = false := by
        cases e : L 19 with
        | false => rfl
        | true => exact absurd ((q3.2.1 (q3.1 e)).1) (by rw [hL]; decide)
      obtain ⟨ti, i1, i2, i3, i4⟩ := info_nr
      obtain ⟨u, w4, hrun, hO4, hG, _⟩ := run_append_own (P := Try.prog) (w := w3) w.heap.size 61 61 101 ti _ 11 56 Try.underlying61 i1 i2 i3 i4 rfl (by omega) (v 1) (0) _ hO ⟨g, 0, none⟩ i c (nrsC (S.take i)) (by rw [nrsC_len, List.length_take]; omega) (hs8 _ q2) (nrsC_one _) (by unfold maxLen; omega) (by omega) q2.size
      have hne : some q ≠ (v 1).ownBlock := fun e => absurd (World.ownsRow.lt hO q e.symm).1 (by omega)
      unfold Oper.wp execOp
      simp only [resolve, invoke, builtin, Sem.run_bind, Sem.run_pure, Result.andThen_ok, List.map_toArray, List.map_cons, List.map_nil, e1, e7, hrun]
      refine hK _ _ ⟨fun y hy hpy => ?_, q2.trans (Chg.of_grown (F := fun b => (v 1).ownBlock = some b) hG (fun b e => e)) (fun x hx => .inr (World.ownsRow.lt hO x hx).1), cnD_step q3 (fun h => by cases h) (fun h => by first | exact d7 | cases h) (fun h => by cases h) (fun h => by first | exact ⟨d8, d15⟩ | cases h) (fun h => by cases h), ?_, ?_, ?_, ?_, ?_⟩
      · have ny : y ≠ 8 := by rintro rfl; cases hpy
        rw [upd_ne _ _ ny]; rw [upd_ne _ _ ny] at hy; exact q1 y hy hpy
      · exact fun _ h => by rw [upd_same] at h; cases h
      · exact fun _ _ => by
          rw [upd_same]
          rw [Nat.zero_add, List.nil_append] at hO4
          exact hO4
      · exact fun h => by have h9 : L 16 = true := h; have := (q3.2.1 h9).1; rw [hL] at this; cases this
      · exact fun _ => (q7 hold).grown hG hne
      · exact fun h => by have h9 : L 19 = true := h; rw [hold] at h9; cases h9
    · intro L v w3 f hL hdep hF hR K hK
      have e0 : f.eval (.tmp 0) = .pointer (some ⟨q, 0, none⟩) := (hF.1 0 (by decide)).trans rfl
      unfold Oper.wp
      simp only [execOp, e0]
      exact hK _ _ (cnR_step hR rfl rfl (fun h => by cases h) (fun h => by cases h))
    · intro L v w3 f hL hdep hF hR K hK
      simp [Region.binds] at hdep
      have e9 : f.eval (.tmp 13) = _ := ((hF.2 9 13 rfl hdep).trans (cnR_plain hR 9 hdep rfl)).trans (show cnC q g n c i A2 9 = .pointer (some ⟨q, 0, none⟩) from rfl)
      have g9 : f.tmps[13]?.getD undef = .pointer (some ⟨q, 0, none⟩) := by have := e9; simpa [Act.eval] using this
      clear e9
      unfold Oper.wp
      go_simp
      exact hK _ _ (cnR_step hR rfl rfl (fun h => by cases h) (fun h => by cases h))
    · intro L v w3 f hL hdep hF hR K hK
      simp [Region.binds] at hdep
      have e10 : f.eval (.tmp 14) = _ := ((hF.2 10 14 rfl hdep).trans (cnR_plain hR 10 hdep rfl)).trans (show cnC q g n c i A2 10 = .pointer (some ⟨q, 0, none⟩) from rfl)
      have g10 : f.tmps[14]?.getD undef = .pointer (some ⟨q, 0, none⟩) := by have := e10; simpa [Act.eval] using this
      clear e10
      unfold Oper.wp
      go_simp
      exact hK _ _ (cnR_step hR rfl rfl (fun h => by cases h) (fun h => by cases h))
    · intro L v w3 f hL hdep hF hR K hK
      simp [Region.binds] at hdep
      have hold := cnD_old hR.2.2.1 (.inr hL)
      have hcq : w3.cell? ⟨q, 0, none⟩ = some (.slice (some ⟨g, 0, none⟩) n c) := ((hR.2.2.2.2.2.2.1 hold).cell 0).trans rfl
      have e11 : f.eval (.tmp 15) = _ := ((hF.2 11 15 rfl hdep).trans (cnR_plain hR 11 hdep rfl)).trans (show cnC q g n c i A2 11 = .pointer (some ⟨q, 0, none⟩) from rfl)
      have g11 : f.tmps[15]?.getD undef = .pointer (some ⟨q, 0, none⟩) := by have := e11; simpa [Act.eval] using this
      clear e11
      unfold Oper.wp
      go_simp
      exact hK _ _ (cnR_step hR rfl rfl (fun h => by cases h) (fun h => by cases h))
    · intro L v w3 f hL hdep hF hR K hK
      have e0 : f.eval (.tmp 1) = .int .i64 (i : Int) := (hF.1 1 (by decide)).trans rfl
      unfold Oper.wp
      simp only [execOp, e0]
      exact hK _ _ (cnR_step hR rfl rfl (fun h => by cases h) (fun h => by cases h))
    · intro L v w3 f hL hdep hF hR K hK
      simp [Region.binds] at hdep
      have e13 : f.eval (.tmp 17) = _ := ((hF.2 13 17 rfl hdep).trans (cnR_plain hR 13 hdep rfl)).trans (show cnC q g n c i A2 13 = .int .i64 (i : Int) from rfl)
      have g13 : f.tmps[17]?.getD undef = .int .i64 (i : Int) := by have := e13; simpa [Act.eval] using this
      clear e13
      unfold Oper.wp
      go_simp
      exact hK _ _ (cnR_step hR rfl (by rw [IntWalk.i64_in _ (by omega)]; rfl) (fun h => by cases h) (fun h => by cases h))
    · intro L v w3 f hL hdep hF hR K hK
      simp [Region.binds] at hdep
      obtain ⟨d12, d14⟩ := hdep
      have e12 : f.eval (.tmp 16) = _ := ((hF.2 12 16 rfl d12).trans (cnR_plain hR 12 d12 rfl)).trans (show cnC q g n c i A2 12 = .slice (some ⟨g, 0, none⟩) n c from rfl)
      have g12 : f.tmps[16]?.getD undef = .slice (some ⟨g, 0, none⟩) n c := by have := e12; simpa [Act.eval] using this
      clear e12
      have e14 : f.eval (.tmp 18) = _ := ((hF.2 14 18 rfl d14).trans (cnR_plain hR 14 d14 rfl)).trans (show cnC q g n c i A2 14 = .int .i64 ((i : Int) + 1) from rfl)
      have g14 : f.tmps[18]?.getD undef = .int .i64 ((i : Int) + 1) := by have := e14; simpa [Act.eval] using this
      clear e14
      have c15a : (0 : Int) ≤ (i : Int) + 1 := by omega
      have c15b : (i : Int) + 1 ≤ n := by omega
      unfold Oper.wp
      go_simp
      rw [HA2.out]
      exact hK _ _ (cnR_step hR rfl rfl (fun h => by cases h) (fun _ => d12))
    · intro L v w3 f hL hdep hF hR K hK
      simp [Region.binds] at hdep
      obtain ⟨d8, d15, _⟩ := hdep
      have e15 : f.eval (.tmp 19) = _ := ((hF.2 15 19 rfl d15).trans (cnR_plain hR 15 d15 rfl)).trans (show cnC q g n c i A2 15 = .slice A2 (n - (i + 1)) (c - (i + 1)) from rfl)
      have e8 : f.eval (.tmp 12) = v 8 := hF.2 8 12 rfl d8
      obtain ⟨q1, q2, q3, q4, q5, q6, q7, q8⟩ := hR
      have hO := q5 d8 hL
      have hold : L 19 = false := by
        cases e : L 19 with
        | false => rfl
        | true => exact absurd (q3.1 e) (by rw [hL]; decide)
      obtain ⟨ti, i1, i2, i3, i4⟩ := info_nr
      obtain ⟨u, w4, hrun, hO4, hG, _⟩ := run_append_own (P := Try.prog) (w := w3) w.heap.size 61 61 101 ti _ 11 56 Try.underlying61 i1 i2 i3 i4 rfl (by omega) (v 8) (i) _ hO a2 (n - (i + 1)) (c - (i + 1)) (nrsC (S.drop (i + 1))) (by rw [nrsC_len, List.length_drop]; omega) (hs16 _ q2) (nrsC_one _) (by unfold maxLen; omega) (by omega) q2.size
      have hne : some q ≠ (v 8).ownBlock := fun e => absurd (World.ownsRow.lt hO q e.symm).1 (by omega)
      unfold Oper.wp execOp
      simp only [resolve, invoke, builtin, Sem.run_bind, Sem.run_pure, Result.andThen_ok, List.map_toArray, List.map_cons, List.map_nil, e8, e15, ha2, hrun]
      refine hK _ _ ⟨fun y hy hpy => ?_, q2.trans (Chg.of_grown (F := fun b => (v 8).ownBlock = some b) hG (fun b e => e)) (fun x hx => .inr (World.ownsRow.lt hO x hx).1), cnD_step q3 (fun h => by cases h) (fun h => by first | exact d7 | cases h) (fun h => by cases h) (fun h => by first | exact ⟨d8, d15⟩ | cases h) (fun h => by cases h), ?_, ?_, ?_, ?_, ?_⟩
      · have ny : y ≠ 16 := by rintro rfl; cases hpy
        rw [upd_ne _ _ ny]; rw [upd_ne _ _ ny] at hy; exact q1 y hy hpy
      · exact fun _ h => by have h9 : L 8 = false := h; rw [d8] at h9; cases h9
      · exact fun _ h => by rw [upd_same] at h; cases h
      · exact fun _ => by rw [upd_same]; exact hO4
      · exact fun _ => (q7 hold).grown hG hne
      · exact fun h => by have h9 : L 19 = true := h; rw [hold] at h9; cases h9
    · intro L v w3 f hL hdep hF hR K hK
      simp [Region.binds] at hdep
      have e0 : f.eval (.tmp 4) = _ := ((hF.2 0 4 rfl hdep.1).trans (cnR_plain hR 0 hdep.1 rfl)).trans (show cnC q g n c i A2 0 = .pointer (some ⟨q, 0, none⟩) from rfl)
      have g0 : f.tmps[4]?.getD undef = .pointer (some ⟨q, 0, none⟩) := by have := e0; simpa [Act.eval] using this
      clear e0
      unfold Oper.wp
      go_simp
      exact hK _ _ (cnR_step hR rfl rfl (fun h => by cases h) (fun h => by cases h))
    · intro L v w3 f hL hdep hF hR K hK
      simp [Region.binds] at hdep
      have e17 : f.eval (.tmp 21) = _ := ((hF.2 17 21 rfl hdep.1).trans (cnR_plain hR 17 hdep.1 rfl)).trans (show cnC q g n c i A2 17 = .pointer (some ⟨q, 0, none⟩) from rfl)
      have g17 : f.tmps[21]?.getD undef = .pointer (some ⟨q, 0, none⟩) := by have := e17; simpa [Act.eval] using this
      clear e17
      unfold Oper.wp
      go_simp
      exact hK _ _ (cnR_step hR rfl rfl (fun h => by cases h) (fun h => by cases h))
    · intro L v w3 f hL hdep hF hR K hK
      simp [Region.binds] at hdep
      obtain ⟨d18, d16, _⟩ := hdep
      have e18 : f.eval (.tmp 22) = _ := ((hF.2 18 22 rfl d18).trans (cnR_plain hR 18 d18 rfl)).trans (show cnC q g n c i A2 18 = .pointer (some ⟨q, 0, none⟩) from rfl)
      have g18 : f.tmps[22]?.getD undef = .pointer (some ⟨q, 0, none⟩) := by have := e18; simpa [Act.eval] using this
      clear e18
      obtain ⟨q1, q2, q3, q4, q5, q6, q7, q8⟩ := hR
      have e16 : f.eval (.tmp 20) = v 16 := hF.2 16 20 rfl d16
      have hO := q6 d16
      have hB := q7 hL
      have hne : (v 16).ownBlock = none ∨ (v 16).ownBlock ≠ some q := .inr fun e => absurd (World.ownsRow.lt hO q e).1 (by omega)
      have hcq : w3.cell? ⟨q, 0, none⟩ = some (.slice (some ⟨g, 0, none⟩) n c) := (hB.cell 0).trans rfl
      have hfq : w3.frozen? ⟨q, 0, none⟩ = false := hB.frozen 0
      have h16 : ∃ A c, v 16 = .slice A (i + (n - (i + 1))) c := by
        rcases hO.2 with ⟨h, h'⟩ | ⟨_, cap, _, h, _⟩
        · exact ⟨none, 0, by rw [h, h']⟩
        · exact ⟨_, cap, h⟩
      obtain ⟨A9, c9, h16⟩ := h16
      have g16 : f.tmps[20]?.getD undef = .slice A9 (i + (n - (i + 1))) c9 := by have := e16.trans h16; simpa [Act.eval] using this
      clear e16
      have hG : ∀ u, w3.grownBy (w3.setCell ⟨q, 0, none⟩ u) (some q) := fun u => grownBy_setCell (World.grownBy.refl w3 (some q)) (.inl rfl) u
      unfold Oper.wp
      go_simp
      refine hK undef _ ⟨fun y hy hpy => ?_, q2.setCell (.inl rfl) _, cnD_step q3 (fun h => by cases h) (fun h => by cases h) (fun h => by cases h) (fun h => by cases h) (fun _ => d16), ?_, ?_, ?_, ?_, ?_⟩
      · have ny : y ≠ 19 := by rintro rfl; cases hpy
        rw [upd_ne _ _ ny]; rw [upd_ne _ _ ny] at hy; exact q1 y hy hpy
      · exact fun _ h => by have h9 : L 8 = false := h; rw [(q3.2.1 d16).1] at h9; cases h9
      · exact fun _ h => by have h9 : L 16 = false := h; rw [d16] at h9; cases h9
      · exact fun _ => World.ownsRow.kept hO (hG _) hne
      · exact fun h => by rw [upd_same] at h; cases h
      · exact fun _ => by
          show Bk _ q 63 #[v 16]
          rw [h16]
          exact hB.set 0 _
  · intro v w3 L hall hR
    obtain ⟨q1, q2, q3, q4, q5, q6, q7, q8⟩ := hR
    have hO := q6 (hall 16 (by decide))
    have hB := q8 (hall 19 (by decide))
    have h16 : ∃ A c, v 16 = .slice A (i + (n - (i + 1))) c := by
      rcases hO.2 with ⟨h, h'⟩ | ⟨_, cap, _, h, _⟩
      · exact ⟨none, 0, by rw [h, h']⟩
      · exact ⟨_, cap, h⟩
    obtain ⟨A9, c9, e16⟩ := h16
    rw [e16] at hB hO
    rw [← nrsC_append] at hO
    have hO9 : Rs w3 w.heap.size A9 (i + (n - (i + 1))) c9 (S.take i ++ S.drop (i + 1)) := hO
    have HFI : Hid (∃ A' n' c', RcS w3 q A' n' c' (S.take i ++ S.drop (i + 1)) ∧ Chg (fun b => b = q) w w3 ∧ ∀ b, blk A' = some b → w.heap.size ≤ b) :=
      Lib.hid ⟨A9, _, c9, ⟨hB, hO9.mono (Nat.zero_le _), fun e => by have := (hO9.lt q e).1; omega⟩, q2, fun b hb => (hO9.lt b hb).1⟩
    clear hO9
    clear q1 q2 q3 q4 q5 q6 q7 q8 hO hB
    simp only [frL, if_true, Act.put, List.setIfInBounds_toArray, List.set_cons_zero, List.set_cons_succ]
    go_wp2
    refine bodyPost_end (results_none rfl _ _ _) rfl ?_
    obtain ⟨A', n', c', h1, h2, h3⟩ := HFI.out
    exact ⟨rfl, A', ⟨n', c', h1⟩, h2, h3⟩
end Go.Proofs.Ytocigdkndlmikaa
