/- Proved: rows of the reference's wholes: what they hold, what keeps them, one more, one that is stored. Conditions: as each law says. -/
import Derived.Test.YtcjkhonapafndaaFrl
import Derived.Test.YtcjkhonapafndaaFst
import Derived.Deep.MidRow
import Derived.Deep.WholeRow
import Derived.Great.BuildSlice
set_option linter.unusedVariables false
set_option linter.unusedSimpArgs false
namespace Go.Proofs.Ytcjkhonapafndaa
open Go.RowKit
/-- One of the reference's wholes, in memory. -/
structure RVm where
  k : K4
  bg : Int
  fin : Int
  dA : Option Addr
  dn : Nat
  dc : Nat
  data : List Int
  hA : Option Addr
  hn : Nat
  hc : Nat
  has : List Bool
  hf : Bool
  f : PkV
  oA : Option Addr
  on : Nat
  oc : Nat
  ol : List Int
  fA : Option Addr
  fn : Nat
  fc : Nat
  fl : List Int
def RVm.rv (x : RVm) : RV := ⟨x.k, x.bg, x.fin, x.data, x.has, if x.hf then some (x.f, x.ol, x.fl) else none⟩
def rvC (x : RVm) : List Value := [.int .u32 x.k.1, .int .u32 x.k.2.1, .int .i64 x.k.2.2.1, .int .i64 x.k.2.2.2, .int .i64 x.bg, .slice x.dA x.dn x.dc, .slice x.hA x.hn x.hc, .int .i64 x.fin,
  .int .i64 x.f.svc, .int .i64 x.f.id, .bool x.f.whole, .bool x.f.more, .int .i64 x.f.off, .int .i64 x.f.life, .int .i64 x.f.proto, .int .u32 x.f.src, .int .u32 x.f.dst, .slice x.oA x.on x.oc, .slice x.fA x.fn x.fc, .bool x.hf]
theorem rvC_len (x : RVm) : (rvC x).length = 20 := rfl
def rvsC (L : List RVm) : List Value := L.flatMap rvC
theorem rvsC_len (L : List RVm) : (rvsC L).length = L.length * 20 := by
  unfold rvsC
  induction L with
  | nil => rfl
  | cons x r ih => rw [List.flatMap_cons, List.length_append, ih, rvC_len, List.length_cons]; omega
theorem rvsC_get : ∀ (L : List RVm) (k i : Nat) (x : RVm), L[k]? = some x → i < 20 → (rvsC L)[k * 20 + i]? = (rvC x)[i]?
  | [], k, i, x, h, _ => by simp at h
  | y :: r, 0, i, x, h, hi => by
    simp at h; subst h
    unfold rvsC
    rw [List.flatMap_cons, Nat.zero_mul, Nat.zero_add, List.getElem?_append_left (by rw [rvC_len]; exact hi)]
  | y :: r, k + 1, i, x, h, hi => by
    simp at h
    have := rvsC_get r k i x h hi
    unfold rvsC at this ⊢
    rw [List.flatMap_cons, List.getElem?_append_right (by rw [rvC_len]; omega), rvC_len, show (k + 1) * 20 + i - 20 = k * 20 + i by omega]
    exact this
theorem rvsC_append (S T : List RVm) : rvsC (S ++ T) = rvsC S ++ rvsC T := by unfold rvsC; rw [List.flatMap_append]
theorem rvC_one (x : RVm) : ∀ u ∈ rvC x, u.oneCell' = true := by
  intro u hu
  unfold rvC at hu
  simp only [List.mem_cons, List.not_mem_nil, or_false] at hu
  rcases hu with rfl | rfl | rfl | rfl | rfl | rfl | rfl | rfl | rfl | rfl | rfl | rfl | rfl | rfl | rfl | rfl | rfl | rfl | rfl | rfl <;> rfl
theorem rvsC_one (L : List RVm) : ∀ u ∈ rvsC L, u.oneCell' = true := by
  intro u hu
  obtain ⟨x, _, hx⟩ := List.mem_flatMap.1 hu
  exact rvC_one x u hx
def zeroWh : Value := .agg #[.int .u32 0, .int .u32 0, .int .i64 0, .int .i64 0, .int .i64 0, .slice none 0 0, .slice none 0 0, .int .i64 0, .int .i64 0, .int .i64 0, .bool false, .bool false, .int .i64 0, .int .i64 0, .int .i64 0, .int .u32 0, .int .u32 0, .slice none 0 0, .slice none 0 0, .bool false]
theorem info_rw : ∃ i, Try.prog.info? 94 = some i ∧ i.zero = some zeroWh ∧ i.size = 20 ∧ i.bytes = 200 := by
  have h : (Try.prog.info? 94).map (fun i => (i.zero, i.size, i.bytes)) = some (some zeroWh, 20, 200) := by kernel_rfl
  cases hi : Try.prog.info? 94 with
  | none => rw [hi] at h; cases h
  | some i =>
    rw [hi] at h
    simp only [Option.map_some, Option.some.injEq, Prod.mk.injEq] at h
    exact ⟨i, rfl, h.1, h.2.1, h.2.2⟩
/-- A row of its own. -/
def Rs (w : World) (base : Nat) (A : Option Addr) (n c : Nat) (L : List RVm) : Prop := w.ownsRow base 94 20 (.slice A n c) n (rvsC L)
section
variable {w w' : World} {base : Nat} {A : Option Addr} {n c : Nat} {L : List RVm}
theorem Rs.none_ (w : World) (base : Nat) : Rs w base none 0 0 [] := World.ownsRow_nil w base _ 20
theorem Rs.len (h : Rs w base A n c L) : L.length = n := by
  have h1 := h.1
  rw [rvsC_len] at h1; omega
theorem Rs.cases_ (h : Rs w base A n c L) : (A = none ∧ n = 0 ∧ c = 0 ∧ L = []) ∨ ∃ g cur, A = some ⟨g, 0, none⟩ ∧ base ≤ g ∧ w.heap[g]? = some (.cells cur 94 (0, 0)) ∧ n ≤ c ∧ c ≤ maxLen ∧ cur.size = c * 20 ∧ cur.toList.take (n * 20) = rvsC L := by
  have hl := h.len
  rcases h.2 with ⟨h1, h2⟩ | ⟨g, cap, cur, h1, h2, h3, h4, h5, h6, h7⟩
  · injection h1 with a b d
    exact .inl ⟨a, b, d, List.eq_nil_of_length_eq_zero (by omega)⟩
  · injection h1 with a b d
    subst a; subst d
    exact .inr ⟨g, cur, rfl, h2, h3, h4, h5, h6, h7⟩
theorem Rs.lt (h : Rs w base A n c L) : ∀ g, blk A = some g → base ≤ g ∧ g < w.heap.size := fun g hg => World.ownsRow.lt h g (by rw [ownBlock_slice]; exact hg)
theorem Rs.cap (h : Rs w base A n c L) : n ≤ c := by
  rcases h.cases_ with ⟨_, rfl, rfl, _⟩ | ⟨_, _, _, _, _, h1, _⟩
  · exact Nat.le_refl _
  · exact h1
theorem Rs.mono {base' : Nat} (h : Rs w base A n c L) (hb : base' ≤ base) : Rs w base' A n c L := by
  refine ⟨h.1, ?_⟩
  rcases h.2 with h1 | ⟨g, cap, cur, h1, h2, h3⟩
  · exact .inl h1
  · exact .inr ⟨g, cap, cur, h1, by omega, h3⟩
theorem Rs.chg {F : Nat → Prop} (h : Rs w base A n c L) (hc : Chg F w w') (hb : ∀ b, blk A = some b → ¬ F b) : Rs w' base A n c L := by
  refine ⟨h.1, ?_⟩
  rcases h.2 with h1 | ⟨g, cap, cur, h1, h2, h3, h4⟩
  · exact .inl h1
  · have e := (Value.slice.inj h1).1
    exact .inr ⟨g, cap, cur, h1, h2, (hc.block g (Array.getElem?_eq_some_iff.1 h3).1 (hb g (by rw [e]; rfl))).trans h3, h4⟩
theorem Rs.cell (h : Rs w base A n c L) {k : Nat} {x : RVm} (hk : L[k]? = some x) :
    ∃ g, A = some ⟨g, 0, none⟩ ∧ base ≤ g ∧ g < w.heap.size ∧ ∀ j u, (rvC x)[j]? = some u → w.cell? ⟨g, k * 20 + j, none⟩ = some u ∧ w.frozen? ⟨g, k * 20 + j, none⟩ = false := by
  have hkl := (List.getElem?_eq_some_iff.1 hk).1
  have hln := h.len
  rcases h.cases_ with ⟨_, rfl, _, rfl⟩ | ⟨g, cur, rfl, h2, h3, h4, h5, h6, h7⟩
  · simp at hk
  · refine ⟨g, rfl, h2, (Array.getElem?_eq_some_iff.1 h3).1, fun j u hu => ⟨?_, by simp [World.frozen?, h3]⟩⟩
    have hj : j < 20 := by have := (List.getElem?_eq_some_iff.1 hu).1; rwa [rvC_len] at this
    rw [cell_of_row w g (k * 20 + j) cur _ (0, 0) h3]
    have := rvsC_get L k j x hk hj
    rw [hu, ← h7, List.getElem?_take, if_pos (by omega)] at this
    simpa using this
end
theorem rvsC_take (S : List RVm) (k : Nat) : rvsC (S.take k) = (rvsC S).take (k * 20) := by
  have h := rvsC_append (S.take k) (S.drop k)
  rw [List.take_append_drop] at h
  by_cases hk : k ≤ S.length
  · rw [h, List.take_left' (by rw [rvsC_len, List.length_take, Nat.min_eq_left hk])]
  · rw [List.take_of_length_le (by omega), List.take_of_length_le (by rw [rvsC_len]; omega)]
theorem rvsC_drop (S : List RVm) (k : Nat) : rvsC (S.drop k) = (rvsC S).drop (k * 20) := by
  have h := rvsC_append (S.take k) (S.drop k)
  rw [List.take_append_drop] at h
  by_cases hk : k ≤ S.length
  · rw [h, List.drop_left' (by rw [rvsC_len, List.length_take, Nat.min_eq_left hk])]
  · rw [List.drop_of_length_le (by omega), List.drop_of_length_le (by rw [rvsC_len]; omega)]; rfl
theorem Rs.rw {w : World} {base g off n c : Nat} {L : List RVm} (h : Rs w base (some ⟨g, off, none⟩) n c L) : off = 0 ∧ g < w.heap.size ∧ ∀ j u, (rvsC L)[j]? = some u → w.cell? ⟨g, j, none⟩ = some u := by
  rcases h.cases_ with ⟨h1, _⟩ | ⟨g', cur, h1, h2, h3, h4, h5, h6, h7⟩
  · cases h1
  · injection h1 with h1
    injection h1 with e1 e2
    subst e1; subst e2
    refine ⟨rfl, (Array.getElem?_eq_some_iff.1 h3).1, fun j u hu => ?_⟩
    rw [cell_of_row w g j cur _ (0, 0) h3]
    rw [← h7, List.getElem?_take] at hu
    split at hu
    · simpa using hu
    · cases hu
/-- The reference's Store at q, its row of wholes. -/
def RsS (w : World) (q : Nat) (A : Option Addr) (n c : Nat) (L : List RVm) : Prop := Bk w q 60 #[.slice A n c] ∧ Rs w 0 A n c L ∧ blk A ≠ some q
theorem rw_size : (Try.prog.info? 94).map (·.size) = some 20 := by kernel_rfl
theorem rw_row : ∃ d, Try.prog.underlying 94 = some d ∧ d.isRow = true := ⟨_, Try.underlying94, rfl⟩
theorem rvC_all (y : RVm) : (rvC y).toArray.all (·.oneCell') = true := all_oneCell_toArray (rvC_one y)
theorem Rs.range {w : World} {base g n c : Nat} {L : List RVm} (h : Rs w base (some ⟨g, 0, none⟩) n c L) {k : Nat} {x : RVm} (hk : L[k]? = some x) : w.rangeAt g (k * 20) (rvC x) := by
  obtain ⟨g', e, _, _, hc⟩ := h.cell hk
  injection e with e
  injection e with e
  subst e
  exact fun j u hu => (hc j u hu).1
theorem Bk.range {w : World} {g : Nat} {y : RVm} (h : Bk w g 94 (rvC y).toArray) : w.rangeAt g 0 (rvC y) := fun j u hu => by
  rw [Nat.zero_add, h.cell j]
  simpa using hu
section
variable {ops : Array Oper} {rest : List Oper} {o : Oper} {a : Act} {w : World} {Q : Exit → Act → World → Prop}
/-- A whole is loaded, its cells unopened. -/
theorem ld_rw (hgd : o.guard = none) (x : Operand) (ho : o.op = .load 94 x) {g off : Nat} (hx : a.eval x = .pointer (some ⟨g, off, none⟩)) (y : RVm) (hc : w.rangeAt g off (rvC y))
    (h : wpList Try.prog ops Q rest (a.put o.dst (.agg (rvC y).toArray)) w) : wpList Try.prog ops Q (o :: rest) a w := by
  obtain ⟨d, hu, hd⟩ := rw_row
  exact wpList_load_mid hgd _ x ho g off hx (rvC y) d hc hu hd rw_size h
/-- A whole is stored into the block that was made last. -/
theorem st_rw_new (hgd : o.guard = none) (p x : Operand) (ho : o.op = .store 94 p x) (hd : o.dst = none) {old : Array Value} (hold : old.size = 20) (hp : a.eval p = .pointer (some ⟨w.heap.size, 0, none⟩)) (y : RVm) (hy : a.eval x = .agg (rvC y).toArray)
    (h : wpList Try.prog ops Q rest a (w.alloc (.cells (rvC y).toArray 94))) : wpList Try.prog ops Q (o :: rest) a (w.alloc (.cells old 94)) := by
  refine wpList_store_rowTo hgd _ p x ho hd w.heap.size (rvC y).toArray hp hy 94 old (heap_alloc_new w _) rw_size hold (rvC_all y) ?_
  rw [World.setRow_alloc_new]
  exact h
/-- A whole is stored at any place of a row. -/
theorem st_rw_mid (hgd : o.guard = none) (p x : Operand) (ho : o.op = .store 94 p x) (hd : o.dst = none) {g off : Nat} (hp : a.eval p = .pointer (some ⟨g, off, none⟩)) (y : RVm) (hy : a.eval x = .agg (rvC y).toArray) (ht : w.there g off 20)
    (h : wpList Try.prog ops Q rest a (w.setCells g off (rvC y))) : wpList Try.prog ops Q (o :: rest) a w := by
  refine wpList_store_mid hgd _ p x ho g off (rvC y).toArray hp hy ht rw_size (rvC_all y) ?_
  rw [hd]
  exact h
end
theorem setRow_bk {w : World} {g : Nat} {t : TypeId} {old c : Array Value} (h : Bk w g t old) : Bk (w.setRow g c) g t c ∧ Chg (fun b => b = g) w (w.setRow g c) := by
  have hl := h.lt
  have h' : w.heap[g]? = some (.cells old t (0, 0)) := h
  refine ⟨?_, rfl, rfl, rfl, ?_, fun b hb hn => ?_⟩
  · show (w.setRow g c).heap[g]? = some (.cells c t (0, 0))
    simp only [World.setRow]
    rw [Array.getElem?_modify, if_pos rfl, h']
    rfl
  · simp only [World.setRow, Array.size_modify]
    exact Nat.le_refl _
  · simp only [World.setRow]
    rw [Array.getElem?_modify, if_neg (fun e => hn e.symm)]
section
variable {ops : Array Oper} {rest : List Oper} {o : Oper} {a : Act} {w : World} {Q : Exit → Act → World → Prop}
/-- A whole is stored into a block of its own. -/
theorem st_rw_box (hgd : o.guard = none) (p x : Operand) (ho : o.op = .store 94 p x) (hd : o.dst = none) {g : Nat} (hp : a.eval p = .pointer (some ⟨g, 0, none⟩)) (y : RVm) (hy : a.eval x = .agg (rvC y).toArray) {old : Array Value} (hb : Bk w g 94 old) (hs : old.size = 20)
    (h : ∀ w', Bk w' g 94 (rvC y).toArray → Chg (fun b => b = g) w w' → wpList Try.prog ops Q rest a w') : wpList Try.prog ops Q (o :: rest) a w := by
  refine wpList_store_rowTo hgd _ p x ho hd g (rvC y).toArray hp hy 94 old hb rw_size hs (rvC_all y) ?_
  obtain ⟨h1, h2⟩ := setRow_bk (c := (rvC y).toArray) hb
  exact h _ h1 h2
end
theorem results_c1 {P : Program} {fn : Func} {p : Tmp} {ty : TypeId} (h : fn.results = #[.cell p ty]) (tmps : Array Value) (w : World) (g : Nat) (t : TypeId) (cs : Array Value) (fr : Nat × Nat) (d : TypeDesc)
    (hp : tmps.getD p undef = .pointer (some ⟨g, 0, none⟩)) (hg : w.heap[g]? = some (.cells cs t fr))
    (hu : P.underlying ty = some d) (hd : (match d with | .struct _ | .array _ _ => true | _ => false) = true) (hi : (P.info? ty).map (·.size) = some cs.size) :
    (results fn tmps).run P w = .ok (.agg cs) w := by
  have hp' : tmps[p]?.getD undef = .pointer (some ⟨g, 0, none⟩) := by simpa using hp
  simp [results, h, hp', asAddr, run_loadVar_row w g t ty cs fr d hg hu hd hi, Result.andThen]
end Go.Proofs.Ytcjkhonapafndaa
