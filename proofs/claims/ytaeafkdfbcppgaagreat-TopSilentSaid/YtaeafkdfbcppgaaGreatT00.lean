/- Proved: small laws on masks, on rows of values in memory and on append. Conditions: as each law says. -/
import Derived.Deep.AppendLies
import Derived.Deep.Draws
import Derived.Lib.Hide
import Derived.Maps.AppendAt
import Derived.RegionTactic
import Derived.RowKit3
import Derived.WalkKit
import Derived.WalkSpells
set_option linter.unusedSectionVars false
set_option linter.unusedSimpArgs false
set_option linter.unusedVariables false
namespace Go.Proofs.YtaeafkdfbcppgaaGreat
open Go.RowKit
theorem and_i64_1 (a : Int) : bits .and .i64 a 1 = a % 2 := by
 show IntKind.i64.wrap (((BitVec.ofInt 64 a &&& BitVec.ofInt 64 1).toNat : Nat) : Int) = _
 rw [BitVec.toNat_and, BitVec.toNat_ofInt, show (BitVec.ofInt 64 1).toNat = 2 ^ 1 - 1 from rfl, Nat.and_two_pow_sub_one_eq_mod, IntKind.wrap_i64]
 omega
theorem and_i64_8191 (a : Int) : bits .and .i64 a 8191 = a % 8192 := by
 show IntKind.i64.wrap (((BitVec.ofInt 64 a &&& BitVec.ofInt 64 8191).toNat : Nat) : Int) = _
 rw [BitVec.toNat_and, BitVec.toNat_ofInt, show (BitVec.ofInt 64 8191).toNat = 2 ^ 13 - 1 from rfl, Nat.and_two_pow_sub_one_eq_mod, IntKind.wrap_i64]
 omega
theorem and_i64_65535 (a : Int) : bits .and .i64 a 65535 = a % 65536 := by
 show IntKind.i64.wrap (((BitVec.ofInt 64 a &&& BitVec.ofInt 64 65535).toNat : Nat) : Int) = _
 rw [BitVec.toNat_and, BitVec.toNat_ofInt, show (BitVec.ofInt 64 65535).toNat = 2 ^ 16 - 1 from rfl, Nat.and_two_pow_sub_one_eq_mod, IntKind.wrap_i64]
 omega
theorem and_u32_1 (a : Int) : bits .and .u32 a 1 = a % 2 := by
 show IntKind.u32.wrap (((BitVec.ofInt 32 a &&& BitVec.ofInt 32 1).toNat : Nat) : Int) = _
 rw [BitVec.toNat_and, BitVec.toNat_ofInt, show (BitVec.ofInt 32 1).toNat = 2 ^ 1 - 1 from rfl, Nat.and_two_pow_sub_one_eq_mod, IntKind.wrap_u32]
 omega
theorem and_u8_15 (a : Int) : bits .and .u8 a 15 = a % 16 := by
 show IntKind.u8.wrap (((BitVec.ofInt 8 a &&& BitVec.ofInt 8 15).toNat : Nat) : Int) = _
 rw [BitVec.toNat_and, BitVec.toNat_ofInt, show (BitVec.ofInt 8 15).toNat = 2 ^ 4 - 1 from rfl, Nat.and_two_pow_sub_one_eq_mod, IntKind.wrap_u8]
 omega
theorem add_eq (b off j : Nat) : (⟨b, off, none⟩ : Addr).add j = ⟨b, off + j, none⟩ := by
 unfold Addr.add; split <;> simp_all
def Rw (w : World) (B : Nat) (A : Option Addr) (xs : List Value) : Prop :=
 0 < xs.length → ∃ b off, A = some ⟨b, off, none⟩ ∧ b < B ∧ ∀ j u, xs[j]? = some u → w.cell? ⟨b, off + j, none⟩ = some u
section
variable {w w' : World} {B B' : Nat} {A : Option Addr} {xs : List Value}
theorem Rw.nil (w : World) (B : Nat) (A : Option Addr) : Rw w B A [] := fun h => absurd h (by simp)
theorem Rw.keep (h : Rw w B A xs) (hk : ∀ p : Addr, p.block < B → w'.cell? p = w.cell? p) : Rw w' B A xs := fun hn => by
 obtain ⟨b, off, e, hb, hc⟩ := h hn
 exact ⟨b, off, e, hb, fun j u hu => (hk _ hb).trans (hc j u hu)⟩
theorem Rw.more (h : Rw w B A xs) (hB : B ≤ B') : Rw w B' A xs := fun hn => by
 obtain ⟨b, off, e, hb, hc⟩ := h hn
 exact ⟨b, off, e, by omega, hc⟩
theorem Rw.below (h : Rw w B A xs) (hb : Below B w w') : Rw w' B A xs := h.keep fun _ hp => hb.cell hp
theorem Rw.drew (h : Rw w B A xs) : Rw w.drew B A xs := h
theorem Rw.alloc (h : Rw w B A xs) (hB : B ≤ w.heap.size) (o : Obj) : Rw (w.alloc o) B A xs := h.keep fun p hp => World.cell?_alloc_lt w o p (by omega)
theorem Rw.at_ (h : Rw w B A xs) {k : Nat} {u : Value} (hk : xs[k]? = some u) : ∃ b off, A = some ⟨b, off, none⟩ ∧ b < B ∧ w.cell? ⟨b, off + k, none⟩ = some u := by
 have hl : k < xs.length := by
  rcases Nat.lt_or_ge k xs.length with hl | hl
  ·exact hl
  ·rw [List.getElem?_eq_none hl] at hk; cases hk
 obtain ⟨b, off, e, hb, hc⟩ := h (by omega)
 exact ⟨b, off, e, hb, hc k u hk⟩
theorem Rw.take (h : Rw w B A xs) (k : Nat) : Rw w B A (xs.take k) := fun hn => by
 obtain ⟨b, off, e, hb, hc⟩ := h (by rw [List.length_take] at hn; omega)
 refine ⟨b, off, e, hb, fun j u hu => hc j u ?_⟩
 rw [List.getElem?_take] at hu
 split at hu
 ·exact hu
 ·cases hu
theorem Rw.drop (h : Rw w B A xs) {k : Nat} {A' : Option Addr} (hA : k < xs.length → A' = A.map (·.add k)) : Rw w B A' (xs.drop k) := fun hn => by
 rw [List.length_drop] at hn
 obtain ⟨b, off, rfl, hb, hc⟩ := h (by omega)
 refine ⟨b, off + k, ?_, hb, fun j u hu => ?_⟩
 ·rw [hA (by omega), Option.map_some, add_eq]
 ·rw [Nat.add_assoc]
  exact hc _ u (by rw [← hu, List.getElem?_drop])
theorem Rw.cut (h : Rw w B A xs) (cap k : Nat) (hc : xs.length ≤ cap) : Rw w B (if cap = k then A else A.map (·.add k)) (xs.drop k) :=
 h.drop fun hk => by rw [if_neg (by omega)]
end
theorem grownBy_drew {w w' : World} {row : Option Nat} (h : w.grownBy w' row) : w.grownBy w'.drew row := ⟨h.os, h.tape, h.output, h.size, h.block⟩
theorem bel_drewN {B : Nat} {a w : World} (h : Below B a w) (n : Nat) : Below B a (w.drewN n) := ⟨h.os, h.tape, h.output, h.size, h.block⟩
def blk (A : Option Addr) : Option Nat := A.map (·.block)
theorem Rw.grownNe {w w' : World} {B : Nat} {A : Option Addr} {xs : List Value} {row : Option Nat} (h : Rw w B A xs) (hg : w.grownBy w' row) (hB : B ≤ w.heap.size) (hne : blk A ≠ row) : Rw w' B A xs := fun hn => by
 obtain ⟨b, off, rfl, hb, hc⟩ := h hn
 exact ⟨b, off, rfl, hb, fun j u hu => (World.cell?_of_block (hg.block b (by omega) hne)).trans (hc j u hu)⟩
theorem ownBlock_slice (A : Option Addr) (n c : Nat) : (Value.slice A n c).ownBlock = blk A := by cases A <;> rfl
def Ow (E : TypeId) (w : World) (base : Nat) (A : Option Addr) (n c : Nat) (xs : List Value) : Prop := w.ownsRow base E 1 (.slice A n c) n xs
section
variable {E : TypeId} {w w' : World} {base : Nat} {A : Option Addr} {n c : Nat} {xs : List Value}
theorem Ow.none_ (E : TypeId) (w : World) (base : Nat) : Ow E w base none 0 0 [] := World.ownsRow_nil w base E 1
theorem Ow.length (h : Ow E w base A n c xs) : xs.length = n := by have := h.1; omega
theorem Ow.cases_ (h : Ow E w base A n c xs) : (A = none ∧ n = 0 ∧ c = 0 ∧ xs = []) ∨ ∃ g cur, A = some ⟨g, 0, none⟩ ∧ base ≤ g ∧ w.heap[g]? = some (.cells cur E (0, 0)) ∧ n ≤ c ∧ c ≤ maxLen ∧ cur.size = c ∧ cur.toList.take n = xs := by
 rcases h.2 with ⟨h1, h2⟩ | ⟨g, cap, cur, h1, h2, h3, h4, h5, h6, h7⟩
 ·injection h1 with a b d
  subst a; subst h2; subst d
  exact .inl ⟨rfl, rfl, rfl, List.eq_nil_of_length_eq_zero (by simpa using h.1)⟩
 ·injection h1 with a b d
  subst a; subst d
  exact .inr ⟨g, cur, rfl, h2, h3, h4, h5, by omega, by simpa using h7⟩
theorem Ow.cap (h : Ow E w base A n c xs) : n ≤ c := by
 rcases h.cases_ with ⟨_, rfl, rfl, _⟩ | ⟨_, _, _, _, _, h1, _⟩
 ·exact Nat.le_refl _
 ·exact h1
theorem Ow.capMax (h : Ow E w base A n c xs) : c ≤ maxLen := by
 rcases h.cases_ with ⟨_, rfl, rfl, _⟩ | ⟨_, _, _, _, _, _, h1, _⟩
 ·exact Nat.zero_le _
 ·exact h1
theorem Ow.lt (h : Ow E w base A n c xs) : ∀ g, blk A = some g → base ≤ g ∧ g < w.heap.size := fun g hg => World.ownsRow.lt h g (by rw [ownBlock_slice]; exact hg)
theorem Ow.kept {row : Option Nat} (h : Ow E w base A n c xs) (hg : w.grownBy w' row) (hne : blk A = none ∨ blk A ≠ row) : Ow E w' base A n c xs :=
 World.ownsRow.kept h hg (by rw [ownBlock_slice]; exact hne)
theorem Ow.alloc (h : Ow E w base A n c xs) (o : Obj) : Ow E (w.alloc o) base A n c xs := World.ownsRow.alloc h o
theorem Ow.mono {base' : Nat} (h : Ow E w base A n c xs) (hb : base' ≤ base) : Ow E w base' A n c xs := by
 refine ⟨h.1, ?_⟩
 rcases h.2 with h1 | ⟨g, cap, cur, h1, h2, h3⟩
 ·exact .inl h1
 ·exact .inr ⟨g, cap, cur, h1, by omega, h3⟩
theorem Ow.below {B : Nat} (h : Ow E w base A n c xs) (hb : Below B w w') (hB : ∀ g, blk A = some g → g < B) : Ow E w' base A n c xs := by
 refine ⟨h.1, ?_⟩
 rcases h.2 with h1 | ⟨g, cap, cur, h1, h2, h3, h4⟩
 ·exact .inl h1
 ·have a := (Value.slice.inj h1).1
  exact .inr ⟨g, cap, cur, by rw [h1], h2, (hb.block g (hB g (by rw [a]; rfl))).trans h3, h4⟩
theorem Ow.setCell {p : Addr} (h : Ow E w base A n c xs) (hne : blk A ≠ some p.block) (u : Value) : Ow E (w.setCell p u) base A n c xs := by
 refine ⟨h.1, ?_⟩
 rcases h.2 with h1 | ⟨g, cap, cur, h1, h2, h3, h4⟩
 ·exact .inl h1
 ·have a := (Value.slice.inj h1).1
  exact .inr ⟨g, cap, cur, by rw [h1], h2, (Below.heap_setCell w p u g (fun e => hne (by rw [a, ← e]; rfl))).trans h3, h4⟩
theorem Ow.stays (h : Ow E w base A n c xs) (hb : Below w.heap.size w w') : Ow E w' base A n c xs := h.below hb fun g hg => (h.lt g hg).2
theorem Ow.rw (h : Ow E w base A n c xs) : Rw w w.heap.size A xs := fun hn => by
 rcases h.cases_ with ⟨_, _, _, rfl⟩ | ⟨g, cur, rfl, _, hg, _, _, _, ht⟩
 ·simp at hn
 ·refine ⟨g, 0, rfl, (h.lt g rfl).2, fun j u hu => ?_⟩
  rw [Nat.zero_add, cell_of_row w g j cur E (0, 0) hg]
  rw [← ht, List.getElem?_take] at hu
  split at hu
  ·simpa using hu
  ·cases hu
end
section
variable {P : Program} {w : World}
theorem run_append_nilsrc (t ty e : TypeId) (i : TypeInfo) (ht : P.underlying t = some (.slice e)) (hi : P.info? e = some i)
  {E : TypeId} {base : Nat} {A : Option Addr} {n c : Nat} {xs : List Value} (hown : Ow E w base A n c xs) (c2 : Nat) :
  (Builtin.append_ #[t, t] ty #[.slice A n c, .slice none 0 c2]).run P w = .ok (.slice A n c) w := by
 rcases hown.cases_ with ⟨rfl, rfl, rfl, _⟩ | ⟨g, cur, rfl, _, _, hnc, _⟩
 ·simp [Builtin.append_, run_underlying ht, sizeOf, typeInfo, hi, Builtin.lenOf, Builtin.firstCells]
 ·simp [Builtin.append_, run_underlying ht, sizeOf, typeInfo, hi, Builtin.lenOf, Builtin.firstCells, hnc, storeCells]
theorem run_append_rw (base : Nat) (t ty e : TypeId) (z : Value) (bytes : Nat) (ht : P.underlying t = some (.slice e))
  (hinfo : (P.info? e).map (fun i => (i.zero, i.size, i.bytes)) = some (some z, 1, bytes)) (hzs : z.cells.size = 1)
  {A : Option Addr} {n c : Nat} {xs : List Value} (hown : Ow e w base A n c xs)
  {B : Nat} {A2 : Option Addr} {m c2 : Nat} {ys : List Value} (hr : Rw w B A2 ys) (hm : ys.length = m) (h1 : ∀ u ∈ ys, u.oneCell' = true)
  (h63 : n + m ≤ maxLen) (hbytes : (n + m) * bytes ≤ 140737488355328) (hbase : base ≤ w.heap.size) :
  ∃ A' c' w', (Builtin.append_ #[t, t] ty #[.slice A n c, .slice A2 m c2]).run P w = .ok (.slice A' (n + m) c') w' ∧ Ow e w' base A' (n + m) c' (xs ++ ys) ∧ w.grownBy w' (blk A) ∧
   (blk A' = blk A ∨ blk A' = some w.heap.size) := by
 obtain ⟨i, hi, hz0, hz1, hz2⟩ := info_parts hinfo
 have key : ∀ ad : Addr, A2 = some ad → ∃ A' c' w', (Builtin.append_ #[t, t] ty #[.slice A n c, .slice A2 m c2]).run P w = .ok (.slice A' (n + m) c') w' ∧ Ow e w' base A' (n + m) c' (xs ++ ys) ∧ w.grownBy w' (blk A) ∧
   (blk A' = blk A ∨ blk A' = some w.heap.size) := by
  rintro ad rfl
  have hcells : ∀ j u, ys[j]? = some u → w.cell? (ad.add j) = some u := by
   intro j u hu
   obtain ⟨b, off, he, _, hc⟩ := hr.at_ hu
   injection he with he
   rw [he, add_eq]; exact hc
  obtain ⟨v', w', hrun, h2, h3, _, h5⟩ := run_append_own_at (P := P) w base t ty e i z 1 bytes ht hi hz0 hz1 hz2 hzs (by omega) (.slice A n c) n xs hown ad m c2 ys (by omega) hcells h1 h63 hbytes hbase
  rw [ownBlock_slice] at h3 h5
  have hv : ∃ A' c', v' = .slice A' (n + m) c' := by
   rcases h2.2 with ⟨h6, h7⟩ | ⟨g, cap, cur, h6, _⟩
   ·exact ⟨none, 0, by rw [h6, h7]⟩
   ·exact ⟨_, _, h6⟩
  obtain ⟨A', c', rfl⟩ := hv
  rw [ownBlock_slice] at h5
  exact ⟨A', c', w', hrun, h2, h3, h5⟩
 rcases A2 with _ | ad
 ·have hm0 : ys = [] := by
   rcases Nat.eq_zero_or_pos ys.length with h0 | h0
   ·exact List.eq_nil_of_length_eq_zero h0
   ·obtain ⟨_, _, h, _⟩ := hr h0
    cases h
  subst hm0
  obtain rfl : m = 0 := by simpa using hm.symm
  exact ⟨A, c, w, run_append_nilsrc t ty e i ht hi hown c2, by simpa using hown, World.grownBy.refl w _, .inl rfl⟩
 ·exact key ad rfl
theorem wp_append_rw {o : Oper} {a : Act} {K : Act → World → Prop} {Q : Exit → Act → World → Prop} (s x : Operand) (t : TypeId)
  (ho : o.op = .call { callee := .builtin .append, args := #[s, x], argTypes := #[t, t] })
  (base : Nat) (e : TypeId) (z : Value) (bytes : Nat) (ht : P.underlying t = some (.slice e))
  (hinfo : (P.info? e).map (fun i => (i.zero, i.size, i.bytes)) = some (some z, 1, bytes)) (hzs : z.cells.size = 1)
  {A : Option Addr} {n c : Nat} {xs : List Value} (hs : a.eval s = .slice A n c) (hown : Ow e w base A n c xs)
  {B : Nat} {A2 : Option Addr} {m c2 : Nat} {ys : List Value} (hx : a.eval x = .slice A2 m c2) (hr : Rw w B A2 ys) (hm : ys.length = m) (h1 : ∀ u ∈ ys, u.oneCell' = true)
  (h63 : n + m ≤ maxLen) (hbytes : (n + m) * bytes ≤ 140737488355328) (hbase : base ≤ w.heap.size)
  (h : ∀ A' c' w', Ow e w' base A' (n + m) c' (xs ++ ys) → w.grownBy w' (blk A) → (blk A' = blk A ∨ blk A' = some w.heap.size) → K (a.put o.dst (.slice A' (n + m) c')) w') : o.wp P a w K Q := by
 obtain ⟨A', c', w', hrun, h2, h3, h4⟩ := run_append_rw (P := P) (w := w) base t o.type e z bytes ht hinfo hzs hown (c2 := c2) hr hm h1 h63 hbytes hbase
 unfold Oper.wp execOp
 simp only [ho, resolve, invoke, builtin, Sem.run_bind, Sem.run_pure, Result.andThen_ok, List.map_toArray, List.map_cons, List.map_nil, hs, hx, hrun]
 exact h A' c' w' h2 h3 h4
theorem wpList_append_rw {ops : Array Oper} {rest : List Oper} {o : Oper} {a : Act} {Q : Exit → Act → World → Prop} (hgd : o.guard = none) (s x : Operand) (t : TypeId)
  (ho : o.op = .call { callee := .builtin .append, args := #[s, x], argTypes := #[t, t] })
  (base : Nat) (e : TypeId) (z : Value) (bytes : Nat) (ht : P.underlying t = some (.slice e))
  (hinfo : (P.info? e).map (fun i => (i.zero, i.size, i.bytes)) = some (some z, 1, bytes)) (hzs : z.cells.size = 1)
  {A : Option Addr} {n c : Nat} {xs : List Value} (hs : a.eval s = .slice A n c) (hown : Ow e w base A n c xs)
  {B : Nat} {A2 : Option Addr} {m c2 : Nat} {ys : List Value} (hx : a.eval x = .slice A2 m c2) (hr : Rw w B A2 ys) (hm : ys.length = m) (h1 : ∀ u ∈ ys, u.oneCell' = true)
  (h63 : n + m ≤ maxLen) (hbytes : (n + m) * bytes ≤ 140737488355328) (hbase : base ≤ w.heap.size)
  (h : ∀ A' c' w', Ow e w' base A' (n + m) c' (xs ++ ys) → w.grownBy w' (blk A) → (blk A' = blk A ∨ blk A' = some w.heap.size) → wpList P ops Q rest (a.put o.dst (.slice A' (n + m) c')) w') : wpList P ops Q (o :: rest) a w :=
 wpList_plain hgd fun _ hK => wp_append_rw s x t ho base e z bytes ht hinfo hzs hs hown hx hr hm h1 h63 hbytes hbase fun A' c' w' h2 h3 h4 => hK _ _ (h A' c' w' h2 h3 h4)
end
def by8 (l : List Int) : List Value := l.map (Value.int .u8)
def RB (w : World) (B : Nat) (A : Option Addr) (l : List Int) : Prop := Rw w B A (by8 l)
def OB (E : TypeId) (w : World) (base : Nat) (A : Option Addr) (n c : Nat) (l : List Int) : Prop := Ow E w base A n c (by8 l)
def Bs (l : List Int) : Prop := ∀ x ∈ l, 0 ≤ x ∧ x < 256
theorem by8_length (l : List Int) : (by8 l).length = l.length := by simp [by8]
theorem by8_append (l m : List Int) : by8 (l ++ m) = by8 l ++ by8 m := by simp [by8]
theorem by8_get (l : List Int) (k : Nat) (h : k < l.length) : (by8 l)[k]? = some (.int .u8 (l[k]?.getD 0)) := by simp [by8, h]
theorem by8_one (l : List Int) : ∀ u ∈ by8 l, u.oneCell' = true := by
 intro u hu
 simp only [by8, List.mem_map] at hu
 obtain ⟨x, _, rfl⟩ := hu
 rfl
theorem Bs.nil : Bs [] := fun _ h => by cases h
theorem Bs.append {l m : List Int} (h : Bs l) (h' : Bs m) : Bs (l ++ m) := fun x hx => (List.mem_append.1 hx).elim (h x) (h' x)
theorem Bs.take {l : List Int} (h : Bs l) (k : Nat) : Bs (l.take k) := fun x hx => h x (List.mem_of_mem_take hx)
theorem Bs.drop {l : List Int} (h : Bs l) (k : Nat) : Bs (l.drop k) := fun x hx => h x (List.mem_of_mem_drop hx)
theorem Bs.at_ {l : List Int} (h : Bs l) (k : Nat) : 0 ≤ l[k]?.getD 0 ∧ l[k]?.getD 0 < 256 := by
 rcases Nat.lt_or_ge k l.length with hk | hk
 ·rw [List.getElem?_eq_getElem hk]; exact h _ (List.getElem_mem hk)
 ·rw [List.getElem?_eq_none hk]; simp
theorem RB.at_ {w : World} {B : Nat} {A : Option Addr} {l : List Int} (h : RB w B A l) {k : Nat} (hk : k < l.length) : ∃ b off, A = some ⟨b, off, none⟩ ∧ b < B ∧ w.cell? ⟨b, off + k, none⟩ = some (.int .u8 (l[k]?.getD 0)) :=
 Rw.at_ h (by8_get l k hk)
theorem RB.take {w : World} {B : Nat} {A : Option Addr} {l : List Int} (h : RB w B A l) (k : Nat) : RB w B A (l.take k) := by
 have := Rw.take h k
 simpa [RB, by8, List.map_take] using this
theorem RB.cut {w : World} {B : Nat} {A : Option Addr} {l : List Int} (h : RB w B A l) (cap k : Nat) (hc : l.length ≤ cap) : RB w B (if cap = k then A else A.map (·.add k)) (l.drop k) := by
 have := Rw.cut h cap k (by rw [by8_length]; exact hc)
 simpa [RB, by8, List.map_drop] using this
theorem OB.rb {E : TypeId} {w : World} {base : Nat} {A : Option Addr} {n c : Nat} {l : List Int} (h : OB E w base A n c l) : RB w w.heap.size A l := Ow.rw h
theorem OB.length {E : TypeId} {w : World} {base : Nat} {A : Option Addr} {n c : Nat} {l : List Int} (h : OB E w base A n c l) : l.length = n := by
 have := Ow.length h; rwa [by8_length] at this
theorem xor_u8 (x y : Int) (h0 : 0 ≤ x) (h1 : x < 256) (h2 : 0 ≤ y) (h3 : y < 256) : 0 ≤ bits .xor .u8 x y ∧ bits .xor .u8 x y < 256 ∧ (y ≠ 0 → bits .xor .u8 x y ≠ x) := by
 obtain ⟨a, rfl⟩ := Int.eq_ofNat_of_zero_le h0
 obtain ⟨b, rfl⟩ := Int.eq_ofNat_of_zero_le h2
 rw [u8_xor_nat a b (by omega) (by omega)]
 have hlt : a ^^^ b < 2 ^ 8 := Nat.xor_lt_two_pow (by omega) (by omega)
 refine ⟨by omega, by omega, fun hb e => hb ?_⟩
 have e2 : a ^^^ b = a := by omega
 have e3 : a ^^^ (a ^^^ b) = a ^^^ a := congrArg (a ^^^ ·) e2
 rw [← Nat.xor_assoc, Nat.xor_self, Nat.zero_xor] at e3
 omega
theorem or_u32_8 (x b : Int) (h0 : 0 ≤ x) (h1 : x < 16777216) (h2 : 0 ≤ b) (h3 : b < 256) : bits .or .u32 (x * 256) b = x * 256 + b := by
 obtain ⟨a, rfl⟩ := Int.eq_ofNat_of_zero_le h0
 obtain ⟨c, rfl⟩ := Int.eq_ofNat_of_zero_le h2
 rw [show (a : Int) * 256 = ((a * 256 : Nat) : Int) from by omega, u32_or_nat _ _ (by omega) (by omega), nat_join 8 (a * 256) c (by omega) (by omega)]
 omega
theorem rw_lit (w : World) (E : TypeId) (xs : List Value) : Rw (w.alloc (.cells xs.toArray E)) (w.heap.size + 1) (some ⟨w.heap.size, 0, none⟩) xs := fun _ =>
 ⟨w.heap.size, 0, rfl, Nat.lt_succ_self _, fun j u hu => by
  rw [cell_of_row _ _ _ xs.toArray E (0, 0) (heap_alloc_new w _)]
  simpa using hu⟩
theorem ow_lit (w : World) (E : TypeId) (base : Nat) (xs : List Value) (hb : base ≤ w.heap.size) (hl : xs.length ≤ maxLen) : Ow E (w.alloc (.cells xs.toArray E)) base (some ⟨w.heap.size, 0, none⟩) xs.length xs.length xs :=
 ⟨by simp, .inr ⟨w.heap.size, xs.length, xs.toArray, rfl, hb, heap_alloc_new w _, Nat.le_refl _, hl, by simp, by simp⟩⟩
def Bk (w : World) (g : Nat) (t : TypeId) (cs : Array Value) : Prop := w.heap[g]? = some (.cells cs t (0, 0))
section
variable {w w' : World} {g : Nat} {t : TypeId} {cs : Array Value}
theorem Bk.lt (h : Bk w g t cs) : g < w.heap.size := (Array.getElem?_eq_some_iff.1 h).1
theorem Bk.cell (h : Bk w g t cs) (i : Nat) : w.cell? ⟨g, i, none⟩ = cs[i]? := cell_of_row w g i cs t (0, 0) h
theorem Bk.frozen (h : Bk w g t cs) (i : Nat) : w.frozen? ⟨g, i, none⟩ = false := by
 unfold Bk at h
 simp [World.frozen?, h]
theorem Bk.new (w : World) (t : TypeId) (cs : Array Value) : Bk (w.alloc (.cells cs t)) w.heap.size t cs := heap_alloc_new w _
theorem Bk.drew (h : Bk w g t cs) : Bk w.drew g t cs := h
theorem Bk.drewN (h : Bk w g t cs) (n : Nat) : Bk (w.drewN n) g t cs := h
theorem Bk.alloc (h : Bk w g t cs) (o : Obj) : Bk (w.alloc o) g t cs := (Below.heap_alloc w o g h.lt).trans h
theorem Bk.set (h : Bk w g t cs) (i : Nat) (u : Value) : Bk (w.setCell ⟨g, i, none⟩ u) g t (cs.setIfInBounds i u) := by
 unfold Bk at h ⊢
 simp [World.setCell, Array.getElem?_modify, h]
theorem Bk.far (h : Bk w g t cs) {p : Addr} (hp : g ≠ p.block) (u : Value) : Bk (w.setCell p u) g t cs := (Below.heap_setCell w p u g hp).trans h
theorem Bk.below {B : Nat} (h : Bk w g t cs) (hb : Below B w w') (hg : g < B) : Bk w' g t cs := (hb.block g hg).trans h
theorem Bk.grown {row : Option Nat} (h : Bk w g t cs) (hb : w.grownBy w' row) (hg : some g ≠ row) : Bk w' g t cs := (hb.block g h.lt hg).trans h
theorem Bk.ne_ {g' : Nat} {t' : TypeId} {cs' : Array Value} (h : Bk w g t cs) (h' : Bk w g' t' cs') (hne : t ≠ t') : g ≠ g' := by
 rintro rfl
 unfold Bk at h h'
 rw [h] at h'
 injection h' with h'
 injection h' with _ ht
 exact hne ht
theorem Bk.ow_ne {E : TypeId} {base : Nat} {A : Option Addr} {n c : Nat} {xs : List Value} (h : Bk w g t cs) (ho : Ow E w base A n c xs) (hne : t ≠ E) : some g ≠ blk A := by
 rcases ho.cases_ with ⟨rfl, _⟩ | ⟨g', cur, rfl, _, hh, _⟩
 ·simp [blk]
 ·intro e
  have e : g = g' := by simpa [blk] using e
  exact Bk.ne_ h (show Bk w g' E cur from hh) hne e
end
theorem grownBy_setCell {w w' : World} {row : Option Nat} (h : w.grownBy w' row) {p : Addr} (hp : row = some p.block ∨ w.heap.size ≤ p.block) (u : Value) : w.grownBy (w'.setCell p u) row :=
 ⟨h.os, h.tape, h.output, by simpa [World.setCell] using h.size, fun k hk hne => (Below.heap_setCell w' p u k (by
  rintro rfl
  rcases hp with hp | hp
  ·exact hne hp.symm
  ·omega)).trans (h.block k hk hne)⟩
structure Kp (F : World → Nat → Prop) (w w' : World) : Prop where
 os : w'.os = w.os
 tape : w'.tape = w.tape
 output : w'.output = w.output
 size : w.heap.size ≤ w'.heap.size
 block : ∀ h, h < w.heap.size → ¬ F w h → w'.heap[h]? = w.heap[h]?
 foot : ∀ h, h < w.heap.size → F w' h → F w h
section
variable {F : World → Nat → Prop} {w w' w2 : World}
theorem Kp.refl (F : World → Nat → Prop) (w : World) : Kp F w w := ⟨rfl, rfl, rfl, Nat.le_refl _, fun _ _ _ => rfl, fun _ _ h => h⟩
theorem Kp.trans (h : Kp F w w') (k : Kp F w' w2) : Kp F w w2 :=
 ⟨k.os.trans h.os, k.tape.trans h.tape, k.output.trans h.output, Nat.le_trans h.size k.size,
  fun i hi hn => (k.block i (Nat.lt_of_lt_of_le hi h.size) (fun e => hn (h.foot i hi e))).trans (h.block i hi hn),
  fun i hi e => h.foot i hi (k.foot i (Nat.lt_of_lt_of_le hi h.size) e)⟩
theorem Kp.below {B : Nat} (h : Kp F w w') (hB : B ≤ w.heap.size) (hF : ∀ i, F w i → B ≤ i) : Below B w w' :=
 ⟨h.os, h.tape, h.output, h.size, fun i hi => h.block i (by omega) (fun e => by have := hF i e; omega)⟩
end
end Go.Proofs.YtaeafkdfbcppgaaGreat
