/- Proved: rows of numbers with two places exchanged, sorted parts, and what bounds them (plain); a slice of bytes that came in reads as a list of bytes; append to a row of the call's own at any offset, at the operation; the frame that bytes are; laws of a Store's state in memory: what keeps it, one whole chan. Conditions: as each law says. -/
import Derived.Shelf.GgSortFunc.SmallK
import Derived.Shelf.SlSortCmp.BreakPatterns1
import Derived.Shelf.SlSortCmp.BreakPatternsK
import Derived.Shelf.SlSortCmp.Insertion1
import Derived.Shelf.SlSortCmp.InsertionK
import Derived.Shelf.SlSortCmp.Kit1
import Derived.Shelf.SlSortCmp.KitK
import Derived.Shelf.SlSortCmp.Pivot1
import Derived.Shelf.SlSortCmp.PivotK
import Derived.Shelf.SlSortCmp.ReverseRange1
import Derived.Shelf.SlSortCmp.ReverseRangeK
import Derived.Shelf.SlSortFuncK.AtK
import Derived.Shelf.SlSortFuncK.BreakPatternsK
import Derived.Shelf.SlSortFuncK.ComposeK
import Derived.Shelf.SlSortFuncK.HeapSortK
import Derived.Shelf.SlSortFuncK.PivotK
import Derived.Shelf.SlSortFuncK.SWK
import Derived.Sort.AssemblyPlain
import Derived.Sort.LotA
import Derived.Sort.Walk13
import Derived.Sort.WalkA6
import Derived.Sort.WalkB12
import Derived.Sort.WalkB2
import Derived.Sort.WalkC4
import Derived.Test.YtaeafkdfbcppgaaGreatT10
import Derived.Test.YtaeafkdfbcppgaaGreatT13
set_option linter.unusedSectionVars false
set_option linter.unusedSimpArgs false
set_option linter.unusedVariables false
namespace Go.Proofs.YtaeafkdfbcppgaaGreat
def gt (D : List Int) (k : Nat) : Int := D[k]?.getD 0
open Go.RowKit
def IsRow (k : IntKind) (w : World) (a : Option Addr) (len cap : Nat) (zs : List Int) : Prop :=
 (a = none ∧ len = 0 ∧ cap = 0 ∧ zs = []) ∨
 ∃ x, a = some x ∧ len ≤ cap ∧ cap ≤ maxLen ∧ zs.length = cap ∧ (∀ i, i < zs.length → w.cell? (x.add i) = some (.int k (zs.getD i 0))) ∧ ∀ n ∈ zs, (Lit.int k n).wf = true
open Go.RowKit
theorem Of.alloc {E : TypeId} {w : World} {base : Nat} {A : Option Addr} {n c : Nat} {xs : List Value} (h : Of E w base A n c xs) (o : Obj) : Of E (w.alloc o) base A n c xs := by
 refine h.kept (World.grownBy_alloc w o none) ?_
 cases hA : blk A with
 | none => exact .inl rfl
 | some b => exact .inr (by simp)
theorem Bk.of_ne {w : World} {g : Nat} {t E : TypeId} {cs : Array Value} {base : Nat} {A : Option Addr} {n c : Nat} {xs : List Value} (h : Bk w g t cs) (ho : Of E w base A n c xs) (hne : t ≠ E) : some g ≠ blk A := by
 rcases ho.2 with ⟨rfl, _⟩ | ⟨g', off, cur, rfl, _, hh, _⟩
 ·simp [blk]
 ·intro e
  have e : g = g' := by simpa [blk] using e
  exact Bk.ne_ h (show Bk w g' E cur from hh) hne e
section
variable {P : Program} {w : World}
theorem wp_append_of {o : Oper} {a : Act} {K : Act → World → Prop} {Q : Exit → Act → World → Prop} (s x : Operand) (t : TypeId)
  (ho : o.op = .call { callee := .builtin .append, args := #[s, x], argTypes := #[t, t] })
  (base : Nat) (e : TypeId) (z : Value) (bytes : Nat) (ht : P.underlying t = some (.slice e))
  (hinfo : (P.info? e).map (fun i => (i.zero, i.size, i.bytes)) = some (some z, 1, bytes)) (hzs : z.cells.size = 1)
  {A : Option Addr} {n c : Nat} {xs : List Value} (hs : a.eval s = .slice A n c) (hown : Of e w base A n c xs)
  {B : Nat} {A2 : Option Addr} {m c2 : Nat} {ys : List Value} (hx : a.eval x = .slice A2 m c2) (hr : Rw w B A2 ys) (hm : ys.length = m) (hm0 : 0 < m) (h1 : ∀ u ∈ ys, u.oneCell' = true)
  (h63 : n + m ≤ maxLen) (hbytes : (n + m) * bytes ≤ 140737488355328) (hbase : base ≤ w.heap.size)
  (h : ∀ g' o' c' w', Of e w' base (some ⟨g', o', none⟩) (n + m) c' (xs ++ ys) → w.grownBy w' (blk A) → (some g' = blk A ∨ g' = w.heap.size) → K (a.put o.dst (.slice (some ⟨g', o', none⟩) (n + m) c')) w') : o.wp P a w K Q := by
 obtain ⟨A', c', w', hrun, h2, h3, h4, h5⟩ := run_append_of (P := P) (w := w) t o.type e z bytes ht hinfo hzs hown (c2 := c2) hr hm hm0 h1 h63 hbytes hbase
 unfold Oper.wp execOp
 simp only [ho, resolve, invoke, builtin, Sem.run_bind, Sem.run_pure, Result.andThen_ok, List.map_toArray, List.map_cons, List.map_nil, hs, hx, hrun]
 rcases h2.2 with ⟨rfl, _⟩ | ⟨g', o', cur, rfl, _⟩
 ·exact absurd rfl h5
 ·exact h g' o' c' w' h2 h3 (h4.imp id (fun e => by simpa [blk] using e))
theorem wpList_append_of {ops : Array Oper} {rest : List Oper} {o : Oper} {a : Act} {Q : Exit → Act → World → Prop} (hgd : o.guard = none) (s x : Operand) (t : TypeId)
  (ho : o.op = .call { callee := .builtin .append, args := #[s, x], argTypes := #[t, t] })
  (base : Nat) (e : TypeId) (z : Value) (bytes : Nat) (ht : P.underlying t = some (.slice e))
  (hinfo : (P.info? e).map (fun i => (i.zero, i.size, i.bytes)) = some (some z, 1, bytes)) (hzs : z.cells.size = 1)
  {A : Option Addr} {n c : Nat} {xs : List Value} (hs : a.eval s = .slice A n c) (hown : Of e w base A n c xs)
  {B : Nat} {A2 : Option Addr} {m c2 : Nat} {ys : List Value} (hx : a.eval x = .slice A2 m c2) (hr : Rw w B A2 ys) (hm : ys.length = m) (hm0 : 0 < m) (h1 : ∀ u ∈ ys, u.oneCell' = true)
  (h63 : n + m ≤ maxLen) (hbytes : (n + m) * bytes ≤ 140737488355328) (hbase : base ≤ w.heap.size)
  (h : ∀ g' o' c' w', Of e w' base (some ⟨g', o', none⟩) (n + m) c' (xs ++ ys) → w.grownBy w' (blk A) → (some g' = blk A ∨ g' = w.heap.size) → wpList P ops Q rest (a.put o.dst (.slice (some ⟨g', o', none⟩) (n + m) c')) w') : wpList P ops Q (o :: rest) a w :=
 wpList_plain hgd fun _ hK => wp_append_of s x t ho base e z bytes ht hinfo hzs hs hown hx hr hm hm0 h1 h63 hbytes hbase fun g' o' c' w' h2 h3 h4 => hK _ _ (h g' o' c' w' h2 h3 h4)
end
open Go.RowKit
def frZ : Array Value := frC 0 0 0 0 0 0 0 0 0 0 0 0 0 (.slice none 0 0)
theorem fr_size : (Tryz.prog.info? 89).map (·.size) = some 14 := by kernel_rfl
def frOf (l : List Int) (d : Value) : Array Value := frC (at8 l 0) (at8 l 1) (at8 l 2) (at8 l 3) (at8 l 4) (at8 l 5) (at8 l 6) (at8 l 7) (at8 l 8) (at8 l 9) (at8 l 10) (at8 l 11) (rd2 l 12) d
def ethErr (l : List Int) : Int := if 1514 < l.length then 5 else if l.length < 14 then 2 else if rd2 l 12 < 1536 then 3 else 0
def EthDec (l : List Int) (w : World) (e : Ending) (w' : World) : Prop :=
 ∃ A n c, e = .returned (.tuple #[.agg (if ethErr l = 0 then frOf l (.slice A n c) else frZ), .int .i64 (ethErr l)]) ∧ (ethErr l = 0 → OB 5 w' w.heap.size A n c (l.drop 14)) ∧ Below w.heap.size w w'
theorem six_at_ (l : List Int) (k : Nat) (h : k + 6 ≤ l.length) : (l.drop k).take 6 = [at8 l k, at8 l (k + 1), at8 l (k + 2), at8 l (k + 3), at8 l (k + 4), at8 l (k + 5)] := by
 rw [drop_at8 l k (by omega), drop_at8 l (k + 1) (by omega), drop_at8 l (k + 2) (by omega), drop_at8 l (k + 3) (by omega), drop_at8 l (k + 4) (by omega), drop_at8 l (k + 5) (by omega)]
 rfl
structure EthRd (l o1 l1 o2 l2 o3 l3 : List Int) (e1 e2 e3 : Int) : Prop where
 yes : 14 ≤ l.length → o1 = [at8 l 0, at8 l 1, at8 l 2, at8 l 3, at8 l 4, at8 l 5] ∧ o2 = [at8 l 6, at8 l 7, at8 l 8, at8 l 9, at8 l 10, at8 l 11] ∧ numBE o3 = rd2 l 12 ∧ l3 = l.drop 14 ∧ e3 = 0
 no : l.length < 14 → e3 = 2
theorem eth_rd (l : List Int) : EthRd l (rdOut l 0 6) (rdRest l 0 6) (rdOut (rdRest l 0 6) (rdErr l 0 6) 6) (rdRest (rdRest l 0 6) (rdErr l 0 6) 6) (rdOut (rdRest (rdRest l 0 6) (rdErr l 0 6) 6) (rdErr (rdRest l 0 6) (rdErr l 0 6) 6) 2) (rdRest (rdRest (rdRest l 0 6) (rdErr l 0 6) 6) (rdErr (rdRest l 0 6) (rdErr l 0 6) 6) 2) (rdErr l 0 6) (rdErr (rdRest l 0 6) (rdErr l 0 6) 6) (rdErr (rdRest (rdRest l 0 6) (rdErr l 0 6) 6) (rdErr (rdRest l 0 6) (rdErr l 0 6) 6) 2) where
 yes h := by
  have a1 := rdOut_at l 0 6 (by omega)
  have a2 := rdRest_at l 0 6 (by omega)
  have a3 := rdErr_at l 0 6 (by omega)
  simp only [List.drop_zero, Nat.zero_add] at a1 a2 a3
  have b1 := rdOut_at l 6 6 (by omega)
  have b2 := rdRest_at l 6 6 (by omega)
  have b3 := rdErr_at l 6 6 (by omega)
  have c1 := rdOut_at l 12 2 (by omega)
  have c2 := rdRest_at l 12 2 (by omega)
  have c3 := rdErr_at l 12 2 (by omega)
  simp only [Nat.reduceAdd] at b2 c2
  have e6 : ((6 : Nat) : Int) = 6 := rfl
  have e2 : ((2 : Nat) : Int) = 2 := rfl
  rw [e6] at a1 a2 a3 b1 b2 b3
  rw [e2] at c1 c2 c3
  rw [a1, a2, a3, b1, b2, b3, c1, c2, c3]
  refine ⟨?_, six_at_ l 6 (by omega), numBE_at2 l 12 (by omega), rfl, rfl⟩
  have := six_at_ l 0 (by omega)
  simpa using this
 no h := by
  have s0 := RdS.start l
  have s1 := (s0.step 6).step 6
  have s2 := s1.step 2
  exact s2.over (by omega)
set_option maxHeartbeats 4000000 in
set_option maxRecDepth 100000 in
theorem ethd_long (A : Option Addr) (n c : Nat) (l : List Int) (hn : l.length = n) (h : 1514 < n) (w : World) :
  Calls Tryz.prog 27 #[.slice A n c] w (EthDec l w) := by
 have e1 : decide ((1514 : Int) < (n : Int)) = true := by simp; omega
 have he : ethErr l = 5 := by unfold ethErr; rw [if_pos (by omega)]
 have HE := Lib.hid he
 have hb := Bk.new w 89 frZ
 have HBL := Lib.hid ((Below.refl w.heap.size w).alloc (Nat.le_refl _) (.cells frZ 89))
 have HB := Lib.hid hb
 clear h hn he hb
 go_enter Tryz.func27, Tryz.ntmps27
 obtain ⟨W, hW⟩ : ∃ W, w.alloc (.cells frZ 89) = W := ⟨_, rfl⟩
 have HW : Hid (w.alloc (.cells #[.int .u8 0, .int .u8 0, .int .u8 0, .int .u8 0, .int .u8 0, .int .u8 0, .int .u8 0, .int .u8 0, .int .u8 0, .int .u8 0, .int .u8 0, .int .u8 0, .int .i64 0, .slice none 0 0] 89) = W) := Lib.hid hW
 rw [hW] at HB HBL
 clear hW
 go_wp2_with fail
 refine bodyPost_ret (results_b1 rfl _ _ w.heap.size 89 frZ (0, 0) _ rfl (by rw [HW.out]; exact HB.out) Tryz.underlying89 rfl fr_size) rfl ?_
 rw [HW.out]
 exact ⟨none, 0, 0, (by rw [HE.out]; rfl), (fun e => by rw [HE.out] at e; cases e), HBL.out⟩
theorem Rd.drew_ {w : World} {base g : Nat} {l : List Int} {er : Int} (h : Rd w base g l er) : Rd w.drew base g l er := h
theorem frC_all (a0 a1 a2 a3 a4 a5 b0 b1 b2 b3 b4 b5 k : Int) (A : Option Addr) (n c : Nat) : (frC a0 a1 a2 a3 a4 a5 b0 b1 b2 b3 b4 b5 k (.slice A n c)).all (·.oneCell') = true := by simp [frC, Value.oneCell']
theorem frZ_all : frZ.all (·.oneCell') = true := frC_all _ _ _ _ _ _ _ _ _ _ _ _ _ _ _ _
set_option maxHeartbeats 4000000 in
set_option maxRecDepth 100000 in
theorem ethd_any' (A : Option Addr) (n c B : Nat) (l : List Int) (hn : l.length = n) (hmax : n ≤ 1514) (hb : Bs l) (w : World) (hr : RB w B A l) (hB : B ≤ w.heap.size) :
  Calls Tryz.prog 27 #[.slice A n c] w (EthDec l w) := by
 have e1 : decide ((1514 : Int) < (n : Int)) = false := by simp; omega
 have HN := Lib.hid hn
 have HX : Hid (n ≤ 1514) := Lib.hid hmax
 have hbk := Bk.new w 89 frZ
 have hB0 := (Below.refl w.heap.size w).alloc (Nat.le_refl _) (.cells frZ 89)
 obtain ⟨W, hW⟩ : ∃ W, w.alloc (.cells frZ 89) = W := ⟨_, rfl⟩
 have HW : Hid (w.alloc (.cells #[.int .u8 0, .int .u8 0, .int .u8 0, .int .u8 0, .int .u8 0, .int .u8 0, .int .u8 0, .int .u8 0, .int .u8 0, .int .u8 0, .int .u8 0, .int .u8 0, .int .i64 0, .slice none 0 0] 89) = W) := Lib.hid hW
 rw [hW] at hbk hB0
 have hr0 : RB W B A l := Rw.below hr (hB0.mono hB)
 have hz0 : W.heap.size = w.heap.size + 1 := by rw [← hW]; simp
 clear hW hn hmax hr
 go_enter Tryz.func27, Tryz.ntmps27
 go_wp2_with fail
 rw [HW.out]
 refine (newreader_any A n c B l HN.out (by have := HX.out; omega) hb _ hr0 (by omega)).mono ?_
 rintro e W1 ⟨g, rfl, hR1, hB1⟩
 have hz1 := hB1.size
 have hk1 := hbk.below hB1 hbk.lt
 have hge := hR1.ge
 obtain ⟨gf, hgf⟩ : ∃ gf, W1.heap.size = gf := ⟨_, rfl⟩
 obtain ⟨W2, hW2⟩ : ∃ W2, W1.alloc (.cells frZ 89) = W2 := ⟨_, rfl⟩
 have HW2 : Hid (W1.alloc (.cells #[.int .u8 0, .int .u8 0, .int .u8 0, .int .u8 0, .int .u8 0, .int .u8 0, .int .u8 0, .int .u8 0, .int .u8 0, .int .u8 0, .int .u8 0, .int .u8 0, .int .i64 0, .slice none 0 0] 89) = W2) := Lib.hid hW2
 have hB2 : Below W1.heap.size W1 W2 := by rw [← hW2]; exact (Below.refl _ _).alloc (Nat.le_refl _) _
 have hf2 : Bk W2 gf 89 frZ := by rw [← hW2, ← hgf]; exact Bk.new _ _ _
 have hk2 := hk1.below hB2 (by omega)
 have hR2 := hR1.below hB2
 have hlt : w.heap.size < g ∧ g < gf ∧ gf < W2.heap.size := ⟨by omega, by have := hR1.lt; omega, hf2.lt⟩
 have hBW2 : Below w.heap.size w W2 := (hB0.trans (hB1.mono (by omega))).trans (hB2.mono (by omega))
 have HGF := Lib.hid hgf
 have HLT := Lib.hid hlt
 have HK2 := Lib.hid hk2
 have HF2 := Lib.hid hf2
 have HB2 := Lib.hid hBW2
 clear hW2 hgf hB2 hk2 hf2 hlt hBW2 hk1 hR1 hge hz1 hr0 hbk hB0 hB1
 go_wp2_with fail
 rw [HW2.out, HGF.out]
 have P2 : Hid (l.length ≤ 1000000) := Lib.hid (by rw [HN.out]; have := HX.out; omega)
 have HGE : Hid (W.heap.size ≤ W2.drew.heap.size) := Lib.hid (by show _ ≤ W2.heap.size; have := HLT.out; omega)
 have HGN : Hid (some gf ≠ some g) := Lib.hid (by intro e; injection e with e; have := HLT.out; omega)
 have HKN : Hid (some w.heap.size ≠ some g) := Lib.hid (by intro e; injection e with e; have := HLT.out; omega)
 have HKF : Hid (some w.heap.size ≠ some gf) := Lib.hid (by intro e; injection e with e; have := HLT.out; omega)
 go_region_held3 (fun _ => True) (trivial)
  (first
   | (go_at_call 64; refine (rraw_any W.heap.size g l P2.out 0 6 _ (Rd.drew_ hR2) HGE.out).mono ?_; rintro e w5 ⟨A5, n5, c5, rfl, hO5, hR5, k5⟩; have hl5 : (rdOut l 0 6).length = n5 := (by8_length _).symm.trans (Ow.length hO5); have hn5 : n5 ≤ 6 := hl5 ▸ rdOut_len l 0 6; have hf5 : 0 + n5 ≤ frZ.size := Nat.le_trans (Nat.add_le_add_left hn5 0) (by decide))
   | (refine cp8_any rfl (.tmp 13) (.tmp 15) 37 Tryz.underlying37 rfl rfl ((HF2.out.drew).grown k5 HGN.out) rfl (Ow.rw hO5) hl5 hn5 hf5 ?_; intro w6 hm6 k6 z6))
 have hf6 := (HF2.out.drew).grown k5 HGN.out
 have hR6 := hR5.kept hf6 (by decide) (by decide) (by decide) k6
 have hk6 := ((HK2.out.drew).grown k5 HKN.out).grown k6 HKF.out
 have hB6 : Below w.heap.size w w6 := ((HB2.out.drew).grown k5 (by show _ ≤ W2.heap.size; have := HLT.out; omega) (by intro i e; injection e with e; have := HLT.out; omega)).grown k6 (by have := k5.size; have : W2.drew.heap.size = W2.heap.size := rfl; have := HLT.out; omega) (by intro i e; injection e with e; have := HLT.out; omega)
 have hz6 : W2.heap.size ≤ w6.heap.size := by have := k5.size; have := k6.size; have : W2.drew.heap.size = W2.heap.size := rfl; omega
 obtain ⟨cs6, hcs6⟩ : ∃ cs6, splice frZ.toList 0 (by8 (rdOut l 0 6)) = cs6 := ⟨_, rfl⟩
 rw [hcs6] at hm6
 have HZ6 := Lib.hid hz6
 have HB6 := Lib.hid hB6
 have HK6 := Lib.hid hk6
 have HM6 := Lib.hid hm6
 have HC6 := Lib.hid hcs6
 have HS6 : Hid (cs6.length = 14) := Lib.hid (by rw [← HC6.out]; have h14 : frZ.toList.length = 14 := rfl; have h6 := rdOut_len l 0 6; simp only [splice, List.length_append, List.length_take, List.length_drop, by8_length, h14]; have e6 : Int.toNat 6 = 6 := rfl; rw [e6] at h6; omega)
 clear hf6 hk6 hB6 hz6 hm6 hcs6 hO5 hR5 k5 k6 z6 hR2 hl5 hn5 hf5
 obtain ⟨l1, hl1⟩ : ∃ l1, rdRest l 0 6 = l1 := ⟨_, rfl⟩
 obtain ⟨x1, hx1⟩ : ∃ x1, rdErr l 0 6 = x1 := ⟨_, rfl⟩
 rw [hl1, hx1] at hR6
 have HL1 := Lib.hid hl1
 have HX1 := Lib.hid hx1
 have P3 : Hid (l1.length ≤ 1000000) := Lib.hid (by rw [← HL1.out]; exact Nat.le_trans (rdRest_le _ _ _) P2.out)
 have HGE6 : Hid (W.heap.size ≤ w6.drew.heap.size) := Lib.hid (by show _ ≤ w6.heap.size; have := HLT.out; have := HZ6.out; omega)
 clear hl1 hx1
 go_wp2_with fail
 go_region_held3 (fun _ => True) (trivial)
  (first
   | (go_at_call 64; refine (rraw_any W.heap.size g l1 P3.out x1 6 _ (Rd.drew_ hR6) HGE6.out).mono ?_; rintro e w7 ⟨A7, n7, c7, rfl, hO7, hR7, k7⟩; have hl7 : (rdOut l1 x1 6).length = n7 := (by8_length _).symm.trans (Ow.length hO7); have hn7 : n7 ≤ 6 := hl7 ▸ rdOut_len l1 x1 6; have hf7 : 6 + n7 ≤ cs6.toArray.size := Nat.le_trans (Nat.add_le_add_left hn7 6) (Nat.le_trans (by decide) (Nat.le_of_eq HS6.out.symm)))
   | (refine cp8_any rfl (.tmp 18) (.tmp 20) 37 Tryz.underlying37 rfl rfl ((HM6.out.drew).grown k7 HGN.out) rfl (Ow.rw hO7) hl7 hn7 hf7 ?_; intro w8 hm8 k8 z8))
 have hm7 := (HM6.out.drew).grown k7 HGN.out
 have hR8 := hR7.kept hm7 (by decide) (by decide) (by decide) k8
 have hk8 := ((HK6.out.drew).grown k7 HKN.out).grown k8 HKF.out
 have hB8 : Below w.heap.size w w8 := ((HB6.out.drew).grown k7 (by show _ ≤ w6.heap.size; have := HLT.out; have := HZ6.out; omega) (by intro i e; injection e with e; have := HLT.out; omega)).grown k8 (by have := k7.size; have : w6.drew.heap.size = w6.heap.size := rfl; have := HLT.out; have := HZ6.out; omega) (by intro i e; injection e with e; have := HLT.out; omega)
 have hz8 : W2.heap.size ≤ w8.heap.size := by have := k7.size; have := k8.size; have : w6.drew.heap.size = w6.heap.size := rfl; have := HZ6.out; omega
 obtain ⟨cs8, hcs8⟩ : ∃ cs8, splice cs6.toArray.toList 6 (by8 (rdOut l1 x1 6)) = cs8 := ⟨_, rfl⟩
 rw [hcs8] at hm8
 have HZ8 := Lib.hid hz8
 have HB8 := Lib.hid hB8
 have HK8 := Lib.hid hk8
 have HM8 := Lib.hid hm8
 have HC8 := Lib.hid hcs8
 have HS8 : Hid (cs8.length = 14) := Lib.hid (by rw [← HC8.out]; have h14 := HS6.out; have h6 := rdOut_len l1 x1 6; simp only [splice, List.length_append, List.length_take, List.length_drop, by8_length, h14]; have e6 : Int.toNat 6 = 6 := rfl; rw [e6] at h6; omega)
 clear hm7 hk8 hB8 hz8 hm8 hcs8 hO7 hR7 k7 k8 z8 hR6 hl7 hn7 hf7
 obtain ⟨l2, hl2⟩ : ∃ l2, rdRest l1 x1 6 = l2 := ⟨_, rfl⟩
 obtain ⟨x2, hx2⟩ : ∃ x2, rdErr l1 x1 6 = x2 := ⟨_, rfl⟩
 rw [hl2, hx2] at hR8
 have HL2 := Lib.hid hl2
 have HX2 := Lib.hid hx2
 clear hl2 hx2
 go_wp2_with fail
 refine (rtwo16_any W.heap.size g l2 x2 _ hR8 (by have := HLT.out; have := HZ8.out; omega)).mono ?_
 rintro e w9 ⟨rfl, hR9, k9⟩
 obtain ⟨l3, hl3⟩ : ∃ l3, rdRest l2 x2 2 = l3 := ⟨_, rfl⟩
 obtain ⟨x3, hx3⟩ : ∃ x3, rdErr l2 x2 2 = x3 := ⟨_, rfl⟩
 obtain ⟨v, hv⟩ : ∃ v, numBE (rdOut l2 x2 2) = v := ⟨_, rfl⟩
 rw [hl3, hx3] at hR9
 rw [hv]
 have hER : EthRd l (rdOut l 0 6) l1 (rdOut l1 x1 6) l2 (rdOut l2 x2 2) l3 x1 x2 x3 := by
  have := eth_rd l
  rw [HL1.out, HX1.out, HL2.out, HX2.out, hl3, hx3] at this
  exact this
 have HER := Lib.hid hER
 have HV := Lib.hid hv
 have hm9 := HM8.out.grown k9 HGN.out
 have hk9 := HK8.out.grown k9 HKN.out
 have hz9 : W2.heap.size ≤ w9.heap.size := by have := k9.size; have := HZ8.out; omega
 have hB9 : Below w.heap.size w w9 := HB8.out.grown k9 (by have := HZ8.out; have := HLT.out; omega) (by intro i e; injection e with e; have := HLT.out; omega)
 obtain ⟨u, hu⟩ : ∃ u, cs8.toArray[12]? = some u := ⟨_, Array.getElem?_eq_getElem (by have := HS8.out; simp; omega)⟩
 have c12 : w9.cell? ⟨gf, 12, none⟩ = some u := (hm9.cell 12).trans hu
 have f12 := hm9.frozen 12
 obtain ⟨W10, hW10⟩ : ∃ W10, w9.setCell ⟨gf, 12, none⟩ (.int .i64 v) = W10 := ⟨_, rfl⟩
 have hR10 : Rd W10 W.heap.size g l3 x3 := by rw [← hW10]; exact hR9.store hm9 (by decide) (by decide) (by decide) 12 _
 have hm10 : Bk W10 gf 89 (cs8.toArray.setIfInBounds 12 (.int .i64 v)) := by rw [← hW10]; exact hm9.set 12 _
 have hk10 : Bk W10 w.heap.size 89 frZ := by rw [← hW10]; exact hk9.far (p := ⟨gf, 12, none⟩) (show w.heap.size ≠ gf by have := HLT.out; omega) _
 have hB10 : Below w.heap.size w W10 := by rw [← hW10]; exact hB9.setCell (p := ⟨gf, 12, none⟩) (show w.heap.size ≤ gf by have := HLT.out; omega) _
 have hz10 : W2.heap.size ≤ W10.heap.size := by rw [← hW10, size_setCell]; exact hz9
 have HW10 := Lib.hid hW10
 have HM10 := Lib.hid hm10
 have HK10 := Lib.hid hk10
 have HB10 := Lib.hid hB10
 have HZ10 := Lib.hid hz10
 clear hl3 hx3 hv hER hm9 hk9 hz9 hB9 hu hW10 hm10 hk10 hB10 hz10 hR9 k9 hR8
 go_wp2_with fail
 rw [HW10.out]
 refine (rerr_any W.heap.size g l3 x3 _ hR10).mono ?_
 rintro e w11 ⟨rfl, rfl⟩
 clear c12 f12
 rcases Nat.lt_or_ge l.length 14 with h14 | h14
 ·have hx := HER.out.no h14
  subst hx
  have HE : Hid (ethErr l = 2) := Lib.hid (by unfold ethErr; rw [if_neg (by rw [HN.out]; have := HX.out; omega), if_pos h14])
  clear h14
  go_wp2_with fail
  refine (rerr_any W.heap.size g l3 2 _ hR10).mono ?_
  rintro e w11 ⟨rfl, rfl⟩
  go_wp2_with (refine st_box 89 rfl (.tmp 2) (.tmp 29) rfl rfl rfl (cs := frZ) rfl HK10.out fr_size rfl frZ_all ?_; intro w12 hb12 g12 z12)
  refine bodyPost_ret (results_b1 rfl _ _ w.heap.size 89 frZ (0, 0) _ rfl hb12 Tryz.underlying89 rfl fr_size) rfl ?_
  exact ⟨none, 0, 0, (by rw [HE.out]; rfl), (fun e => by rw [HE.out] at e; cases e), HB10.out.grown g12 (by have := HZ10.out; have := HLT.out; omega) (by intro i e; injection e with e; omega)⟩
 ·obtain ⟨ho1, ho2, hv3, hl3, hx⟩ := HER.out.yes h14
  subst hx
  have d12 : W10.cell? ⟨gf, 12, none⟩ = some (.int .i64 v) := (HM10.out.cell 12).trans (by rw [Array.getElem?_setIfInBounds_self_of_lt]; have := HS8.out; simp; omega)
  by_cases hkd : v < 1536
  ·have HE : Hid (ethErr l = 3) := Lib.hid (by unfold ethErr; rw [if_neg (by rw [HN.out]; have := HX.out; omega), if_neg (by omega), if_pos (by rw [← hv3, HV.out]; exact hkd)])
   have hd : decide (v < 1536) = true := by simpa using hkd
   clear h14 ho1 ho2 hv3 hl3 hkd
   go_wp2_with (refine st_box 89 rfl (.tmp 2) (.tmp 36) rfl rfl rfl (cs := frZ) rfl HK10.out fr_size rfl frZ_all ?_; intro w12 hb12 g12 z12)
   refine bodyPost_ret (results_b1 rfl _ _ w.heap.size 89 frZ (0, 0) _ rfl hb12 Tryz.underlying89 rfl fr_size) rfl ?_
   exact ⟨none, 0, 0, (by rw [HE.out]; rfl), (fun e => by rw [HE.out] at e; cases e), HB10.out.grown g12 (by have := HZ10.out; have := HLT.out; omega) (by intro i e; injection e with e; omega)⟩
  ·have HE : Hid (ethErr l = 0) := Lib.hid (by unfold ethErr; rw [if_neg (by rw [HN.out]; have := HX.out; omega), if_neg (by omega), if_neg (by rw [← hv3, HV.out]; exact hkd)])
   have hd : decide (v < 1536) = false := by simpa using hkd
   have HO : Hid (rdOut l 0 6 = [at8 l 0, at8 l 1, at8 l 2, at8 l 3, at8 l 4, at8 l 5] ∧ rdOut l1 x1 6 = [at8 l 6, at8 l 7, at8 l 8, at8 l 9, at8 l 10, at8 l 11] ∧ v = rd2 l 12 ∧ l3 = l.drop 14) := Lib.hid ⟨ho1, ho2, HV.out ▸ hv3, hl3⟩
   have P5 : Hid (l3.length ≤ 1000000) := Lib.hid (by rw [hl3, List.length_drop]; have := P2.out; omega)
   clear h14 ho1 ho2 hv3 hl3 hkd
   go_wp2_with fail
   refine (rleft_any W.heap.size g l3 0 _ hR10).mono ?_
   rintro e w11 ⟨rfl, rfl⟩
   go_wp2_with fail
   refine (rraw_any W.heap.size g l3 P5.out 0 l3.length _ hR10 (by have := HLT.out; have := HZ10.out; omega)).mono ?_
   rintro e w12 ⟨A12, n12, c12, rfl, hO12, hR12, k12⟩
   have hm12 := HM10.out.grown k12 HGN.out
   have hk12 := HK10.out.grown k12 HKN.out
   have hB12 : Below w.heap.size w w12 := HB10.out.grown k12 (by have := HZ10.out; have := HLT.out; omega) (by intro i e; injection e with e; have := HLT.out; omega)
   have hz12 : W2.heap.size ≤ w12.heap.size := by have := k12.size; have := HZ10.out; omega
   have hcs : (cs8.toArray.setIfInBounds 12 (.int .i64 v)).setIfInBounds 13 (.slice A12 n12 c12) = frOf l (.slice A12 n12 c12) := by
    obtain ⟨a1, a2, a3, a4⟩ := HO.out
    rw [← HC8.out, ← HC6.out, a1, a2, a3]
    rfl
   obtain ⟨u, hu⟩ : ∃ u, (cs8.toArray.setIfInBounds 12 (.int .i64 v))[13]? = some u := ⟨_, Array.getElem?_eq_getElem (by have := HS8.out; simp; omega)⟩
   have c13 : w12.cell? ⟨gf, 13, none⟩ = some u := (hm12.cell 13).trans hu
   have f13 := hm12.frozen 13
   obtain ⟨W13, hW13⟩ : ∃ W13, w12.setCell ⟨gf, 13, none⟩ (.slice A12 n12 c12) = W13 := ⟨_, rfl⟩
   have hm13 : Bk W13 gf 89 (frOf l (.slice A12 n12 c12)) := by rw [← hW13, ← hcs]; exact hm12.set 13 _
   have hk13 : Bk W13 w.heap.size 89 frZ := by rw [← hW13]; exact hk12.far (p := ⟨gf, 13, none⟩) (show w.heap.size ≠ gf by have := HLT.out; omega) _
   have hB13 : Below w.heap.size w W13 := by rw [← hW13]; exact hB12.setCell (p := ⟨gf, 13, none⟩) (show w.heap.size ≤ gf by have := HLT.out; omega) _
   have hO13 : OB 5 W13 w.heap.size A12 n12 c12 (l.drop 14) := by
    have h1 : rdOut l3 0 l3.length = l.drop 14 := by
     have := rdOut_app l3 [] l3.length rfl
     rw [List.append_nil] at this
     rw [this]; exact HO.out.2.2.2
    rw [h1] at hO12
    rw [← hW13]
    exact (Ow.setCell (Ow.mono hO12 (by have := HZ10.out; have := HLT.out; omega)) (p := ⟨gf, 13, none⟩) (Ne.symm (hm12.ow_ne hO12 (by decide))) _)
   have HW13 := Lib.hid hW13
   have HM13 : Hid (Bk (w12.setCell ⟨gf, 13, none⟩ (.slice A12 n12 c12)) gf 89 (frOf l (.slice A12 n12 c12))) := Lib.hid (by rw [hW13]; exact hm13)
   have HK13 : Hid (Bk (w12.setCell ⟨gf, 13, none⟩ (.slice A12 n12 c12)) w.heap.size 89 frZ) := Lib.hid (by rw [hW13]; exact hk13)
   have HB13 := Lib.hid hB13
   have HO13 := Lib.hid hO13
   have HZ13 : Hid (W2.heap.size ≤ W13.heap.size) := Lib.hid (by rw [← hW13, size_setCell]; exact hz12)
   clear hm12 hk12 hB12 hz12 hcs hu hW13 hm13 hk13 hB13 hO13 hO12 hR12 k12
   go_wp2_with (first
    | (refine ld_box 89 _ rfl (.tmp 5) rfl rfl HM13.out Tryz.underlying89 rfl fr_size ?_)
    | (refine st_box 89 rfl (.tmp 2) (.tmp 42) rfl rfl rfl (cs := frOf l (.slice A12 n12 c12)) rfl HK13.out fr_size rfl (frC_all _ _ _ _ _ _ _ _ _ _ _ _ _ _ _ _) ?_; intro w14 hb14 g14 z14))
   refine bodyPost_ret (results_b1 rfl _ _ w.heap.size 89 (frOf l (.slice A12 n12 c12)) (0, 0) _ rfl hb14 Tryz.underlying89 rfl fr_size) rfl ?_
   rw [HW13.out] at g14
   refine ⟨A12, n12, c12, (by rw [HE.out]; rfl), (fun _ => ?_), HB13.out.grown g14 (by have := HZ13.out; have := HLT.out; omega) (by intro i e; injection e with e; omega)⟩
   have hk := HK13.out
   rw [HW13.out] at hk
   exact Ow.kept HO13.out g14 (.inr (Ne.symm (hk.ow_ne HO13.out (by decide))))
theorem ethd_any (A : Option Addr) (n c B : Nat) (l : List Int) (hn : l.length = n) (hb : Bs l) (w : World) (hr : RB w B A l) (hB : B ≤ w.heap.size) :
  Calls Tryz.prog 27 #[.slice A n c] w (EthDec l w) := by
 rcases Nat.lt_or_ge 1514 n with h | h
 ·exact ethd_long A n c l hn h w
 ·exact ethd_any' A n c B l hn h hb w hr hB
open Go.RowKit
variable {V : HV}
theorem IM.chg {F : Nat → Prop} {w w' : World} {b : Nat} {L : List (K4 × Value)} (h : IM mkK okK w b L) (hc : Chg F w w') (hb : ¬ F b) : IM mkK okK w' b L := by
 have hl := h.lt
 obtain ⟨es, clock, h1, rest⟩ := h
 exact ⟨es, clock, (hc.block b hl hb).trans h1, rest⟩
theorem Ow.chg {F : Nat → Prop} {E : TypeId} {w w' : World} {base : Nat} {A : Option Addr} {n c : Nat} {xs : List Value} (h : Ow E w base A n c xs) (hc : Chg F w w') (hb : ∀ b, blk A = some b → ¬ F b) : Ow E w' base A n c xs := by
 have hl := h.lt
 refine ⟨h.1, ?_⟩
 rcases h.2 with h1 | ⟨g, cap, cur, hA, hbg, hh, rest⟩
 ·exact .inl h1
 ·injection hA with hA _ e3
  subst hA
  exact .inr ⟨g, cap, cur, by rw [e3], hbg, (hc.block g (hl g rfl).2 (hb g rfl)).trans hh, rest⟩
structure Rec where
 k : K4
 bg : Int
 first : Option (PkV × List Int × List Int)
 fin : Int
 D : List Int
 S : List (Nat × Nat)
def FstAt (w : World) (G : Nat → Prop) (f : Value) : Option (PkV × List Int × List Int) → Prop
 | none => f = .pointer none
 | some (p, ol, dl) => ∃ (gf n1 c1 n2 c2 : Nat) (A1 A2 : Option Addr), f = ptr gf ∧ Bk w gf 97 (pkC p (.slice A1 n1 c1) (.slice A2 n2 c2)) ∧ OB 5 w 0 A1 n1 c1 ol ∧ OB 5 w 0 A2 n2 c2 dl ∧ G gf ∧ (∀ b, blk A1 = some b → G b) ∧ (∀ b, blk A2 = some b → G b)
theorem FstAt.chg {w w' : World} {G F : Nat → Prop} {f : Value} {o : Option (PkV × List Int × List Int)} (h : FstAt w G f o) (hc : Chg F w w') (hG : ∀ b, G b → ¬ F b) : FstAt w' G f o := by
 cases o with
 | none => exact h
 | some x =>
  obtain ⟨p, ol, dl⟩ := x
  obtain ⟨gf, n1, c1, n2, c2, A1, A2, h1, h2, h3, h4, h5, h6, h7⟩ := h
  exact ⟨gf, n1, c1, n2, c2, A1, A2, h1, h2.chg hc (hG _ h5), Ow.chg h3 hc (fun b hb => hG b (h6 b hb)), Ow.chg h4 hc (fun b hb => hG b (h7 b hb)), h5, h6, h7⟩
def WhAt (w : World) (F : Nat → Prop) (g : Nat) (r : Rec) : Prop :=
 ∃ (f : Value) (dA tA : Option Addr) (dn dc tn tc : Nat), Bk w g 251 (whA r.k.1 r.k.2.1 r.k.2.2.1 r.k.2.2.2 r.bg f r.fin (.slice dA dn dc) (.slice tA tn tc)) ∧ OB 5 w 0 dA dn dc r.D ∧ Tm 412 w 0 tA tn tc (r.S.map spI) ∧
  FstAt w (fun b => F b ∧ b ≠ g ∧ blk dA ≠ some b) f r.first ∧ F g ∧ (∀ b, blk dA = some b → F b ∧ b ≠ g ∧ blk tA ≠ some b) ∧ (∀ b, blk tA = some b → F b ∧ b ≠ g)
theorem WhAt.chg {w w' : World} {F G : Nat → Prop} {g : Nat} {r : Rec} (h : WhAt w F g r) (hc : Chg G w w') (hG : ∀ b, F b → ¬ G b) : WhAt w' F g r := by
 obtain ⟨f, dA, tA, dn, dc, tn, tc, h1, h2, h3, h4, h5, h6, h7⟩ := h
 exact ⟨f, dA, tA, dn, dc, tn, tc, h1.chg hc (hG _ h5), Ow.chg h2 hc (fun b hb => hG b (h6 b hb).1), h3.chg hc (fun b hb => hG b (h7 b hb).1), h4.chg hc (fun b hb => hG b hb.1), h5, h6, h7⟩
structure WR where
 g : Nat
 F : Nat → Prop
 r : Rec
def entW (x : WR) : K4 × Value := (x.r.k, ptr x.g)
structure StW (V : HV) (w : World) (ps : Nat) (mv : Option Nat) (aA : Option Addr) (ac : Nat) (Ws : List WR) : Prop where
 bk : Bk w ps 164 (hostC { V with by_ := .map mv, age := .slice aA Ws.length ac })
 mp : (mv = none ∧ Ws = [] ∧ aA = none ∧ ac = 0) ∨ ∃ b, mv = some b ∧ IM mkK okK w b (Ws.map entW)
 pt : Pt w 0 aA Ws.length ac (Ws.map (·.g))
 wh : ∀ x ∈ Ws, WhAt w x.F x.g x.r
 ap : Ws.Pairwise (fun x y => ∀ b, x.F b → ¬ y.F b)
 lt : ∀ x ∈ Ws, ∀ b, x.F b → b < w.heap.size
 no : ∀ x ∈ Ws, ¬ x.F ps ∧ (∀ b, mv = some b → ¬ x.F b) ∧ (∀ b, blk aA = some b → ¬ x.F b)
 ne : (∀ b, mv = some b → b ≠ ps ∧ blk aA ≠ some b) ∧ blk aA ≠ some ps
def ownB (ps : Nat) (mv : Option Nat) (aA : Option Addr) (b : Nat) : Prop := b = ps ∨ mv = some b ∨ blk aA = some b
def foot (ps : Nat) (mv : Option Nat) (aA : Option Addr) (Ws : List WR) (b : Nat) : Prop := ownB ps mv aA b ∨ ∃ x ∈ Ws, x.F b
section
variable {w w' : World} {ps ac : Nat} {mv : Option Nat} {aA : Option Addr} {Ws K1 K2 : List WR} {x : WR}
theorem StW.chg {G : Nat → Prop} (h : StW V w ps mv aA ac Ws) (hc : Chg G w w') (hG : ∀ b, foot ps mv aA Ws b → ¬ G b) : StW V w' ps mv aA ac Ws where
 bk := h.bk.chg hc (hG _ (.inl (.inl rfl)))
 mp := by
  rcases h.mp with h1 | ⟨b, h1, h2⟩
  ·exact .inl h1
  ·exact .inr ⟨b, h1, h2.chg hc (hG b (.inl (.inr (.inl h1))))⟩
 pt := Ow.chg h.pt hc (fun b hb => hG b (.inl (.inr (.inr hb))))
 wh := fun x hx => (h.wh x hx).chg hc (fun b hb => hG b (.inr ⟨x, hx, hb⟩))
 ap := h.ap
 lt := fun x hx b hb => Nat.lt_of_lt_of_le (h.lt x hx b hb) hc.size
 no := h.no
 ne := h.ne
theorem StW.foot_lt (h : StW V w ps mv aA ac Ws) {b : Nat} (hb : foot ps mv aA Ws b) : b < w.heap.size := by
 rcases hb with (rfl | hb | hb) | ⟨x, hx, hb⟩
 ·exact h.bk.lt
 ·rcases h.mp with ⟨h1, _⟩ | ⟨b', h1, h2⟩
  ·rw [h1] at hb; cases hb
  ·rw [h1] at hb; injection hb with hb; subst hb; exact h2.lt
 ·exact (Ow.lt h.pt b hb).2
 ·exact h.lt x hx b hb
end
open Go.RowKit
variable {V : HV}
open Go.RowKit
structure RecOk (r : Rec) : Prop where
 len : r.D.length ≤ 65515
 sp : ∀ x ∈ r.S, x.1 < x.2 ∧ x.2 ≤ r.D.length
 srt : r.S.Pairwise (fun x y => x.2 < y.1)
 fin : -1 ≤ r.fin ∧ r.fin ≤ 65515
 fst : (∃ x ∈ r.S, x.1 = 0) → r.first.isSome = true
 fok : ∀ p ol dl, r.first = some (p, ol, dl) → pkK p = r.k ∧ p.Ok ∧ ol.length ≤ 1000000 ∧ dl.length ≤ 65515
section
variable {w w' : World} {F G : Nat → Prop} {g : Nat} {r : Rec}
end
open Go.RowKit
open Go.RowKit
open Go.RowKit
variable {V : HV}
def lastW (ws : List (List Int)) : List (List Int) := if 3 < ws.length then ws.drop 1 else ws
def waiting (n : Nb) (l : List Int) : Nb := { n with ws := lastW (n.ws ++ [l]) }
end Go.Proofs.YtaeafkdfbcppgaaGreat
