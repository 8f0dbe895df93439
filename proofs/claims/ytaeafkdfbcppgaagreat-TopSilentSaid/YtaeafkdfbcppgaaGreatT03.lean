/- Proved: rows whose elements have any number of cells: what keeps them, what they hold, append; the table of routes: a net of twenty-four bits is laid as a chain of nodes; which route an address goes by. Conditions: as each law says. -/
import Derived.LoopTactic
import Derived.WalkLawsBesides
import Derived.Test.YtaeafkdfbcppgaaGreatT01
import Derived.Test.YtaeafkdfbcppgaaGreatT02
set_option linter.unusedSectionVars false
set_option linter.unusedSimpArgs false
set_option linter.unusedVariables false
namespace Go.Proofs.YtaeafkdfbcppgaaGreat
open Go.RowKit
def Mr (E : TypeId) (k : Nat) (w : World) (base : Nat) (A : Option Addr) (n c : Nat) (xs : List Value) : Prop := w.ownsRow base E k (.slice A n c) n xs
section
variable {E : TypeId} {k : Nat} {w w' : World} {base : Nat} {A : Option Addr} {n c : Nat} {xs : List Value}
theorem Mr.none_ (E : TypeId) (k : Nat) (w : World) (base : Nat) : Mr E k w base none 0 0 [] := World.ownsRow_nil w base E k
theorem Mr.lt (h : Mr E k w base A n c xs) : ∀ g, blk A = some g → base ≤ g ∧ g < w.heap.size := fun g hg => World.ownsRow.lt h g (by rw [ownBlock_slice]; exact hg)
theorem Mr.of_block (h : Mr E k w base A n c xs) (hb : ∀ g, blk A = some g → w'.heap[g]? = w.heap[g]?) : Mr E k w' base A n c xs := by
 refine ⟨h.1, ?_⟩
 rcases h.2 with h1 | ⟨g, cap, cur, h1, h2, h3, h4⟩
 ·exact .inl h1
 ·have a := (Value.slice.inj h1).1
  exact .inr ⟨g, cap, cur, h1, h2, (hb g (by rw [a]; rfl)).trans h3, h4⟩
theorem Mr.alloc (h : Mr E k w base A n c xs) (o : Obj) : Mr E k (w.alloc o) base A n c xs := World.ownsRow.alloc h o
theorem Mr.drewN (h : Mr E k w base A n c xs) (m : Nat) : Mr E k (w.drewN m) base A n c xs := h
theorem Mr.drew (h : Mr E k w base A n c xs) : Mr E k w.drew base A n c xs := h
theorem Mr.rebase {base' : Nat} (h : Mr E k w base A n c xs) (hb : ∀ g, blk A = some g → base' ≤ g) : Mr E k w base' A n c xs := by
 refine ⟨h.1, ?_⟩
 rcases h.2 with h1 | ⟨g, cap, cur, h1, h2, h3⟩
 ·exact .inl h1
 ·have a := (Value.slice.inj h1).1
  exact .inr ⟨g, cap, cur, h1, hb g (by rw [a]; rfl), h3⟩
theorem Mr.stays (h : Mr E k w base A n c xs) (hb : Below w.heap.size w w') : Mr E k w' base A n c xs := h.of_block fun g hg => hb.block g (h.lt g hg).2
theorem Mr.chg {F : Nat → Prop} (h : Mr E k w base A n c xs) (hc : Chg F w w') (hF : ∀ g, blk A = some g → ¬ F g) : Mr E k w' base A n c xs := h.of_block fun g hg => hc.block g (h.lt g hg).2 (hF g hg)
theorem Mr.setCell (h : Mr E k w base A n c xs) {p : Addr} (hne : blk A ≠ some p.block) (u : Value) : Mr E k (w.setCell p u) base A n c xs :=
 h.of_block fun g hg => Below.heap_setCell w p u g (fun e => hne (by rw [hg, e]))
theorem Mr.nil_of (h : Mr E k w base A 0 c xs) : xs = [] := List.eq_nil_of_length_eq_zero (by have := h.1; omega)
theorem Mr.cell (h : Mr E k w base A n c xs) {j : Nat} {u : Value} (hj : xs[j]? = some u) : ∃ g, A = some ⟨g, 0, none⟩ ∧ base ≤ g ∧ g < w.heap.size ∧ w.cell? ⟨g, j, none⟩ = some u ∧ w.frozen? ⟨g, j, none⟩ = false := by
 rcases h.2 with ⟨h1, h2⟩ | ⟨g, cap, cur, h1, h2, h3, h4, h5, h6, h7⟩
 ·have hl := h.1
  rw [h2] at hl
  have := (List.getElem?_eq_some_iff.1 hj).1
  omega
 ·injection h1 with a b d
  refine ⟨g, a, h2, (Array.getElem?_eq_some_iff.1 h3).1, ?_, by simp [World.frozen?, h3]⟩
  rw [cell_of_row w g j cur E (0, 0) h3, ← Array.getElem?_toList]
  rw [← h7, List.getElem?_take] at hj
  split at hj
  ·exact hj
  ·cases hj
end
theorem lit_news (w : World) (E : TypeId) (cs : List Value) : ∀ (j : Nat) (u : Value), cs[j]? = some u → (w.alloc (.cells cs.toArray E)).cell? ((⟨w.heap.size, 0, none⟩ : Addr).add j) = some u := fun j u hu => by
 rw [add_eq, Nat.zero_add]
 have := (Bk.new w E cs.toArray).cell j
 rw [this]; simpa using hu
theorem run_append_mr {P : Program} (w : World) (base : Nat) (t ty e : TypeId) (z : Value) (size bytes : Nat) (ht : P.underlying t = some (.slice e)) (hinfo : (P.info? e).map (fun i => (i.zero, i.size, i.bytes)) = some (some z, size, bytes))
  (hzs : z.cells.size = size) (hsz : 0 < size)
  (A : Option Addr) (n cp : Nat) (xs : List Value) (hown : Mr e size w base A n cp xs)
  (a : Addr) (m c : Nat) (news : List Value) (hl : news.length = m * size) (hnews : ∀ j u, news[j]? = some u → w.cell? (a.add j) = some u) (h1 : ∀ u ∈ news, u.oneCell' = true)
  (hm0 : 0 < m) (h63 : n + m ≤ maxLen) (hbytes : (n + m) * bytes ≤ 140737488355328) (hbase : base ≤ w.heap.size) :
  ∃ g' c' w', (Builtin.append_ #[t, t] ty #[.slice A n cp, .slice (some a) m c]).run P w = .ok (.slice (some ⟨g', 0, none⟩) (n + m) c') w' ∧ Mr e size w' base (some ⟨g', 0, none⟩) (n + m) c' (xs ++ news) ∧ w.grownBy w' (blk A) ∧
   (blk A = some g' ∨ g' = w.heap.size) := by
 obtain ⟨i, hi, hz, hsize, hby⟩ := info_parts hinfo
 obtain ⟨v', w', hrun, h2, h3, _⟩ := run_append_own (P := P) w base t ty e i z size bytes ht hi hz hsize hby hzs hsz (.slice A n cp) n xs hown a m c news hl hnews h1 h63 hbytes hbase
 rw [ownBlock_slice] at h3
 have hsmall : n + m ≤ 9223372036854775807 := by simp only [maxLen] at h63; omega
 subst hsize; subst hby
 rcases hown.2 with ⟨e1, rfl⟩ | ⟨g, cap, cur, e1, hbg, hg, hnc, hcm, hcs, htake⟩
 ·injection e1 with ea eb ec
  subst ea; subst ec
  have hr := run_append_nil (P := P) w t ty e i z ht hi hz a m c news hl hnews hm0 (by omega) (by have hb := hbytes; simp only [Nat.zero_add] at hb; omega)
  rw [hrun] at hr
  injection hr with hv hw
  subst hv
  exact ⟨w.heap.size, grownCap w m 0 e, w', by rw [hrun]; simp, by unfold Mr; simpa using h2, h3, .inr rfl⟩
 ·injection e1 with ea eb ec
  subst ea; subst ec
  by_cases hroom : n + m ≤ cp
  ·have hfit : n * i.size + news.length ≤ cur.size := by rw [hl, hcs, ← Nat.add_mul]; exact Nat.mul_le_mul_right _ hroom
   have hr := run_append_room (P := P) w t ty e i ht hi g n cp cur hg a m c news hl hnews h1 hroom hfit
   rw [hrun] at hr
   injection hr with hv hw
   subst hv
   exact ⟨_, _, w', hrun, h2, h3, .inl rfl⟩
  ·have holds : ∀ j u, xs[j]? = some u → w.cell? ((⟨g, 0, none⟩ : Addr).add j) = some u := hown.cells (g := g) rfl
   have hr := run_append_grow (P := P) w t ty e i z ht hi hz ⟨g, 0, none⟩ n cp xs hown.1 holds a m c news hl hnews (by omega) (by omega) (growslice_fits (by omega) hbytes)
   rw [hrun] at hr
   injection hr with hv hw
   subst hv
   exact ⟨_, _, w', hrun, h2, h3, .inr rfl⟩
section
variable {P : Program} {ops : Array Oper} {rest : List Oper} {o : Oper} {a : Act} {w : World} {Q : Exit → Act → World → Prop}
theorem wpList_append_mr (hgd : o.guard = none) (s x : Operand) (t e : TypeId) (ho : o.op = .call { callee := .builtin .append, args := #[s, x], argTypes := #[t, t] })
  (z : Value) (size bytes : Nat) (ht : P.underlying t = some (.slice e)) (hinfo : (P.info? e).map (fun i => (i.zero, i.size, i.bytes)) = some (some z, size, bytes)) (hzs : z.cells.size = size) (hsz : 0 < size)
  (base : Nat) {A : Option Addr} {n c : Nat} {xs : List Value} (hs : a.eval s = .slice A n c) (hown : Mr e size w base A n c xs)
  (news : List Value) {q : Addr} {m c2 : Nat} (hx : a.eval x = .slice (some q) m c2) (hl : news.length = m * size) (hnews : ∀ j u, news[j]? = some u → w.cell? (q.add j) = some u) (h1 : ∀ u ∈ news, u.oneCell' = true)
  (hm0 : 0 < m) (h63 : n + m ≤ maxLen) (hbytes : (n + m) * bytes ≤ 140737488355328) (hbase : base ≤ w.heap.size)
  (h : ∀ g' c' w', Mr e size w' base (some ⟨g', 0, none⟩) (n + m) c' (xs ++ news) → w.grownBy w' (blk A) → (blk A = some g' ∨ g' = w.heap.size) → wpList P ops Q rest (a.put o.dst (.slice (some ⟨g', 0, none⟩) (n + m) c')) w') :
  wpList P ops Q (o :: rest) a w := by
 refine wpList_plain hgd fun K hK => ?_
 obtain ⟨g', c', w', hr, q1, q2, q3⟩ := run_append_mr (P := P) w base t o.type e z size bytes ht hinfo hzs hsz A n c xs hown q m c2 news hl hnews h1 hm0 h63 hbytes hbase
 unfold Oper.wp execOp
 simp only [ho, resolve, invoke, builtin, Sem.run_bind, Sem.run_pure, Result.andThen_ok, List.map_toArray, List.map_cons, List.map_nil, hs, hx, hr]
 exact hK _ _ (h g' c' w' q1 q2 q3)
end
open Go.RowKit
theorem Chg.set1 {w w' : World} {t o : Nat} (h : Chg (fun b => b = t) w w') (u : Value) : Chg (fun b => b = t) w (w'.setCell ⟨t, o, none⟩ u) := h.setCell (p := ⟨t, o, none⟩) (.inl rfl) u
def bitA (a : Int) (i : Nat) : Int := a / 2 ^ (31 - i) % 2
theorem bitA_01 (a : Int) (i : Nat) : bitA a i = 0 ∨ bitA a i = 1 := by unfold bitA; omega
theorem bit_any (a : Int) (i : Nat) (hi : i ≤ 31) (w : World) : Calls Tryz.prog 206 #[.int .u32 a, .int .i64 i] w fun e w' => e = .returned (.int .i64 (bitA a i)) ∧ w' = w := by
 have hw : IntKind.i64.wrap (31 - (i : Int)) = 31 - (i : Int) := IntWalk.i64_in _ (by omega)
 have hx : bits BinOp.and IntKind.u32 (a / 2 ^ (31 - i)) 1 = bitA a i := and_u32_1 _
 have hy : wrap64 (bitA a i) = bitA a i := by unfold bitA wrap64; omega
 have HX := Lib.hid hx
 have HY := Lib.hid hy
 clear hx hy
 go_enter Tryz.func206, Tryz.ntmps206
 go_wp2
 rw [HX.out, HY.out]
 go_ret
 exact ⟨rfl, rfl⟩
def net : Int := 167772160
abbrev nilS : Value := .slice none 0 0
def kidC (b : Int) (k : Value) : List Value := if b = 0 then [k, .pointer none] else [.pointer none, k]
def nodeC (r : Value) (b : Int) (k : Value) : Array Value := (r :: kidC b k).toArray
abbrev bp (b : Nat) : Value := .pointer (some ⟨b, 0, none⟩)
theorem ix_kid (b o : Nat) (i : Int) (hi : i = 0 ∨ i = 1) (w : World) : (Instr.indexAt 126 (.pointer (some ⟨b, o, none⟩)) (.int .i64 i)).run Tryz.prog w = .ok (.pointer (some ⟨b, o + i.toNat, none⟩)) w := by
 have h1 := run_indexAt_array (P := Tryz.prog) (w := w) 126 ⟨b, o, none⟩ .i64 i (by kernel_rfl)
 have h2 : Tryz.prog.arrayLen 126 = 2 := by kernel_rfl
 have h3 : (sizeOf (Tryz.prog.elem 126)).run Tryz.prog w = .ok 1 w := by kernel_rfl
 rw [h2, h3] at h1
 rw [h1, if_pos (by omega)]
 simp [Result.andThen, add_eq]
def ndA (h S i : Nat) : Addr := if i = 0 then ⟨h, 11, none⟩ else ⟨S + i, 0, none⟩
def Nodes (w : World) (S n : Nat) : Prop := ∀ j, 1 ≤ j → j < n → Bk w (S + j) 128 (nodeC nilS (bitA net j) (bp (S + j + 1)))
theorem Nodes.keep {w w' : World} {S n : Nat} (h : Nodes w S n) (hk : ∀ b, S < b → b < S + n → w'.heap[b]? = w.heap[b]?) : Nodes w' S n := fun j h1 h2 => (hk _ (by omega) (by omega)).trans (h j h1 h2)
def rtC : Array Value := #[.int .u32 net, .int .i64 24, .int .u32 0, .int .i64 0]
def nd0 : Array Value := #[nilS, .pointer none, .pointer none]
structure AtR (w : World) (h : Nat) (C : Array Value) (i : Nat) (wr : World) : Prop where
 size : wr.heap.size = w.heap.size + 1 + i
 box : Bk wr w.heap.size 229 rtC
 nodes : Nodes wr w.heap.size i
 top : 1 ≤ i → Bk wr (w.heap.size + i) 128 nd0
 row : Bk wr h 164 (if i = 0 then C else C.setIfInBounds 12 (bp (w.heap.size + 1)))
 chg : Chg (fun b => b = h) w wr
theorem AtR.drewN {w : World} {h : Nat} {C : Array Value} {i : Nat} {wr : World} (r : AtR w h C i wr) (k : Nat) : AtR w h C i (wr.drewN k) := ⟨r.size, r.box, r.nodes, r.top, r.row, r.chg.drewN k⟩
theorem bitA_net0 : bitA net 0 = 0 := by kernel_rfl
theorem ndA_zero (h S : Nat) : ndA h S 0 = ⟨h, 11, none⟩ := rfl
theorem ndA_pos (h S i : Nat) (hi : 1 ≤ i) : ndA h S i = ⟨S + i, 0, none⟩ := if_neg (by omega)
theorem AtR.kid {w : World} {h : Nat} {C : Array Value} {i : Nat} {wr : World} (r : AtR w h C i wr) (hl : h < w.heap.size) (h12 : C[12]? = some (.pointer none)) :
  wr.cell? ⟨(ndA h w.heap.size i).block, (ndA h w.heap.size i).off + 1 + (bitA net i).toNat, none⟩ = some (.pointer none) ∧ wr.frozen? ⟨(ndA h w.heap.size i).block, (ndA h w.heap.size i).off + 1 + (bitA net i).toNat, none⟩ = false ∧ (ndA h w.heap.size i).block < wr.heap.size := by
 rcases Nat.eq_zero_or_pos i with rfl | hi
 ·have h1 := r.row
  rw [if_pos rfl] at h1
  simp only [ndA_zero, bitA_net0]
  exact ⟨(h1.cell 12).trans h12, h1.frozen 12, h1.lt⟩
 ·have h1 := r.top hi
  rw [ndA_pos h _ i hi]
  rcases bitA_01 net i with e | e <;> rw [e]
  ·exact ⟨h1.cell 1, h1.frozen 1, h1.lt⟩
  ·exact ⟨h1.cell 2, h1.frozen 2, h1.lt⟩
theorem AtR.step {w : World} {h : Nat} {C : Array Value} {i : Nat} {wr : World} (r : AtR w h C i wr) (hl : h < w.heap.size) :
  AtR w h C (i + 1) ((wr.alloc (.cells nd0 128)).setCell ⟨(ndA h w.heap.size i).block, (ndA h w.heap.size i).off + 1 + (bitA net i).toNat, none⟩ (bp wr.heap.size)) := by
 have hs := r.size
 have hnew := Bk.new wr 128 nd0
 rcases Nat.eq_zero_or_pos i with rfl | hi
 ·simp only [ndA_zero, bitA_net0]
  have h1 := r.row
  rw [if_pos rfl] at h1
  have e : wr.heap.size = w.heap.size + 1 := by omega
  refine ⟨by simp [World.setCell]; omega, (r.box.alloc _).far (by simp; omega) _, fun j h1 h2 => by omega, fun _ => ?_, ?_, ?_⟩
  ·rw [e] at hnew
   exact hnew.far (by simp <;> omega) _
  ·rw [if_neg (by omega), e]
   exact (h1.alloc _).set 12 _
  ·exact (r.chg.alloc _).setCell (.inl rfl) _
 ·rw [ndA_pos h _ i hi]
  have h1 := r.row
  rw [if_neg (by omega)] at h1
  refine ⟨by simp [World.setCell]; omega, (r.box.alloc _).far (by simp; omega) _, ?_, fun _ => ?_, ?_, ?_⟩
  ·intro j h3 h4
   rcases Nat.lt_or_ge j i with h5 | h5
   ·exact ((r.nodes j h3 h5).alloc _).far (by simp; omega) _
   ·have e : j = i := by omega
    subst e
    have h6 := ((r.top hi).alloc (.cells nd0 128)).set (0 + 1 + (bitA net j).toNat) (bp wr.heap.size)
    rw [hs, show w.heap.size + 1 + j = w.heap.size + j + 1 by omega] at h6
    rcases bitA_01 net j with e | e
    ·rw [e] at h6 ⊢
     rw [hs, show w.heap.size + 1 + j = w.heap.size + j + 1 by omega]
     exact h6
    ·rw [e] at h6 ⊢
     rw [hs, show w.heap.size + 1 + j = w.heap.size + j + 1 by omega]
     exact h6
  ·rw [hs, show w.heap.size + 1 + i = w.heap.size + (i + 1) by omega] at hnew
   exact hnew.far (by simp <;> omega) _
  ·rw [if_neg (by omega)]
   exact (h1.alloc _).far (by simp; omega) _
  ·exact (r.chg.alloc _).setCell (.inr (by simp)) _
def AtRel (w : World) (h : Nat) (C : Array Value) (v7 v15 : Value) (wr : World) : Prop := ∃ i : Nat, i ≤ 24 ∧ v15 = .int .i64 i ∧ v7 = .pointer (some (ndA h w.heap.size i)) ∧ AtR w h C i wr
set_option maxHeartbeats 4000000 in
set_option maxRecDepth 100000 in
theorem at_make (h : Nat) (C : Array Value) (w : World) (hb : Bk w h 164 C) (h11 : C[11]? = some nilS) (h12 : C[12]? = some (.pointer none)) (h13 : C[13]? = some (.pointer none)) :
  Calls Tryz.prog 144 #[.pointer (some ⟨h, 11, none⟩), .agg #[.int .u32 net, .int .i64 24, .int .u32 0, .int .i64 0], .bool true] w fun e w' =>
   e = .returned (bp (w.heap.size + 24)) ∧ AtR w h C 24 w' := by
 have hl := hb.lt
 have hR0 : AtR w h C 0 (w.alloc (.cells rtC 229)) := ⟨by simp, Bk.new w _ _, fun j h1 h2 => by omega, fun h => by omega, hb.alloc _, (Chg.refl _ w).alloc _⟩
 have HR0 := Lib.hid hR0
 clear hR0
 go_enter Tryz.func144, Tryz.ntmps144
 go_wp2
 go_loopw [7, 15] (fun v7 v15 wr => AtRel w h C v7 v15 wr) (fun v7 v15 wr => (24 - intOf v15).toNat)
 case atStart => exact ⟨0, by omega, rfl, rfl, HR0.out⟩
 case round =>
  obtain ⟨i, hi, rfl, rfl, hR⟩ := hrel
  have HR := Lib.hid hR
  clear hR
  have cb : wr.cell? ⟨w.heap.size, 0, none⟩ = some (.int .u32 net) := HR.out.box.cell 0
  rcases Nat.lt_or_ge i 24 with h24 | h24
  ·have h24' : (i : Int) < 24 := by omega
   have hwi : wrap64 ((i : Int) + 1) = ((i + 1 : Nat) : Int) := by simp only [wrap64]; omega
   obtain ⟨qb, qo, hq⟩ : ∃ qb qo, ndA h w.heap.size i = ⟨qb, qo, none⟩ := by unfold ndA; split <;> exact ⟨_, _, rfl⟩
   obtain ⟨k, hk⟩ : ∃ k : Nat, (bitA net i).toNat = k := ⟨_, rfl⟩
   have hix := fun o => ix_kid qb o (bitA net i) (bitA_01 net i)
   rw [hk] at hix
   obtain ⟨hkid, hkf, hqb⟩ := HR.out.kid hl h12
   rw [hq, hk] at hkid hkf
   rw [hq] at hqb
   have HST : Hid (AtR w h C (i + 1) ((wr.alloc (.cells nd0 128)).setCell ⟨qb, qo + 1 + k, none⟩ (bp wr.heap.size))) := Lib.hid (by
    have := HR.out.step hl
    rw [hq, hk] at this
    exact this)
   have hbit := fun w => bit_any net i (by omega) w
   have HB := Lib.hid hbit
   rw [hq]
   clear hbit
   go_wp2_with fail
   go_quiet ((go_at_call 206; exact Calls.quiet_of_same (HB.out _)))
   generalize hWq : World.drewN _ _ = wq
   have HQ : Hid (AtR w h C i wq) := Lib.hid (by rw [← hWq]; exact HR.out.drewN _)
   have hqs : wq.heap.size = wr.heap.size := by rw [← hWq]; rfl
   have hkid : ∀ o, (wq.alloc o).cell? ⟨qb, qo + 1 + k, none⟩ = some (.pointer none) := fun o => by rw [World.cell?_alloc_lt _ _ _ (by simp only [hqs]; exact hqb), ← hWq]; exact hkid
   have hkid0 : wq.cell? ⟨qb, qo + 1 + k, none⟩ = some (.pointer none) := by rw [← hWq]; assumption
   have hkf2 : ∀ o, (wq.alloc o).frozen? ⟨qb, qo + 1 + k, none⟩ = false := fun o => by rw [World.frozen?_alloc_old _ _ _ (by simp only [hqs]; exact Nat.ne_of_lt hqb), ← hWq]; exact hkf
   have HST : Hid (AtR w h C (i + 1) ((wq.alloc (.cells nd0 128)).setCell ⟨qb, qo + 1 + k, none⟩ (bp wq.heap.size))) := Lib.hid (by
    have := HQ.out.step hl
    rw [hq, hk] at this
    exact this)
   have hend : ndA h w.heap.size (i + 1) = ⟨wq.heap.size, 0, none⟩ := by unfold ndA; rw [if_neg (by omega), hqs, HR.out.size, show w.heap.size + 1 + i = w.heap.size + (i + 1) by omega]
   have HE := Lib.hid hend
   clear hWq hqs hend
   go_wp2
   go_roundw
   case rel => exact ⟨i + 1, by omega, rfl, by rw [HE.out], HST.out⟩
   case measure => simp only [intOf]; omega
  ·have e : i = 24 := by omega
   subst e
   have h24' : ¬ ((24 : Nat) : Int) < 24 := by omega
   go_wp2
   go_ret
   exact ⟨rfl, HR.out⟩
end Go.Proofs.YtaeafkdfbcppgaaGreat
