/- Proved: append of a made row of zero bytes; what laying a piece's bytes does, step by step (plain). Conditions: as each law says. -/
import Derived.Test.YtcjkhonapafndaaTm
import Derived.Test.YtcjkhonapafndaaWriter
import Derived.Laws.CopyOwn
set_option linter.unusedVariables false
set_option linter.unusedSimpArgs false
namespace Go.Proofs.Ytcjkhonapafndaa
open Go.RowKit
theorem zc8 (m : Nat) : Builtin.zeroCells #[Value.int .u8 0] m = (by8 (List.replicate m 0)).toArray := by
  apply Array.ext
  · simp [Builtin.zeroCells, by8]
  · intro i h1 h2
    simp [Builtin.zeroCells, by8, Nat.mod_one]
set_option maxRecDepth 100000 in
theorem run_apz (w : World) (base : Nat) (ty : TypeId) {A : Option Addr} {n c : Nat} {l : List Int} (hown : OB 5 w base A n c l) (m : Nat) (hm : 0 < m) (hmax : n + m ≤ 1000000) (hbase : base ≤ w.heap.size) :
    ∃ A' c' w', (Builtin.append_ #[24, 3] ty #[.slice A n c, .int .i64 (m : Int)]).run Try.prog w = .ok (.slice A' (n + m) c') w' ∧ OB 5 w' base A' (n + m) c' (l ++ List.replicate m 0) ∧ w.grownBy w' (blk A) ∧ NewOr A A' w.heap.size := by
  obtain ⟨i, hi, hz, hs, hb⟩ : ∃ i, Try.prog.info? 5 = some i ∧ i.zero = some (.int .u8 0) ∧ i.size = 1 ∧ i.bytes = 1 := by
    have h : (Try.prog.info? 5).map (fun i => (i.zero, i.size, i.bytes)) = some (some (.int .u8 0), 1, 1) := by kernel_rfl
    obtain ⟨i, h1, h2⟩ := info_parts h
    exact ⟨i, h1, h2⟩
  have hw : IntKind.i64.wrap (m : Int) = (m : Int) := IntWalk.i64_in _ (by omega)
  have hneg : ¬ (m : Int) < 0 := by omega
  have h48 : ¬ (281474976710656 < (m : Int)) := by omega
  have hzc : Builtin.zeroCells #[Value.int .u8 0] m = (by8 (List.replicate m 0)).toArray := zc8 m
  have hlen := OB.length hown
  rcases hown.cases_ with ⟨rfl, rfl, rfl, hl⟩ | ⟨g, cur, rfl, hbg, hg, hnc, hcm, hcs, ht⟩
  · have hl0 : l = [] := List.eq_nil_of_length_eq_zero hlen
    subst hl0
    have hn : m ≠ 0 := by omega
    have h63' : ¬ (9223372036854775807 < (m : Int)) := by omega
    have h48' : ¬ (281474976710656 < Builtin.nextslicecap m 0) := by rw [nextslicecap_zero hm]; omega
    have hcap := grownCap_ge w m 0 5
    have hrun : (Builtin.append_ #[24, 3] ty #[.slice none 0 0, .int .i64 (m : Int)]).run Try.prog w = .ok (.slice (some ⟨w.heap.size, 0, none⟩) m (grownCap w m 0 5)) (w.drew.alloc (.cells ((by8 (List.replicate m 0)).toArray ++ Builtin.zeroCells #[Value.int .u8 0] (grownCap w m 0 5 - m)) 5)) := by
      simp [Builtin.append_, run_underlying Try.underlying24, run_underlying Try.underlying3, sizeOf, typeInfo, zeroValue, hi, hz, hs, hb, asInt, asIntOf, hw, hneg, h48, hn, h63', h48', Question.forced, run_firstCells_none, newRow, grownCap, hzc, Value.cells]
    rw [Nat.zero_add, List.nil_append]
    refine ⟨_, _, _, hrun, ?_, ⟨rfl, rfl, rfl, by simp, fun k hk _ => heap_alloc_old w.drew _ k hk⟩, .inr fun g hg => by simp [blk] at hg; omega⟩
    refine ⟨by simp [by8], .inr ⟨w.heap.size, _, _, rfl, hbase, heap_alloc_new w.drew _, hcap, grownCap_le_maxLen w m 0 5 (by unfold maxLen; omega), ?_, ?_⟩⟩
    · simp [size_zeroCells, by8]; omega
    · simp [by8]
  · have ht1 : cur.toList.take n = by8 l := by simpa using ht
    have hb8 : (by8 (List.replicate m 0)).length = m := by rw [by8_length, List.length_replicate]
    have hcs1 : cur.size = c := by omega
    by_cases hroom : n + m ≤ c
    · have hst := run_storeCells_at Try.prog g n 5 (by8 (List.replicate m 0)) 0 cur w hg (by rw [hb8]; omega) (by8_one _)
      simp only [Nat.add_zero] at hst
      have hrun : (Builtin.append_ #[24, 3] ty #[.slice (some ⟨g, 0, none⟩) n c, .int .i64 (m : Int)]).run Try.prog w = .ok (.slice (some ⟨g, 0, none⟩) (n + m) c) (w.setRow g (cur.toList.take n ++ by8 (List.replicate m 0) ++ cur.toList.drop (n + m)).toArray) := by
        rw [hb8] at hst
        have hm0 : m ≠ 0 := by omega
        simp [Builtin.append_, run_underlying Try.underlying24, run_underlying Try.underlying3, sizeOf, typeInfo, zeroValue, hi, hz, hs, hb, asInt, asIntOf, hw, hneg, h48, hroom, hm0, Addr.add_lit, hzc, Value.cells, hst]
      refine ⟨_, _, _, hrun, ⟨by rw [by8_length, List.length_append, List.length_replicate, hlen, Nat.mul_one], .inr ⟨g, c, _, rfl, hbg, setRow_heap w g cur _ 5 _ hg, hroom, hcm, ?_, ?_⟩⟩, ⟨rfl, rfl, rfl, by simp, fun k _ hk => setRow_other w g k _ (fun e => hk (by rw [e]; rfl))⟩, .inl rfl⟩
      · simp only [List.size_toArray, List.length_append, List.length_take, List.length_drop, Array.length_toList, hb8]; omega
      · rw [ht1, by8_append, Nat.mul_one]
        exact List.take_left' (by rw [List.length_append, by8_length, hlen, hb8])
    · have hneed : c < n + m := by omega
      have h63' : ¬ (9223372036854775807 < ((n : Int) + (m : Int))) := by omega
      have h48' : ¬ (281474976710656 < Builtin.nextslicecap (n + m) c) := by have := nextslicecap_le hneed; omega
      have hcap := grownCap_ge w (n + m) c 5
      have hm0 : m ≠ 0 := by omega
      have holds : ∀ j u, (by8 l)[j]? = some u → w.cell? ((⟨g, 0, none⟩ : Addr).add j) = some u := World.ownsRow.cells (g := g) hown (by rfl)
      have hfo := run_firstCells_some (P := Try.prog) w.drew 1 n ⟨g, 0, none⟩ n c (by8 l) (by rw [by8_length, hlen, Nat.mul_one]) (by simpa using holds)
      have hrun : (Builtin.append_ #[24, 3] ty #[.slice (some ⟨g, 0, none⟩) n c, .int .i64 (m : Int)]).run Try.prog w = .ok (.slice (some ⟨w.heap.size, 0, none⟩) (n + m) (grownCap w (n + m) c 5)) (w.drew.alloc (.cells ((by8 l).toArray ++ (by8 (List.replicate m 0)).toArray ++ Builtin.zeroCells #[Value.int .u8 0] (grownCap w (n + m) c 5 - (n + m))) 5)) := by
        simp [Builtin.append_, run_underlying Try.underlying24, run_underlying Try.underlying3, sizeOf, typeInfo, zeroValue, hi, hz, hs, hb, asInt, asIntOf, hw, hneg, h48, hroom, hm0, h63', h48', Question.forced, newRow, grownCap, hzc, Value.cells, hfo]
        congr 2
        apply Array.ext'
        simp [List.append_assoc]
      refine ⟨_, _, _, hrun, ⟨by rw [by8_length, List.length_append, List.length_replicate, hlen, Nat.mul_one], .inr ⟨w.heap.size, _, _, rfl, hbase, heap_alloc_new w.drew _, hcap, grownCap_le_maxLen w (n + m) c 5 (by unfold maxLen; omega), ?_, ?_⟩⟩, ⟨rfl, rfl, rfl, by simp, fun k hk _ => heap_alloc_old w.drew _ k hk⟩, .inr fun g hg => by simp [blk] at hg; omega⟩
      · simp only [Array.size_append, List.size_toArray, size_zeroCells, by8_length, hlen, List.length_replicate]
        simp; omega
      · simp only [Array.toList_append, List.append_assoc, Nat.mul_one]
        rw [← List.append_assoc, ← by8_append]
        exact List.take_left' (by rw [by8_length, List.length_append, hlen, List.length_replicate])
section
variable {ops : Array Oper} {rest : List Oper} {o : Oper} {a : Act} {w : World} {Q : Exit → Act → World → Prop}
theorem apz8 (hgd : o.guard = none) (s x : Operand)
    (ho : o.op = .call { callee := .builtin .append, args := #[s, x], argTypes := #[24, 3] })
    (base : Nat) {A : Option Addr} {n c : Nat} {l : List Int} (hs : a.eval s = .slice A n c) (hown : OB 5 w base A n c l)
    (m : Nat) (hx : a.eval x = .int .i64 (m : Int)) (hm : 0 < m) (hsz : n + m ≤ 1000000) (hbase : base ≤ w.heap.size)
    (h : ∀ A' c' w', OB 5 w' base A' (n + m) c' (l ++ List.replicate m 0) → w.grownBy w' (blk A) → NewOr A A' w.heap.size → wpList Try.prog ops Q rest (a.put o.dst (.slice A' (n + m) c')) w') :
    wpList Try.prog ops Q (o :: rest) a w := by
  refine wpList_plain hgd fun K hK => ?_
  obtain ⟨A', c', w', hr, q1, q2, q3⟩ := run_apz w base o.type hown m hm hsz hbase
  unfold Oper.wp execOp
  simp only [ho, resolve, invoke, builtin, Sem.run_bind, Sem.run_pure, Result.andThen_ok, List.map_toArray, List.map_cons, List.map_nil, hs, hx, hr]
  exact hK _ _ (h A' c' w' q1 q2 q3)
end
/-- A copy into a row of the call's own, as one step of a region that draws its order. -/
theorem run_cpy8 (w : World) (base : Nat) (ty : TypeId) {g n c : Nat} {l : List Int} (hown : OB 5 w base (some ⟨g, 0, none⟩) n c l) {B : Nat} {sA : Option Addr} {sl : List Int} (hr : RB w B sA sl) (off m dc sLen sc : Nat) (hsl : sl.length = sLen) (hm : 0 < m) (hms : m ≤ sLen) (hoff : off + m ≤ n) :
    ∃ w', (Builtin.copy_ #[24, 24] ty #[.slice (some ⟨g, off, none⟩) m dc, .slice sA sLen sc]).run Try.prog w = .ok (goInt m) w' ∧ OB 5 w' base (some ⟨g, 0, none⟩) n c (l.take off ++ sl.take m ++ l.drop (off + m)) ∧ w.grownBy w' (some g) := by
  obtain ⟨b, o, rfl, hbB, hcs⟩ := hr (by rw [by8_length]; omega)
  have hlen := OB.length hown
  rcases hown.cases_ with ⟨h, _⟩ | ⟨g', cur, e, hbg, hg, hnc, hcm, hcsz, ht⟩
  · cases h
  injection e with e
  injection e with e
  subst e
  have ht1 : cur.toList.take n = by8 l := by simpa using ht
  have hcs1 : cur.size = c := by omega
  have hl8 : (by8 (sl.take m)).length = m := by rw [by8_length, List.length_take]; omega
  have hrun := run_copy_row (P := Try.prog) w 24 24 ty 5 g off m dc ⟨b, o, none⟩ sLen sc cur 5 (by8 (sl.take m)) Try.underlying24 (by kernel_rfl) hg (by rw [hl8]; exact (Nat.min_eq_right hms).symm) (fun j v hv => by
    rw [add_eq]
    refine hcs j v ?_
    unfold by8 at hv ⊢
    rw [List.map_take, List.getElem?_take] at hv
    split at hv
    · exact hv
    · cases hv) (by rw [hl8]; omega) (by8_one _)
  rw [hl8] at hrun
  refine ⟨_, hrun, ⟨?_, .inr ⟨g, c, _, rfl, hbg, setRow_heap w g cur _ 5 _ hg, hnc, hcm, ?_, ?_⟩⟩, ⟨rfl, rfl, rfl, by simp, fun k _ hk => setRow_other w g k _ (fun e => hk (by rw [e]))⟩⟩
  · rw [by8_length, List.length_append, List.length_append, List.length_take, List.length_take, List.length_drop, hlen, Nat.mul_one]; omega
  · simp only [List.size_toArray, List.length_append, List.length_take, List.length_drop, Array.length_toList, hl8]; omega
  · have e1 : cur.toList.take off = by8 (l.take off) := by
      have := congrArg (List.take off) ht1
      rw [List.take_take, Nat.min_eq_left (by omega)] at this
      rw [this]; unfold by8; rw [List.map_take]
    have e2 : (cur.toList.drop (off + m)).take (n - (off + m)) = by8 (l.drop (off + m)) := by
      have := congrArg (List.drop (off + m)) ht1
      rw [List.drop_take] at this
      rw [this]; unfold by8; rw [List.map_drop]
    have key : ∀ (X Y Z : List Value), X.length = off → Y.length = m → (X ++ Y ++ Z).take n = X ++ Y ++ Z.take (n - (off + m)) := fun X Y Z hX hY => by
      rw [List.take_append, List.take_of_length_le (l := X ++ Y) (by rw [List.length_append]; omega), List.length_append, hX, hY]
    rw [Nat.mul_one, key _ _ _ (by rw [List.length_take, Array.length_toList]; omega) hl8, e1, e2, by8_append, by8_append]
theorem st_cpy8 {K : Act → World → Prop} {Q : Exit → Act → World → Prop} {E : Prop} {ops : Array Oper} {o : Oper} {a : Act} {w : World} (hgd : o.guard = none) (d s : Operand)
    (ho : o.op = .call { callee := .builtin .copy, args := #[d, s], argTypes := #[24, 24] })
    (base : Nat) {g n c : Nat} {l : List Int} (off m dc : Nat) (hd : a.eval d = .slice (some ⟨g, off, none⟩) m dc) (hown : OB 5 w base (some ⟨g, 0, none⟩) n c l)
    {B : Nat} {sA : Option Addr} {sLen sc : Nat} {sl : List Int} (hs : a.eval s = .slice sA sLen sc) (hr : RB w B sA sl) (hsl : sl.length = sLen) (hm : 0 < m) (hms : m ≤ sLen) (hoff : off + m ≤ n)
    (h : ∀ w', OB 5 w' base (some ⟨g, 0, none⟩) n c (l.take off ++ sl.take m ++ l.drop (off + m)) → w.grownBy w' (some g) → K (a.put o.dst (goInt m)) w') :
    if Region.wanted o (yielded ops a.tmps) = true then Oper.wp Try.prog o a w K Q else E := by
  have hw : Region.wanted o (yielded ops a.tmps) = true := by simp [Region.wanted, hgd]
  rw [if_pos hw]
  obtain ⟨w', hrun, h1, h2⟩ := run_cpy8 w base o.type hown hr off m dc sLen sc hsl hm hms hoff
  unfold Oper.wp
  simp [execOp, ho, resolve, invoke, builtin, hd, hs, hrun, Result.andThen]
  exact h w' h1 h2
end Go.Proofs.Ytcjkhonapafndaa
namespace Go.Proofs.Ytcjkhonapafndaa
open Go.RowKit
/-- Bytes laid from one place up to another; the piece begins at a. -/
def cpy (D al : List Int) (a f t : Nat) : List Int := D.take f ++ (al.drop (f - a)).take (t - f) ++ D.drop t
structure LySt where
  fr : Nat
  lo : Nat
  hi : Nat
  L : List (Nat × Nat)
  D : List Int
def lyStep (a e : Nat) (al : List Int) (s : LySt) (x : Nat × Nat) : LySt :=
  if x.2 < a ∨ e < x.1 then ⟨s.fr, s.lo, s.hi, s.L ++ [x], s.D⟩ else ⟨max s.fr x.2, min s.lo x.1, max s.hi x.2, s.L, if s.fr < x.1 then cpy s.D al a s.fr x.1 else s.D⟩
def lyD (D : List Int) (e : Nat) : List Int := if D.length < e then D ++ List.replicate (e - D.length) 0 else D
def lyF (a e : Nat) (al D : List Int) (S : List (Nat × Nat)) : LySt := S.foldl (lyStep a e al) ⟨a, a, e, [], D⟩
def lyEnd (a e : Nat) (al : List Int) (s : LySt) : List Int := if s.fr < e then cpy s.D al a s.fr e else s.D
def spI (x : Nat × Nat) : Int × Int := ((x.1 : Int), (x.2 : Int))
theorem lyF_succ {a e : Nat} {al D : List Int} {S : List (Nat × Nat)} {i : Nat} {x : Nat × Nat} (h : S[i]? = some x) : lyF a e al D (S.take (i + 1)) = lyStep a e al (lyF a e al D (S.take i)) x := by
  unfold lyF
  rw [List.take_add_one, h, List.foldl_append]
  rfl
theorem cpy_len {D al : List Int} {a f t : Nat} (h1 : a ≤ f) (h2 : f ≤ t) (h3 : t ≤ D.length) (h4 : t ≤ a + al.length) : (cpy D al a f t).length = D.length := by
  unfold cpy
  rw [List.length_append, List.length_append, List.length_take, List.length_take, List.length_drop, List.length_drop]; omega
/-- What holds of a state. -/
def LyOk (a e n : Nat) (i : Nat) (s : LySt) : Prop := a ≤ s.fr ∧ s.fr ≤ n ∧ s.lo ≤ n ∧ s.hi ≤ n ∧ s.D.length = n ∧ s.L.length ≤ i
theorem LyOk.step {a e n i : Nat} {al : List Int} {s : LySt} {x : Nat × Nat} (h : LyOk a e n i s) (he : e = a + al.length) (hen : e ≤ n) (hx : x.1 ≤ x.2 ∧ x.2 ≤ n) : LyOk a e n (i + 1) (lyStep a e al s x) := by
  obtain ⟨h1, h2, h3, h4, h5, h6⟩ := h
  unfold lyStep
  split
  · exact ⟨h1, h2, h3, h4, h5, by simp; omega⟩
  · rename_i hc
    refine ⟨by show a ≤ max s.fr x.2; omega, by show max s.fr x.2 ≤ n; omega, by show min s.lo x.1 ≤ n; omega, by show max s.hi x.2 ≤ n; omega, ?_, by show s.L.length ≤ i + 1; omega⟩
    show List.length (if s.fr < x.1 then cpy s.D al a s.fr x.1 else s.D) = n
    split
    · rw [cpy_len h1 (by omega) (by omega) (by omega)]; exact h5
    · exact h5
theorem LyOk.start {a e n : Nat} {D : List Int} (h1 : a ≤ e) (h2 : e ≤ n) (h3 : D.length = n) : LyOk a e n 0 ⟨a, a, e, [], D⟩ := ⟨Nat.le_refl _, by show a ≤ n; omega, by show a ≤ n; omega, h2, h3, Nat.le_refl _⟩
def whA (k0 k1 k2 k3 bg : Int) (f : Value) (fin : Int) (d t : Value) : Array Value := #[.int .u32 k0, .int .u32 k1, .int .i64 k2, .int .i64 k3, .int .i64 bg, f, .int .i64 fin, d, t]
end Go.Proofs.Ytcjkhonapafndaa
