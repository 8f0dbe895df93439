/- Proved: the states of the reference's Add; one whole more, whatever the order; one of the reference's wholes is stored into its row; region 23 of the reference's Add: the whole is laid and stored, whatever the order; single operations, at frames that are not written out; region 34 of the reference's Add: what is handed out, whatever the order. Conditions: as each law says. -/
import Derived.Test.YtcjkhonapafndaaRst
import Derived.Test.YtcjkhonapafndaaInv
import Derived.Test.YtcjkhonapafndaaAdw
import Derived.Deep.DeepCutAuto
import Derived.Deep.RegionHeld3
import Derived.WalkMore
set_option linter.unusedVariables false
set_option linter.unusedSimpArgs false
namespace Go.Proofs.Ytcjkhonapafndaa
open Go.RowKit
/-- Ahead of the laying: which whole it is, and where. -/
structure RaM (W : World) (gx q : Nat) (p : PkV) (oV dV : Value) (A : Option Addr) (G : Nat → Prop) (M : List RV) (dn : Nat) (now : Int) (A1 : Option Addr) (n1 c1 i : Nat) (L1 : List RVm) (x : RVm) (wx : World) : Prop where
  st : RfS wx q G A1 n1 c1 L1
  n1 : n1 ≤ 1000
  at_ : L1[i]? = some x
  of : ∃ old, OfV M (pkK p) now ((L1.take i).map RVm.rv) x.rv ((L1.drop (i + 1)).map RVm.rv) old ∧ (old = true → FitV x.rv p.more (p.off + dn))
  pk : Bk wx gx 26 (pkC p oV dV)
  zk : Bk wx (gx + 1) 26 #[.int .i64 0, .int .i64 0, .bool false, .bool false, .int .i64 0, .int .i64 0, .int .i64 0, .int .u32 0, .int .u32 0, .slice none 0 0, .slice none 0 0]
  ch : Chg (ownR q A) W wx
  ow : ∀ b, blk A1 = some b → blk A = some b ∨ W.heap.size ≤ b
section
variable {ops : Array Oper} {rest : List Oper} {o : Oper} {a : Act} {w : World} {Q : Exit → Act → World → Prop}
theorem pk_size : (Try.prog.info? 26).map (·.size) = some 11 := by kernel_rfl
/-- A packet is stored into a block of its own, unopened. -/
theorem st_pk_box (hgd : o.guard = none) (p x : Operand) (ho : o.op = .store 26 p x) (hd : o.dst = none) {g : Nat} (hp : a.eval p = .pointer (some ⟨g, 0, none⟩)) {cs : Array Value} (hy : a.eval x = .agg cs) {old : Array Value} (hb : Bk w g 26 old) (hs : old.size = 11) (hcs : cs.size = 11) (h1 : cs.all (·.oneCell') = true)
    (h : ∀ w', Bk w' g 26 cs → Chg (fun b => b = g) w w' → wpList Try.prog ops Q rest a w') : wpList Try.prog ops Q (o :: rest) a w := by
  refine wpList_store_rowTo hgd _ p x ho hd g cs hp hy 26 old hb (by rw [hcs]; exact pk_size) (by rw [hs, hcs]) h1 ?_
  obtain ⟨h2, h3⟩ := setRow_bk (c := cs) hb
  exact h _ h2 h3
end
/-- There is room for a new whole. -/
structure RaN (W : World) (gx q : Nat) (p : PkV) (oV dV : Value) (A : Option Addr) (G : Nat → Prop) (L : List RVm) (n : Nat) (A2 : Option Addr) (n2 c2 : Nat) (L2 : List RVm) (wx : World) : Prop where
  st : RfS wx q G A2 n2 c2 L2
  n2 : n2 ≤ 100
  of : (n < 8 ∧ L2 = L) ∨ (8 ≤ n ∧ ∃ K1 x K2, L = K1 ++ x :: K2 ∧ ((∀ y ∈ K1, x.bg < y.bg) ∧ ∀ y ∈ K2, x.bg ≤ y.bg) ∧ L2 = K1 ++ K2)
  pk : Bk wx gx 26 (pkC p oV dV)
  zk : Bk wx (gx + 1) 26 #[.int .i64 0, .int .i64 0, .bool false, .bool false, .int .i64 0, .int .i64 0, .int .i64 0, .int .u32 0, .int .u32 0, .slice none 0 0, .slice none 0 0]
  ch : Chg (ownR q A) W wx
  ow : ∀ b, blk A2 = some b → blk A = some b ∨ W.heap.size ≤ b
theorem RfS.drewN {w : World} {q : Nat} {G : Nat → Prop} {A : Option Addr} {n c : Nat} {L : List RVm} (h : RfS w q G A n c L) (k : Nat) : RfS (w.drewN k) q G A n c L :=
  h.chg ((Chg.refl (fun _ => False) w).drewN k) (fun _ _ e => e)
/-- What each operation of region 21 yields, but for the memory that is made. -/
def raC (q gx n2 c2 : Nat) (A2 : Option Addr) (k : K4) (now : Int) : Nat → Value
  | 0 => .pointer (some ⟨q, 0, none⟩)
  | 1 => .pointer (some ⟨q, 0, none⟩)
  | 2 => .pointer (some ⟨q, 0, none⟩)
  | 3 => .pointer (some ⟨q, 0, none⟩)
  | 4 => .slice A2 n2 c2
  | 5 => .pointer (some ⟨gx, 7, none⟩)
  | 6 => .int .u32 k.1
  | 7 => .pointer (some ⟨gx, 8, none⟩)
  | 8 => .int .u32 k.2.1
  | 9 => .pointer (some ⟨gx, 6, none⟩)
  | 10 => .int .i64 k.2.2.1
  | 11 => .pointer (some ⟨gx, 1, none⟩)
  | 12 => .int .i64 k.2.2.2
  | 13 => .int .i64 now
  | 14 => .agg (rvC (newM k now)).toArray
  | 17 => .pointer (some ⟨q, 0, none⟩)
  | 18 => .pointer (some ⟨q, 0, none⟩)
  | _ => undef
/-- A row with one whole, its cells unopened. -/
theorem ra_fill (y : RVm) : Instr.fill (fun i => some (i * 20, 20)) ((Array.range (1 * 20)).map (zeroWh.cells[· % zeroWh.cells.size]!)) [(0, .agg (rvC y).toArray)] = some (rvC y).toArray := by kernel_rfl
theorem ra_lit {o : Oper} {a : Act} {w : World} {K : Act → World → Prop} {Q : Exit → Act → World → Prop} (t : Nat) (y : RVm) (ho : o.op = .buildSlice 58 1 #[(0, .tmp t)]) (he : a.eval (.tmp t) = .agg (rvC y).toArray)
    (h : K (a.put o.dst (.slice (some ⟨w.heap.size, 0, none⟩) 1 1)) (w.alloc (.cells (rvC y).toArray 94))) : o.wp Try.prog a w K Q := by
  obtain ⟨ie, i1, i2, i3, i4⟩ := info_rw
  refine wp_buildSlice 58 94 1 _ ho (rvC y).toArray ie zeroWh Try.underlying58 i1 i2 (by rw [i3]; decide) (by rw [i3]; decide) ?_ h
  simp only [List.map_toArray, List.map_cons, List.map_nil, he, i3]
  exact ra_fill y
def raPlain (j : Nat) : Bool := !(j == 15 || j == 16 || j == 19)
def raD (L : Nat → Bool) : Prop := (L 19 = true → L 16 = true) ∧ (L 16 = true → L 15 = true ∧ L 4 = true)
structure raR (q gx n2 c2 : Nat) (A2 : Option Addr) (k : K4) (now : Int) (pc : Array Value) (L2 : List RVm) (w0 : World) (L : Nat → Bool) (v : Nat → Value) (w : World) : Prop where
  pl : ∀ j, L j = true → raPlain j = true → v j = raC q gx n2 c2 A2 k now j
  ch : Chg (ownR q A2) w0 w
  dp : raD L
  old : L 16 = false → Rs w 0 A2 n2 c2 L2
  lit : L 15 = true → L 16 = false → ∃ b, v 15 = .slice (some ⟨b, 0, none⟩) 1 1 ∧ w0.heap.size ≤ b ∧ Bk w b 94 (rvC (newM k now)).toArray
  app : L 16 = true → ∃ A3 c3, v 16 = .slice A3 (n2 + 1) c3 ∧ Rs w 0 A3 (n2 + 1) c3 (L2 ++ [newM k now]) ∧ (∀ b, blk A3 = some b → blk A2 = some b ∨ w0.heap.size ≤ b)
  st : L 19 = false → Bk w q 60 #[.slice A2 n2 c2]
  st' : L 19 = true → Bk w q 60 #[v 16]
  pk : Bk w gx 26 pc
  nq : blk A2 ≠ some q
  nx : gx ≠ q ∧ blk A2 ≠ some gx
  zs : q < w0.heap.size ∧ gx < w0.heap.size
section
variable {q gx n2 c2 : Nat} {A2 : Option Addr} {k : K4} {now : Int} {pc : Array Value} {L2 : List RVm} {w0 : World} {L : Nat → Bool} {v : Nat → Value} {w : World}
theorem raD_old (h : raD L) (h4 : L 4 = false ∨ L 16 = false) : L 19 = false := by
  cases e : L 19 with
  | false => rfl
  | true =>
    have a := h.1 e
    rcases h4 with h4 | h4
    · rw [(h.2 a).2] at h4; cases h4
    · rw [a] at h4; cases h4
theorem raD_step {x : Nat} (h : raD L) (h16 : x = 16 → L 15 = true ∧ L 4 = true) (h19 : x = 19 → L 16 = true) : raD (upd L x true) := by
  have up : ∀ j, L j = true → upd L x true j = true := fun j hj => by
    unfold upd; split
    · rfl
    · exact hj
  have dn : ∀ j, upd L x true j = true → x = j ∨ L j = true := fun j hj => by
    unfold upd at hj; split at hj
    · next h => exact .inl h.symm
    · exact .inr hj
  refine ⟨fun hh => up _ ((dn _ hh).elim h19 h.1), fun hh => ?_⟩
  have := (dn _ hh).elim h16 h.2
  exact ⟨up _ this.1, up _ this.2⟩
/-- One more of the plain ones. -/
theorem raR_step (h : raR q gx n2 c2 A2 k now pc L2 w0 L v w) {x : Nat} {u : Value} (hp : raPlain x = true) (hu : u = raC q gx n2 c2 A2 k now x) : raR q gx n2 c2 A2 k now pc L2 w0 (upd L x true) (upd v x u) w := by
  have n15 : 15 ≠ x := by rintro rfl; cases hp
  have n16 : 16 ≠ x := by rintro rfl; cases hp
  have n19 : 19 ≠ x := by rintro rfl; cases hp
  refine ⟨fun y hy hpy => ?_, h.ch, raD_step h.dp (fun e => absurd e.symm n16) (fun e => absurd e.symm n19), ?_, ?_, ?_, ?_, ?_, h.pk, h.nq, h.nx, h.zs⟩
  · by_cases e : y = x
    · subst e; rw [upd_same]; exact hu
    · rw [upd_ne _ _ e]; rw [upd_ne _ _ e] at hy; exact h.pl y hy hpy
  · rw [upd_ne _ _ n16]; exact h.old
  · rw [upd_ne _ _ n15, upd_ne _ _ n16, upd_ne _ _ n15]; exact h.lit
  · rw [upd_ne _ _ n16, upd_ne _ _ n16]; exact h.app
  · rw [upd_ne _ _ n19]; exact h.st
  · rw [upd_ne _ _ n19, upd_ne _ _ n16]; exact h.st'
/-- The literal. -/
theorem raR_lit (h : raR q gx n2 c2 A2 k now pc L2 w0 L v w) (h15 : L 15 = false) : raR q gx n2 c2 A2 k now pc L2 w0 (upd L 15 true) (upd v 15 (.slice (some ⟨w.heap.size, 0, none⟩) 1 1)) (w.alloc (.cells (rvC (newM k now)).toArray 94)) := by
  have h16 : L 16 = false := by
    cases e : L 16 with
    | false => rfl
    | true => rw [(h.dp.2 e).1] at h15; cases h15
  have h19 := raD_old h.dp (.inr h16)
  refine ⟨fun y hy hpy => ?_, h.ch.alloc _, raD_step h.dp (fun e => by cases e) (fun e => by cases e), fun _ => (h.old h16).chg (Chg.of_below (F := fun _ => False) ((Below.refl _ _).alloc (Nat.le_refl _) _)) (fun _ _ e => e), fun _ _ => ⟨w.heap.size, by rw [upd_same], h.ch.size, Bk.new w _ _⟩, fun hh => ?_, fun _ => (h.st h19).alloc _, fun hh => ?_, h.pk.alloc _, h.nq, h.nx, h.zs⟩
  · have ny : y ≠ 15 := by rintro rfl; cases hpy
    rw [upd_ne _ _ ny]; rw [upd_ne _ _ ny] at hy; exact h.pl y hy hpy
  · have h9 : L 16 = true := hh
    rw [h16] at h9; cases h9
  · have h9 : L 19 = true := hh
    rw [h19] at h9; cases h9
/-- The append. -/
theorem raR_app (h : raR q gx n2 c2 A2 k now pc L2 w0 L v w) (hL : L 16 = false) (d4 : L 4 = true) (d15 : L 15 = true) (hn : n2 ≤ 1000) :
    ∃ u w4, (Builtin.append_ #[58, 58] 58 #[.slice A2 n2 c2, v 15]).run Try.prog w = .ok u w4 ∧ raR q gx n2 c2 A2 k now pc L2 w0 (upd L 16 true) (upd v 16 u) w4 := by
  obtain ⟨b, e15, hb, hbk⟩ := h.lit d15 hL
  obtain ⟨ti, i1, i2, i3, i4⟩ := info_rw
  have hO := h.old hL
  have h19 := raD_old h.dp (.inr hL)
  have hsz := h.ch.size
  obtain ⟨u, w4, hrun, hO4, hG, _, hnew⟩ := run_append_own_at (P := Try.prog) w 0 58 58 94 ti _ 20 200 Try.underlying58 i1 i2 i3 i4 rfl (by omega) (.slice A2 n2 c2) n2 _ hO ⟨b, 0, none⟩ 1 1 (rvC (newM k now)) (by rw [rvC_len]) (fun j u hu => by
    rw [add_eq, Nat.zero_add, hbk.cell j]
    simpa using hu) (rvC_one _) (by unfold maxLen; omega) (by omega) (Nat.zero_le _)
  have hO4' : w4.ownsRow 0 94 20 u (n2 + 1) (rvsC (L2 ++ [newM k now])) := by
    have e : rvsC L2 ++ rvC (newM k now) = rvsC (L2 ++ [newM k now]) := by rw [rvsC_append]; simp [rvsC]
    rw [← e]; exact hO4
  refine ⟨u, w4, by rw [e15]; exact hrun, ?_⟩
  have hc : Chg (fun x => blk A2 = some x) w w4 := Chg.of_grown hG (fun x hx => by rw [ownBlock_slice] at hx; exact hx)
  have hne : ∀ x, blk A2 ≠ some x → ¬ (fun x => blk A2 = some x) x := fun x hx => hx
  refine ⟨fun y hy hpy => ?_, h.ch.trans hc (fun x hx => .inl (.inr hx)), raD_step h.dp (fun _ => ⟨d15, d4⟩) (fun e => by cases e), fun hh => ?_, fun _ hh => ?_, fun _ => ?_, fun _ => (h.st h19).chg hc h.nq, fun hh => ?_, h.pk.chg hc h.nx.2, h.nq, h.nx, h.zs⟩
  · have ny : y ≠ 16 := by rintro rfl; cases hpy
    rw [upd_ne _ _ ny]; rw [upd_ne _ _ ny] at hy; exact h.pl y hy hpy
  · rw [upd_same] at hh; cases hh
  · rw [upd_same] at hh; cases hh
  · rcases hO4'.2 with ⟨h1, h2⟩ | ⟨g, cap, cur, h1, h2, h3⟩
    · omega
    · subst h1
      refine ⟨some ⟨g, 0, none⟩, cap, by rw [upd_same], hO4', fun x hx => ?_⟩
      rcases hnew with hnew | hnew
      · rw [ownBlock_slice, ownBlock_slice] at hnew
        exact .inl (hnew ▸ hx)
      · rw [ownBlock_slice] at hnew
        rw [hnew] at hx
        injection hx with hx
        exact .inr (by omega)
  · have h9 : L 19 = true := hh
    rw [h19] at h9; cases h9
/-- The store. -/
theorem raR_st (h : raR q gx n2 c2 A2 k now pc L2 w0 L v w) (hL : L 19 = false) (d16 : L 16 = true) : raR q gx n2 c2 A2 k now pc L2 w0 (upd L 19 true) (upd v 19 undef) (w.setCell ⟨q, 0, none⟩ (v 16)) := by
  have hC : Chg (fun b => b = q) w (w.setCell ⟨q, 0, none⟩ (v 16)) := (Chg.refl (fun b => b = q) w).setCell (p := ⟨q, 0, none⟩) (.inl rfl) _
  obtain ⟨A3, c3, e, hA, hb⟩ := h.app d16
  refine ⟨fun y hy hpy => ?_, h.ch.trans hC (fun x hx => .inl (.inl hx)), raD_step h.dp (fun e => by cases e) (fun _ => d16), fun hh => ?_, fun _ hh => ?_, fun _ => ⟨A3, c3, e, hA.chg hC (fun b hbb eb => ?_), hb⟩, fun hh => ?_, fun _ => (h.st hL).set 0 _, h.pk.chg hC h.nx.1, h.nq, h.nx, h.zs⟩
  · have ny : y ≠ 19 := by rintro rfl; cases hpy
    rw [upd_ne _ _ ny]; rw [upd_ne _ _ ny] at hy; exact h.pl y hy hpy
  · have h9 : L 16 = false := hh
    rw [d16] at h9; cases h9
  · have h9 : L 16 = false := hh
    rw [d16] at h9; cases h9
  · subst eb
    rcases hb b hbb with h1 | h1
    · exact h.nq h1
    · have := h.zs.1; omega
  · rw [upd_same] at hh; cases hh
end

theorem OldP.split {L : List RVm} {m : Nat} (h : OldP L L.length m) : ∃ K1 x K2, L = K1 ++ x :: K2 ∧ ((∀ y ∈ K1, x.bg < y.bg) ∧ ∀ y ∈ K2, x.bg ≤ y.bg) ∧ L.take m ++ L.drop (m + 1) = K1 ++ K2 ∧ m < L.length := by
  obtain ⟨K1, x, K2, e, h1, h2, h3⟩ := h
  rw [List.take_length] at e
  subst h1
  refine ⟨K1, x, K2, e, ⟨h2, h3⟩, ?_, by rw [e]; simp⟩
  have e2 : K1 ++ x :: K2 = (K1 ++ [x]) ++ K2 := by simp
  rw [e, List.take_left' rfl, e2, List.drop_left' (by simp)]
/-- What Add answers. -/
def RaPost (w : World) (q : Nat) (A : Option Addr) (G : Nat → Prop) (M : List RV) (oA dA : Option Addr) (ol dl : List Int) (R : List RV → Pk3 → Bool → Int → Prop) (e : Ending) (w' : World) : Prop :=
  ∃ (G' : Nat → Prop) (A' : Option Addr) (n' c' : Nat) (L' : List RVm) (out : Pk3) (is : Bool) (er : Int) (A1 A2 : Option Addr) (n1 c1 n2 c2 : Nat),
    e = .returned (.tuple #[.agg (pkC out.1 (.slice A1 n1 c1) (.slice A2 n2 c2)), .bool is, .int .i64 er]) ∧ RfS w' q G' A' n' c' L' ∧ RB w' w'.heap.size A1 out.2.1 ∧ out.2.1.length = n1 ∧ RB w' w'.heap.size A2 out.2.2 ∧ out.2.2.length = n2 ∧
    (∀ b, G' b → G b ∨ w.heap.size ≤ b ∨ (0 < ol.length ∧ blk oA = some b) ∨ (0 < dl.length ∧ blk dA = some b)) ∧ (∀ b, blk A' = some b → blk A = some b ∨ w.heap.size ≤ b) ∧ Chg (ownR q A) w w' ∧ R (L'.map RVm.rv) out is er
end Go.Proofs.Ytcjkhonapafndaa
namespace Go.Proofs.Ytcjkhonapafndaa
open Go.RowKit
theorem rvsC_set (L : List RVm) (k : Nat) (y : RVm) (hk : k < L.length) : rvsC (L.set k y) = (rvsC L).take (k * 20) ++ rvC y ++ (rvsC L).drop (k * 20 + 20) := by
  have e : L.set k y = L.take k ++ (y :: L.drop (k + 1)) := by rw [List.set_eq_take_append_cons_drop, if_pos hk]
  rw [e, rvsC_append, rvsC_take, show y :: L.drop (k + 1) = [y] ++ L.drop (k + 1) from rfl, rvsC_append, rvsC_drop, show (k + 1) * 20 = k * 20 + 20 by omega]
  simp [rvsC]
theorem Rs.set_ {w : World} {base g n c : Nat} {L : List RVm} (h : Rs w base (some ⟨g, 0, none⟩) n c L) {k : Nat} (hk : k < n) (y : RVm) (vs : List Value) (hvs : rvC y = vs) :
    Rs (w.setCells g (k * 20) vs) base (some ⟨g, 0, none⟩) n c (L.set k y) ∧ w.there g (k * 20) 20 ∧ Chg (fun b => b = g) w (w.setCells g (k * 20) vs) := by
  have hl := h.len
  have hvl : vs.length = 20 := by rw [← hvs, rvC_len]
  have hG : w.grownBy (w.setCells g (k * 20) vs) (some g) := grownBy_setCells w g _ _
  rcases h.cases_ with ⟨h1, _⟩ | ⟨g', cur, h1, h2, h3, h4, h5, h6, h7⟩
  · cases h1
  · injection h1 with h1
    injection h1 with e1
    subst e1
    obtain ⟨cur', q1, q2, q3⟩ := heap_setCells_same w g 94 (0, 0) vs (k * 20) w cur h3 (by omega)
    refine ⟨⟨by rw [rvsC_len, List.length_set]; omega, .inr ⟨g, c, cur', rfl, h2, q1, h4, h5, by omega, ?_⟩⟩, fun j hj => ?_, Chg.of_grown hG (fun b e => by injection e with e; exact e.symm)⟩
    · rw [q3, rvsC_set L k y (by omega), ← h7, hvs, hvl]
      have hcl : cur.toList.length = c * 20 := by simpa using h6
      have hkn : k * 20 + 20 ≤ n * 20 := by omega
      rw [List.take_append, List.take_append, List.take_take, show min (n * 20) (k * 20) = k * 20 by omega, List.length_take, List.length_append, List.length_take, hvl]
      have m1 : min (k * 20) cur.toList.length = k * 20 := by rw [hcl]; omega
      rw [m1, List.take_of_length_le (l := vs) (by omega), List.take_take, show min (k * 20) (n * 20) = k * 20 by omega, List.drop_take]
    · refine ⟨?_, by simp [World.frozen?, h3]⟩
      rw [cell_of_row w g (k * 20 + j) cur _ (0, 0) h3]
      simp; omega
theorem Rs.set {w : World} {base g n c : Nat} {L : List RVm} (h : Rs w base (some ⟨g, 0, none⟩) n c L) {k : Nat} (hk : k < n) (y : RVm) :
    Rs (w.setCells g (k * 20) (rvC y)) base (some ⟨g, 0, none⟩) n c (L.set k y) ∧ w.there g (k * 20) 20 ∧ Chg (fun b => b = g) w (w.setCells g (k * 20) (rvC y)) := h.set_ hk y _ rfl
/-- A whole is laid anew. -/
theorem RfS.put {w w' : World} {q g n c i : Nat} {G G' : Nat → Prop} {L : List RVm} {y : RVm} (h : RfS w q G (some ⟨g, 0, none⟩) n c L) (hB : Below w.heap.size w w') (hi : i < n) (hy : RvOk w' G' y) (hG : ∀ b, G' b → b ≠ q ∧ b ≠ g ∧ b < w'.heap.size) :
    RfS (w'.setCells g (i * 20) (rvC y)) q (fun b => G b ∨ G' b) (some ⟨g, 0, none⟩) n c (L.set i y) ∧ w'.there g (i * 20) 20 ∧ Chg (fun b => b = g) w' (w'.setCells g (i * 20) (rvC y)) := by
  have h' := h.below hB
  obtain ⟨q1, q2, q3⟩ := h'.st.2.1.set hi y
  have hgq : g ≠ q := fun e => h'.st.2.2 (by rw [e]; rfl)
  have hgG : ∀ b, G b → b ≠ g := fun b hb e => h'.na g rfl (e ▸ hb)
  refine ⟨⟨⟨h'.st.1.chg q3 (fun e => hgq e.symm), q1, h'.st.2.2⟩, fun x hx => ?_, fun e => e.elim h'.nq (fun e => (hG q e).1 rfl), fun b hb e => ?_, fun b hb => ?_⟩, q2, q3⟩
  · rcases List.mem_or_eq_of_mem_set hx with hx | rfl
    · exact ((h'.ok x hx).chg q3 (fun b hb e => hgG b hb e)).mono (fun b => .inl)
    · exact (hy.chg q3 (fun b hb e => (hG b hb).2.1 e)).mono (fun b => .inr)
  · have e2 : g = b := by simpa [blk] using hb
    subst e2
    rcases e with e | e
    · exact hgG g e rfl
    · exact (hG g e).2.1 rfl
  · refine Nat.lt_of_lt_of_le ?_ q3.size
    exact hb.elim (fun e => h'.lt b e) (fun e => (hG b e).2.2)
/-- What the laid whole brings to the row of all. -/
theorem put_map {L : List RVm} {i : Nat} {x y : RVm} (hx : L[i]? = some x) : (L.set i y).map RVm.rv = (L.take i).map RVm.rv ++ y.rv :: (L.drop (i + 1)).map RVm.rv ∧ (L.set i y)[i]? = some y := by
  have hl := (List.getElem?_eq_some_iff.1 hx).1
  refine ⟨?_, List.getElem?_set_self hl⟩
  rw [List.set_eq_take_append_cons_drop, if_pos hl, List.map_append, List.map_cons]
end Go.Proofs.Ytcjkhonapafndaa
namespace Go.Proofs.Ytcjkhonapafndaa
open Go.RowKit
/-- What each operation of region 23 yields, but for the call. -/
def rsC (q g n1 c1 i : Nat) (x : RVm) (pc : Array Value) (en : Int) : Nat → Value
  | 0 => .pointer (some ⟨q, 0, none⟩)
  | 1 => .pointer (some ⟨q, 0, none⟩)
  | 2 => .pointer (some ⟨q, 0, none⟩)
  | 3 => .slice (some ⟨g, 0, none⟩) n1 c1
  | 4 => .int .i64 i
  | 5 => .pointer (some ⟨q, 0, none⟩)
  | 6 => .pointer (some ⟨q, 0, none⟩)
  | 7 => .pointer (some ⟨q, 0, none⟩)
  | 8 => .slice (some ⟨g, 0, none⟩) n1 c1
  | 9 => .int .i64 i
  | 10 => .pointer (some ⟨g, i * 20, none⟩)
  | 11 => .agg (rvC x).toArray
  | 12 => .agg pc
  | 13 => .int .i64 en
  | 15 => .pointer (some ⟨g, i * 20, none⟩)
  | _ => undef
def rsPlain (j : Nat) : Bool := !(j == 14 || j == 16)
def rsD (L : Nat → Bool) : Prop := (L 16 = true → L 14 = true ∧ L 15 = true) ∧ (L 15 = true → L 3 = true) ∧ (L 14 = true → L 11 = true ∧ L 12 = true) ∧ (L 11 = true → L 10 = true) ∧ (L 10 = true → L 8 = true)
/-- The blocks of a whole that is laid. -/
def layG (G : Nat → Prop) (W0 : World) (oA dA : Option Addr) (ol dl : List Int) (w : World) (b : Nat) : Prop := G b ∨ (W0.heap.size ≤ b ∧ b < w.heap.size) ∨ (0 < ol.length ∧ blk oA = some b) ∨ (0 < dl.length ∧ blk dA = some b)
structure rsR (q g n1 c1 i : Nat) (x : RVm) (pc : Array Value) (en : Int) (p : PkV) (ol dl : List Int) (oA dA : Option Addr) (G : Nat → Prop) (W0 : World) (L : Nat → Bool) (v : Nat → Value) (w : World) : Prop where
  pl : ∀ j, L j = true → rsPlain j = true → v j = rsC q g n1 c1 i x pc en j
  dp : rsD L
  a : L 14 = false → w = W0
  b : L 14 = true → L 16 = false → ∃ y, v 14 = .agg (rvC y).toArray ∧ LayV x.rv p ol dl y.rv ∧ RvOk w (layG G W0 oA dA ol dl w) y ∧ Below W0.heap.size W0 w
  c : L 16 = true → ∃ y w1, LayV x.rv p ol dl y.rv ∧ RvOk w1 (layG G W0 oA dA ol dl w1) y ∧ Below W0.heap.size W0 w1 ∧ w = w1.setCells g (i * 20) (rvC y)
section
variable {q g n1 c1 i : Nat} {x : RVm} {pc : Array Value} {en : Int} {p : PkV} {ol dl : List Int} {oA dA : Option Addr} {G : Nat → Prop} {W0 : World} {L : Nat → Bool} {v : Nat → Value} {w : World}
theorem rsD_step {z : Nat} (h : rsD L) (h16 : z = 16 → L 14 = true ∧ L 15 = true) (h15 : z = 15 → L 3 = true) (h14 : z = 14 → L 11 = true ∧ L 12 = true) (h11 : z = 11 → L 10 = true) (h10 : z = 10 → L 8 = true) : rsD (upd L z true) := by
  have up : ∀ j, L j = true → upd L z true j = true := fun j hj => by
    unfold upd; split
    · rfl
    · exact hj
  have dn : ∀ j, upd L z true j = true → z = j ∨ L j = true := fun j hj => by
    unfold upd at hj; split at hj
    · next h => exact .inl h.symm
    · exact .inr hj
  obtain ⟨d1, d2, d3, d4, d5⟩ := h
  refine ⟨fun hh => ?_, fun hh => up _ ((dn _ hh).elim h15 d2), fun hh => ?_, fun hh => up _ ((dn _ hh).elim h11 d4), fun hh => up _ ((dn _ hh).elim h10 d5)⟩
  · have := (dn _ hh).elim h16 d1
    exact ⟨up _ this.1, up _ this.2⟩
  · have := (dn _ hh).elim h14 d3
    exact ⟨up _ this.1, up _ this.2⟩
theorem not_true {a b : Bool} (h : a = true → b = true) (hb : b = false) : a = false := by
  cases a with
  | false => rfl
  | true => rw [h rfl] at hb; cases hb
/-- Which of them are still to come while one is. -/
theorem rsD_16 (h : rsD L) (h3 : L 3 = false) : L 16 = false := not_true (fun e => h.2.1 (h.1 e).2) h3
theorem rsD_14 (h : rsD L) (h3 : L 8 = false ∨ L 10 = false ∨ L 11 = false ∨ L 12 = false) : L 14 = false := by
  rcases h3 with e | e | e | e
  · exact not_true (fun k => h.2.2.2.2 (h.2.2.2.1 (h.2.2.1 k).1)) e
  · exact not_true (fun k => h.2.2.2.1 (h.2.2.1 k).1) e
  · exact not_true (fun k => (h.2.2.1 k).1) e
  · exact not_true (fun k => (h.2.2.1 k).2) e
theorem rsR.below (h : rsR q g n1 c1 i x pc en p ol dl oA dA G W0 L v w) (h16 : L 16 = false) : Below W0.heap.size W0 w := by
  cases e : L 14 with
  | false => rw [h.a e]; exact Below.refl _ _
  | true => obtain ⟨y, _, _, _, hb⟩ := h.b e h16; exact hb
/-- One more of the plain ones. -/
theorem rsR_step (h : rsR q g n1 c1 i x pc en p ol dl oA dA G W0 L v w) {z : Nat} {u : Value} (hp : rsPlain z = true) (hu : u = rsC q g n1 c1 i x pc en z) (h15 : z = 15 → L 3 = true) (h11 : z = 11 → L 10 = true) (h10 : z = 10 → L 8 = true) : rsR q g n1 c1 i x pc en p ol dl oA dA G W0 (upd L z true) (upd v z u) w := by
  have n14 : 14 ≠ z := by rintro rfl; cases hp
  have n16 : 16 ≠ z := by rintro rfl; cases hp
  refine ⟨fun y hy hpy => ?_, rsD_step h.dp (fun e => absurd e.symm n16) h15 (fun e => absurd e.symm n14) h11 h10, ?_, ?_, ?_⟩
  · by_cases e : y = z
    · subst e; rw [upd_same]; exact hu
    · rw [upd_ne _ _ e]; rw [upd_ne _ _ e] at hy; exact h.pl y hy hpy
  · rw [upd_ne _ _ n14]; exact h.a
  · rw [upd_ne _ _ n14, upd_ne _ _ n16, upd_ne _ _ n14]; exact h.b
  · rw [upd_ne _ _ n16]; exact h.c
/-- The call. -/
theorem rsR_lay (h : rsR q g n1 c1 i x pc en p ol dl oA dA G W0 L v w) (h14 : L 14 = false) (d11 : L 11 = true) (d12 : L 12 = true) {y : RVm} {w4 : World} (hl : LayV x.rv p ol dl y.rv) (hk : RvOk w4 (layG G W0 oA dA ol dl w4) y) (hB : Below W0.heap.size W0 w4) :
    rsR q g n1 c1 i x pc en p ol dl oA dA G W0 (upd L 14 true) (upd v 14 (.agg (rvC y).toArray)) w4 := by
  have h16 : L 16 = false := not_true (fun e => (h.dp.1 e).1) h14
  refine ⟨fun y hy hpy => ?_, rsD_step h.dp (fun e => by cases e) (fun e => by cases e) (fun _ => ⟨d11, d12⟩) (fun e => by cases e) (fun e => by cases e), fun hh => ?_, fun _ _ => ⟨y, by rw [upd_same], hl, hk, hB⟩, fun hh => ?_⟩
  · have ny : y ≠ 14 := by rintro rfl; cases hpy
    rw [upd_ne _ _ ny]; rw [upd_ne _ _ ny] at hy; exact h.pl y hy hpy
  · rw [upd_same] at hh; cases hh
  · have h9 : L 16 = true := hh
    rw [h16] at h9; cases h9
/-- The store. -/
theorem rsR_st (h : rsR q g n1 c1 i x pc en p ol dl oA dA G W0 L v w) (h16 : L 16 = false) (d14 : L 14 = true) (d15 : L 15 = true) {y : RVm} (hl : LayV x.rv p ol dl y.rv) (hk : RvOk w (layG G W0 oA dA ol dl w) y) (hB : Below W0.heap.size W0 w) :
    rsR q g n1 c1 i x pc en p ol dl oA dA G W0 (upd L 16 true) (upd v 16 undef) (w.setCells g (i * 20) (rvC y)) := by
  refine ⟨fun y hy hpy => ?_, rsD_step h.dp (fun _ => ⟨d14, d15⟩) (fun e => by cases e) (fun e => by cases e) (fun e => by cases e) (fun e => by cases e), fun hh => ?_, fun _ hh => ?_, fun _ => ⟨y, w, hl, hk, hB, rfl⟩⟩
  · have ny : y ≠ 16 := by rintro rfl; cases hpy
    rw [upd_ne _ _ ny]; rw [upd_ne _ _ ny] at hy; exact h.pl y hy hpy
  · have h9 : L 14 = false := hh
    rw [d14] at h9; cases h9
  · rw [upd_same] at hh; cases hh
end
theorem pk_row : ∃ d, Try.prog.underlying 26 = some d ∧ d.isRow = true := ⟨_, Try.underlying26, rfl⟩
theorem bk_range {w : World} {g : Nat} {t : TypeId} {l : List Value} (h : Bk w g t l.toArray) : w.rangeAt g 0 l := fun j u hu => by
  rw [Nat.zero_add, h.cell j]
  simpa using hu
theorem setRow_same {w : World} {g : Nat} {t : TypeId} {cs : Array Value} (h : Bk w g t cs) : w.setRow g cs = w := by
  have h' : w.heap[g]? = some (.cells cs t (0, 0)) := h
  have e : (w.setRow g cs).heap = w.heap := by
    refine Array.ext_getElem? fun i => ?_
    simp only [World.setRow]
    rw [Array.getElem?_modify]
    split
    · next e => subst e; rw [h']; rfl
    · rfl
  have e2 : w.setRow g cs = { w with heap := (w.setRow g cs).heap } := rfl
  rw [e2, e]
section
variable {ops : Array Oper} {rest : List Oper} {o : Oper} {a : Act} {w : World} {Q : Exit → Act → World → Prop}
/-- The zero packet is stored where it is: nothing changes. -/
theorem st_zero (hgd : o.guard = none) (p x : Operand) (ho : o.op = .store 26 p x) (hd : o.dst = none) {g : Nat} (hp : a.eval p = .pointer (some ⟨g, 0, none⟩)) (hy : a.eval x = .agg #[.int .i64 0, .int .i64 0, .bool false, .bool false, .int .i64 0, .int .i64 0, .int .i64 0, .int .u32 0, .int .u32 0, .slice none 0 0, .slice none 0 0]) (hb : Bk w g 26 #[.int .i64 0, .int .i64 0, .bool false, .bool false, .int .i64 0, .int .i64 0, .int .i64 0, .int .u32 0, .int .u32 0, .slice none 0 0, .slice none 0 0])
    (h : wpList Try.prog ops Q rest a w) : wpList Try.prog ops Q (o :: rest) a w := by
  refine wpList_store_rowTo hgd _ p x ho hd g #[.int .i64 0, .int .i64 0, .bool false, .bool false, .int .i64 0, .int .i64 0, .int .i64 0, .int .u32 0, .int .u32 0, .slice none 0 0, .slice none 0 0] hp hy 26 #[.int .i64 0, .int .i64 0, .bool false, .bool false, .int .i64 0, .int .i64 0, .int .i64 0, .int .u32 0, .int .u32 0, .slice none 0 0, .slice none 0 0] hb pk_size rfl (by kernel_rfl) ?_
  rw [setRow_same hb]
  exact h
end
/-- Behind the laying. -/
structure RaL (W : World) (gx q : Nat) (A : Option Addr) (G : Nat → Prop) (oA dA : Option Addr) (ol dl : List Int) (g n1 c1 i : Nat) (L1 : List RVm) (y : RVm) (G4 : Nat → Prop) (w4 : World) : Prop where
  st : RfS w4 q G4 (some ⟨g, 0, none⟩) n1 c1 (L1.set i y)
  ok : RvOk w4 G4 y
  gg : ∀ b, G4 b → G b ∨ W.heap.size ≤ b ∨ (0 < ol.length ∧ blk oA = some b) ∨ (0 < dl.length ∧ blk dA = some b)
  ch : Chg (ownR q A) W w4
  zk : Bk w4 (gx + 1) 26 #[.int .i64 0, .int .i64 0, .bool false, .bool false, .int .i64 0, .int .i64 0, .int .i64 0, .int .u32 0, .int .u32 0, .slice none 0 0, .slice none 0 0]
  gz : g ≠ gx + 1 ∧ q ≠ gx + 1
theorem RaL.mk_ {W W0 w1 : World} {gx q : Nat} {pp : PkV} {oV dV : Value} {A : Option Addr} {G : Nat → Prop} {M : List RV} {dn : Nat} {now : Int} {oA dA : Option Addr} {ol dl : List Int} {g n1 c1 i : Nat} {L1 : List RVm} {x y : RVm}
    (h : RaM W gx q pp oV dV A G M dn now (some ⟨g, 0, none⟩) n1 c1 i L1 x W0) (hA : ∀ b, ownR q A b → b < gx) (hz : gx + 1 < W.heap.size) (hi : i < n1) (hr : RvOk w1 (layG G W0 oA dA ol dl w1) y) (hB : Below W0.heap.size W0 w1)
    (hno : ∀ b, (0 < ol.length ∧ blk oA = some b) ∨ (0 < dl.length ∧ blk dA = some b) → b < gx ∧ ¬ ownR q A b) :
    RaL W gx q A G oA dA ol dl g n1 c1 i L1 y (fun b => G b ∨ layG G W0 oA dA ol dl w1 b) (w1.setCells g (i * 20) (rvC y)) ∧ w1.there g (i * 20) 20 := by
  have hWs := h.ch.size
  have hgl : g < W0.heap.size := (h.st.st.2.1.lt g rfl).2
  have hql : q < gx := hA q (.inl rfl)
  have hgo : blk A = some g ∨ W.heap.size ≤ g := h.ow g rfl
  have hgz : g ≠ gx + 1 := fun e => by
    rcases hgo with k | k
    · have := hA g (.inr k); omega
    · omega
  obtain ⟨q1, q2, q3⟩ := h.st.put hB hi hr (fun b hb => by
    rcases hb with hb | ⟨hb, hb2⟩ | hb | hb
    · exact ⟨fun e => h.st.nq (e ▸ hb), fun e => h.st.na g rfl (e ▸ hb), Nat.lt_of_lt_of_le (h.st.lt b hb) hB.size⟩
    · exact ⟨by omega, by omega, hb2⟩
    · obtain ⟨k1, k2⟩ := hno b (.inl hb)
      have := hB.size
      refine ⟨fun e => k2 (.inl e), fun e => ?_, by omega⟩
      rcases hgo with k | k
      · exact k2 (.inr (e ▸ k))
      · omega
    · obtain ⟨k1, k2⟩ := hno b (.inr hb)
      have := hB.size
      refine ⟨fun e => k2 (.inl e), fun e => ?_, by omega⟩
      rcases hgo with k | k
      · exact k2 (.inr (e ▸ k))
      · omega)
  have hC1 : Chg (ownR q A) W w1 := h.ch.trans (Chg.of_below hB) (fun b e => .inr (by omega))
  refine ⟨⟨q1, q1.ok y ?_, fun b hb => ?_, hC1.trans q3 (fun b e => ?_), (h.zk.below hB h.zk.lt).chg q3 (fun e => hgz e.symm), hgz, by omega⟩, q2⟩
  · have hl := h.st.st.2.1.len
    exact List.mem_of_getElem? (List.getElem?_set_self (by omega))
  · rcases hb with hb | hb | ⟨hb, _⟩ | hb
    · exact .inl hb
    · exact .inl hb
    · exact .inr (.inl (by omega))
    · exact .inr (.inr hb)
  · have e2 : b = g := e
    rw [e2]
    exact hgo.imp .inr (fun k => k)
end Go.Proofs.Ytcjkhonapafndaa
namespace Go.Proofs.Ytcjkhonapafndaa
open Go.RowKit
section
variable {o : Oper} {f : Act} {w : World} {K : Act → World → Prop} {Q : Exit → Act → World → Prop}
theorem ev_tmp {f : Act} {t : Nat} {v : Value} (h : f.eval (.tmp t) = v) : f.tmps[t]?.getD undef = v := by simpa [Act.eval] using h
theorem s_mv (x : Operand) (ho : o.op = .move x) {v : Value} (hv : f.eval x = v) (h : K (f.put o.dst v) w) : o.wp Try.prog f w K Q := by
  subst hv
  unfold Oper.wp
  simp only [execOp, ho]
  exact h
theorem s_as (x : Operand) (ho : o.op = .assign x) {v : Value} (hv : f.eval x = v) (h : K (f.put o.dst v) w) : o.wp Try.prog f w K Q := by
  subst hv
  unfold Oper.wp
  simp only [execOp, ho]
  exact h
theorem s_nil (t : Nat) (ho : o.op = .nilCheck (.tmp t)) {p : Addr} (hp : f.eval (.tmp t) = .pointer (some p)) (h : K (f.put o.dst (.pointer (some p))) w) : o.wp Try.prog f w K Q := by
  have g := ev_tmp hp
  unfold Oper.wp
  simp only [execOp, ho]
  go_simp
  exact h
theorem s_fa_p0 (t : Nat) (ho : o.op = .fieldAddr 26 (.tmp t) 0) {g : Nat} (hp : f.eval (.tmp t) = .pointer (some ⟨g, 0, none⟩)) (h : K (f.put o.dst (.pointer (some ⟨g, 0, none⟩))) w) : o.wp Try.prog f w K Q := by
  have g9 := ev_tmp hp
  unfold Oper.wp
  simp only [execOp, ho]
  go_simp
  exact h
theorem s_fa_p1 (t : Nat) (ho : o.op = .fieldAddr 26 (.tmp t) 1) {g : Nat} (hp : f.eval (.tmp t) = .pointer (some ⟨g, 0, none⟩)) (h : K (f.put o.dst (.pointer (some ⟨g, 1, none⟩))) w) : o.wp Try.prog f w K Q := by
  have g9 := ev_tmp hp
  unfold Oper.wp
  simp only [execOp, ho]
  go_simp
  exact h
theorem s_fa_p2 (t : Nat) (ho : o.op = .fieldAddr 26 (.tmp t) 2) {g : Nat} (hp : f.eval (.tmp t) = .pointer (some ⟨g, 0, none⟩)) (h : K (f.put o.dst (.pointer (some ⟨g, 2, none⟩))) w) : o.wp Try.prog f w K Q := by
  have g9 := ev_tmp hp
  unfold Oper.wp
  simp only [execOp, ho]
  go_simp
  exact h
theorem s_fa_p5 (t : Nat) (ho : o.op = .fieldAddr 26 (.tmp t) 5) {g : Nat} (hp : f.eval (.tmp t) = .pointer (some ⟨g, 0, none⟩)) (h : K (f.put o.dst (.pointer (some ⟨g, 5, none⟩))) w) : o.wp Try.prog f w K Q := by
  have g9 := ev_tmp hp
  unfold Oper.wp
  simp only [execOp, ho]
  go_simp
  exact h
theorem s_fa_p6 (t : Nat) (ho : o.op = .fieldAddr 26 (.tmp t) 6) {g : Nat} (hp : f.eval (.tmp t) = .pointer (some ⟨g, 0, none⟩)) (h : K (f.put o.dst (.pointer (some ⟨g, 6, none⟩))) w) : o.wp Try.prog f w K Q := by
  have g9 := ev_tmp hp
  unfold Oper.wp
  simp only [execOp, ho]
  go_simp
  exact h
theorem s_fa_p7 (t : Nat) (ho : o.op = .fieldAddr 26 (.tmp t) 7) {g : Nat} (hp : f.eval (.tmp t) = .pointer (some ⟨g, 0, none⟩)) (h : K (f.put o.dst (.pointer (some ⟨g, 7, none⟩))) w) : o.wp Try.prog f w K Q := by
  have g9 := ev_tmp hp
  unfold Oper.wp
  simp only [execOp, ho]
  go_simp
  exact h
theorem s_fa_p8 (t : Nat) (ho : o.op = .fieldAddr 26 (.tmp t) 8) {g : Nat} (hp : f.eval (.tmp t) = .pointer (some ⟨g, 0, none⟩)) (h : K (f.put o.dst (.pointer (some ⟨g, 8, none⟩))) w) : o.wp Try.prog f w K Q := by
  have g9 := ev_tmp hp
  unfold Oper.wp
  simp only [execOp, ho]
  go_simp
  exact h
theorem s_fa_p9 (t : Nat) (ho : o.op = .fieldAddr 26 (.tmp t) 9) {g : Nat} (hp : f.eval (.tmp t) = .pointer (some ⟨g, 0, none⟩)) (h : K (f.put o.dst (.pointer (some ⟨g, 9, none⟩))) w) : o.wp Try.prog f w K Q := by
  have g9 := ev_tmp hp
  unfold Oper.wp
  simp only [execOp, ho]
  go_simp
  exact h
theorem s_fa_w0 (t : Nat) (ho : o.op = .fieldAddr 94 (.tmp t) 0) {g : Nat} (hp : f.eval (.tmp t) = .pointer (some ⟨g, 0, none⟩)) (h : K (f.put o.dst (.pointer (some ⟨g, 0, none⟩))) w) : o.wp Try.prog f w K Q := by
  have g9 := ev_tmp hp
  unfold Oper.wp
  simp only [execOp, ho]
  go_simp
  exact h
theorem s_fa_w1 (t : Nat) (ho : o.op = .fieldAddr 94 (.tmp t) 1) {g : Nat} (hp : f.eval (.tmp t) = .pointer (some ⟨g, 0, none⟩)) (h : K (f.put o.dst (.pointer (some ⟨g, 1, none⟩))) w) : o.wp Try.prog f w K Q := by
  have g9 := ev_tmp hp
  unfold Oper.wp
  simp only [execOp, ho]
  go_simp
  exact h
theorem s_fa_w2 (t : Nat) (ho : o.op = .fieldAddr 94 (.tmp t) 2) {g : Nat} (hp : f.eval (.tmp t) = .pointer (some ⟨g, 0, none⟩)) (h : K (f.put o.dst (.pointer (some ⟨g, 2, none⟩))) w) : o.wp Try.prog f w K Q := by
  have g9 := ev_tmp hp
  unfold Oper.wp
  simp only [execOp, ho]
  go_simp
  exact h
theorem s_fa_w3 (t : Nat) (ho : o.op = .fieldAddr 94 (.tmp t) 3) {g : Nat} (hp : f.eval (.tmp t) = .pointer (some ⟨g, 0, none⟩)) (h : K (f.put o.dst (.pointer (some ⟨g, 3, none⟩))) w) : o.wp Try.prog f w K Q := by
  have g9 := ev_tmp hp
  unfold Oper.wp
  simp only [execOp, ho]
  go_simp
  exact h
theorem s_fa_w5 (t : Nat) (ho : o.op = .fieldAddr 94 (.tmp t) 5) {g : Nat} (hp : f.eval (.tmp t) = .pointer (some ⟨g, 0, none⟩)) (h : K (f.put o.dst (.pointer (some ⟨g, 5, none⟩))) w) : o.wp Try.prog f w K Q := by
  have g9 := ev_tmp hp
  unfold Oper.wp
  simp only [execOp, ho]
  go_simp
  exact h
theorem s_fa_w7 (t : Nat) (ho : o.op = .fieldAddr 94 (.tmp t) 7) {g : Nat} (hp : f.eval (.tmp t) = .pointer (some ⟨g, 0, none⟩)) (h : K (f.put o.dst (.pointer (some ⟨g, 7, none⟩))) w) : o.wp Try.prog f w K Q := by
  have g9 := ev_tmp hp
  unfold Oper.wp
  simp only [execOp, ho]
  go_simp
  exact h
theorem s_fa_s0 (t : Nat) (ho : o.op = .fieldAddr 60 (.tmp t) 0) {g : Nat} (hp : f.eval (.tmp t) = .pointer (some ⟨g, 0, none⟩)) (h : K (f.put o.dst (.pointer (some ⟨g, 0, none⟩))) w) : o.wp Try.prog f w K Q := by
  have g9 := ev_tmp hp
  unfold Oper.wp
  simp only [execOp, ho]
  go_simp
  exact h
theorem s_ld_i (t : Nat) (ho : o.op = .load 3 (.tmp t)) {b i : Nat} (hp : f.eval (.tmp t) = .pointer (some ⟨b, i, none⟩)) {n : Int} (hc : w.cell? ⟨b, i, none⟩ = some (.int .i64 n)) (h : K (f.put o.dst (.int .i64 n)) w) : o.wp Try.prog f w K Q := by
  have g9 := ev_tmp hp
  unfold Oper.wp
  simp only [execOp, ho]
  go_simp
  exact h
theorem s_ld_b (t : Nat) (ho : o.op = .load 4 (.tmp t)) {b i : Nat} (hp : f.eval (.tmp t) = .pointer (some ⟨b, i, none⟩)) {n : Bool} (hc : w.cell? ⟨b, i, none⟩ = some (.bool n)) (h : K (f.put o.dst (.bool n)) w) : o.wp Try.prog f w K Q := by
  have g9 := ev_tmp hp
  unfold Oper.wp
  simp only [execOp, ho]
  go_simp
  exact h
theorem s_ld_u (t : Nat) (ho : o.op = .load 23 (.tmp t)) {b i : Nat} (hp : f.eval (.tmp t) = .pointer (some ⟨b, i, none⟩)) {n : Int} (hc : w.cell? ⟨b, i, none⟩ = some (.int .u32 n)) (h : K (f.put o.dst (.int .u32 n)) w) : o.wp Try.prog f w K Q := by
  have g9 := ev_tmp hp
  unfold Oper.wp
  simp only [execOp, ho]
  go_simp
  exact h
theorem s_ld_y (t : Nat) (ho : o.op = .load 24 (.tmp t)) {b i : Nat} (hp : f.eval (.tmp t) = .pointer (some ⟨b, i, none⟩)) {A : Option Addr} {n c : Nat} (hc : w.cell? ⟨b, i, none⟩ = some (.slice A n c)) (h : K (f.put o.dst (.slice A n c)) w) : o.wp Try.prog f w K Q := by
  have g9 := ev_tmp hp
  unfold Oper.wp
  simp only [execOp, ho]
  go_simp
  exact h
theorem s_ld_r (t : Nat) (ho : o.op = .load 58 (.tmp t)) {b i : Nat} (hp : f.eval (.tmp t) = .pointer (some ⟨b, i, none⟩)) {A : Option Addr} {n c : Nat} (hc : w.cell? ⟨b, i, none⟩ = some (.slice A n c)) (h : K (f.put o.dst (.slice A n c)) w) : o.wp Try.prog f w K Q := by
  have g9 := ev_tmp hp
  unfold Oper.wp
  simp only [execOp, ho]
  go_simp
  exact h
theorem s_st_r (t u : Nat) (ho : o.op = .store 58 (.tmp t) (.tmp u)) {g : Nat} {A B : Option Addr} {n c m e : Nat} (hp : f.eval (.tmp t) = .pointer (some ⟨g, 0, none⟩)) (hv : f.eval (.tmp u) = .slice A n c) (hc : w.cell? ⟨g, 0, none⟩ = some (.slice B m e)) (hz : w.frozen? ⟨g, 0, none⟩ = false) (h : K (f.put o.dst undef) (w.setCell ⟨g, 0, none⟩ (.slice A n c))) : o.wp Try.prog f w K Q := by
  have g9 := ev_tmp hp
  have g8 := ev_tmp hv
  unfold Oper.wp
  simp only [execOp, ho]
  go_simp
  exact h
theorem s_bl_w (ho : o.op = .build 94 #[(0, .tmp 119), (1, .tmp 121), (2, .tmp 123), (3, .tmp 125), (4, .tmp 126), (7, .const (.int .i64 (-1)))]) {k : K4} {now : Int} (e1 : f.eval (.tmp 119) = .int .u32 k.1) (e2 : f.eval (.tmp 121) = .int .u32 k.2.1) (e3 : f.eval (.tmp 123) = .int .i64 k.2.2.1) (e4 : f.eval (.tmp 125) = .int .i64 k.2.2.2) (e5 : f.eval (.tmp 126) = .int .i64 now)
    (h : K (f.put o.dst (.agg (rvC (newM k now)).toArray)) w) : o.wp Try.prog f w K Q := by
  have g1 := ev_tmp e1
  have g2 := ev_tmp e2
  have g3 := ev_tmp e3
  have g4 := ev_tmp e4
  have g5 := ev_tmp e5
  unfold Oper.wp
  simp only [execOp, ho]
  go_simp
  exact h
theorem s_bl_p (ho : o.op = .build 26 #[(0, .tmp 192), (1, .tmp 194), (2, .tmp 196), (5, .tmp 198), (6, .tmp 200), (7, .tmp 202), (8, .tmp 204), (9, .tmp 206), (10, .tmp 211)]) {a0 a1 a5 a6 a7 a8 : Int} {a2 : Bool} {A B : Option Addr} {n c m e : Nat}
    (e1 : f.eval (.tmp 192) = .int .i64 a0) (e2 : f.eval (.tmp 194) = .int .i64 a1) (e3 : f.eval (.tmp 196) = .bool a2) (e4 : f.eval (.tmp 198) = .int .i64 a5) (e5 : f.eval (.tmp 200) = .int .i64 a6) (e6 : f.eval (.tmp 202) = .int .u32 a7) (e7 : f.eval (.tmp 204) = .int .u32 a8) (e8 : f.eval (.tmp 206) = .slice A n c) (e9 : f.eval (.tmp 211) = .slice B m e)
    (h : K (f.put o.dst (.agg #[.int .i64 a0, .int .i64 a1, .bool a2, .bool false, .int .i64 0, .int .i64 a5, .int .i64 a6, .int .u32 a7, .int .u32 a8, .slice A n c, .slice B m e])) w) : o.wp Try.prog f w K Q := by
  have g1 := ev_tmp e1
  have g2 := ev_tmp e2
  have g3 := ev_tmp e3
  have g4 := ev_tmp e4
  have g5 := ev_tmp e5
  have g6 := ev_tmp e6
  have g7 := ev_tmp e7
  have g8 := ev_tmp e8
  have g9 := ev_tmp e9
  unfold Oper.wp
  simp only [execOp, ho]
  go_simp
  exact h
theorem s_ix (t u : Nat) (ho : o.op = .indexAddr 58 (.tmp t) (.tmp u)) {g n c i : Nat} (hp : f.eval (.tmp t) = .slice (some ⟨g, 0, none⟩) n c) (hi : f.eval (.tmp u) = .int .i64 (i : Int)) (hb : i < n) (hn : n ≤ 1000) (h : K (f.put o.dst (.pointer (some ⟨g, i * 20, none⟩))) w) : o.wp Try.prog f w K Q := by
  have g9 := ev_tmp hp
  have g8 := ev_tmp hi
  have hib : (0 : Int) ≤ (i : Int) ∧ (i : Int) < (n : Int) := by omega
  unfold Oper.wp
  simp only [execOp, ho]
  go_simp
  exact h
theorem s_sl (t u : Nat) (ho : o.op = .slice 24 (.tmp t) none (some (.tmp u)) none) {A : Option Addr} {n c k : Nat} (hp : f.eval (.tmp t) = .slice A n c) (hi : f.eval (.tmp u) = .int .i64 (k : Int)) (hb : (k : Int) ≤ (c : Int)) (hk : (k : Int) ≤ 1000000) (h : K (f.put o.dst (.slice A k c)) w) : o.wp Try.prog f w K Q := by
  have g9 := ev_tmp hp
  have g8 := ev_tmp hi
  unfold Oper.wp
  simp only [execOp, ho]
  go_simp
  exact h
end
end Go.Proofs.Ytcjkhonapafndaa
namespace Go.Proofs.Ytcjkhonapafndaa
open Go.RowKit
theorem outV_row (y : RVm) (hz : y.hf = false → y.f = zeroP ∧ y.ol = []) (oV dV : Value) : pkC (outV y.rv).1 oV dV = #[.int .i64 y.f.svc, .int .i64 y.k.2.2.2, .bool y.f.whole, .bool false, .int .i64 0, .int .i64 y.f.life, .int .i64 y.k.2.2.1, .int .u32 y.k.1, .int .u32 y.k.2.1, oV, dV] ∧ (outV y.rv).2.1 = y.ol ∧ (outV y.rv).2.2 = y.data.take y.fin.toNat := by
  unfold outV RVm.rv
  cases e : y.hf with
  | true => exact ⟨rfl, rfl, rfl⟩
  | false =>
    obtain ⟨h1, h2⟩ := hz e
    rw [h1, h2]
    exact ⟨rfl, rfl, rfl⟩
section
variable {ops : Array Oper} {rest : List Oper} {o : Oper} {a : Act} {w : World} {Q : Exit → Act → World → Prop}
/-- A whole's first piece is loaded. -/
theorem ld_first (hgd : o.guard = none) (x : Operand) (ho : o.op = .load 26 x) {bx : Nat} (hx : a.eval x = .pointer (some ⟨bx, 8, none⟩)) (y : RVm) (hb : Bk w bx 94 (rvC y).toArray)
    (h : wpList Try.prog ops Q rest (a.put o.dst (.agg ([.int .i64 y.f.svc, .int .i64 y.f.id, .bool y.f.whole, .bool y.f.more, .int .i64 y.f.off, .int .i64 y.f.life, .int .i64 y.f.proto, .int .u32 y.f.src, .int .u32 y.f.dst, .slice y.oA y.on y.oc, .slice y.fA y.fn y.fc] : List Value).toArray)) w) : wpList Try.prog ops Q (o :: rest) a w := by
  obtain ⟨d, hu, hd⟩ := pk_row
  refine wpList_load_mid hgd _ x ho bx 8 hx [.int .i64 y.f.svc, .int .i64 y.f.id, .bool y.f.whole, .bool y.f.more, .int .i64 y.f.off, .int .i64 y.f.life, .int .i64 y.f.proto, .int .u32 y.f.src, .int .u32 y.f.dst, .slice y.oA y.on y.oc, .slice y.fA y.fn y.fc] d (fun j u hu => ?_) hu hd pk_size h
  have e : ([.int .i64 y.f.svc, .int .i64 y.f.id, .bool y.f.whole, .bool y.f.more, .int .i64 y.f.off, .int .i64 y.f.life, .int .i64 y.f.proto, .int .u32 y.f.src, .int .u32 y.f.dst, .slice y.oA y.on y.oc, .slice y.fA y.fn y.fc] : List Value) = ((rvC y).drop 8).take 11 := rfl
  rw [e, List.getElem?_take] at hu
  split at hu
  · rw [List.getElem?_drop] at hu
    rw [hb.cell (8 + j)]
    simpa using hu
  · cases hu
/-- A packet is stored into the block that was made last. -/
theorem st_pk_new (hgd : o.guard = none) (p x : Operand) (ho : o.op = .store 26 p x) (hd : o.dst = none) {old : Array Value} (hold : old.size = 11) (hp : a.eval p = .pointer (some ⟨w.heap.size, 0, none⟩)) (cs : Array Value) (hcs : cs.size = 11) (h1 : cs.all (·.oneCell') = true) (hy : a.eval x = .agg cs)
    (h : wpList Try.prog ops Q rest a (w.alloc (.cells cs 26))) : wpList Try.prog ops Q (o :: rest) a (w.alloc (.cells old 26)) := by
  refine wpList_store_rowTo hgd _ p x ho hd w.heap.size cs hp hy 26 old (heap_alloc_new w _) (by rw [hcs]; exact pk_size) (by rw [hold, hcs]) h1 ?_
  rw [World.setRow_alloc_new]
  exact h
end
/-- What each operation of region 34 yields. -/
def reC (gy bx k : Nat) (y : RVm) : Nat → Value
  | 0 => .pointer (some ⟨gy, 0, none⟩)
  | 1 => .int .i64 y.f.svc
  | 2 => .pointer (some ⟨bx, 3, none⟩)
  | 3 => .int .i64 y.k.2.2.2
  | 4 => .pointer (some ⟨gy, 2, none⟩)
  | 5 => .bool y.f.whole
  | 6 => .pointer (some ⟨gy, 5, none⟩)
  | 7 => .int .i64 y.f.life
  | 8 => .pointer (some ⟨bx, 2, none⟩)
  | 9 => .int .i64 y.k.2.2.1
  | 10 => .pointer (some ⟨bx, 0, none⟩)
  | 11 => .int .u32 y.k.1
  | 12 => .pointer (some ⟨bx, 1, none⟩)
  | 13 => .int .u32 y.k.2.1
  | 14 => .pointer (some ⟨gy, 9, none⟩)
  | 15 => .slice y.oA y.on y.oc
  | 16 => .pointer (some ⟨bx, 5, none⟩)
  | 17 => .slice y.dA y.dn y.dc
  | 18 => .pointer (some ⟨bx, 7, none⟩)
  | 19 => .int .i64 (k : Int)
  | 20 => .slice y.dA k y.dc
  | 21 => .agg #[.int .i64 y.f.svc, .int .i64 y.k.2.2.2, .bool y.f.whole, .bool false, .int .i64 0, .int .i64 y.f.life, .int .i64 y.k.2.2.1, .int .u32 y.k.1, .int .u32 y.k.2.1, .slice y.oA y.on y.oc, .slice y.dA k y.dc]
  | 23 => .bool true
  | 24 => .int .i64 0
  | _ => undef
def rePlain (j : Nat) : Bool := !(j == 22)
structure reR (gx gy bx k : Nat) (y : RVm) (W8 : World) (L : Nat → Bool) (v : Nat → Value) (w : World) : Prop where
  pl : ∀ j, L j = true → rePlain j = true → v j = reC gy bx k y j
  hb : Bk w bx 94 (rvC y).toArray
  hg : Bk w gy 26 ([.int .i64 y.f.svc, .int .i64 y.f.id, .bool y.f.whole, .bool y.f.more, .int .i64 y.f.off, .int .i64 y.f.life, .int .i64 y.f.proto, .int .u32 y.f.src, .int .u32 y.f.dst, .slice y.oA y.on y.oc, .slice y.fA y.fn y.fc] : List Value).toArray
  z0 : L 22 = false → Bk w (gx + 1) 26 #[.int .i64 0, .int .i64 0, .bool false, .bool false, .int .i64 0, .int .i64 0, .int .i64 0, .int .u32 0, .int .u32 0, .slice none 0 0, .slice none 0 0]
  z1 : L 22 = true → Bk w (gx + 1) 26 #[.int .i64 y.f.svc, .int .i64 y.k.2.2.2, .bool y.f.whole, .bool false, .int .i64 0, .int .i64 y.f.life, .int .i64 y.k.2.2.1, .int .u32 y.k.1, .int .u32 y.k.2.1, .slice y.oA y.on y.oc, .slice y.dA k y.dc]
  ch : Chg (fun b => b = gx + 1) W8 w
  ne : bx ≠ gx + 1 ∧ gy ≠ gx + 1
section
variable {gx gy bx k : Nat} {y : RVm} {W8 : World} {L : Nat → Bool} {v : Nat → Value} {w : World}
theorem reR_step (h : reR gx gy bx k y W8 L v w) {z : Nat} {u : Value} (hp : rePlain z = true) (hu : u = reC gy bx k y z) : reR gx gy bx k y W8 (upd L z true) (upd v z u) w := by
  have n22 : 22 ≠ z := by rintro rfl; cases hp
  refine ⟨fun j hj hpj => ?_, h.hb, h.hg, ?_, ?_, h.ch, h.ne⟩
  · by_cases e : j = z
    · subst e; rw [upd_same]; exact hu
    · rw [upd_ne _ _ e]; rw [upd_ne _ _ e] at hj; exact h.pl j hj hpj
  · rw [upd_ne _ _ n22]; exact h.z0
  · rw [upd_ne _ _ n22]; exact h.z1
theorem reR_st (h : reR gx gy bx k y W8 L v w) (hL : L 22 = false) : reR gx gy bx k y W8 (upd L 22 true) (upd v 22 undef) (w.setRow (gx + 1) #[.int .i64 y.f.svc, .int .i64 y.k.2.2.2, .bool y.f.whole, .bool false, .int .i64 0, .int .i64 y.f.life, .int .i64 y.k.2.2.1, .int .u32 y.k.1, .int .u32 y.k.2.1, .slice y.oA y.on y.oc, .slice y.dA k y.dc]) := by
  obtain ⟨h1, h2⟩ := setRow_bk (c := #[.int .i64 y.f.svc, .int .i64 y.k.2.2.2, .bool y.f.whole, .bool false, .int .i64 0, .int .i64 y.f.life, .int .i64 y.k.2.2.1, .int .u32 y.k.1, .int .u32 y.k.2.1, .slice y.oA y.on y.oc, .slice y.dA k y.dc]) (h.z0 hL)
  refine ⟨fun j hj hpj => ?_, h.hb.chg h2 h.ne.1, h.hg.chg h2 h.ne.2, fun hh => ?_, fun _ => h1, h.ch.trans h2 (fun b e => .inl e), h.ne⟩
  · have ny : j ≠ 22 := by rintro rfl; cases hpj
    rw [upd_ne _ _ ny]; rw [upd_ne _ _ ny] at hj; exact h.pl j hj hpj
  · rw [upd_same] at hh; cases hh
end
end Go.Proofs.Ytcjkhonapafndaa
