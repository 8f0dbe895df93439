/- Proved: FragBack's state in memory: the Store, the pieces, what has been told. Conditions: as each law says. -/
import Derived.Test.YtcjkhonapafndaaSto
import Derived.Test.YtcjkhonapafndaaBkl
import Derived.Test.YtcjkhonapafndaaIn
set_option linter.unusedVariables false
set_option linter.unusedSimpArgs false
namespace Go.Proofs.Ytcjkhonapafndaa
open Go.RowKit
/-! ### numbers that came in -/
def int64s (K : List Int) : List Value := K.map (Value.int .i64)
theorem int64s_get (K : List Int) (j : Nat) (h : j < K.length) : (int64s K)[j]? = some (.int .i64 (K[j]?.getD 0)) := by simp [int64s, h]
def RowI (w : World) (A : Option Addr) (n c : Nat) (l : List Int) : Prop := Rw w w.heap.size A (int64s l) ∧ l.length = n ∧ n ≤ c ∧ ∀ x ∈ l, okI x
theorem RowI.below {w w' : World} {A : Option Addr} {n c : Nat} {l : List Int} (h : RowI w A n c l) (hb : Below w.heap.size w w') : RowI w' A n c l := ⟨Rw.more (Rw.below h.1 hb) hb.size, h.2⟩
theorem IsRow.ri {w : World} {a : Option Addr} {len cap : Nat} {zs : List Int} (h : IsRow .i64 w a len cap zs) : ∃ l, RowI w a len cap l := by
  rcases h with ⟨rfl, rfl, rfl, rfl⟩ | ⟨x, rfl, hl, _, hz, hcell, hwf⟩
  · exact ⟨[], Rw.nil _ _ _, rfl, Nat.le_refl _, fun x hx => by cases hx⟩
  · refine ⟨zs.take len, fun hn => ?_, by rw [List.length_take]; omega, hl, fun n hn => bounds_i64 (hwf n (List.mem_of_mem_take hn))⟩
    have hlen : (int64s (zs.take len)).length = len := by rw [int64s, List.length_map, List.length_take]; omega
    rw [hlen] at hn
    have h0 := hcell 0 (by omega)
    obtain ⟨b, off, spot⟩ := x
    have hs : spot = none := by simpa [Addr.add] using World.cell?_spot h0
    subst hs
    refine ⟨b, off, rfl, ?_, fun j u hu => ?_⟩
    · have := World.block_lt_of_cell? w _ h0
      rwa [add_eq] at this
    · have hj : j < len := by
        rcases Nat.lt_or_ge j len with h1 | h1
        · exact h1
        · rw [List.getElem?_eq_none (by rw [hlen]; exact h1)] at hu; cases hu
      rw [int64s_get _ _ (by rw [List.length_take]; omega)] at hu
      injection hu with hu
      have h1 := hcell j (by omega)
      rw [add_eq] at h1
      rw [h1, ← hu, List.getElem?_take, if_pos (by omega)]
      simp
theorem RowI.at_ {w : World} {A : Option Addr} {n c : Nat} {l : List Int} (h : RowI w A n c l) {k : Nat} (hk : k < n) : ∃ b off, A = some ⟨b, off, none⟩ ∧ b < w.heap.size ∧ w.cell? ⟨b, off + k, none⟩ = some (.int .i64 (l[k]?.getD 0)) ∧ okI (l[k]?.getD 0) := by
  have hkl : k < l.length := by rw [h.2.1]; exact hk
  obtain ⟨b, off, e, hb, hc⟩ := h.1.at_ (int64s_get l k hkl)
  exact ⟨b, off, e, hb, hc, by rw [List.getElem?_eq_getElem hkl]; exact h.2.2.2 _ (List.getElem_mem hkl)⟩
theorem Ow.cell {E : TypeId} {w : World} {base : Nat} {A : Option Addr} {n c : Nat} {xs : List Value} (h : Ow E w base A n c xs) {k : Nat} {u : Value} (hk : xs[k]? = some u) : ∃ g, A = some ⟨g, 0, none⟩ ∧ w.cell? ⟨g, k, none⟩ = some u ∧ w.frozen? ⟨g, k, none⟩ = false := by
  rcases h.cases_ with ⟨_, _, _, rfl⟩ | ⟨g, cur, rfl, _, hg, _, _, _, ht⟩
  · simp at hk
  · refine ⟨g, rfl, ?_, h.frozen rfl k⟩
    rw [cell_of_row w g k cur E (0, 0) hg]
    rw [← ht, List.getElem?_take] at hk
    split at hk
    · simpa using hk
    · cases hk
/-! ### a row of truth values -/
def bls (B : List Bool) : List Value := B.map .bool
theorem bls_len (B : List Bool) : (bls B).length = B.length := by simp [bls]
theorem bls_get {B : List Bool} {k : Nat} {b : Bool} (h : B[k]? = some b) : (bls B)[k]? = some (.bool b) := by simp [bls, h]
theorem bls_set (B : List Bool) (k : Nat) (b : Bool) : bls (B.set k b) = (bls B).set k (.bool b) := by simp [bls, List.map_set]
theorem info_bool : (Try.prog.info? 4).map (fun i => (i.zero, i.size, i.bytes)) = some (some (.bool false), 1, 1) := by kernel_rfl
section
variable {ops : Array Oper} {rest : List Oper} {o : Oper} {a : Act} {w : World} {Q : Exit → Act → World → Prop}
theorem ap_bool (hgd : o.guard = none) (s x : Operand)
    (ho : o.op = .call { callee := .builtin .append, args := #[s, x], argTypes := #[51, 51] })
    (base : Nat) {A : Option Addr} {n c : Nat} {B : List Bool} (hs : a.eval s = .slice A n c) (hown : Ow 4 w base A n c (bls B))
    (hx : a.eval x = .slice (some ⟨w.heap.size, 0, none⟩) 1 1) (hn : n ≤ 100000) (hb : base ≤ w.heap.size)
    (h : ∀ A' c' w', Ow 4 w' base A' (n + 1) c' (bls (B ++ [false])) → Below base w w' → wpList Try.prog ops Q rest (a.put o.dst (.slice A' (n + 1) c')) w') :
    wpList Try.prog ops Q (o :: rest) a (w.alloc (.cells #[.bool false] 4)) := by
  have hz : (w.alloc (.cells #[.bool false] 4)).heap.size = w.heap.size + 1 := World.size_alloc _ _
  have hrow := Ow.rw (ow_lit w 4 w.heap.size [.bool false] (Nat.le_refl _) (by decide))
  refine wpList_append_rw (P := Try.prog) (w := w.alloc (.cells #[.bool false] 4)) hgd s x 51 ho base 4 (.bool false) 1 Try.underlying51 info_bool rfl hs (Ow.alloc hown _) hx hrow rfl (fun u hu => by
    simp at hu; subst hu; rfl) (by unfold maxLen; omega) (by omega) (by omega) fun A' c' w' h1 h2 h3 => ?_
  have e : bls B ++ [.bool false] = bls (B ++ [false]) := by simp [bls]
  rw [e] at h1
  refine h A' c' w' h1 (((Below.refl _ w).alloc hb _).trans ((Below.refl base _).grown h2 (by omega) (fun k hk => ?_)))
  exact (Ow.lt hown k hk).1
end
/-! ### what is missing -/
def mis (B : List Bool) : Nat := B.count false
theorem mis_set {B : List Bool} {k : Nat} (h : B[k]? = some false) : mis (B.set k true) + 1 = mis B := by
  induction B generalizing k with
  | nil => simp at h
  | cons b t ih =>
    rcases k with _ | k
    · simp only [List.getElem?_cons_zero, Option.some.injEq] at h
      subst h
      simp [mis, List.set]
    · rw [List.getElem?_cons_succ] at h
      have := ih h
      unfold mis at this ⊢
      rw [List.set_cons_succ, List.count_cons, List.count_cons]
      omega
theorem set_same {B : List Bool} {k : Nat} (h : B[k]? = some true) : B.set k true = B := by
  apply List.ext_getElem?
  intro j
  by_cases e : k = j
  · subst e
    rw [List.getElem?_set_self (List.getElem?_eq_some_iff.1 h).1, h]
  · rw [List.getElem?_set_ne e]
theorem mis_zero {R : List Pc} {B : List Bool} (hB : B.length = R.length) : mis B = 0 ↔ allB R B := by
  unfold mis allB
  rw [List.count_eq_zero]
  constructor
  · intro h j hj
    have hj' := List.getElem?_eq_getElem (l := B) (i := j) (by omega)
    rw [hj']
    cases hb : B[j] with
    | true => rfl
    | false => exact absurd (hb ▸ List.getElem_mem _) h
  · intro h hm
    obtain ⟨j, hj⟩ := List.mem_iff_getElem?.1 hm
    have := h j (by have := (List.getElem?_eq_some_iff.1 hj).1; omega)
    rw [this] at hj; cases hj
theorem mis_rep (n : Nat) : mis (List.replicate n false) = n := by simp [mis]
/-! ### the law's state -/
/-- Behind some calls: W1 is the world ahead of the Store. -/
structure BkW (W1 : World) (p : PkV) (T : List Int) (Lp : List Pm) (A : Option Addr) (n c : Nat) (B Bm : List Bool) (L : List Rec) (F : Nat → Prop) (wr : World) : Prop where
  st : Sto wr W1.heap.size F L
  fp : ∀ b, F b → W1.heap.size ≤ b
  bl : BackL p T (Lp.map Pm.plain) B L
  ln : B.length = Lp.length
  nn : n = Lp.length
  ow : Ow 4 wr W1.heap.size A n c (bls Bm)
  no : ∀ b, blk A = some b → ¬ F b
  be : Below W1.heap.size W1 wr
def BkT (W1 : World) (p : PkV) (T : List Int) (Lp : List Pm) (m : Nat) (A : Option Addr) (n c : Nat) (i : Nat) (B : List Bool) (wr : World) : Prop :=
  (∃ L F, BkW W1 p T Lp A n c B B L F wr) ∧ 0 < mis B ∧ ∀ j : Nat, j + m < i → j < n → B[j]? = some true
def BkM (W1 : World) (p : PkV) (T : List Int) (Lp : List Pm) (m : Nat) (A : Option Addr) (n c : Nat) (i k : Nat) (B : List Bool) (wr : World) : Prop :=
  (∃ L F, BkW W1 p T Lp A n c B (B.set k true) L F wr) ∧ ∀ j : Nat, j + m < i + 1 → j < n → (B.set k true)[j]? = some true
section
variable {W1 wr : World} {p : PkV} {T : List Int} {Lp : List Pm} {m n c i k : Nat} {A : Option Addr} {B : List Bool}
theorem BkT.below (h : BkT W1 p T Lp m A n c i B wr) : Below W1.heap.size W1 wr := by
  obtain ⟨⟨L, F, h⟩, _⟩ := h
  exact h.be
theorem BkM.below (h : BkM W1 p T Lp m A n c i k B wr) : Below W1.heap.size W1 wr := by
  obtain ⟨⟨L, F, h⟩, _⟩ := h
  exact h.be
theorem BkT.start (hO : Ow 4 wr (W1.heap.size + 1) A n c (bls (List.replicate n false))) (hB : Below (W1.heap.size + 1) (W1.alloc (.cells #[.map none, .slice none 0 0] 46)) wr) (hn : n = Lp.length) (h0 : 0 < n) : BkT W1 p T Lp m A n c 0 (List.replicate n false) wr := by
  have hz : (W1.alloc (.cells #[.map none, .slice none 0 0] 46)).heap.size = W1.heap.size + 1 := World.size_alloc _ _
  refine ⟨⟨[], fun b => b = W1.heap.size, ⟨(sto_new _ _ (Bk.new W1 _ _)).below (by rw [hz]; exact hB), fun b hb => by omega, .inl ⟨rfl, fun j hj => ?_⟩, by rw [List.length_replicate]; exact hn, hn, Ow.mono hO (by omega), fun b hb e => by have := (Ow.lt hO b hb).1; omega, ((Below.refl _ _).alloc (Nat.le_refl _) _).trans (hB.mono (by omega))⟩⟩, by rw [mis_rep]; exact h0, fun j h => by omega⟩
  rw [List.getElem?_replicate] at hj
  split at hj <;> simp at hj
theorem BkT.mle (h : BkT W1 p T Lp m A n c i B wr) : mis B ≤ n := by
  obtain ⟨⟨L, F, h⟩, h2, h3⟩ := h
  have h4 : mis B ≤ B.length := List.count_le_length
  have := h.ln
  have := h.nn
  omega
theorem BkT.stop (h : BkT W1 p T Lp m A n c i B wr) (hi : i = m + n) : False := by
  obtain ⟨⟨L, F, h⟩, h2, h3⟩ := h
  have : mis B = 0 := (mis_zero (R := Lp.map Pm.plain) (by rw [List.length_map]; exact h.ln)).2 fun j hj => by
    rw [List.length_map] at hj
    have := h.nn
    exact h3 j (by omega) (by omega)
  omega
theorem BkT.at_ (h : BkT W1 p T Lp m A n c i B wr) (hk : k < n) : ∃ g b, A = some ⟨g, 0, none⟩ ∧ B[k]? = some b ∧ wr.cell? ⟨g, k, none⟩ = some (.bool b) ∧ wr.frozen? ⟨g, k, none⟩ = false := by
  obtain ⟨⟨L, F, h⟩, h2, h3⟩ := h
  have hkB : k < B.length := by have := h.ln; have := h.nn; omega
  have hb := List.getElem?_eq_getElem hkB
  obtain ⟨g, hA, hc, hf⟩ := Ow.cell h.ow (bls_get hb)
  exact ⟨g, B[k], hA, hb, hc, hf⟩
theorem BkT.keep (h : BkT W1 p T Lp m A n c i B wr) (hk : k < n) (hb : B[k]? = some true) (hik : m ≤ i → k = i - m) : BkM W1 p T Lp m A n c i k B wr := by
  obtain ⟨⟨L, F, h⟩, h2, h3⟩ := h
  refine ⟨⟨L, F, by rw [set_same hb]; exact h⟩, fun j h4 h5 => ?_⟩
  rw [set_same hb]
  rcases Nat.lt_or_ge (j + m) i with q | q
  · exact h3 j q h5
  · have : j = k := by have := hik (by omega); omega
    subst this
    exact hb
theorem BkT.mark (h : BkT W1 p T Lp m A n c i B wr) (hk : k < n) (hik : m ≤ i → k = i - m) {g : Nat} (hA : A = some ⟨g, 0, none⟩) : BkM W1 p T Lp m A n c i k B (wr.setCell ⟨g, k, none⟩ (.bool true)) := by
  obtain ⟨⟨L, F, h⟩, h2, h3⟩ := h
  have hkB : k < B.length := by have := h.ln; have := h.nn; omega
  subst hA
  have hC : Chg (fun b => b = g) wr (wr.setCell ⟨g, k, none⟩ (.bool true)) := (Chg.refl (fun b => b = g) _).setCell (p := ⟨g, k, none⟩) (.inl rfl) _
  refine ⟨⟨L, F, ⟨h.st.chg hC (fun b hb e => by subst e; exact h.no b rfl hb), h.fp, h.bl, h.ln, h.nn, ?_, h.no, ?_⟩⟩, fun j h4 h5 => ?_⟩
  · obtain ⟨g', e, hO⟩ := Ow.store h.ow hk (.bool true)
    injection e with e; injection e with e
    subst e
    rw [bls_set]; exact hO
  · exact h.be.trans (hC.below (fun b hb => by subst hb; exact (Ow.lt h.ow b rfl).1) (by have := h.be.size; omega))
  · by_cases e : k = j
    · subst e; rw [List.getElem?_set_self hkB]
    · rw [List.getElem?_set_ne e]
      rcases Nat.lt_or_ge (j + m) i with q | q
      · exact h3 j q h5
      · have := hik (by omega); omega
theorem BkT.alloc (h : BkT W1 p T Lp m A n c i B wr) (o : Obj) : BkT W1 p T Lp m A n c i B (wr.alloc o) := by
  obtain ⟨⟨L, F, h⟩, h2⟩ := h
  exact ⟨⟨L, F, ⟨h.st.alloc o, h.fp, h.bl, h.ln, h.nn, Ow.alloc h.ow o, h.no, h.be.alloc (h.be.size) o⟩⟩, h2⟩
/-- What Add of a piece brings about. -/
def BkAdd (W1 : World) (p : PkV) (T : List Int) (Lp : List Pm) (m : Nat) (A : Option Addr) (n c : Nat) (i k : Nat) (B : List Bool) (wr : World) (e : Ending) (w' : World) : Prop :=
  ∃ (q : PkV) (is : Bool) (A1 A2 : Option Addr) (n1 c1 n2 c2 : Nat), e = .returned (.tuple #[.agg (pkC q (.slice A1 n1 c1) (.slice A2 n2 c2)), .bool is, .int .i64 0]) ∧ Below W1.heap.size W1 w' ∧
    ((mis (B.set k true) = 0 ∧ is = true ∧ (q.id = p.id ∧ q.proto = p.proto ∧ q.src = p.src ∧ q.dst = p.dst ∧ q.more = false ∧ q.off = 0) ∧ RB w' w'.heap.size A2 T ∧ T.length = n2 ∧ n2 ≤ c2 ∧ ∃ F, Sto w' W1.heap.size F []) ∨
     (mis (B.set k true) ≠ 0 ∧ is = false ∧ BkT W1 p T Lp m A n c (i + 1) (B.set k true) w'))
theorem bk_add (h : BkM W1 p T Lp m A n c i k B wr) (hA : PcsAll p T (Lp.map Pm.plain)) (h2 : 2 ≤ Lp.length) {x : Pm} (hx : Lp[k]? = some x) (hol : x.ol.length ≤ 1000000) (hdl : x.dl.length ≤ 1000000) {base : Nat} (hP : PmsOk W1 base Lp) :
    Calls Try.prog 21 #[.pointer (some ⟨W1.heap.size, 0, none⟩), .agg (pkC x.p (.slice x.oA x.on x.oc) (.slice x.dA x.dn x.dc)), .int .i64 5] wr (BkAdd W1 p T Lp m A n c i k B wr) := by
  obtain ⟨⟨L, F, h⟩, h3⟩ := h
  have hk : (Lp.map Pm.plain)[k]? = some x.plain := by rw [List.getElem?_map, hx]; rfl
  have hpm := hP.1 x (List.mem_of_getElem? hx)
  have hg : Good x.p x.dl.length := hA.good hk (by rw [List.length_map]; exact h2)
  have hpa := hA.at_ k _ hk
  have hro := Rw.below (Rw.more (OB.rb hpm.1) (Nat.le_refl _)) h.be
  have hrd := Rw.below (Rw.more (OB.rb hpm.2.1) (Nat.le_refl _)) h.be
  have l1 := OB.length hpm.1
  have l2 := OB.length hpm.2.1
  have hbs := h.be.size
  refine (sto_add W1.heap.size F L x.p hpa.ok x.oA x.dA x.on x.oc x.dn x.dc W1.heap.size x.ol x.dl l1 (by omega) l2 (Ow.cap hpm.2.1) (by omega) 5 wr hro hrd hbs h.st (fun b hb => ?_)).mono ?_
  · have hb' : b < W1.heap.size := by
      rcases hb with hb | hb
      · exact (Ow.lt hpm.1 b hb.2).2
      · exact (Ow.lt hpm.2.1 b hb).2
    exact ⟨by omega, fun hf => by have := h.fp b hf; omega⟩
  · rintro e w' ⟨F', L', ⟨q, ol', dl'⟩, is, er, A1, A2, n1, c1, n2, c2, he, q1, q2, q3, q4, q5, q6⟩
    have hG := addR_good q6 hg
    have hBw : Below W1.heap.size W1 w' := h.be.trans (q5.below h.fp hbs)
    obtain ⟨rfl, r1, r2⟩ := back_step hA (by rw [List.length_map]; exact h2) (by rw [List.length_map]; exact h.ln) h.bl hk hol hG
    have hlen : (B.set k true).length = (Lp.map Pm.plain).length := by rw [List.length_set, List.length_map]; exact h.ln
    refine ⟨q, is, A1, A2, n1, c1, n2, c2, he, hBw, ?_⟩
    rcases Nat.decEq (mis (B.set k true)) 0 with hz | hz
    · right
      obtain ⟨r3, r4⟩ := r2 (fun hall => hz ((mis_zero hlen).2 hall))
      refine ⟨hz, r3, ⟨L', F', ⟨q1, fun b hb => ?_, r4, by rw [List.length_set]; exact h.ln, h.nn, ?_, fun b hb hf => ?_, hBw⟩⟩, Nat.pos_of_ne_zero hz, h3⟩
      · rcases q4 b hb with h4 | h4
        · exact h.fp b h4
        · omega
      · exact Ow.chg h.ow q5 (fun b hb => h.no b hb)
      · rcases q4 b hf with h4 | h4
        · exact h.no b hb h4
        · have := (Ow.lt h.ow b hb).2; omega
    · left
      obtain ⟨r3, rfl, r5, mo, a, r6⟩ := r1 ((mis_zero hlen).1 hz)
      have e1 : q = piece { piece p mo a with off := 0 } false 0 := r6
      have e2 : dl' = T := r5
      refine ⟨hz, r3, by subst e1; exact ⟨rfl, rfl, rfl, rfl, rfl, rfl⟩, by rw [← e2]; exact OB.rb q2.2.1, by rw [← e2]; exact OB.length q2.2.1, Ow.cap q2.2.1, F', q1⟩
end
end Go.Proofs.Ytcjkhonapafndaa
