/- Proved: how a wheel of timers lies in memory; when a key is due, where a tick's timers lie, how many there are, each by its walk. Conditions: the wheel lies in memory. -/
import Derived.Test.YtnnblakjaiccfaaTm
import Derived.Deep.RegionHeld3
import Derived.Deep.QuietTactic
import Derived.BigQuiet
import Derived.LoopTactic
import Derived.WalkMore
import Derived.Deep.LoopGhost
import Derived.WalkLawsBesides
import Derived.WalkSpells
import Derived.Maps.OwnRows
set_option linter.unusedVariables false
set_option linter.unusedSimpArgs false
namespace Go.Proofs.Ytnnblakjaiccfaa
open Go.RowKit

abbrev Mt := List (Int × Int)
/-- A slot: where its timers lie, and which. -/
structure Sl where
  A : Option Addr
  n : Nat
  c : Nat
  S : Mt
def slV (s : Sl) : Value := .slice s.A s.n s.c
def SlAt (w : World) (F : Nat → Prop) (s : Sl) : Prop := Tm 54 w 0 s.A s.n s.c s.S ∧ ∀ b, blk s.A = some b → F b
def mEnt (p : Int × Int) : Int × Value := (p.1, .int .i64 p.2)
def mkI (a : Int) : Value := .int .i64 a
def okI (a : Int) : Prop := -9223372036854775808 ≤ a ∧ a ≤ 9223372036854775807
theorem keyI : KeyIs Try.prog 3 mkI okI := ⟨Maps.int_keyed Try.underlying3, fun x hx => ⟨.int .i64 x, Maps.keyOf_int_mk Try.underlying3 (by obtain ⟨h0, h1⟩ := hx; simp only [Lit.wf, IntKind.min, IntKind.max, IntKind.signed, IntKind.bits, Bool.and_eq_true, decide_eq_true_eq]; exact ⟨by simp; omega, by simp; omega⟩)⟩, fun x y h => by injection h⟩
abbrev mapT := 25
theorem mapU : Try.prog.underlying mapT = some (.map 3 3) := Try.underlying25
theorem zeroI (w : World) : (zeroValue 3).run Try.prog w = .ok (.int .i64 0) w := by kernel_rfl
/-! ### the plain state -/
def getM (M : Mt) (k : Int) : Option Int := (M.find? fun t => decide (t.1 = k)).map (·.2)
def delM (M : Mt) (k : Int) : Mt := M.filter fun t => decide (t.1 ≠ k)
theorem getL_mEnt : ∀ (M : Mt) (k : Int), getL (M.map mEnt) k = (getM M k).map (Value.int .i64)
  | [], k => rfl
  | t :: r, k => by
    rw [List.map_cons, getL]
    show (if t.1 = k then _ else _) = _
    unfold getM
    rw [List.find?_cons]
    by_cases h : t.1 = k
    · rw [if_pos h]; simp [h, mEnt]
    · rw [if_neg h, getL_mEnt r k]; simp [h, getM]
theorem delL_mEnt {M : Mt} {k : Int} (h : NoDup (M.map mEnt)) : delL (M.map mEnt) k = (delM M k).map mEnt := by
  rw [delL_filter h]
  unfold delM
  rw [List.filter_map]
  rfl
theorem getM_some {M : Mt} {k a : Int} (h : getM M k = some a) : (k, a) ∈ M := by
  unfold getM at h
  obtain ⟨t, h1, h2⟩ := Option.map_eq_some_iff.1 h
  have h3 := List.find?_some h1
  simp at h3
  have := List.mem_of_find?_eq_some h1
  rw [← h3, ← h2]; exact this
theorem getM_none {M : Mt} {k : Int} (h : getM M k = none) : ∀ t ∈ M, t.1 ≠ k := by
  unfold getM at h
  rw [Option.map_eq_none_iff, List.find?_eq_none] at h
  intro t ht
  simpa using h t ht
theorem getM_of {M : Mt} {k a : Int} (hn : (M.map (·.1)).Nodup) (h : (k, a) ∈ M) : getM M k = some a := by
  cases hg : getM M k with
  | none => exact absurd rfl (getM_none hg _ h)
  | some b =>
    have h2 := getM_some hg
    have : ∀ {M : Mt}, (M.map (·.1)).Nodup → (k, a) ∈ M → (k, b) ∈ M → a = b := by
      intro M
      induction M with
      | nil => intro _ h; cases h
      | cons t r ih =>
        intro hn h h2
        rw [List.map_cons, List.nodup_cons] at hn
        rcases List.mem_cons.1 h with e | h <;> rcases List.mem_cons.1 h2 with e2 | h2
        · rw [← e2] at e; injection e
        · exact absurd (by rw [← e]; exact List.mem_map.2 ⟨_, h2, rfl⟩) hn.1
        · exact absurd (by rw [← e2]; exact List.mem_map.2 ⟨_, h, rfl⟩) hn.1
        · exact ih hn.2 h h2
    rw [this hn h h2]
theorem mem_delM {M : Mt} {k : Int} {t : Int × Int} : t ∈ delM M k ↔ t ∈ M ∧ t.1 ≠ k := by unfold delM; simp
theorem delM_none {M : Mt} {k : Int} (h : getM M k = none) : delM M k = M := by
  unfold delM
  rw [List.filter_eq_self]
  intro t ht
  simpa using getM_none h t ht
/-- What the slots hold is what the map holds. -/
structure WhOk (L : List Sl) (M : Mt) : Prop where
  inM : ∀ (i : Nat) (s : Sl), L[i]? = some s → ∀ t ∈ s.S, t ∈ M ∧ t.2 % 64 = (i : Int)
  inL : ∀ t ∈ M, ∃ s, L[(t.2 % 64).toNat]? = some s ∧ t ∈ s.S
  nd : ∀ s ∈ L, (s.S.map (·.1)).Nodup
  keys : (M.map (·.1)).Nodup
  bd : ∀ t ∈ M, okI t.1 ∧ 0 ≤ t.2 ∧ t.2 ≤ 1099511627776
  room : M.length ≤ 256
/-- A wheel; F: the blocks that are its own. -/
structure WhAt (w : World) (F : Nat → Prop) (p : Nat) (L : List Sl) (mv : Option Nat) (M : Mt) : Prop where
  bk : Bk w p 27 (L.map slV ++ [Value.map mv]).toArray
  len : L.length = 64
  own : F p
  nomap : mv = none → M = []
  map : ∀ b, mv = some b → F b ∧ IM mkI okI w b (M.map mEnt)
  sl : ∀ s ∈ L, SlAt w F s
  sep : ∀ (i j : Nat) (s s' : Sl), i ≠ j → L[i]? = some s → L[j]? = some s' → ∀ b, blk s.A = some b → blk s'.A ≠ some b
  ok : WhOk L M
section
variable {w w' : World} {F G : Nat → Prop} {p : Nat} {L : List Sl} {mv : Option Nat} {M : Mt}
theorem WhAt.keep (h : WhAt w F p L mv M) (hk : ∀ b, F b → b < w.heap.size → w'.heap[b]? = w.heap[b]?) (hFG : ∀ b, F b → G b) : WhAt w' G p L mv M where
  bk := (hk p h.own h.bk.lt).trans h.bk
  len := h.len
  own := hFG p h.own
  nomap := h.nomap
  map := fun b hb => by
    obtain ⟨h1, h2⟩ := h.map b hb
    have hl := h2.lt
    obtain ⟨es, clock, h3, rest⟩ := h2
    exact ⟨hFG b h1, es, clock, (hk b h1 hl).trans h3, rest⟩
  sl := fun s hs => ⟨(h.sl s hs).1.of_block fun g hg => hk g ((h.sl s hs).2 g hg) ((h.sl s hs).1.lt g hg).2, fun b hb => hFG b ((h.sl s hs).2 b hb)⟩
  sep := h.sep
  ok := h.ok
theorem WhAt.below (h : WhAt w F p L mv M) (hb : Below w.heap.size w w') : WhAt w' F p L mv M := h.keep (fun b _ hl => hb.block b hl) (fun _ h => h)
theorem WhAt.drewN (h : WhAt w F p L mv M) (n : Nat) : WhAt (w.drewN n) F p L mv M := h.keep (fun _ _ _ => rfl) (fun _ h => h)
theorem WhAt.cell (h : WhAt w F p L mv M) {i : Nat} {s : Sl} (hi : L[i]? = some s) : w.cell? ⟨p, i, none⟩ = some (.slice s.A s.n s.c) := by
  have := h.bk.cell i
  rw [this, List.getElem?_toArray, List.getElem?_append_left (by rw [List.length_map]; exact (List.getElem?_eq_some_iff.1 hi).1), List.getElem?_map, hi]
  rfl
theorem WhAt.cellM (h : WhAt w F p L mv M) : w.cell? ⟨p, 64, none⟩ = some (.map mv) := by
  have := h.bk.cell 64
  rw [this, List.getElem?_toArray, List.getElem?_append_right (by rw [List.length_map, h.len]; exact Nat.le_refl _), List.length_map, h.len]
  rfl
theorem WhAt.get (h : WhAt w F p L mv M) {i : Nat} (hi : i < 64) : ∃ s, L[i]? = some s ∧ s ∈ L := ⟨L[i]'(by rw [h.len]; exact hi), List.getElem?_eq_getElem _, List.getElem_mem _⟩
end
/-- A new wheel. -/
theorem WhAt.new {w : World} {p : Nat} (h : Bk w p 27 (List.replicate 64 (Value.slice none 0 0) ++ [Value.map none]).toArray) : WhAt w (fun b => b = p) p (List.replicate 64 ⟨none, 0, 0, []⟩) none [] where
  bk := by rw [List.map_replicate]; exact h
  len := List.length_replicate
  own := rfl
  nomap := fun _ => rfl
  map := fun b hb => by cases hb
  sl := fun s hs => by
    obtain rfl := List.eq_of_mem_replicate hs
    exact ⟨Tm.none_ _ _ _, fun b hb => by cases hb⟩
  sep := fun i j s s' _ hi _ b hb => by
    obtain rfl := List.eq_of_mem_replicate (List.mem_of_getElem? hi)
    cases hb
  ok := by
    refine ⟨fun i s hi t ht => ?_, (fun t ht => by cases ht), fun s hs => ?_, List.nodup_nil, (fun t ht => by cases ht), Nat.zero_le _⟩
    · obtain rfl := List.eq_of_mem_replicate (List.mem_of_getElem? hi)
      cases ht
    · obtain rfl := List.eq_of_mem_replicate hs
      exact List.nodup_nil

/-! ### a slot that changes -/
theorem IM.ne_cells {w : World} {b g : Nat} {M : List (Int × Value)} (h : IM mkI okI w b M) {cur : Array Value} {E : TypeId} {q : Nat × Nat} (hb : w.heap[g]? = some (.cells cur E q)) : b ≠ g := by
  rintro rfl
  obtain ⟨es, clock, h1, _⟩ := h
  rw [hb] at h1
  cases h1
theorem Tm.blk_cells {w : World} {base : Nat} {A : Option Addr} {n c : Nat} {S : Mt} {E : TypeId} (h : Tm E w base A n c S) {b : Nat} (hb : blk A = some b) : ∃ cur, w.heap[b]? = some (.cells cur E (0, 0)) := by
  rcases h.cases_ with ⟨rfl, _⟩ | ⟨g, cur, rfl, _, h2, _⟩
  · cases hb
  · have e : g = b := by simpa [blk] using hb
    subst e
    exact ⟨cur, h2⟩
section
variable {w w' : World} {F G : Nat → Prop} {p : Nat} {L : List Sl} {mv mv' : Option Nat} {M M' : Mt} {i : Nat} {s s' : Sl}
theorem WhAt.row_ne (h : WhAt w F p L mv M) (hi : L[i]? = some s) {b : Nat} (hb : blk s.A = some b) : b ≠ p ∧ mv ≠ some b := by
  obtain ⟨cur, hc⟩ := (h.sl s (List.mem_of_getElem? hi)).1.blk_cells hb
  refine ⟨fun e => ?_, fun e => (h.map b e).2.ne_cells hc rfl⟩
  subst e
  have := h.bk
  unfold Bk at this
  rw [this] at hc
  injection hc with hc
  injection hc with _ hc
  exact absurd hc (by decide)
theorem WhAt.map_ne (h : WhAt w F p L mv M) {b : Nat} (hb : mv = some b) : b ≠ p := by
  have h1 := (h.map b hb).2
  intro e
  subst e
  exact h1.ne_cells (show w.heap[b]? = some (.cells _ _ (0, 0)) from h.bk) rfl
theorem WhAt.upd (h : WhAt w F p L mv M) (hi : L[i]? = some s)
    (hk : ∀ b, F b → b ≠ p → blk s.A ≠ some b → mv ≠ some b → b < w.heap.size → w'.heap[b]? = w.heap[b]?)
    (hbk : Bk w' p 27 ((L.set i s').map slV ++ [Value.map mv']).toArray)
    (hs' : SlAt w' G s') (hnew : blk s'.A = blk s.A ∨ ∀ b, blk s'.A = some b → w.heap.size ≤ b)
    (hm : ∀ b, mv' = some b → G b ∧ IM mkI okI w' b (M'.map mEnt)) (hno : mv' = none → M' = []) (hFG : ∀ b, F b → G b) (hok : WhOk (L.set i s') M') : WhAt w' G p (L.set i s') mv' M' where
  bk := hbk
  len := by rw [List.length_set]; exact h.len
  own := hFG p h.own
  nomap := hno
  map := hm
  sl := fun x hx => by
    obtain ⟨j, hj⟩ := List.getElem?_of_mem hx
    rw [List.getElem?_set] at hj
    split at hj
    · split at hj
      · injection hj with hj; subst hj; exact hs'
      · cases hj
    · rename_i hij
      have hxL := h.sl x (List.mem_of_getElem? hj)
      refine ⟨hxL.1.of_block fun b hb => ?_, fun b hb => hFG b (hxL.2 b hb)⟩
      obtain ⟨n1, n2⟩ := h.row_ne hj hb
      exact hk b (hxL.2 b hb) n1 (fun e => h.sep i j s x hij hi hj b e hb) n2 (hxL.1.lt b hb).2
  sep := fun a b x y hab hx hy c hc => by
    rw [List.getElem?_set] at hx hy
    split at hx
    · rename_i hia
      split at hx
      · injection hx with hx
        subst hx
        rw [if_neg (by omega)] at hy
        rcases hnew with e | e
        · rw [e] at hc
          exact h.sep i b s y (by omega) hi hy c hc
        · intro hy2
          have := e c hc
          have := ((h.sl y (List.mem_of_getElem? hy)).1.lt c hy2).2
          omega
      · cases hx
    · rename_i hia
      split at hy
      · rename_i hib
        split at hy
        · injection hy with hy
          subst hy
          rcases hnew with e | e
          · rw [e]
            exact h.sep a i x s (by omega) hx hi c hc
          · intro hy2
            have := e c hy2
            have := ((h.sl x (List.mem_of_getElem? hx)).1.lt c hc).2
            omega
        · cases hy
      · exact h.sep a b x y hab hx hy c hc
  ok := hok
end
theorem whBk_set {w : World} {p : Nat} {L : List Sl} {v : Value} (h : Bk w p 27 (L.map slV ++ [v]).toArray) {i : Nat} (hi : i < L.length) (s' : Sl) : Bk (w.setCell ⟨p, i, none⟩ (.slice s'.A s'.n s'.c)) p 27 ((L.set i s').map slV ++ [v]).toArray := by
  have := h.set i (.slice s'.A s'.n s'.c)
  rw [List.map_set]
  have e : ((L.map slV ++ [v]).toArray.setIfInBounds i (.slice s'.A s'.n s'.c)) = ((L.map slV).set i (slV s') ++ [v]).toArray := by
    rw [← List.set_append_left _ _ (by rw [List.length_map]; exact hi)]
    simp [slV]
  rw [← e]
  exact this
/-- One timer goes. -/
theorem WhOk.del {L : List Sl} {M : Mt} {i : Nat} {s : Sl} {S1 S2 : Mt} {k a : Int} {n' : Nat} (h : WhOk L M) (hm : (k, a) ∈ M) (hi : L[i]? = some s) (hai : a % 64 = i) (hS : s.S = S1 ++ (k, a) :: S2) : WhOk (L.set i ⟨s.A, n', s.c, S1 ++ S2⟩) (delM M k) := by
  have hnd := h.nd s (List.mem_of_getElem? hi)
  rw [hS, List.map_append, List.map_cons, List.nodup_append, List.nodup_cons] at hnd
  have huniq : ∀ t ∈ M, t.1 = k → t = (k, a) := fun t ht e => by
    have h1 := getM_of h.keys (show (k, t.2) ∈ M by rw [← e]; exact ht)
    have h2 := getM_of h.keys hm
    rw [h1] at h2
    injection h2 with h2
    rw [← e, ← h2]
  have hne1 : ∀ t ∈ S1, t.1 ≠ k := fun t ht e => hnd.2.2 t.1 (List.mem_map.2 ⟨t, ht, rfl⟩) k (by simp) e
  have hne2 : ∀ t ∈ S2, t.1 ≠ k := fun t ht e => hnd.2.1.1 (by rw [← e]; exact List.mem_map.2 ⟨t, ht, rfl⟩)
  refine ⟨fun j x hj t ht => ?_, fun t ht => ?_, fun x hx => ?_, ?_, fun t ht => h.bd t (mem_delM.1 ht).1, Nat.le_trans (List.length_filter_le _ _) h.room⟩
  · rw [List.getElem?_set] at hj
    split at hj
    · rename_i hij
      subst hij
      split at hj
      · injection hj with hj
        subst hj
        have hts : t ∈ s.S := by
          rw [hS]
          rcases List.mem_append.1 ht with ht | ht
          · exact List.mem_append.2 (.inl ht)
          · exact List.mem_append.2 (.inr (List.mem_cons_of_mem _ ht))
        obtain ⟨h1, h2⟩ := h.inM i s hi t hts
        refine ⟨mem_delM.2 ⟨h1, ?_⟩, h2⟩
        rcases List.mem_append.1 ht with ht | ht
        · exact hne1 t ht
        · exact hne2 t ht
      · cases hj
    · rename_i hij
      obtain ⟨h1, h2⟩ := h.inM j x hj t ht
      refine ⟨mem_delM.2 ⟨h1, fun e => ?_⟩, h2⟩
      have := huniq t h1 e
      subst this
      simp only at h2
      omega
  · obtain ⟨h1, h2⟩ := mem_delM.1 ht
    obtain ⟨x, hx, htx⟩ := h.inL t h1
    rw [List.getElem?_set]
    by_cases hij : i = (t.2 % 64).toNat
    · rw [if_pos hij, if_pos (List.getElem?_eq_some_iff.1 hi).1]
      refine ⟨_, rfl, ?_⟩
      rw [← hij, hi] at hx
      injection hx with hx
      subst hx
      rw [hS] at htx
      show t ∈ S1 ++ S2
      rcases List.mem_append.1 htx with htx | htx
      · exact List.mem_append.2 (.inl htx)
      · rcases List.mem_cons.1 htx with e | htx
        · subst e; exact absurd rfl h2
        · exact List.mem_append.2 (.inr htx)
    · rw [if_neg hij]
      exact ⟨x, hx, htx⟩
  · rcases List.mem_or_eq_of_mem_set hx with hx | rfl
    · exact h.nd x hx
    · show ((S1 ++ S2).map (·.1)).Nodup
      rw [List.map_append, List.nodup_append]
      exact ⟨hnd.1, hnd.2.1.2, fun a ha b hb => hnd.2.2 a ha b (List.mem_cons_of_mem _ hb)⟩
  · exact h.keys.sublist (List.filter_sublist.map _)
/-- One timer more. -/
theorem WhOk.add {L : List Sl} {M : Mt} {i : Nat} {s : Sl} {k a : Int} {A' : Option Addr} {n' c' : Nat} (h : WhOk L M) (hk : okI k) (ha : 0 ≤ a ∧ a ≤ 1099511627776) (hg : getM M k = none) (hr : M.length < 256) (hi : L[i]? = some s) (hai : a % 64 = i) : WhOk (L.set i ⟨A', n', c', s.S ++ [(k, a)]⟩) (M ++ [(k, a)]) := by
  have hno := getM_none hg
  refine ⟨fun j x hj t ht => ?_, fun t ht => ?_, fun x hx => ?_, ?_, fun t ht => ?_, by rw [List.length_append]; simp; omega⟩
  · rw [List.getElem?_set] at hj
    split at hj
    · rename_i hij
      subst hij
      split at hj
      · injection hj with hj
        subst hj
        rcases List.mem_append.1 ht with ht | ht
        · obtain ⟨h1, h2⟩ := h.inM i s hi t ht
          exact ⟨List.mem_append.2 (.inl h1), h2⟩
        · simp at ht
          subst ht
          exact ⟨by simp, hai⟩
      · cases hj
    · obtain ⟨h1, h2⟩ := h.inM j x hj t ht
      exact ⟨List.mem_append.2 (.inl h1), h2⟩
  · rw [List.getElem?_set]
    rcases List.mem_append.1 ht with ht | ht
    · obtain ⟨x, hx, htx⟩ := h.inL t ht
      by_cases hij : i = (t.2 % 64).toNat
      · rw [if_pos hij, if_pos (List.getElem?_eq_some_iff.1 hi).1]
        refine ⟨_, rfl, ?_⟩
        rw [← hij, hi] at hx
        injection hx with hx
        subst hx
        exact List.mem_append.2 (.inl htx)
      · rw [if_neg hij]
        exact ⟨x, hx, htx⟩
    · simp at ht
      subst ht
      have e : i = (a % 64).toNat := by omega
      rw [if_pos e, if_pos (List.getElem?_eq_some_iff.1 hi).1]
      exact ⟨_, rfl, by simp⟩
  · rcases List.mem_or_eq_of_mem_set hx with hx | rfl
    · exact h.nd x hx
    · show ((s.S ++ [(k, a)]).map (·.1)).Nodup
      rw [List.map_append, List.nodup_append]
      refine ⟨h.nd s (List.mem_of_getElem? hi), by simp, fun b hb c hc => ?_⟩
      simp at hc
      subst hc
      obtain ⟨t, ht, rfl⟩ := List.mem_map.1 hb
      exact hno t (h.inM i s hi t ht).1
  · rw [List.map_append, List.nodup_append]
    refine ⟨h.keys, by simp, fun b hb c hc => ?_⟩
    simp at hc
    subst hc
    obtain ⟨t, ht, rfl⟩ := List.mem_map.1 hb
    exact hno t ht
  · rcases List.mem_append.1 ht with ht | ht
    · exact h.bd t ht
    · simp at ht
      subst ht
      exact ⟨hk, ha⟩

/-! ### the walks -/
set_option maxRecDepth 100000 in
theorem at_any (p : Nat) (L : List Sl) (mv : Option Nat) (M : Mt) (F : Nat → Prop) (k : Int) (hk : okI k) (w : World) (h : WhAt w F p L mv M) :
    Calls Try.prog 12 #[.pointer (some ⟨p, 0, none⟩), .int .i64 k] w fun e w' => e = .returned (.tuple #[.int .i64 ((getM M k).getD 0), .bool (getM M k).isSome]) ∧ w = w' := by
  have c64 := h.cellM
  have hmap := h.map
  have hno := h.nomap
  have hg : ∀ (L : Option Value) (o : Option Int), L = o.map (Value.int .i64) → L.getD (.int .i64 0) = .int .i64 (o.getD 0) ∧ L.isSome = o.isSome := by
    rintro L o rfl; cases o <;> exact ⟨rfl, rfl⟩
  have HGL := Lib.hid (hg _ _ (getL_mEnt M k))
  clear h hg
  rcases mv with _ | b
  · have hM := hno rfl
    subst hM
    have hln : ∀ w : World, (Instr.lookup mapT (.map none) (mkI k) true).run Try.prog w = .ok (.tuple #[.int .i64 0, .bool false]) w := fun w => look_nil_ keyI mapU (zeroI w) hk true
    unfold mkI at hln
    clear hmap hno
    go_enter Try.func12, Try.ntmps12
    go_wp2
    go_ret2
    exact ⟨rfl, rfl⟩
  · have hI := (hmap b rfl).2
    clear hmap hno
    go_enter Try.func12, Try.ntmps12
    go_wp2_with (at_lookup; refine wpList_look_ok_im rfl (.tmp 14) (.tmp 15) mapT rfl keyI mapU (zeroI _) rfl hI (y := k) rfl hk ?_; rw [HGL.out.1, HGL.out.2])
    go_ret2
    exact ⟨rfl, rfl⟩
theorem at_nil (k : Int) (w : World) : Calls Try.prog 12 #[.pointer none, .int .i64 k] w fun e w' => e = .returned (.tuple #[.int .i64 0, .bool false]) ∧ w = w' := by
  go_enter Try.func12, Try.ntmps12
  go_wp2
  go_ret2
  exact ⟨rfl, rfl⟩
attribute [local go_sem] and_i64_63
theorem slot_any (p : Nat) (at_ : Int) (h0 : 0 ≤ at_) (h1 : at_ ≤ 1099511627776) (i : Nat) (hi : at_ % 64 = i) (w : World) :
    Calls Try.prog 18 #[.pointer (some ⟨p, 0, none⟩), .int .i64 at_] w fun e w' => e = .returned (.pointer (some ⟨p, i, none⟩)) ∧ w = w' := by
  have hi64 : i < 64 := by omega
  have hi65 : (i : Int) < 64 := by omega
  go_enter Try.func18, Try.ntmps18
  go_wp2
  go_ret
  exact ⟨rfl, rfl⟩
theorem len_any (p : Nat) (L : List Sl) (mv : Option Nat) (M : Mt) (F : Nat → Prop) (w : World) (h : WhAt w F p L mv M) :
    Calls Try.prog 10 #[.pointer (some ⟨p, 0, none⟩)] w fun e w' => e = .returned (.int .i64 M.length) ∧ w = w' := by
  have c64 := h.cellM
  have hmap := h.map
  have hno := h.nomap
  have HLM := Lib.hid (show (M.map mEnt).length = M.length from List.length_map _)
  clear h
  rcases mv with _ | b
  · have hM := hno rfl
    subst hM
    clear hmap hno
    go_enter Try.func10, Try.ntmps10
    go_wp2
    go_ret
    exact ⟨rfl, rfl⟩
  · have hI := (hmap b rfl).2
    clear hmap hno
    go_enter Try.func10, Try.ntmps10
    go_wp2_with (at_len; refine wpList_len_im rfl (.tmp 8) mapT rfl mapU rfl hI ?_; rw [HLM.out])
    go_ret
    exact ⟨rfl, rfl⟩
theorem len_nil (w : World) : Calls Try.prog 10 #[.pointer none] w fun e w' => e = .returned (.int .i64 0) ∧ w = w' := by
  go_enter Try.func10, Try.ntmps10
  go_wp2
  go_ret
  exact ⟨rfl, rfl⟩
end Go.Proofs.Ytnnblakjaiccfaa
