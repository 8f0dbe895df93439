/- Proved: maps whose entries are known one by one: look-up, store, delete, length, range, each as an equation on the run and at the operation; rows of the call's own that begin anywhere in their block: append, the rest from a place on; and what a set of blocks may keep; what a set of blocks may change (plain . Conditions: as each law says. -/
import Derived.Deep.MidRow
import Derived.Deep.Upon
import Derived.Maps.OwnOps
import Derived.Maps.RangeWalk
import Derived.Test.YtaeafkdfbcppgaaGreatT00
set_option linter.unusedSectionVars false
set_option linter.unusedSimpArgs false
set_option linter.unusedVariables false
namespace Go.Proofs.YtaeafkdfbcppgaaGreat
open Go.RowKit Go.ChangeMaps Go.MapKept
open Go.Maps (Keyed)
structure KeyIs {α : Type} (P : Program) (k : TypeId) (mk : α → Value) (ok : α → Prop) : Prop where
 keyed : Keyed P k
 key : ∀ x, ok x → ∃ l, keyOf P k (mk x) = some l
 inj : ∀ x y, mk x = mk y → x = y
section lists
variable {α : Type} [DecidableEq α]
def getL : List (α × Value) → α → Option Value
 | [], _ => none
 | p :: r, x => if p.1 = x then some p.2 else getL r x
def putL : List (α × Value) → α → Value → List (α × Value)
 | [], x, v => [(x, v)]
 | p :: r, x, v => if p.1 = x then (x, v) :: r else p :: putL r x v
def delL : List (α × Value) → α → List (α × Value)
 | [], _ => []
 | p :: r, x => if p.1 = x then r else p :: delL r x
def NoDup (L : List (α × Value)) : Prop := (L.map (·.1)).Nodup
theorem getL_none : ∀ {L : List (α × Value)} {x : α}, (∀ p ∈ L, p.1 ≠ x) → getL L x = none
 | [], _, _ => rfl
 | p :: r, x, h => by
  rw [getL, if_neg (h p (by simp))]
  exact getL_none fun q hq => h q (by simp [hq])
theorem getL_at : ∀ {L : List (α × Value)} {j : Nat} {p : α × Value}, NoDup L → L[j]? = some p → getL L p.1 = some p.2
 | [], _, _, _, h => by simp at h
 | q :: r, 0, p, _, h => by
  simp at h; subst h; simp [getL]
 | q :: r, j + 1, p, hn, h => by
  simp only [List.getElem?_cons_succ] at h
  unfold NoDup at hn
  simp only [List.map_cons, List.nodup_cons] at hn
  have hm : p ∈ r := List.mem_of_getElem? h
  rw [getL, if_neg (fun e => hn.1 (by rw [e]; exact List.mem_map.2 ⟨p, hm, rfl⟩))]
  exact getL_at hn.2 h
theorem getL_of_mem {L : List (α × Value)} {p : α × Value} (hn : NoDup L) (h : p ∈ L) : getL L p.1 = some p.2 := by
 obtain ⟨j, hj⟩ := List.getElem?_of_mem h
 exact getL_at hn hj
theorem putL_new : ∀ {L : List (α × Value)} {x : α} {v : Value}, (∀ p ∈ L, p.1 ≠ x) → putL L x v = L ++ [(x, v)]
 | [], _, _, _ => rfl
 | p :: r, x, v, h => by
  rw [putL, if_neg (h p (by simp)), putL_new fun q hq => h q (by simp [hq])]
  rfl
theorem putL_at : ∀ {L : List (α × Value)} {j : Nat} {x : α} {u v : Value}, NoDup L → L[j]? = some (x, u) → putL L x v = L.set j (x, v)
 | [], _, _, _, _, _, h => by simp at h
 | q :: r, 0, x, u, v, _, h => by
  simp at h; subst h; simp [putL]
 | q :: r, j + 1, x, u, v, hn, h => by
  simp only [List.getElem?_cons_succ] at h
  unfold NoDup at hn
  simp only [List.map_cons, List.nodup_cons] at hn
  have hm : (x, u) ∈ r := List.mem_of_getElem? h
  rw [putL, if_neg (fun e => hn.1 (by rw [e]; exact List.mem_map.2 ⟨_, hm, rfl⟩)), putL_at hn.2 h]
  rfl
theorem delL_new : ∀ {L : List (α × Value)} {x : α}, (∀ p ∈ L, p.1 ≠ x) → delL L x = L
 | [], _, _ => rfl
 | p :: r, x, h => by
  rw [delL, if_neg (h p (by simp)), delL_new fun q hq => h q (by simp [hq])]
theorem delL_at : ∀ {L : List (α × Value)} {j : Nat} {x : α} {u : Value}, NoDup L → L[j]? = some (x, u) → delL L x = L.eraseIdx j
 | [], _, _, _, _, h => by simp at h
 | q :: r, 0, x, u, _, h => by
  simp at h; subst h; simp [delL]
 | q :: r, j + 1, x, u, hn, h => by
  simp only [List.getElem?_cons_succ] at h
  unfold NoDup at hn
  simp only [List.map_cons, List.nodup_cons] at hn
  have hm : (x, u) ∈ r := List.mem_of_getElem? h
  rw [delL, if_neg (fun e => hn.1 (by rw [e]; exact List.mem_map.2 ⟨_, hm, rfl⟩)), delL_at hn.2 h]
  rfl
theorem delL_filter : ∀ {L : List (α × Value)} {x : α}, NoDup L → delL L x = L.filter fun p => decide (p.1 ≠ x)
 | [], _, _ => rfl
 | p :: r, x, hn => by
  unfold NoDup at hn
  simp only [List.map_cons, List.nodup_cons] at hn
  rw [delL, List.filter_cons]
  split
  ·rename_i e
   rw [if_neg (by simp [e]), List.filter_eq_self.2]
   intro q hq
   simp only [decide_eq_true_eq]
   intro e2
   exact hn.1 (by rw [e, ← e2]; exact List.mem_map.2 ⟨q, hq, rfl⟩)
  ·rename_i e
   rw [if_pos (by simpa using e), delL_filter hn.2]
end lists
section
variable {α : Type} [DecidableEq α] {P : Program} {k : TypeId} {mk : α → Value} {ok : α → Prop} {w w' : World} {b r : Nat} {L : List (α × Value)}
def ent (mk : α → Value) (p : α × Value) : Value × Value := (mk p.1, p.2)
def EntsAre (mk : α → Value) (ok : α → Prop) (es : Array MapEntry) (L : List (α × Value)) : Prop := es.toList.map (fun x => (x.key, x.val)) = L.map (ent mk) ∧ ∀ p ∈ L, ok p.1
def IM (mk : α → Value) (ok : α → Prop) (w : World) (b : Nat) (L : List (α × Value)) : Prop :=
 ∃ es clock, w.heap[b]? = some (.map es clock) ∧ Stamped es clock ∧ EntsAre mk ok es L
theorem IM.lt (h : IM mk ok w b L) : b < w.heap.size := by
 obtain ⟨es, clock, hb, _⟩ := h
 exact (Array.getElem?_eq_some_iff.1 hb).1
theorem IM.kept {row : Option Nat} (h : IM mk ok w b L) (hg : w.grownBy w' row) (hne : some b ≠ row) : IM mk ok w' b L := by
 have hlt := h.lt
 obtain ⟨es, clock, hb, rest⟩ := h
 exact ⟨es, clock, (hg.block b hlt hne).trans hb, rest⟩
theorem IM.alloc (h : IM mk ok w b L) (o : Obj) : IM mk ok (w.alloc o) b L := h.kept (World.grownBy_alloc w o none) (by simp)
theorem IM.drewN (h : IM mk ok w b L) (n : Nat) : IM mk ok (w.drewN n) b L := h
theorem IM.below {B : Nat} (h : IM mk ok w b L) (hb : Below B w w') (hB : b < B) : IM mk ok w' b L := by
 obtain ⟨es, clock, h1, rest⟩ := h
 exact ⟨es, clock, (hb.block b hB).trans h1, rest⟩
theorem IM.setCell (h : IM mk ok w b L) {p : Addr} (hp : b ≠ p.block) (u : Value) : IM mk ok (w.setCell p u) b L := by
 obtain ⟨es, clock, h1, rest⟩ := h
 exact ⟨es, clock, (Below.heap_setCell w p u b hp).trans h1, rest⟩
theorem IM.made (w : World) : IM mk ok (w.alloc (.map #[] 0)) w.heap.size [] :=
 ⟨#[], 0, heap_alloc_new w _, stamped_empty 0, rfl, fun _ h => by cases h⟩
theorem EntsAre.at_ {es : Array MapEntry} (h : EntsAre mk ok es L) {j : Nat} {e : MapEntry} (he : es.toList[j]? = some e) : ∃ p, L[j]? = some p ∧ e.key = mk p.1 ∧ e.val = p.2 := by
 have h1 : (es.toList.map (fun x => (x.key, x.val)))[j]? = some (e.key, e.val) := by rw [List.getElem?_map, he]; rfl
 rw [h.1, List.getElem?_map] at h1
 obtain ⟨p, hp, hp2⟩ := Option.map_eq_some_iff.1 h1
 unfold ent at hp2
 exact ⟨p, hp, by injection hp2 with a b; exact a.symm, by injection hp2 with a b; exact b.symm⟩
theorem EntsAre.to_ {es : Array MapEntry} (h : EntsAre mk ok es L) {j : Nat} {p : α × Value} (hp : L[j]? = some p) : ∃ e, es.toList[j]? = some e ∧ e.key = mk p.1 ∧ e.val = p.2 := by
 have h1 : (L.map (ent mk))[j]? = some (mk p.1, p.2) := by rw [List.getElem?_map, hp]; rfl
 rw [← h.1, List.getElem?_map] at h1
 obtain ⟨e, he, he2⟩ := Option.map_eq_some_iff.1 h1
 exact ⟨e, he, by injection he2, by injection he2⟩
theorem EntsAre.size {es : Array MapEntry} (h : EntsAre mk ok es L) : es.size = L.length := by
 have := congrArg List.length h.1
 simpa using this
theorem EntsAre.nodup {es : Array MapEntry} {clock : Nat} (h : EntsAre mk ok es L) (hs : Stamped es clock) : NoDup L := by
 have h3 := hs.2.2
 have e : es.toList.map (·.key) = L.map (fun p => mk p.1) := by
  have := congrArg (List.map Prod.fst) h.1
  simpa [List.map_map, Function.comp_def, ent] using this
 rw [e] at h3
 unfold NoDup
 rw [List.nodup_iff_pairwise_ne] at *
 rw [List.pairwise_map] at *
 exact h3.imp fun hne e => hne (by rw [e])
theorem IM.nodup (h : IM mk ok w b L) : NoDup L := by
 obtain ⟨es, clock, _, hs, hE⟩ := h
 exact hE.nodup hs
theorem IM.oks (h : IM mk ok w b L) : ∀ p ∈ L, ok p.1 := by
 obtain ⟨es, clock, _, hs, hE⟩ := h
 exact hE.2
theorem EntsAre.keyed {es : Array MapEntry} (h : EntsAre mk ok es L) (K : KeyIs P k mk ok) : ∀ e ∈ es.toList, ∃ l, keyOf P k e.key = some l := by
 intro e he
 obtain ⟨j, hj⟩ := List.getElem?_of_mem he
 obtain ⟨p, hp, h1, _⟩ := h.at_ hj
 rw [h1]
 exact K.key _ (h.2 p (List.mem_of_getElem? hp))
theorem EntsAre.find {es : Array MapEntry} (h : EntsAre mk ok es L) (K : KeyIs P k mk ok) (w : World) {x : α} (hx : ok x) :
  ((Instr.findKey k (mk x) es.toList).run P w = .ok none w ∧ (∀ e ∈ es.toList, e.key ≠ mk x) ∧ ∀ p ∈ L, p.1 ≠ x) ∨
  ∃ j e u, (Instr.findKey k (mk x) es.toList).run P w = .ok (some (j, u)) w ∧ es.toList[j]? = some e ∧ e.key = mk x ∧ e.val = u ∧ L[j]? = some (x, u) := by
 obtain ⟨l, hl⟩ := K.key x hx
 rcases K.keyed.find w hl es.toList (h.keyed K) with ⟨h1, h2⟩ | ⟨j, e, h1, h2, h3⟩
 ·refine .inl ⟨h1, h2, fun p hp e => ?_⟩
  obtain ⟨j, hj⟩ := List.getElem?_of_mem hp
  obtain ⟨e', he', hk, _⟩ := h.to_ hj
  exact h2 e' (List.mem_of_getElem? he') (by rw [hk, e])
 ·obtain ⟨p, hp, h4, h5⟩ := h.at_ h2
  refine .inr ⟨j, e, e.val, h1, h2, h3, rfl, ?_⟩
  rw [hp, h5]
  have := K.inj _ _ (h4.symm.trans h3)
  rw [← this]
theorem IM.look {t e : TypeId} (h : IM mk ok w b L) (K : KeyIs P k mk ok) (ht : P.underlying t = some (.map k e)) {z : Value} (hz : (zeroValue e).run P w = .ok z w) {x : α} (hx : ok x) (c : Bool) :
  (Instr.lookup t (.map (some b)) (mk x) c).run P w = .ok (if c then .tuple #[(getL L x).getD z, .bool (getL L x).isSome] else (getL L x).getD z) w := by
 obtain ⟨es, clock, hb, hs, hE⟩ := h
 obtain ⟨l, hl⟩ := K.key x hx
 rcases hE.find K w hx with ⟨h1, _, h2⟩ | ⟨j, e0, u, h1, _, _, _, h3⟩
 ·rw [getL_none h2]
  simp [Instr.lookup, run_underlying ht, MapKept.run_getObj_map hb, K.keyed.check w _ hl, h1, hz, Result.andThen]
 ·have := getL_at (hE.nodup hs) h3
  simp only at this
  rw [this]
  simp [Instr.lookup, run_underlying ht, MapKept.run_getObj_map hb, K.keyed.check w _ hl, h1, Result.andThen]
theorem look_nil_ {t e : TypeId} (K : KeyIs P k mk ok) (ht : P.underlying t = some (.map k e)) {z : Value} (hz : (zeroValue e).run P w = .ok z w) {x : α} (hx : ok x) (c : Bool) :
  (Instr.lookup t (.map none) (mk x) c).run P w = .ok (if c then .tuple #[z, .bool false] else z) w := by
 obtain ⟨l, hl⟩ := K.key x hx
 exact Maps.look_nil c K.keyed ht hz hl
theorem IM.len {t e : TypeId} (h : IM mk ok w b L) (ht : P.underlying t = some (.map k e)) (ty : TypeId) : (Builtin.len_ #[t] ty #[.map (some b)]).run P w = .ok (.int .i64 L.length) w := by
 obtain ⟨es, clock, hb, hs, hE⟩ := h
 rw [← hE.size]
 simp [Builtin.len_, run_underlying ht, MapKept.run_getObj_map hb, goInt, Result.andThen]
theorem IM.store {t e : TypeId} (h : IM mk ok w b L) (K : KeyIs P k mk ok) (ht : P.underlying t = some (.map k e)) {x : α} (hx : ok x) (v : Value) :
  ∃ w', (Instr.mapUpdate t (.map (some b)) (mk x) v).run P w = .ok () w' ∧ IM mk ok w' b (putL L x v) ∧ w.grownBy w' (some b) ∧ w'.heap.size = w.heap.size := by
 obtain ⟨es, clock, hb, hs, hE⟩ := h
 obtain ⟨l, hl⟩ := K.key x hx
 have hg : ∀ es' clock', w.grownBy (setBlock w b (.map es' clock')) (some b) := fun es' clock' => ⟨rfl, rfl, rfl, by simp [setBlock], fun i _ hi => heap_setBlock_other hb _ (fun e => hi (by rw [e]))⟩
 rcases hE.find K w hx with ⟨h1, h1', h2⟩ | ⟨j, e0, u, h1, h2, h3, h4, h5⟩
 ·refine ⟨_, ?_, ⟨es.push ⟨mk x, v, clock⟩, clock + 1, heap_setBlock_same hb _, stamped_push hs h1', ?_, ?_⟩, hg _ _, by simp [setBlock]⟩
  ·simp [Instr.mapUpdate, run_underlying ht, MapKept.run_getObj_map hb, K.keyed.check w false hl, h1, MapKept.run_setObj_map _ hb, Result.andThen, setBlock]
  ·rw [putL_new h2, Array.toList_push, List.map_append, hE.1, List.map_append]
   rfl
  ·rw [putL_new h2]
   intro p hp
   rcases List.mem_append.1 hp with hp | hp
   ·exact hE.2 p hp
   ·simp at hp; subst hp; exact hx
 ·have hj : es[j]? = some e0 := by simpa using h2
  have hlist : (es.modify j (fun e' => { e' with key := mk x, val := v })).toList = es.toList.set j { e0 with key := mk x, val := v } := by rw [Array.toList_modify, modify_eq_set _ _ _ _ h2]
  refine ⟨_, ?_, ⟨es.modify j (fun e' => { e' with key := mk x, val := v }), clock, heap_setBlock_same hb _, stamped_modify hs _ _ (fun _ _ => rfl) (fun e' _ he' => by rw [hj] at he'; cases he'; exact h3.symm), ?_, ?_⟩, hg _ _, by simp [setBlock]⟩
  ·simp [Instr.mapUpdate, run_underlying ht, MapKept.run_getObj_map hb, K.keyed.check w false hl, h1, hj, h3, K.keyed.stays w hl, MapKept.run_setObj_map _ hb, Result.andThen, setBlock]
  ·rw [hlist, List.map_set, hE.1, putL_at (hE.nodup hs) h5, List.map_set]
   rfl
  ·rw [putL_at (hE.nodup hs) h5]
   intro p hp
   rcases List.mem_or_eq_of_mem_set hp with hp | rfl
   ·exact hE.2 p hp
   ·exact hx
theorem EntsAre.erase {es : Array MapEntry} {clock : Nat} (hE : EntsAre mk ok es L) (hs : Stamped es clock) {j : Nat} {x : α} {u : Value} {e0 : MapEntry} (h2 : es.toList[j]? = some e0) (h5 : L[j]? = some (x, u)) :
  (es.eraseIdxIfInBounds j).toList = es.toList.eraseIdx j ∧ EntsAre mk ok (es.eraseIdxIfInBounds j) (delL L x) := by
 have hjl : j < es.toList.length := (List.getElem?_eq_some_iff.1 h2).1
 have hjs : j < es.size := by simpa using hjl
 have hsub : (es.eraseIdxIfInBounds j).toList = es.toList.eraseIdx j := by
  unfold Array.eraseIdxIfInBounds
  rw [dif_pos hjs]
  simp
 refine ⟨hsub, ?_, ?_⟩
 ·rw [hsub, delL_at (hE.nodup hs) h5, map_eraseIdx, map_eraseIdx, hE.1]
 ·intro p hp
  rw [delL_at (hE.nodup hs) h5] at hp
  exact hE.2 p ((List.eraseIdx_sublist _ _).subset hp)
theorem IM.drop {t e : TypeId} (h : IM mk ok w b L) (K : KeyIs P k mk ok) (ht : P.underlying t = some (.map k e)) {x : α} (hx : ok x) (ty : TypeId) :
  ∃ w', (Builtin.delete_ #[t, k] ty #[.map (some b), mk x]).run P w = .ok (.tuple #[]) w' ∧ IM mk ok w' b (delL L x) ∧ w.grownBy w' (some b) ∧ w'.heap.size = w.heap.size := by
 obtain ⟨es, clock, hb, hs, hE⟩ := h
 obtain ⟨l, hl⟩ := K.key x hx
 have hg : ∀ es' clock', w.grownBy (setBlock w b (.map es' clock')) (some b) := fun es' clock' => ⟨rfl, rfl, rfl, by simp [setBlock], fun i _ hi => heap_setBlock_other hb _ (fun e => hi (by rw [e]))⟩
 rcases hE.find K w hx with ⟨h1, h1', h2⟩ | ⟨j, e0, u, h1, h2, h3, h4, h5⟩
 ·refine ⟨_, ?_, ⟨es, clock, heap_setBlock_same hb _, hs, ?_⟩, hg _ _, by simp [setBlock]⟩
  ·simp [Builtin.delete_, run_underlying ht, MapKept.run_getObj_map hb, K.keyed.check w _ hl, h1, MapKept.run_setObj_map _ hb, Result.andThen, setBlock]
  ·rw [delL_new h2]; exact hE
 ·refine ⟨_, ?_, ⟨es.eraseIdxIfInBounds j, clock, heap_setBlock_same hb _, stamped_erase hs j, (hE.erase hs h2 h5).2⟩, hg _ _, by simp [setBlock]⟩
  simp [Builtin.delete_, run_underlying ht, MapKept.run_getObj_map hb, K.keyed.check w _ hl, h1, MapKept.run_setObj_map _ hb, Result.andThen, setBlock]
def IR (mk : α → Value) (ok : α → Prop) (w : World) (b r : Nat) (L : List (α × Value)) (left : α → Bool) (cnt : Nat) : Prop :=
 ∃ es clock since seen c0, w.heap[b]? = some (.map es clock) ∧ Stamped es clock ∧ EntsAre mk ok es L ∧ w.heap[r]? = some (.mapIter (some b) since seen c0) ∧ (∀ x ∈ es.toList, x.born < since) ∧
  (leftOf es seen).size = cnt ∧ (∀ (j : Nat) (e : MapEntry) (p : α × Value), es.toList[j]? = some e → L[j]? = some p → left p.1 = !seen.contains e.born) ∧ since ≤ c0 ∧ since ≤ clock
variable {left : α → Bool} {cnt : Nat}
theorem IR.im (h : IR mk ok w b r L left cnt) : IM mk ok w b L := by
 obtain ⟨es, clock, since, seen, c0, hb, hs, hE, _⟩ := h
 exact ⟨es, clock, hb, hs, hE⟩
theorem IR.ne (h : IR mk ok w b r L left cnt) : r ≠ b := by
 obtain ⟨es, clock, since, seen, c0, hb, _, _, hr, _⟩ := h
 intro e
 rw [e, hb] at hr
 cases hr
theorem IR.lt (h : IR mk ok w b r L left cnt) : r < w.heap.size := by
 obtain ⟨es, clock, since, seen, c0, _, _, _, hr, _⟩ := h
 exact (Array.getElem?_eq_some_iff.1 hr).1
theorem IR.kept {row : Option Nat} (h : IR mk ok w b r L left cnt) (hg : w.grownBy w' row) (hb' : some b ≠ row) (hr' : some r ≠ row) : IR mk ok w' b r L left cnt := by
 have h1 := h.im.lt
 have h2 := h.lt
 obtain ⟨es, clock, since, seen, c0, hb, hs, hE, hr, rest⟩ := h
 exact ⟨es, clock, since, seen, c0, (hg.block b h1 hb').trans hb, hs, hE, (hg.block r h2 hr').trans hr, rest⟩
theorem IR.setCell (h : IR mk ok w b r L left cnt) {p : Addr} (hb' : b ≠ p.block) (hr' : r ≠ p.block) (u : Value) : IR mk ok (w.setCell p u) b r L left cnt := by
 obtain ⟨es, clock, since, seen, c0, hb, hs, hE, hr, rest⟩ := h
 exact ⟨es, clock, since, seen, c0, (Below.heap_setCell w p u b hb').trans hb, hs, hE, (Below.heap_setCell w p u r hr').trans hr, rest⟩
theorem IR.drewN (h : IR mk ok w b r L left cnt) (n : Nat) : IR mk ok (w.drewN n) b r L left cnt := h
theorem IM.range {t e : TypeId} (h : IM mk ok w b L) (ht : P.underlying t = some (.map k e)) :
  ∃ w', (Instr.range t (.map (some b))).run P w = .ok (.pointer (some ⟨w.heap.size, 0, none⟩)) w' ∧ IR mk ok w' b w.heap.size L (fun _ => true) L.length ∧ w.grownBy w' none ∧ w'.heap.size = w.heap.size + 1 := by
 have hlt := h.lt
 obtain ⟨es, clock, hb, hs, hE⟩ := h
 refine ⟨_, run_range_map w t k e b es clock ht hb, ⟨es, clock, clock, #[], clock, (MapKept.heap_alloc w _).2 b hlt |>.trans hb, hs, hE, heap_alloc_new w _, hs.1, ?_, ?_, Nat.le_refl _, Nat.le_refl _⟩, World.grownBy_alloc w _ none, by simp⟩
 ·rw [← hE.size]; simp [leftOf]
 ·intro j e p _ _
  simp
theorem nodup_at {β : Type} : ∀ {l : List β} {i j : Nat} {x : β}, l.Nodup → l[i]? = some x → l[j]? = some x → i = j
 | [], i, j, x, _, h, _ => by simp at h
 | y :: r, 0, 0, x, _, _, _ => rfl
 | y :: r, 0, j + 1, x, hn, h1, h2 => by
  simp only [List.getElem?_cons_zero, List.getElem?_cons_succ, Option.some.injEq] at h1 h2
  subst h1
  exact absurd (List.mem_of_getElem? h2) (List.nodup_cons.1 hn).1
 | y :: r, i + 1, 0, x, hn, h1, h2 => by
  simp only [List.getElem?_cons_zero, List.getElem?_cons_succ, Option.some.injEq] at h1 h2
  subst h2
  exact absurd (List.mem_of_getElem? h1) (List.nodup_cons.1 hn).1
 | y :: r, i + 1, j + 1, x, hn, h1, h2 => by
  simp only [List.getElem?_cons_succ] at h1 h2
  rw [nodup_at (List.nodup_cons.1 hn).2 h1 h2]
theorem born_eq_of {es : Array MapEntry} {clock : Nat} (hE : EntsAre mk ok es L) (hs : Stamped es clock) {i j : Nat} {e e' : MapEntry} {p q : α × Value} (h1 : es.toList[i]? = some e) (h2 : L[i]? = some p) (h3 : es.toList[j]? = some e') (h4 : L[j]? = some q) :
  decide (p.1 ≠ q.1) = !(e.born == e'.born) := by
 have hi : i < es.toList.length := (List.getElem?_eq_some_iff.1 h1).1
 have hj : j < es.toList.length := (List.getElem?_eq_some_iff.1 h3).1
 have hi' : i < L.length := (List.getElem?_eq_some_iff.1 h2).1
 have hj' : j < L.length := (List.getElem?_eq_some_iff.1 h4).1
 have hnL := hE.nodup hs
 unfold NoDup at hnL
 by_cases e0 : i = j
 ·subst e0
  rw [h1] at h3
  rw [h2] at h4
  injection h3 with h3
  injection h4 with h4
  subst h3; subst h4
  simp
 ·have a : p.1 ≠ q.1 := by
   intro ee
   have h5 : (L.map (·.1))[i]? = some p.1 := by rw [List.getElem?_map, h2]; rfl
   have h6 : (L.map (·.1))[j]? = some q.1 := by rw [List.getElem?_map, h4]; rfl
   exact e0 (nodup_at hnL h5 (by rw [ee]; exact h6))
  have c : e.born ≠ e'.born := by
   intro ee
   have h5 : (es.toList.map (·.born))[i]? = some e.born := by rw [List.getElem?_map, h1]; rfl
   have h6 : (es.toList.map (·.born))[j]? = some e'.born := by rw [List.getElem?_map, h3]; rfl
   exact e0 (nodup_at hs.2.1 h5 (by rw [ee]; exact h6))
  simp [a, c]
theorem IR.next (h : IR mk ok w b r L left cnt) (ty : TypeId) :
  (cnt = 0 ∧ (∀ p ∈ L, left p.1 = false) ∧ (Instr.next (.pointer (some ⟨r, 0, none⟩)) false ty).run P w = .ok (.tuple #[.bool false]) w) ∨
  ∃ p ∈ L, left p.1 = true ∧ ∃ w' cnt', (Instr.next (.pointer (some ⟨r, 0, none⟩)) false ty).run P w = .ok (.tuple #[.bool true, mk p.1, p.2]) w' ∧
   IR mk ok w' b r L (fun x => left x && decide (x ≠ p.1)) cnt' ∧ cnt' < cnt ∧ w.grownBy w' (some r) ∧ w'.heap.size = w.heap.size ∧ (Instr.entry (.pointer (some ⟨r, 0, none⟩))).run P w' = .ok (.tuple #[mk p.1, p.2]) w' := by
 have hne := h.ne
 obtain ⟨es, clock, since, seen, c0, hb, hs, hE, hr, hold, rfl, hl1, hsc, hsk⟩ := h
 rcases run_next_at (P := P) w ty r b since c0 seen es clock hr hb hold hsc with ⟨h0, hrun⟩ | ⟨e, he, w1, hal, hrun⟩
 ·refine Or.inl ⟨h0, fun p hp => ?_, hrun⟩
  obtain ⟨j, hj⟩ := List.getElem?_of_mem hp
  obtain ⟨e, he, _⟩ := hE.to_ hj
  rw [hl1 j e p he hj, all_seen es seen h0 e (List.mem_of_getElem? he)]
  rfl
 ·obtain ⟨hem, hes⟩ := mem_left he
  obtain ⟨j, hj⟩ := List.getElem?_of_mem hem
  obtain ⟨p, hp, hk, hv⟩ := hE.at_ hj
  have hr1 : w1.heap[r]? = some (.mapIter (some b) since seen c0) := by rcases hal with rfl | rfl <;> exact hr
  have hb1 : w1.heap[b]? = some (.map es clock) := by rcases hal with rfl | rfl <;> exact hb
  have hset := heap_set (o' := .mapIter (some b) since (seen.push e.born) clock) hr1
  have hb' : (setBlock w1 r (.mapIter (some b) since (seen.push e.born) clock)).heap[b]? = some (.map es clock) := (hset.2 b (fun e1 => hne e1.symm)).trans hb1
  have hen := run_entry_at (P := P) _ r b since seen es clock e hset.1 hb' hem ((stamped_iff es clock).1 hs).2.1
  rw [hk, hv] at hen hrun
  refine Or.inr ⟨p, List.mem_of_getElem? hp, by rw [hl1 j e p hj hp, hes]; rfl, _, _, hrun,
   ⟨es, clock, since, seen.push e.born, clock, hb', hs, hE, hset.1, hold, rfl, fun i e' p' he' hp' => ?_, hsk, hsk⟩, left_shrinks es seen e he, ?_, ?_, hen⟩
  ·show (left p'.1 && decide (p'.1 ≠ p.1)) = _
   rw [hl1 i e' p' he' hp', born_eq_of hE hs he' hp' hj hp, contains_push]
   cases seen.contains e'.born <;> cases (e'.born == e.born) <;> rfl
  ·rcases hal with rfl | rfl <;> exact ⟨rfl, rfl, rfl, by simp [setBlock], fun i _ hi => hset.2 i (fun e1 => hi (by rw [e1]))⟩
  ·rcases hal with rfl | rfl <;> simp [setBlock]
theorem IR.drop {t e : TypeId} (h : IR mk ok w b r L left cnt) (K : KeyIs P k mk ok) (ht : P.underlying t = some (.map k e)) {x : α} (hx : ok x) (ty : TypeId) :
  ∃ w' cnt', (Builtin.delete_ #[t, k] ty #[.map (some b), mk x]).run P w = .ok (.tuple #[]) w' ∧ IR mk ok w' b r (delL L x) left cnt' ∧ cnt' ≤ cnt ∧ w.grownBy w' (some b) ∧ w'.heap.size = w.heap.size := by
 have hne := h.ne
 obtain ⟨es, clock, since, seen, c0, hb, hs, hE, hr, hold, rfl, hl1, hsc, hsk⟩ := h
 obtain ⟨l, hl⟩ := K.key x hx
 have hg : ∀ es' clock', w.grownBy (setBlock w b (.map es' clock')) (some b) := fun es' clock' => ⟨rfl, rfl, rfl, by simp [setBlock], fun i _ hi => heap_setBlock_other hb _ (fun e => hi (by rw [e]))⟩
 rcases hE.find K w hx with ⟨h1, h1', h2⟩ | ⟨j, e0, u, h1, h2, h3, h4, h5⟩
 ·refine ⟨_, _, ?_, ⟨es, clock, since, seen, c0, heap_setBlock_same hb _, hs, ?_, (heap_setBlock_other hb _ hne).trans hr, hold, rfl, ?_, hsc, hsk⟩, Nat.le_refl _, hg _ _, by simp [setBlock]⟩
  ·simp [Builtin.delete_, run_underlying ht, MapKept.run_getObj_map hb, K.keyed.check w _ hl, h1, MapKept.run_setObj_map _ hb, Result.andThen, setBlock]
  ·rw [delL_new h2]; exact hE
  ·rw [delL_new h2]; exact hl1
 ·obtain ⟨hsub, hE'⟩ := hE.erase hs h2 h5
  refine ⟨_, _, ?_, ⟨es.eraseIdxIfInBounds j, clock, since, seen, c0, heap_setBlock_same hb _, stamped_erase hs j, hE', (heap_setBlock_other hb _ hne).trans hr, fun y hy => hold y (by rw [hsub] at hy; exact (List.eraseIdx_sublist _ _).subset hy), rfl, ?_, hsc, hsk⟩, ?_, hg _ _, by simp [setBlock]⟩
  ·simp [Builtin.delete_, run_underlying ht, MapKept.run_getObj_map hb, K.keyed.check w _ hl, h1, MapKept.run_setObj_map _ hb, Result.andThen, setBlock]
  ·intro i e' p' he' hp'
   rw [hsub] at he'
   rw [delL_at (hE.nodup hs) h5] at hp'
   rw [List.getElem?_eraseIdx] at he' hp'
   split at he'
   ·rename_i hij
    rw [if_pos hij] at hp'
    exact hl1 _ _ _ he' hp'
   ·rename_i hij
    rw [if_neg hij] at hp'
    exact hl1 _ _ _ he' hp'
  ·unfold leftOf
   have e1 : ∀ a : Array MapEntry, (a.filter fun e => !seen.contains e.born).size = (a.toList.filter fun e => !seen.contains e.born).length := fun a => by rw [← Array.toList_filter, Array.length_toList]
   rw [e1, e1, hsub]
   exact List.Sublist.length_le ((List.eraseIdx_sublist _ _).filter _)
theorem IR.left_eq (h : IR mk ok w b r L left cnt) : w.rangeLeft b r = cnt := by
 obtain ⟨es, clock, since, seen, c0, hb, _, _, hr, _, hc, _⟩ := h
 simp only [World.rangeLeft, hb, hr]
 exact hc
end
section
variable {α : Type} [DecidableEq α] {P : Program} {k : TypeId} {mk : α → Value} {ok : α → Prop} {b r : Nat} {L : List (α × Value)} {w : World} {ops : Array Oper} {rest : List Oper} {o : Oper} {a : Act} {Q : Exit → Act → World → Prop}
theorem wpList_store_im (hg : o.guard = none) (m x v : Operand) (t : TypeId) (hop : o.op = Op.mapUpdate t m x v) {e : TypeId} (K : KeyIs P k mk ok) (ht : P.underlying t = some (.map k e))
  (hm : a.eval m = .map (some b)) (h : IM mk ok w b L) {y : α} (hx : a.eval x = mk y) (hy : ok y) {u : Value} (hv : a.eval v = u)
  (hK : ∀ w', IM mk ok w' b (putL L y u) → w.grownBy w' (some b) → w'.heap.size = w.heap.size → wpList P ops Q rest (a.put o.dst undef) w') : wpList P ops Q (o :: rest) a w := by
 refine wpList_plain hg fun K' hK' => ?_
 obtain ⟨w', hrun, r1, r2, r3⟩ := h.store K ht hy u
 unfold Oper.wp
 simp [execOp, hop, hm, hx, hv, hrun, Result.andThen]
 exact hK' _ _ (hK w' r1 r2 r3)
theorem wpList_delete_im (hg : o.guard = none) (m x : Operand) (t : TypeId) (hop : o.op = Op.call { callee := Callee.builtin Builtin.delete, args := #[m, x], argTypes := #[t, k] }) {e : TypeId} (K : KeyIs P k mk ok) (ht : P.underlying t = some (.map k e))
  (hm : a.eval m = .map (some b)) (h : IM mk ok w b L) {y : α} (hx : a.eval x = mk y) (hy : ok y)
  (hK : ∀ w', IM mk ok w' b (delL L y) → w.grownBy w' (some b) → w'.heap.size = w.heap.size → wpList P ops Q rest (a.put o.dst (.tuple #[])) w') : wpList P ops Q (o :: rest) a w := by
 refine wpList_plain hg fun K' hK' => ?_
 obtain ⟨w', hrun, r1, r2, r3⟩ := h.drop K ht hy o.type
 unfold Oper.wp
 simp [execOp, hop, resolve, invoke, builtin, hm, hx, hrun, Result.andThen]
 exact hK' _ _ (hK w' r1 r2 r3)
theorem wpList_delete_ir (hg : o.guard = none) (m x : Operand) (t : TypeId) (hop : o.op = Op.call { callee := Callee.builtin Builtin.delete, args := #[m, x], argTypes := #[t, k] }) {e : TypeId} (K : KeyIs P k mk ok) (ht : P.underlying t = some (.map k e))
  (hm : a.eval m = .map (some b)) {left : α → Bool} {cnt : Nat} (h : IR mk ok w b r L left cnt) {y : α} (hx : a.eval x = mk y) (hy : ok y)
  (hK : ∀ w' cnt', IR mk ok w' b r (delL L y) left cnt' → cnt' ≤ cnt → w.grownBy w' (some b) → w'.heap.size = w.heap.size → wpList P ops Q rest (a.put o.dst (.tuple #[])) w') : wpList P ops Q (o :: rest) a w := by
 refine wpList_plain hg fun K' hK' => ?_
 obtain ⟨w', cnt', hrun, r1, r2, r3, r4⟩ := h.drop K ht hy o.type
 unfold Oper.wp
 simp [execOp, hop, resolve, invoke, builtin, hm, hx, hrun, Result.andThen]
 exact hK' _ _ (hK w' cnt' r1 r2 r3 r4)
theorem wpList_len_im (hg : o.guard = none) (m : Operand) (t : TypeId) (hop : o.op = Op.call { callee := Callee.builtin Builtin.len, args := #[m], argTypes := #[t] }) {e : TypeId} (ht : P.underlying t = some (.map k e))
  (hm : a.eval m = .map (some b)) (h : IM mk ok w b L) (hK : wpList P ops Q rest (a.put o.dst (.int .i64 L.length)) w) : wpList P ops Q (o :: rest) a w := by
 refine wpList_plain hg fun K' hK' => ?_
 unfold Oper.wp
 simp [execOp, hop, resolve, invoke, builtin, hm, h.len ht o.type, Result.andThen]
 exact hK' _ _ hK
theorem wpList_range_im (hg : o.guard = none) (m : Operand) (t : TypeId) (hop : o.op = Op.range t m) {e : TypeId} (ht : P.underlying t = some (.map k e)) (hm : a.eval m = .map (some b)) (h : IM mk ok w b L)
  (hK : ∀ w', IR mk ok w' b w.heap.size L (fun _ => true) L.length → w.grownBy w' none → w'.heap.size = w.heap.size + 1 → wpList P ops Q rest (a.put o.dst (.pointer (some ⟨w.heap.size, 0, none⟩))) w') : wpList P ops Q (o :: rest) a w := by
 refine wpList_plain hg fun K' hK' => ?_
 obtain ⟨w', hrun, r1, r2, r3⟩ := h.range ht
 unfold Oper.wp
 simp [execOp, hop, hm, hrun, Result.andThen]
 exact hK' _ _ (hK w' r1 r2 r3)
theorem wpList_next_ir (hg : o.guard = none) (it : Operand) (hop : o.op = Op.next it false) {left : α → Bool} {cnt : Nat} (hit : a.eval it = .pointer (some ⟨r, 0, none⟩)) (h : IR mk ok w b r L left cnt)
  (hDone : cnt = 0 → (∀ p ∈ L, left p.1 = false) → wpList P ops Q rest (a.put o.dst (.tuple #[.bool false])) w)
  (hMore : ∀ (x : α) (v : Value) (w' : World) (cnt' : Nat), (x, v) ∈ L → left x = true → IR mk ok w' b r L (fun y => left y && decide (y ≠ x)) cnt' → cnt' < cnt → w.grownBy w' (some r) → w'.heap.size = w.heap.size →
   (Instr.entry (.pointer (some ⟨r, 0, none⟩))).run P w' = .ok (.tuple #[mk x, v]) w' → wpList P ops Q rest (a.put o.dst (.tuple #[.bool true, mk x, v])) w') : wpList P ops Q (o :: rest) a w := by
 refine wpList_plain hg fun K' hK' => ?_
 unfold Oper.wp
 rcases h.next (P := P) o.type with ⟨h0, hl, hrun⟩ | ⟨⟨x, v⟩, hp, hl, w', cnt', hrun, hrg, hlt, hgr, hsz, hen⟩
 ·simp [execOp, hop, hit, hrun, Result.andThen]
  exact hK' _ _ (hDone h0 hl)
 ·simp [execOp, hop, hit, hrun, Result.andThen]
  exact hK' _ _ (hMore x v w' cnt' hp hl hrg hlt hgr hsz hen)
def RDone {α : Type} (L : List (α × Value)) (left : α → Bool) (cnt : Nat) : Prop := cnt = 0 ∧ ∀ p ∈ L, left p.1 = false
def RMore {α : Type} [DecidableEq α] (mk : α → Value) (ok : α → Prop) (w w' : World) (b r : Nat) (L : List (α × Value)) (left : α → Bool) (cnt : Nat) (x : α) (v : Value) (cnt' : Nat) : Prop :=
 (x, v) ∈ L ∧ left x = true ∧ IR mk ok w' b r L (fun y => left y && decide (y ≠ x)) cnt' ∧ cnt' < cnt ∧ w.grownBy w' (some r) ∧ w'.heap.size = w.heap.size
theorem wpList_next_hid (hg : o.guard = none) (it : Operand) (hop : o.op = Op.next it false) {left : α → Bool} {cnt : Nat} (hit : a.eval it = .pointer (some ⟨r, 0, none⟩)) (h : IR mk ok w b r L left cnt)
  (hDone : RDone L left cnt → wpList P ops Q rest (a.put o.dst (.tuple #[.bool false])) w)
  (hMore : ∀ (x : α) (v : Value) (w' : World) (cnt' : Nat), RMore mk ok w w' b r L left cnt x v cnt' →
   (Instr.entry (.pointer (some ⟨r, 0, none⟩))).run P w' = .ok (.tuple #[mk x, v]) w' → wpList P ops Q rest (a.put o.dst (.tuple #[.bool true, mk x, v])) w') : wpList P ops Q (o :: rest) a w :=
 wpList_next_ir hg it hop hit h (fun h0 hl => hDone ⟨h0, hl⟩) fun x v w' cnt' h1 h2 h3 h4 h5 h6 h7 => hMore x v w' cnt' ⟨h1, h2, h3, h4, h5, h6⟩ h7
end
open Go.RowKit
def Of (E : TypeId) (w : World) (base : Nat) (A : Option Addr) (n c : Nat) (xs : List Value) : Prop :=
 xs.length = n ∧ ((A = none ∧ n = 0 ∧ c = 0) ∨ ∃ g off cur, A = some ⟨g, off, none⟩ ∧ base ≤ g ∧ w.heap[g]? = some (.cells cur E (0, 0)) ∧ n ≤ c ∧ c ≤ maxLen ∧ off + c = cur.size ∧ (cur.toList.drop off).take n = xs)
section
variable {E : TypeId} {w w' : World} {base : Nat} {A : Option Addr} {n c : Nat} {xs : List Value}
theorem Of.none_ (E : TypeId) (w : World) (base : Nat) : Of E w base none 0 0 [] := ⟨rfl, .inl ⟨rfl, rfl, rfl⟩⟩
theorem Ow.of (h : Ow E w base A n c xs) : Of E w base A n c xs := by
 refine ⟨h.length, ?_⟩
 rcases h.cases_ with ⟨h1, h2, h3, _⟩ | ⟨g, cur, h1, h2, h3, h4, h5, h6, h7⟩
 ·exact .inl ⟨h1, h2, h3⟩
 ·exact .inr ⟨g, 0, cur, h1, h2, h3, h4, h5, by omega, h7⟩
theorem Of.length (h : Of E w base A n c xs) : xs.length = n := h.1
theorem Of.lt (h : Of E w base A n c xs) : ∀ g, blk A = some g → base ≤ g ∧ g < w.heap.size := by
 intro g hg
 rcases h.2 with ⟨rfl, _⟩ | ⟨g', off, cur, rfl, h1, h2, _⟩
 ·cases hg
 ·have e : g' = g := by simpa [blk] using hg
  subst e
  exact ⟨h1, (Array.getElem?_eq_some_iff.1 h2).1⟩
theorem Of.kept {row : Option Nat} (h : Of E w base A n c xs) (hg : w.grownBy w' row) (hne : blk A = none ∨ blk A ≠ row) : Of E w' base A n c xs := by
 refine ⟨h.1, ?_⟩
 rcases h.2 with h1 | ⟨g, off, cur, rfl, h1, h2, h3⟩
 ·exact .inl h1
 ·refine .inr ⟨g, off, cur, rfl, h1, ?_, h3⟩
  rw [hg.block g (Array.getElem?_eq_some_iff.1 h2).1 (by simpa [blk] using hne)]
  exact h2
theorem Of.of_block (h : Of E w base A n c xs) (hb : ∀ g, blk A = some g → w'.heap[g]? = w.heap[g]?) : Of E w' base A n c xs := by
 refine ⟨h.1, ?_⟩
 rcases h.2 with h1 | ⟨g, off, cur, rfl, h1, h2, h3⟩
 ·exact .inl h1
 ·exact .inr ⟨g, off, cur, rfl, h1, (hb g rfl).trans h2, h3⟩
theorem Of.rw (h : Of E w base A n c xs) : Rw w w.heap.size A xs := fun hn => by
 rcases h.2 with ⟨_, rfl, _⟩ | ⟨g, off, cur, rfl, _, hg, _, _, _, ht⟩
 ·have := h.1; omega
 ·refine ⟨g, off, rfl, (h.lt g rfl).2, fun j u hu => ?_⟩
  rw [cell_of_row w g (off + j) cur E (0, 0) hg]
  rw [← ht, List.getElem?_take] at hu
  split at hu
  ·rw [List.getElem?_drop] at hu; simpa using hu
  ·cases hu
end
theorem heap_setCells_same (w : World) (g : Nat) (E : TypeId) (fz : Nat × Nat) : ∀ (vs : List Value) (o : Nat) (w : World) (cur : Array Value), w.heap[g]? = some (.cells cur E fz) → o + vs.length ≤ cur.size →
  ∃ cur', (w.setCells g o vs).heap[g]? = some (.cells cur' E fz) ∧ cur'.size = cur.size ∧ cur'.toList = cur.toList.take o ++ vs ++ cur.toList.drop (o + vs.length)
 | [], o, w, cur, h, _ => ⟨cur, h, rfl, by simp⟩
 | v :: r, o, w, cur, h, hl => by
  simp only [List.length_cons] at hl
  have h1 : (w.setCell ⟨g, o, none⟩ v).heap[g]? = some (.cells (cur.setIfInBounds o v) E fz) := by
   simp [World.setCell, Array.getElem?_modify, h]
  obtain ⟨cur', h2, h3, h4⟩ := heap_setCells_same w g E fz r (o + 1) _ _ h1 (by simp; omega)
  refine ⟨cur', h2, by simpa using h3, ?_⟩
  rw [h4, Array.toList_setIfInBounds]
  have ho : o < cur.toList.length := by simp; omega
  rw [List.take_set, List.drop_set_of_lt (by omega), List.take_succ_eq_append_getElem ho, List.set_append_right _ _ (by simp; omega)]
  simp [List.length_take, show min o cur.size = o from by simp at ho; omega, Nat.add_assoc, Nat.add_comm 1]
theorem size_setCells (g : Nat) : ∀ (vs : List Value) (o : Nat) (w : World), (w.setCells g o vs).heap.size = w.heap.size
 | [], o, w => rfl
 | v :: r, o, w => (size_setCells g r (o + 1) _).trans (by simp [World.setCell])
theorem tape_setCells (g : Nat) : ∀ (vs : List Value) (o : Nat) (w : World), (w.setCells g o vs).tape = w.tape
 | [], o, w => rfl
 | v :: r, o, w => (tape_setCells g r (o + 1) _).trans rfl
theorem grownBy_setCells (w : World) (g o : Nat) (vs : List Value) : w.grownBy (w.setCells g o vs) (some g) :=
 ⟨World.os_setCells w g _ _, tape_setCells g _ _ _, World.output_setCells w g _ _, Nat.le_of_eq (size_setCells g _ _ _).symm, fun k hk' hne => World.heap_setCells_other w g _ vs hk' (fun e => hne (by rw [e]))⟩
section
variable {P : Program} {w : World}
theorem run_append_of (t ty e : TypeId) (z : Value) (bytes : Nat) (ht : P.underlying t = some (.slice e))
  (hinfo : (P.info? e).map (fun i => (i.zero, i.size, i.bytes)) = some (some z, 1, bytes)) (hzs : z.cells.size = 1)
  {base : Nat} {A : Option Addr} {n c : Nat} {xs : List Value} (hown : Of e w base A n c xs)
  {B : Nat} {A2 : Option Addr} {m c2 : Nat} {ys : List Value} (hr : Rw w B A2 ys) (hm : ys.length = m) (hm0 : 0 < m) (h1 : ∀ u ∈ ys, u.oneCell' = true)
  (h63 : n + m ≤ maxLen) (hbytes : (n + m) * bytes ≤ 140737488355328) (hbase : base ≤ w.heap.size) :
  ∃ A' c' w', (Builtin.append_ #[t, t] ty #[.slice A n c, .slice A2 m c2]).run P w = .ok (.slice A' (n + m) c') w' ∧ Of e w' base A' (n + m) c' (xs ++ ys) ∧ w.grownBy w' (blk A) ∧
   (blk A' = blk A ∨ blk A' = some w.heap.size) ∧ blk A' ≠ none := by
 obtain ⟨i, hi, hz0, hz1, hz2⟩ := info_parts hinfo
 obtain ⟨b2, off2, rfl, hb2, hcells⟩ := hr (by omega)
 have hnews : ∀ j u, ys[j]? = some u → w.cell? ((⟨b2, off2, none⟩ : Addr).add j) = some u := fun j u hu => by rw [add_eq]; exact hcells j u hu
 rcases hown.2 with ⟨rfl, rfl, rfl⟩ | ⟨g, off, cur, rfl, hb, hh, hnc, hcm, hcs, hx⟩
 ·have hx0 : xs = [] := List.eq_nil_of_length_eq_zero hown.1
  subst hx0
  obtain ⟨v', w', hrun, h2, h3, h4, h5⟩ := run_append_own_at (P := P) w base t ty e i z 1 bytes ht hi hz0 hz1 hz2 hzs (by omega) (.slice none 0 0) 0 [] (World.ownsRow_nil w base e 1) _ m c2 ys (by omega) hnews h1 h63 hbytes hbase
  have hv : ∃ A' c', v' = .slice A' (0 + m) c' ∧ A' ≠ none := by
   rcases h2.2 with ⟨h6, h7⟩ | ⟨g, cap, cur, h6, _⟩
   ·have := h2.1; rw [h7] at this; simp at this; omega
   ·exact ⟨_, _, h6, by simp⟩
  obtain ⟨A', c', rfl, hne⟩ := hv
  rw [ownBlock_slice, ownBlock_slice] at h5
  rw [ownBlock_slice] at h3
  refine ⟨A', c', w', hrun, Ow.of h2, h3, h5, ?_⟩
  cases A' with
  | none => exact absurd rfl hne
  | some a => simp [blk]
 ·by_cases hroom : n + m ≤ c
  ·have hr := run_append_room_cells (P := P) w t ty e i ht hi g off n c ⟨b2, off2, none⟩ m c2 ys (by rw [hz1]; omega) hnews h1 hroom
    (fun j hj => by rw [hz1, cell_of_row w g _ cur e (0, 0) hh]; simp; omega) (fun j hj => by simp [World.frozen?, hh])
   rw [hz1] at hr
   obtain ⟨cur', hc1, hc2, hc3⟩ := heap_setCells_same w g e (0, 0) ys (off + n * 1) w cur hh (by omega)
   refine ⟨some ⟨g, off, none⟩, c, _, hr, ⟨by rw [List.length_append]; have := hown.1; omega, .inr ⟨g, off, cur', rfl, hb, hc1, hroom, hcm, by omega, ?_⟩⟩, ?_, .inl rfl, by simp [blk]⟩
   ·rw [hc3]
    have e1 : off ≤ cur.toList.length := by simp; omega
    have e2 : (cur.toList.take (off + n * 1)).drop off = (cur.toList.drop off).take n := by rw [List.drop_take]; congr 1; omega
    rw [List.append_assoc, List.drop_append_of_le_length (by simp; omega), e2, hx, ← List.append_assoc]
    rw [← show (xs ++ ys).length = n + m by rw [List.length_append]; have := hown.1; omega]
    exact List.take_left
   ·exact grownBy_setCells w g _ ys
  ·have holds : ∀ j u, xs[j]? = some u → w.cell? ((⟨g, off, none⟩ : Addr).add j) = some u := fun j u hu => by
    obtain ⟨b3, off3, e3, _, hc⟩ := hown.rw.at_ hu
    injection e3 with e3
    rw [e3, add_eq]; exact hc
   subst hz2
   have hlo : xs.length = n * i.size := by rw [hz1]; have := hown.1; omega
   have hly : ys.length = m * i.size := by rw [hz1]; omega
   have hg : c < n + m := by omega
   have hgr := run_append_grow (P := P) w t ty e i z ht hi hz0 ⟨g, off, none⟩ n c xs hlo holds ⟨b2, off2, none⟩ m c2 ys hly hnews hg (by simp only [maxLen] at h63; omega) (growslice_fits hg hbytes)
   have hge := grownCap_ge w (n + m) c e
   have hcm' : grownCap w (n + m) c e ≤ maxLen := grownCap_le_maxLen w (n + m) c e h63
   refine ⟨_, _, _, hgr, ⟨by rw [List.length_append]; have := hown.1; omega, .inr ⟨w.heap.size, 0, _, rfl, hbase, heap_alloc_new w.drew _, hge, hcm', ?_, ?_⟩⟩, ⟨rfl, rfl, rfl, by simp, fun k hk _ => heap_alloc_old w.drew _ hk⟩, .inr rfl, by simp [blk]⟩
   ·have := hown.1
    simp only [Array.size_append, List.size_toArray, size_zeroCells, hzs]
    omega
   ·simp only [Array.toList_append, List.append_assoc, List.drop_zero]
    rw [← List.append_assoc, ← show (xs ++ ys).length = n + m by rw [List.length_append]; have := hown.1; omega]
    exact List.take_left
end
open Go.RowKit
structure Chg (F : Nat → Prop) (w w' : World) : Prop where
 os : w'.os = w.os
 tape : w'.tape = w.tape
 output : w'.output = w.output
 size : w.heap.size ≤ w'.heap.size
 block : ∀ b, b < w.heap.size → ¬ F b → w'.heap[b]? = w.heap[b]?
theorem Chg.refl (F : Nat → Prop) (w : World) : Chg F w w := ⟨rfl, rfl, rfl, Nat.le_refl _, fun _ _ _ => rfl⟩
theorem Chg.of_grown {F : Nat → Prop} {w w' : World} {row : Option Nat} (h : w.grownBy w' row) (hr : ∀ b, row = some b → F b) : Chg F w w' :=
 ⟨h.os, h.tape, h.output, h.size, fun b hb hF => h.block b hb (fun e => hF (hr b e.symm))⟩
theorem Chg.of_below {F : Nat → Prop} {w w' : World} (h : Below w.heap.size w w') : Chg F w w' := ⟨h.os, h.tape, h.output, h.size, fun b hb _ => h.block b hb⟩
theorem Chg.below {F : Nat → Prop} {w w' : World} {B : Nat} (h : Chg F w w') (hF : ∀ b, F b → B ≤ b) (hB : B ≤ w.heap.size) : Below B w w' :=
 ⟨h.os, h.tape, h.output, h.size, fun b hb => h.block b (by omega) (fun e => by have := hF b e; omega)⟩
theorem Chg.trans {F G : Nat → Prop} {a b c : World} (h : Chg F a b) (k : Chg G b c) (hG : ∀ x, G x → F x ∨ a.heap.size ≤ x) : Chg F a c :=
 ⟨k.os.trans h.os, k.tape.trans h.tape, k.output.trans h.output, Nat.le_trans h.size k.size, fun x hx hF => (k.block x (Nat.lt_of_lt_of_le hx h.size) (fun e => by rcases hG x e with e | e; exact hF e; omega)).trans (h.block x hx hF)⟩
theorem Chg.mono {F G : Nat → Prop} {a b : World} (h : Chg F a b) (hG : ∀ x, x < a.heap.size → F x → G x) : Chg G a b := ⟨h.os, h.tape, h.output, h.size, fun x hx hn => h.block x hx (fun e => hn (hG x hx e))⟩
theorem Chg.drewN {F : Nat → Prop} {w w' : World} (h : Chg F w w') (n : Nat) : Chg F w (w'.drewN n) := ⟨h.os, h.tape, h.output, h.size, h.block⟩
theorem Chg.alloc {F : Nat → Prop} {w w' : World} (h : Chg F w w') (o : Obj) : Chg F w (w'.alloc o) :=
 h.trans (Chg.of_grown (F := fun _ => False) (World.grownBy_alloc w' o none) (fun _ e => by cases e)) (fun _ e => e.elim)
theorem Chg.setCell {F : Nat → Prop} {w w' : World} (h : Chg F w w') {p : Addr} (hp : F p.block ∨ w.heap.size ≤ p.block) (u : Value) : Chg F w (w'.setCell p u) :=
 h.trans (G := fun b => b = p.block) ⟨rfl, rfl, rfl, by simp [World.setCell], fun b _ hb => Below.heap_setCell w' p u b hb⟩ (fun x e => by rw [e]; exact hp)
theorem size_setCell (w : World) (p : Addr) (u : Value) : (w.setCell p u).heap.size = w.heap.size := by simp [World.setCell]
theorem Chg.cell {F : Nat → Prop} {w w' : World} (h : Chg F w w') {p : Addr} (hp : p.block < w.heap.size) (hF : ¬ F p.block) : w'.cell? p = w.cell? p := World.cell?_of_block (h.block _ hp hF)
theorem Bk.chg {F : Nat → Prop} {w w' : World} {g : Nat} {t : TypeId} {cs : Array Value} (h : Bk w g t cs) (hc : Chg F w w') (hF : ¬ F g) : Bk w' g t cs := (hc.block g h.lt hF).trans h
end Go.Proofs.YtaeafkdfbcppgaaGreat
