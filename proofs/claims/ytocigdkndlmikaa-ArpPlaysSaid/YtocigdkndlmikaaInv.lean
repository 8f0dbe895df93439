/- Proved: a region that draws its order, by an invariant over what has come up so far: each operation is shown once, not once an order. Conditions: as each law says, for any program. -/
import Derived.Orders
import Derived.RegionCalls
import Derived.WalkKit
set_option linter.unusedVariables false
set_option linter.unusedSectionVars false
namespace Go.Proofs.Ytocigdkndlmikaa
open Go.RowKit

section
variable {P : Program} {ops : Array Oper} {Q : Exit → Act → World → Prop} {md : Region.Mode}

/-- How many have not come up. -/
def openN (listed : Array Bool) : Nat := listed.toList.count false

theorem count_set_lt : ∀ (l : List Bool) (i : Nat), l[i]? = some false → (l.set i true).count false < l.count false
  | [], i, h => by simp at h
  | b :: r, 0, h => by
    simp at h; subst h
    simp
  | b :: r, i + 1, h => by
    simp only [List.getElem?_cons_succ] at h
    have := count_set_lt r i h
    simp only [List.set_cons_succ, List.count_cons]
    omega
theorem openN_set {listed : Array Bool} {i : Nat} (h : listed.getD i true = false) : openN (listed.setIfInBounds i true) < openN listed := by
  unfold openN
  rw [Array.toList_setIfInBounds]
  refine count_set_lt _ _ ?_
  rw [Array.getElem?_toList]
  rcases Nat.lt_or_ge i listed.size with hl | hl
  · rw [Array.getElem?_eq_getElem hl]
    simpa [Array.getD, hl] using h
  · simp [Array.getD, Nat.not_lt.2 hl] at h
theorem openN_zero {listed : Array Bool} (h : openN listed = 0) (j : Nat) : listed.getD j true = true := by
  unfold openN at h
  rw [List.count_eq_zero] at h
  rcases Nat.lt_or_ge j listed.size with hl | hl
  · have : listed[j] ≠ false := fun e => h (by rw [← e]; simp)
    simp only [Array.getD, hl, dif_pos]
    simpa using this
  · simp [Array.getD, Nat.not_lt.2 hl]

theorem ready_nil_of {listed : Array Bool} (h : ∀ j, listed.getD j true = true) : Region.ready md ops listed = [] := by
  rw [List.eq_nil_iff_forall_not_mem]
  intro i hi
  have := (mem_ready.1 hi).1
  rw [h i] at this
  cases this

/-- An invariant, kept by each operation that may come up. -/
theorem wpAny_inv {Inv : Array Bool → Act → World → Prop}
    (step : ∀ i listed a w, i ∈ Region.ready md ops listed → Inv listed a w → wpOp P ops Q i (fun a' w' => Inv (listed.setIfInBounds i true) a' w') a w)
    (done : ∀ listed a w, Region.ready md ops listed = [] → Inv listed a w → Q .normal a w) :
    ∀ (fuel : Nat) (listed : Array Bool) (a : Act) (w : World), Inv listed a w → openN listed ≤ fuel → wpAny P md ops Q fuel listed a w
  | 0, listed, a, w, h, hl =>
    have hr : Region.ready md ops listed = [] := ready_nil_of fun j => openN_zero (by omega) j
    ⟨hr, done _ _ _ hr h⟩
  | fuel + 1, listed, a, w, h, hl =>
    ⟨fun hr => done _ _ _ hr h, fun i hi => wpOp_mono (fun a' w' h' => wpAny_inv step done fuel _ a' w' h' (by have := openN_set (mem_ready.1 hi).1; omega)) (step i listed a w hi h)⟩

/-- Each operation waits for earlier ones alone. -/
def backB (md : Region.Mode) (ops : Array Oper) : Bool := (List.range ops.size).all fun j => match ops[j]? with
  | some o => o.after.all fun e => !Region.binds md e || decide (e.on < j)
  | none => true
theorem backB_spec (h : backB md ops = true) {j : Nat} {o : Oper} (ho : ops[j]? = some o) : ∀ e ∈ o.after, Region.binds md e = true → e.on < j := by
  intro e he hb
  have hj : j < ops.size := (Array.getElem?_eq_some_iff.1 ho).1
  have h1 := List.all_eq_true.1 h j (List.mem_range.2 hj)
  simp only [ho] at h1
  have h2 := Array.all_eq_true_iff_forall_mem.1 h1 e he
  simpa [hb] using h2
/-- Where none may come up, all have. -/
theorem all_listed (hb : backB md ops = true) {listed : Array Bool} (hs : listed.size = ops.size) (hr : Region.ready md ops listed = []) : ∀ j, j < ops.size → listed.getD j false = true := by
  intro j
  induction j using Nat.strongRecOn with
  | ind j ih =>
    intro hj
    cases hc : listed.getD j false with
    | true => rfl
    | false =>
      exfalso
      have ho : ops[j]? = some ops[j] := Array.getElem?_eq_getElem hj
      have hm : j ∈ Region.ready md ops listed := by
        refine mem_ready.2 ⟨?_, _, ho, fun e he hbd => ?_⟩
        · have : j < listed.size := by omega
          simpa [Array.getD, this] using hc
        · have := backB_spec hb ho e he hbd
          exact ih _ this (by omega)
      rw [hr] at hm
      cases hm

/-! ### the frame as a function of what has come up -/
def upd {β : Type} (f : Nat → β) (i : Nat) (u : β) : Nat → β := fun j => if j = i then u else f j
theorem upd_same {β : Type} (f : Nat → β) (i : Nat) (u : β) : upd f i u i = u := by simp [upd]
theorem upd_ne {β : Type} (f : Nat → β) {i j : Nat} (u : β) (h : j ≠ i) : upd f i u j = f j := by simp [upd, h]

/-- The frame, with the values of those that have come up. -/
def frL (v : Nat → Value) (L : Nat → Bool) : List (Option Tmp) → Nat → Act → Act
  | [], _, a => a
  | d :: r, k, a => frL v L r (k + 1) (if L k then a.put d (v k) else a)

theorem frL_congr {v v' : Nat → Value} {L L' : Nat → Bool} : ∀ (ds : List (Option Tmp)) (k : Nat) (a : Act), (∀ i, k ≤ i → L i = L' i) → (∀ i, k ≤ i → L i = true → v i = v' i) → frL v L ds k a = frL v' L' ds k a
  | [], _, _, _, _ => rfl
  | d :: r, k, a, h1, h2 => by
    rw [frL, frL, frL_congr r (k + 1) _ (fun i hi => h1 i (by omega)) (fun i hi => h2 i (by omega)), ← h1 k (Nat.le_refl _)]
    cases hL : L k with
    | false => rfl
    | true => rw [h2 k (Nat.le_refl _) hL]
theorem frL_full {v : Nat → Value} {L : Nat → Bool} : ∀ (ds : List (Option Tmp)) (k : Nat) (a : Act), (∀ i, k ≤ i → i < k + ds.length → L i = true) → frL v L ds k a = frL v (fun _ => true) ds k a
  | [], _, _, _ => rfl
  | d :: r, k, a, h => by
    rw [frL, frL, h k (Nat.le_refl _) (by simp), frL_full r (k + 1) _ (fun i h1 h2 => h i (by omega) (by simp at h2 ⊢; omega))]
/-- A store of another temporary goes ahead. -/
theorem frL_put {v : Nat → Value} {L : Nat → Bool} {d : Option Tmp} {u : Value} : ∀ (ds : List (Option Tmp)) (k : Nat) (a : Act), (∀ t, d = some t → some t ∉ ds) → frL v L ds k (a.put d u) = (frL v L ds k a).put d u
  | [], _, _, _ => rfl
  | e :: r, k, a, h => by
    rw [frL, frL, ← frL_put r (k + 1) _ (fun t ht => fun hm => h t ht (List.mem_cons_of_mem _ hm))]
    cases L k with
    | false => rfl
    | true =>
      simp only [if_true]
      rw [Act.put_comm a u (v k) (fun t ht e2 => h t ht (by rw [← e2]; exact List.mem_cons_self))]
/-- The dsts are apart. -/
def apartL : List (Option Tmp) → Bool
  | [] => true
  | none :: r => apartL r
  | some t :: r => !r.contains (some t) && apartL r
theorem apartL_cons {d : Option Tmp} {r : List (Option Tmp)} (h : apartL (d :: r) = true) : (∀ t, d = some t → some t ∉ r) ∧ apartL r = true := by
  cases d with
  | none => exact ⟨(fun t ht => by cases ht), h⟩
  | some t =>
    simp only [apartL, Bool.and_eq_true, Bool.not_eq_true'] at h
    refine ⟨fun t' ht hm => ?_, h.2⟩
    injection ht with ht
    subst ht
    have := h.1
    rw [List.contains_eq_mem] at this
    simp [hm] at this
/-- One more comes up. -/
theorem frL_next {v : Nat → Value} {L : Nat → Bool} {u : Value} {i : Nat} {d : Option Tmp} : ∀ (ds : List (Option Tmp)) (k : Nat) (a : Act), apartL ds = true → k ≤ i → ds[i - k]? = some d → L i = false →
    (frL v L ds k a).put d u = frL (upd v i u) (upd L i true) ds k a
  | [], _, _, _, _, h, _ => by simp at h
  | e :: r, k, a, hap, hk, h, hL => by
    obtain ⟨h1, h2⟩ := apartL_cons hap
    by_cases e0 : k = i
    · subst e0
      simp at h
      subst h
      rw [frL, frL, hL, upd_same, upd_same]
      simp only [if_true, Bool.false_eq_true, if_false]
      rw [← frL_put r (k + 1) a h1]
      exact frL_congr r (k + 1) _ (fun j hj => (upd_ne L true (by omega)).symm) (fun j hj _ => (upd_ne v u (by omega)).symm)
    · rw [frL, frL, upd_ne L true e0, upd_ne v u e0]
      refine frL_next r (k + 1) _ h2 (by omega) ?_ hL
      rw [show i - k = (i - (k + 1)) + 1 from by omega] at h
      simpa using h
theorem put_eval_same (a : Act) (t : Tmp) (u : Value) (h : t < a.tmps.size) : (a.put (some t) u).eval (.tmp t) = u := by
  simp [Act.put, Act.eval, Array.getD, h]
theorem put_size (a : Act) (d : Option Tmp) (u : Value) : (a.put d u).tmps.size = a.tmps.size := by
  cases d <;> simp [Act.put]
theorem frL_size {v : Nat → Value} {L : Nat → Bool} : ∀ (ds : List (Option Tmp)) (k : Nat) (a : Act), (frL v L ds k a).tmps.size = a.tmps.size
  | [], _, _ => rfl
  | d :: r, k, a => by
    rw [frL, frL_size r]
    cases L k
    · rfl
    · exact put_size _ _ _
/-- What is not written reads as ahead. -/
theorem frL_eval_other {v : Nat → Value} {L : Nat → Bool} {x : Operand} : ∀ (ds : List (Option Tmp)) (k : Nat) (a : Act), (∀ t, x = .tmp t → some t ∉ ds) → (frL v L ds k a).eval x = a.eval x
  | [], _, _, _ => rfl
  | d :: r, k, a, h => by
    rw [frL, frL_eval_other r (k + 1) _ (fun t ht hm => h t ht (List.mem_cons_of_mem _ hm))]
    cases L k with
    | false => rfl
    | true => exact Act.eval_put fun t ht e => h t e (by rw [← ht]; exact List.mem_cons_self)
theorem frL_eval {v : Nat → Value} {L : Nat → Bool} {i : Nat} {t : Tmp} : ∀ (ds : List (Option Tmp)) (k : Nat) (a : Act), apartL ds = true → k ≤ i → ds[i - k]? = some (some t) → L i = true → t < a.tmps.size →
    (frL v L ds k a).eval (.tmp t) = v i
  | [], _, _, _, _, h, _, _ => by simp at h
  | e :: r, k, a, hap, hk, h, hL, ht => by
    obtain ⟨h1, h2⟩ := apartL_cons hap
    by_cases e0 : k = i
    · subst e0
      simp at h
      subst h
      rw [frL, frL_eval_other r _ _ (fun t' ht' => by injection ht' with ht'; subst ht'; exact h1 t rfl), hL]
      simp only [if_true]
      exact put_eval_same a t _ ht
    · rw [frL]
      refine frL_eval r (k + 1) _ h2 (by omega) ?_ hL ?_
      · rw [show i - k = (i - (k + 1)) + 1 from by omega] at h
        simpa using h
      · cases L k
        · exact ht
        · rw [if_pos rfl, put_size]; exact ht

/-- What is known of the frame. -/
def FrIs (ds : List (Option Tmp)) (a0 : Act) (L : Nat → Bool) (v : Nat → Value) (f : Act) : Prop :=
  (∀ t, ds.contains (some t) = false → f.eval (.tmp t) = a0.eval (.tmp t)) ∧ (∀ j t, ds[j]? = some (some t) → L j = true → f.eval (.tmp t) = v j)
theorem FrIs.of {ds : List (Option Tmp)} {a0 : Act} (L : Nat → Bool) (v : Nat → Value) (hap : apartL ds = true) (hsz : ∀ t, some t ∈ ds → t < a0.tmps.size) : FrIs ds a0 L v (frL v L ds 0 a0) :=
  ⟨fun t ht => frL_eval_other ds 0 a0 fun t' e hm => by
    injection e with e; subst e
    rw [List.contains_eq_mem] at ht
    simp [hm] at ht,
   fun j t hj hL => frL_eval ds 0 a0 hap (Nat.zero_le _) hj hL (hsz t (List.mem_of_getElem? hj))⟩
/-- What is asked of one operation. -/
def StepInv (P : Program) (Q : Exit → Act → World → Prop) (ds : List (Option Tmp)) (a0 : Act) (R : (Nat → Bool) → (Nat → Value) → World → Prop) (i : Nat) (o : Oper) : Prop :=
  ∀ (L : Nat → Bool) (v : Nat → Value) (w : World) (f : Act), L i = false → (∀ e ∈ o.after, Region.binds .any e = true → L e.on = true) → FrIs ds a0 L v f → R L v w →
    ∀ K : Act → World → Prop, (∀ u w', R (upd L i true) (upd v i u) w' → K (f.put o.dst u) w') → o.wp P f w K Q

/-- One after the other. -/
def StepsInv (P : Program) (Q : Exit → Act → World → Prop) (ds : List (Option Tmp)) (a0 : Act) (R : (Nat → Bool) → (Nat → Value) → World → Prop) : List Oper → Nat → Prop
  | [], _ => True
  | o :: r, k => StepInv P Q ds a0 R k o ∧ StepsInv P Q ds a0 R r (k + 1)
theorem StepsInv.at_ {ds : List (Option Tmp)} {a0 : Act} {R : (Nat → Bool) → (Nat → Value) → World → Prop} : ∀ (l : List Oper) (k : Nat), StepsInv P Q ds a0 R l k → ∀ j o, l[j]? = some o → StepInv P Q ds a0 R (k + j) o
  | [], _, _, j, o, h => by simp at h
  | x :: r, k, hs, 0, o, h => by simp at h; subst h; exact hs.1
  | x :: r, k, hs, j + 1, o, h => by
    rw [List.getElem?_cons_succ] at h
    have := StepsInv.at_ r (k + 1) hs.2 j o h
    rwa [Nat.add_assoc, Nat.add_comm 1 j] at this

theorem wp_region_inv {id : Nat} {a0 : Act} {w0 : World} (ds : List (Option Tmp)) (R : (Nat → Bool) → (Nat → Value) → World → Prop) (hm : P.follows .mixedOrders = true)
    (hds : ops.toList.map (·.dst) = ds) (hback : backB .any ops = true) (hap : apartL ds = true) (hplain : ops.all (fun o => o.guard.isNone) = true)
    (hsz : ds.all (fun d => match d with | some t => decide (t < a0.tmps.size) | none => true) = true)
    (start : R (fun _ => false) (fun _ => undef) w0.drew)
    (steps : StepsInv P Q ds a0 R ops.toList 0)
    (done : ∀ (v : Nat → Value) (w : World), (∀ L, (∀ i, i < ops.size → L i = true) → R L v w → Q .normal (frL v (fun _ => true) ds 0 a0) w)) :
    (Code.region id ops true).wp P Q a0 w0 := by
  have hlen : ds.length = ops.size := by rw [← hds]; simp
  have step : ∀ i o, ops[i]? = some o → StepInv P Q ds a0 R i o := fun i o ho => by
    have := steps.at_ _ 0 i o (by rw [Array.getElem?_toList]; exact ho)
    rwa [Nat.zero_add] at this
  refine wp_region_any hm (wpAny_inv (Inv := fun listed a w => listed.size = ops.size ∧ ∃ v, a = frL v (fun j => listed.getD j false) ds 0 a0 ∧ R (fun j => listed.getD j false) v w) ?_ ?_ _ _ _ _ ⟨by simp, fun _ => undef, ?_, ?_⟩ ?_)
  · rintro i listed a w hi ⟨hs, v, rfl, hR⟩
    obtain ⟨h0, o, ho, haf⟩ := mem_ready.1 hi
    have hil : i < ops.size := (Array.getElem?_eq_some_iff.1 ho).1
    have hL : listed.getD i false = false := by
      have : i < listed.size := by omega
      simpa [Array.getD, this] using h0
    have hwant : ∀ y, Region.wanted o y = true := fun y => by
      have := Array.all_eq_true_iff_forall_mem.1 hplain o (Array.mem_of_getElem? ho)
      unfold Region.wanted
      cases hg : o.guard with
      | none => rfl
      | some g => simp [hg] at this
    unfold wpOp
    simp only [ho, hwant, if_true]
    have hd : ds[i - 0]? = some o.dst := by rw [← hds, Nat.sub_zero, List.getElem?_map, Array.getElem?_toList, ho]; rfl
    have hset : (fun j => (listed.setIfInBounds i true).getD j false) = upd (fun j => listed.getD j false) i true := by
      funext j
      unfold upd
      by_cases e : j = i
      · subst e
        have : j < listed.size := by omega
        simp [Array.getD, this]
      · rw [if_neg e]
        exact getD_set_ne false (fun h => e h.symm)
    exact .inl (step i o ho _ v w _ hL haf (FrIs.of _ v hap fun t ht => by simpa using List.all_eq_true.1 hsz _ ht) hR _ fun u w' hR' => ⟨by simpa using hs, upd v i u, by rw [hset]; exact frL_next ds 0 a0 hap (Nat.zero_le _) hd hL, by rw [hset]; exact hR'⟩)
  · rintro listed a w hr ⟨hs, v, rfl, hR⟩
    have hall := all_listed hback hs hr
    rw [frL_full ds 0 a0 (fun i _ h2 => hall i (by omega))]
    exact done v w _ hall hR
  · rw [frL_congr (v' := fun _ => undef) (L' := fun _ => false) ds 0 a0 (fun i _ => ?_) (fun _ _ _ => rfl)]
    · have : ∀ (l : List (Option Tmp)) (k : Nat), frL (fun _ => undef) (fun _ => false) l k a0 = a0 := fun l => by
        induction l with
        | nil => intro k; rfl
        | cons d r ih => intro k; rw [frL]; exact ih _
      exact (this _ _).symm
    · simp only [Array.getD]; split <;> simp
  · have e : (fun j => (Array.replicate ops.size false).getD j false) = (fun _ => false) := by funext j; simp only [Array.getD]; split <;> simp
    rw [e]; exact start
  · unfold openN; simp
end
end Go.Proofs.Ytocigdkndlmikaa
