/- Proved: a region that draws its order, by an invariant over what has come up so far: each operation is shown once, not once an order; append of a made row of zero bytes; what laying a piece's bytes does, step by step (plain); a host is given its address, and a host at the beginning; how the keys of frag's m. Conditions: as each law says. -/
import Derived.DeepKeys3
import Derived.Laws.CopyOwn
import Derived.Orders
import Derived.RegionCalls
import Derived.StillTailTactics
import Derived.Test.YtaeafkdfbcppgaaGreatT07
import Derived.Test.YtaeafkdfbcppgaaGreatT08
set_option linter.unusedSectionVars false
set_option linter.unusedSimpArgs false
set_option linter.unusedVariables false
namespace Go.Proofs.YtaeafkdfbcppgaaGreat
open Go.RowKit
section
variable {P : Program} {ops : Array Oper} {Q : Exit → Act → World → Prop} {md : Region.Mode}
def openN (listed : Array Bool) : Nat := listed.toList.count false
theorem count_set_lt : ∀ (l : List Bool) (i : Nat), l[i]? = some false → (l.set i true).count false < l.count false
 | [], i, h => by simp at h
 | b :: r, 0, h => by
  simp at h; subst h
  simp
 | b :: r, i + 1, h => by
  simp only [List.getElem?_cons_succ] at h
  have := count_set_lt r i h
  simp only [List.set_cons_succ, List.count_cons]
  omega
theorem openN_set {listed : Array Bool} {i : Nat} (h : listed.getD i true = false) : openN (listed.setIfInBounds i true) < openN listed := by
 unfold openN
 rw [Array.toList_setIfInBounds]
 refine count_set_lt _ _ ?_
 rw [Array.getElem?_toList]
 rcases Nat.lt_or_ge i listed.size with hl | hl
 ·rw [Array.getElem?_eq_getElem hl]
  simpa [Array.getD, hl] using h
 ·simp [Array.getD, Nat.not_lt.2 hl] at h
theorem openN_zero {listed : Array Bool} (h : openN listed = 0) (j : Nat) : listed.getD j true = true := by
 unfold openN at h
 rw [List.count_eq_zero] at h
 rcases Nat.lt_or_ge j listed.size with hl | hl
 ·have : listed[j] ≠ false := fun e => h (by rw [← e]; simp)
  simp only [Array.getD, hl, dif_pos]
  simpa using this
 ·simp [Array.getD, Nat.not_lt.2 hl]
theorem ready_nil_of {listed : Array Bool} (h : ∀ j, listed.getD j true = true) : Region.ready md ops listed = [] := by
 rw [List.eq_nil_iff_forall_not_mem]
 intro i hi
 have := (mem_ready.1 hi).1
 rw [h i] at this
 cases this
theorem wpAny_inv {Inv : Array Bool → Act → World → Prop}
  (step : ∀ i listed a w, i ∈ Region.ready md ops listed → Inv listed a w → wpOp P ops Q i (fun a' w' => Inv (listed.setIfInBounds i true) a' w') a w)
  (done : ∀ listed a w, Region.ready md ops listed = [] → Inv listed a w → Q .normal a w) :
  ∀ (fuel : Nat) (listed : Array Bool) (a : Act) (w : World), Inv listed a w → openN listed ≤ fuel → wpAny P md ops Q fuel listed a w
 | 0, listed, a, w, h, hl =>
  have hr : Region.ready md ops listed = [] := ready_nil_of fun j => openN_zero (by omega) j
  ⟨hr, done _ _ _ hr h⟩
 | fuel + 1, listed, a, w, h, hl =>
  ⟨fun hr => done _ _ _ hr h, fun i hi => wpOp_mono (fun a' w' h' => wpAny_inv step done fuel _ a' w' h' (by have := openN_set (mem_ready.1 hi).1; omega)) (step i listed a w hi h)⟩
def backB (md : Region.Mode) (ops : Array Oper) : Bool := (List.range ops.size).all fun j => match ops[j]? with
 | some o => o.after.all fun e => !Region.binds md e || decide (e.on < j)
 | none => true
theorem backB_spec (h : backB md ops = true) {j : Nat} {o : Oper} (ho : ops[j]? = some o) : ∀ e ∈ o.after, Region.binds md e = true → e.on < j := by
 intro e he hb
 have hj : j < ops.size := (Array.getElem?_eq_some_iff.1 ho).1
 have h1 := List.all_eq_true.1 h j (List.mem_range.2 hj)
 simp only [ho] at h1
 have h2 := Array.all_eq_true_iff_forall_mem.1 h1 e he
 simpa [hb] using h2
theorem all_listed (hb : backB md ops = true) {listed : Array Bool} (hs : listed.size = ops.size) (hr : Region.ready md ops listed = []) : ∀ j, j < ops.size → listed.getD j false = true := by
 intro j
 induction j using Nat.strongRecOn with
 | ind j ih =>
  intro hj
  cases hc : listed.getD j false with
  | true => rfl
  | false =>
   exfalso
   have ho : ops[j]? = some ops[j] := Array.getElem?_eq_getElem hj
   have hm : j ∈ Region.ready md ops listed := by
    refine mem_ready.2 ⟨?_, _, ho, fun e he hbd => ?_⟩
    ·have : j < listed.size := by omega
     simpa [Array.getD, this] using hc
    ·have := backB_spec hb ho e he hbd
     exact ih _ this (by omega)
   rw [hr] at hm
   cases hm
def upd {β : Type} (f : Nat → β) (i : Nat) (u : β) : Nat → β := fun j => if j = i then u else f j
theorem upd_same {β : Type} (f : Nat → β) (i : Nat) (u : β) : upd f i u i = u := by simp [upd]
theorem upd_ne {β : Type} (f : Nat → β) {i j : Nat} (u : β) (h : j ≠ i) : upd f i u j = f j := by simp [upd, h]
def frLv (v : Nat → Value) (L : Nat → Bool) : List (Option Tmp) → Nat → Act → Act
 | [], _, a => a
 | d :: r, k, a => frLv v L r (k + 1) (if L k then a.put d (v k) else a)
theorem frLv_congr {v v' : Nat → Value} {L L' : Nat → Bool} : ∀ (ds : List (Option Tmp)) (k : Nat) (a : Act), (∀ i, k ≤ i → L i = L' i) → (∀ i, k ≤ i → L i = true → v i = v' i) → frLv v L ds k a = frLv v' L' ds k a
 | [], _, _, _, _ => rfl
 | d :: r, k, a, h1, h2 => by
  rw [frLv, frLv, frLv_congr r (k + 1) _ (fun i hi => h1 i (by omega)) (fun i hi => h2 i (by omega)), ← h1 k (Nat.le_refl _)]
  cases hL : L k with
  | false => rfl
  | true => rw [h2 k (Nat.le_refl _) hL]
theorem frLv_full {v : Nat → Value} {L : Nat → Bool} : ∀ (ds : List (Option Tmp)) (k : Nat) (a : Act), (∀ i, k ≤ i → i < k + ds.length → L i = true) → frLv v L ds k a = frLv v (fun _ => true) ds k a
 | [], _, _, _ => rfl
 | d :: r, k, a, h => by
  rw [frLv, frLv, h k (Nat.le_refl _) (by simp), frLv_full r (k + 1) _ (fun i h1 h2 => h i (by omega) (by simp at h2 ⊢; omega))]
theorem frLv_put {v : Nat → Value} {L : Nat → Bool} {d : Option Tmp} {u : Value} : ∀ (ds : List (Option Tmp)) (k : Nat) (a : Act), (∀ t, d = some t → some t ∉ ds) → frLv v L ds k (a.put d u) = (frLv v L ds k a).put d u
 | [], _, _, _ => rfl
 | e :: r, k, a, h => by
  rw [frLv, frLv, ← frLv_put r (k + 1) _ (fun t ht => fun hm => h t ht (List.mem_cons_of_mem _ hm))]
  cases L k with
  | false => rfl
  | true =>
   simp only [if_true]
   rw [Act.put_comm a u (v k) (fun t ht e2 => h t ht (by rw [← e2]; exact List.mem_cons_self))]
def apartL : List (Option Tmp) → Bool
 | [] => true
 | none :: r => apartL r
 | some t :: r => !r.contains (some t) && apartL r
theorem apartL_cons {d : Option Tmp} {r : List (Option Tmp)} (h : apartL (d :: r) = true) : (∀ t, d = some t → some t ∉ r) ∧ apartL r = true := by
 cases d with
 | none => exact ⟨(fun t ht => by cases ht), h⟩
 | some t =>
  simp only [apartL, Bool.and_eq_true, Bool.not_eq_true'] at h
  refine ⟨fun t' ht hm => ?_, h.2⟩
  injection ht with ht
  subst ht
  have := h.1
  rw [List.contains_eq_mem] at this
  simp [hm] at this
theorem frLv_next {v : Nat → Value} {L : Nat → Bool} {u : Value} {i : Nat} {d : Option Tmp} : ∀ (ds : List (Option Tmp)) (k : Nat) (a : Act), apartL ds = true → k ≤ i → ds[i - k]? = some d → L i = false →
  (frLv v L ds k a).put d u = frLv (upd v i u) (upd L i true) ds k a
 | [], _, _, _, _, h, _ => by simp at h
 | e :: r, k, a, hap, hk, h, hL => by
  obtain ⟨h1, h2⟩ := apartL_cons hap
  by_cases e0 : k = i
  ·subst e0
   simp at h
   subst h
   rw [frLv, frLv, hL, upd_same, upd_same]
   simp only [if_true, Bool.false_eq_true, if_false]
   rw [← frLv_put r (k + 1) a h1]
   exact frLv_congr r (k + 1) _ (fun j hj => (upd_ne L true (by omega)).symm) (fun j hj _ => (upd_ne v u (by omega)).symm)
  ·rw [frLv, frLv, upd_ne L true e0, upd_ne v u e0]
   refine frLv_next r (k + 1) _ h2 (by omega) ?_ hL
   rw [show i - k = (i - (k + 1)) + 1 from by omega] at h
   simpa using h
theorem put_eval_same (a : Act) (t : Tmp) (u : Value) (h : t < a.tmps.size) : (a.put (some t) u).eval (.tmp t) = u := by
 simp [Act.put, Act.eval, Array.getD, h]
theorem put_size (a : Act) (d : Option Tmp) (u : Value) : (a.put d u).tmps.size = a.tmps.size := by
 cases d <;> simp [Act.put]
theorem frL_eval_other {v : Nat → Value} {L : Nat → Bool} {x : Operand} : ∀ (ds : List (Option Tmp)) (k : Nat) (a : Act), (∀ t, x = .tmp t → some t ∉ ds) → (frLv v L ds k a).eval x = a.eval x
 | [], _, _, _ => rfl
 | d :: r, k, a, h => by
  rw [frLv, frL_eval_other r (k + 1) _ (fun t ht hm => h t ht (List.mem_cons_of_mem _ hm))]
  cases L k with
  | false => rfl
  | true => exact Act.eval_put fun t ht e => h t e (by rw [← ht]; exact List.mem_cons_self)
theorem frLv_eval {v : Nat → Value} {L : Nat → Bool} {i : Nat} {t : Tmp} : ∀ (ds : List (Option Tmp)) (k : Nat) (a : Act), apartL ds = true → k ≤ i → ds[i - k]? = some (some t) → L i = true → t < a.tmps.size →
  (frLv v L ds k a).eval (.tmp t) = v i
 | [], _, _, _, _, h, _, _ => by simp at h
 | e :: r, k, a, hap, hk, h, hL, ht => by
  obtain ⟨h1, h2⟩ := apartL_cons hap
  by_cases e0 : k = i
  ·subst e0
   simp at h
   subst h
   rw [frLv, frL_eval_other r _ _ (fun t' ht' => by injection ht' with ht'; subst ht'; exact h1 t rfl), hL]
   simp only [if_true]
   exact put_eval_same a t _ ht
  ·rw [frLv]
   refine frLv_eval r (k + 1) _ h2 (by omega) ?_ hL ?_
   ·rw [show i - k = (i - (k + 1)) + 1 from by omega] at h
    simpa using h
   ·cases L k
    ·exact ht
    ·rw [if_pos rfl, put_size]; exact ht
def FrIs (ds : List (Option Tmp)) (a0 : Act) (L : Nat → Bool) (v : Nat → Value) (f : Act) : Prop :=
 (∀ t, ds.contains (some t) = false → f.eval (.tmp t) = a0.eval (.tmp t)) ∧ (∀ j t, ds[j]? = some (some t) → L j = true → f.eval (.tmp t) = v j)
theorem FrIs.of {ds : List (Option Tmp)} {a0 : Act} (L : Nat → Bool) (v : Nat → Value) (hap : apartL ds = true) (hsz : ∀ t, some t ∈ ds → t < a0.tmps.size) : FrIs ds a0 L v (frLv v L ds 0 a0) :=
 ⟨fun t ht => frL_eval_other ds 0 a0 fun t' e hm => by
  injection e with e; subst e
  rw [List.contains_eq_mem] at ht
  simp [hm] at ht,
  fun j t hj hL => frLv_eval ds 0 a0 hap (Nat.zero_le _) hj hL (hsz t (List.mem_of_getElem? hj))⟩
def StepInv (P : Program) (Q : Exit → Act → World → Prop) (ds : List (Option Tmp)) (a0 : Act) (R : (Nat → Bool) → (Nat → Value) → World → Prop) (i : Nat) (o : Oper) : Prop :=
 ∀ (L : Nat → Bool) (v : Nat → Value) (w : World) (f : Act), L i = false → (∀ e ∈ o.after, Region.binds .any e = true → L e.on = true) → FrIs ds a0 L v f → R L v w →
  ∀ K : Act → World → Prop, (∀ u w', R (upd L i true) (upd v i u) w' → K (f.put o.dst u) w') → o.wp P f w K Q
def StepsInv (P : Program) (Q : Exit → Act → World → Prop) (ds : List (Option Tmp)) (a0 : Act) (R : (Nat → Bool) → (Nat → Value) → World → Prop) : List Oper → Nat → Prop
 | [], _ => True
 | o :: r, k => StepInv P Q ds a0 R k o ∧ StepsInv P Q ds a0 R r (k + 1)
theorem StepsInv.at_ {ds : List (Option Tmp)} {a0 : Act} {R : (Nat → Bool) → (Nat → Value) → World → Prop} : ∀ (l : List Oper) (k : Nat), StepsInv P Q ds a0 R l k → ∀ j o, l[j]? = some o → StepInv P Q ds a0 R (k + j) o
 | [], _, _, j, o, h => by simp at h
 | x :: r, k, hs, 0, o, h => by simp at h; subst h; exact hs.1
 | x :: r, k, hs, j + 1, o, h => by
  rw [List.getElem?_cons_succ] at h
  have := StepsInv.at_ r (k + 1) hs.2 j o h
  rwa [Nat.add_assoc, Nat.add_comm 1 j] at this
theorem wp_region_inv {id : Nat} {a0 : Act} {w0 : World} (ds : List (Option Tmp)) (R : (Nat → Bool) → (Nat → Value) → World → Prop) (hm : P.follows .mixedOrders = true)
  (hds : ops.toList.map (·.dst) = ds) (hback : backB .any ops = true) (hap : apartL ds = true) (hplain : ops.all (fun o => o.guard.isNone) = true)
  (hsz : ds.all (fun d => match d with | some t => decide (t < a0.tmps.size) | none => true) = true)
  (start : R (fun _ => false) (fun _ => undef) w0.drew)
  (steps : StepsInv P Q ds a0 R ops.toList 0)
  (done : ∀ (v : Nat → Value) (w : World), (∀ L, (∀ i, i < ops.size → L i = true) → R L v w → Q .normal (frLv v (fun _ => true) ds 0 a0) w)) :
  (Code.region id ops true).wp P Q a0 w0 := by
 have hlen : ds.length = ops.size := by rw [← hds]; simp
 have step : ∀ i o, ops[i]? = some o → StepInv P Q ds a0 R i o := fun i o ho => by
  have := steps.at_ _ 0 i o (by rw [Array.getElem?_toList]; exact ho)
  rwa [Nat.zero_add] at this
 refine wp_region_any hm (wpAny_inv (Inv := fun listed a w => listed.size = ops.size ∧ ∃ v, a = frLv v (fun j => listed.getD j false) ds 0 a0 ∧ R (fun j => listed.getD j false) v w) ?_ ?_ _ _ _ _ ⟨by simp, fun _ => undef, ?_, ?_⟩ ?_)
 ·rintro i listed a w hi ⟨hs, v, rfl, hR⟩
  obtain ⟨h0, o, ho, haf⟩ := mem_ready.1 hi
  have hil : i < ops.size := (Array.getElem?_eq_some_iff.1 ho).1
  have hL : listed.getD i false = false := by
   have : i < listed.size := by omega
   simpa [Array.getD, this] using h0
  have hwant : ∀ y, Region.wanted o y = true := fun y => by
   have := Array.all_eq_true_iff_forall_mem.1 hplain o (Array.mem_of_getElem? ho)
   unfold Region.wanted
   cases hg : o.guard with
   | none => rfl
   | some g => simp [hg] at this
  unfold wpOp
  simp only [ho, hwant, if_true]
  have hd : ds[i - 0]? = some o.dst := by rw [← hds, Nat.sub_zero, List.getElem?_map, Array.getElem?_toList, ho]; rfl
  have hset : (fun j => (listed.setIfInBounds i true).getD j false) = upd (fun j => listed.getD j false) i true := by
   funext j
   unfold upd
   by_cases e : j = i
   ·subst e
    have : j < listed.size := by omega
    simp [Array.getD, this]
   ·rw [if_neg e]
    exact getD_set_ne false (fun h => e h.symm)
  exact .inl (step i o ho _ v w _ hL haf (FrIs.of _ v hap fun t ht => by simpa using List.all_eq_true.1 hsz _ ht) hR _ fun u w' hR' => ⟨by simpa using hs, upd v i u, by rw [hset]; exact frLv_next ds 0 a0 hap (Nat.zero_le _) hd hL, by rw [hset]; exact hR'⟩)
 ·rintro listed a w hr ⟨hs, v, rfl, hR⟩
  have hall := all_listed hback hs hr
  rw [frLv_full ds 0 a0 (fun i _ h2 => hall i (by omega))]
  exact done v w _ hall hR
 ·rw [frLv_congr (v' := fun _ => undef) (L' := fun _ => false) ds 0 a0 (fun i _ => ?_) (fun _ _ _ => rfl)]
  ·have : ∀ (l : List (Option Tmp)) (k : Nat), frLv (fun _ => undef) (fun _ => false) l k a0 = a0 := fun l => by
    induction l with
    | nil => intro k; rfl
    | cons d r ih => intro k; rw [frLv]; exact ih _
   exact (this _ _).symm
  ·simp only [Array.getD]; split <;> simp
 ·have e : (fun j => (Array.replicate ops.size false).getD j false) = (fun _ => false) := by funext j; simp only [Array.getD]; split <;> simp
  rw [e]; exact start
 ·unfold openN; simp
end
open Go.RowKit
theorem zc8 (m : Nat) : Builtin.zeroCells #[Value.int .u8 0] m = (by8 (List.replicate m 0)).toArray := by
 apply Array.ext
 ·simp [Builtin.zeroCells, by8]
 ·intro i h1 h2
  simp [Builtin.zeroCells, by8, Nat.mod_one]
section
variable {ops : Array Oper} {rest : List Oper} {o : Oper} {a : Act} {w : World} {Q : Exit → Act → World → Prop}
end
open Go.RowKit
def spI (x : Nat × Nat) : Int × Int := ((x.1 : Int), (x.2 : Int))
def whA (k0 k1 k2 k3 bg : Int) (f : Value) (fin : Int) (d t : Value) : Array Value := #[.int .u32 k0, .int .u32 k1, .int .i64 k2, .int .i64 k3, .int .i64 bg, f, .int .i64 fin, d, t]
open Go.RowKit
theorem mask24 (w : World) : Calls Tryz.prog 86 #[.int .i64 24] w fun e w' => e = .returned (.int .u32 4294967040) ∧ w' = w := by
 go_enter Tryz.func86, Tryz.ntmps86
 go_wp2
 go_ret
 exact ⟨rfl, rfl⟩
def okH (a : Int) : Prop := (a == 0) = false ∧ ¬ (3758096384 : Int) ≤ a ∧ bits BinOp.and IntKind.u32 a 4294967040 = net
set_option maxHeartbeats 4000000 in
set_option maxRecDepth 100000 in
theorem setaddr_any (h : Nat) (v : HV) (a : Int) (ha : okH a) (w : World) (hb : HB w h v) (hk : v.k0 = .pointer none) (hr : v.rn = 0) :
  Calls Tryz.prog 39 #[.pointer (some ⟨h, 0, none⟩), .int .u32 a, .int .i64 24, .int .u32 0] w fun e w' => e = .returned (.int .i64 0) ∧
   ∃ S A c, w.heap.size ≤ S ∧ RtOk w' S A c ∧ HB w' h { v with addr := a, bits := 24, k0 := bp (S + 1), rn := 1 } ∧ Chg (fun b => b = h) w w' := by
 obtain ⟨h0, h1, h2⟩ := ha
 have HA2 := Lib.hid h2
 have hbd : HB w h { v with k0 := .pointer none, rn := 0 } := by have := hb; rw [← hk, ← hr]; exact this
 obtain ⟨W, hW⟩ : ∃ W, (((((w.setCell ⟨h, 6, none⟩ (.int .u32 a)).setCell ⟨h, 7, none⟩ (.int .i64 24)).setCell ⟨h, 11, none⟩ nilS).setCell ⟨h, 12, none⟩ (.pointer none)).setCell ⟨h, 13, none⟩ (.pointer none)).setCell ⟨h, 14, none⟩ (.int .i64 0) = W := ⟨_, rfl⟩
 have q0 : HB W h { v with addr := a, bits := 24, k0 := .pointer none, rn := 0 } := by
  rw [← hW]
  have z1 := hbd.set_addr a
  have z2 := z1.set_bits 24
  have z3 : Bk _ h _ (hostC { v with addr := a, bits := 24, k0 := .pointer none, rn := 0 }) := Bk.set z2 11 nilS
  have z4 : Bk _ h _ (hostC { v with addr := a, bits := 24, k0 := .pointer none, rn := 0 }) := Bk.set z3 12 (.pointer none)
  have z5 : Bk _ h _ (hostC { v with addr := a, bits := 24, k0 := .pointer none, rn := 0 }) := Bk.set z4 13 (.pointer none)
  exact Bk.set z5 14 (.int .i64 0)
 have hC : Chg (fun b => b = h) w W := by rw [← hW]; exact ((((((Chg.refl _ w).set1 _).set1 _).set1 _).set1 _).set1 _).set1 _
 have HQ := Lib.hid q0
 have HC := Lib.hid hC
 have HW := Lib.hid hW
 have c6 := hbd.addr
 have c7 := hbd.bits
 have c11 : w.cell? ⟨h, 11, none⟩ = some nilS := Bk.cell hbd 11
 have c12 := hbd.k0
 have c13 : w.cell? ⟨h, 13, none⟩ = some (.pointer none) := Bk.cell hbd 13
 have c14 := hbd.rn
 have f6 := hbd.fz 6
 have f7 := hbd.fz 7
 have f11 := hbd.fz 11
 have f12 := hbd.fz 12
 have f13 := hbd.fz 13
 have f14 := hbd.fz 14
 have HRV : Hid (∀ w, Calls Tryz.prog 86 #[.int .i64 24] w fun e w' => e = .returned (.int .u32 4294967040) ∧ w' = w) := Lib.hid mask24
 clear hW q0 hC h2 hbd
 go_enter Tryz.func39, Tryz.ntmps39
 go_wp2_with fail
 rw [HW.out]
 have h2 := HA2.out
 go_region_with (first
  | (go_at_call 86; refine (HRV.out _).mono ?_; rintro e1 w1 ⟨rfl, hw1⟩; subst hw1)
  | (go_at_call 85; refine (radd_net h _ _ (HQ.out.drewN 1) rfl rfl rfl rfl).mono ?_; rintro e2 w2 ⟨rfl, S, A, c, hs2, hok2, hrow2, hC2⟩))
 all_goals
  have HO : Hid (RtOk w2 S A c) := Lib.hid hok2
  have HR : Hid (HB w2 h { v with addr := a, bits := 24, k0 := bp (S + 1), rn := 1 }) := Lib.hid hrow2
  have HCC : Hid (Chg (fun b => b = h) w w2) := Lib.hid ((HC.out.drewN 1).trans hC2 (fun x e => .inl e))
  have HS : Hid (w.heap.size ≤ S) := Lib.hid (Nat.le_trans HC.out.size hs2)
  clear hok2 hrow2 hC2 hs2
  go_wp2
  go_ret
  exact ⟨rfl, S, A, c, HS.out, HO.out, HR.out, HCC.out⟩
def mkI (k : Int) : Value := .int .i64 k
def okI (k : Int) : Prop := -9223372036854775808 ≤ k ∧ k ≤ 9223372036854775807
theorem keyI : KeyIs Tryz.prog 3 mkI okI := ⟨Maps.int_keyed Tryz.underlying3, fun x hx => ⟨.int .i64 x, Maps.keyOf_int_mk Tryz.underlying3 (by obtain ⟨h0, h1⟩ := hx; simp only [Lit.wf, IntKind.min, IntKind.max, IntKind.signed, IntKind.bits, Bool.and_eq_true, decide_eq_true_eq]; exact ⟨by simp; omega, by simp; omega⟩)⟩, fun x y h => by injection h⟩
theorem newbucket (w : World) : Calls Tryz.prog 34 #[.int .i64 10, .int .i64 20] w fun e w' => e = .returned (.tuple #[bp w.heap.size, .int .i64 0]) ∧ w' = w.alloc (.cells #[.int .i64 10, .int .i64 20, .int .i64 10, .int .i64 0] 212) := by
 go_enter Tryz.func34, Tryz.ntmps34
 go_wp2
 go_ret2
 exact ⟨rfl, rfl⟩
section
variable {α : Type} [DecidableEq α] {P : Program} {k : TypeId} {mk : α → Value} {ok : α → Prop} {ops : Array Oper} {rest : List Oper} {o : Oper} {a : Act} {w : World} {Q : Exit → Act → World → Prop} {b : Nat} {L : List (α × Value)}
end
def fnV (k : Nat) : Value := .func (.func k) #[] #[]
def arrL : List (Int × Value) := [(1, fnV 35), (2, fnV 36), (17, fnV 37), (6, fnV 38)]
abbrev mapArr := 162
def hv0 (m : Int × Int × Int × Int × Int × Int) (a : Int) (S : Nat) (bk plc arr : Nat) : HV := ⟨m, a, 24, .map none, .map none, nilS, bp (S + 1), 1, bp bk, nilS, .map none, .map (some plc), 0, 0, 0, 0, 0, 0, 0, 0, 0, 0, 0, 0, 0, 0, 0, 0, 0, 1, .map (some arr)⟩
def cfgC (m : Int × Int × Int × Int × Int × Int) (a : Int) : Array Value := #[.int .u8 m.1, .int .u8 m.2.1, .int .u8 m.2.2.1, .int .u8 m.2.2.2.1, .int .u8 m.2.2.2.2.1, .int .u8 m.2.2.2.2.2, .int .u32 a, .int .i64 24, .int .u32 0]
set_option maxHeartbeats 4000000 in
set_option maxRecDepth 100000 in
theorem hnew_any (m : Int × Int × Int × Int × Int × Int) (a : Int) (hm : bits BinOp.and IntKind.u8 m.1 1 = 0) (ha : okH a) (w : World) :
  Calls Tryz.prog 14 #[.agg (cfgC m a)] w fun e w' => ∃ h S A c bk plc arr, e = .returned (.tuple #[bp h, .int .i64 0]) ∧ w.heap.size ≤ h ∧ h < S ∧ w.heap.size ≤ bk ∧ w.heap.size ≤ plc ∧ w.heap.size ≤ arr ∧
   HB w' h (hv0 m a S bk plc arr) ∧ RtOk w' S A c ∧ Bk w' bk 212 #[.int .i64 10, .int .i64 20, .int .i64 10, .int .i64 0] ∧ IM mkI okI w' plc [] ∧ IM mkI okI w' arr arrL ∧ Below w.heap.size w w' := by
 obtain ⟨m0, m1, m2, m3, m4, m5⟩ := m
 simp only at hm
 have hmm := @run_makeMap Tryz.prog
 obtain ⟨s, hs⟩ : ∃ s, w.heap.size = s := ⟨_, rfl⟩
 have HS := Lib.hid hs
 obtain ⟨W3, hW3⟩ : ∃ W3, ((w.alloc (.cells (cfgC (m0, m1, m2, m3, m4, m5) a) 30)).alloc (.map #[] 0)).alloc (.cells (hostC ⟨(m0, m1, m2, m3, m4, m5), 0, 0, .map none, .map none, nilS, .pointer none, 0, .pointer none, nilS, .map none, .map (some (s + 1)), 0, 0, 0, 0, 0, 0, 0, 0, 0, 0, 0, 0, 0, 0, 0, 0, 0, 1, .map none⟩) 164) = W3 := ⟨_, rfl⟩
 have z1 : (w.alloc (.cells (cfgC (m0, m1, m2, m3, m4, m5) a) 30)).heap.size = s + 1 := by simp [hs]
 have z2 : ((w.alloc (.cells (cfgC (m0, m1, m2, m3, m4, m5) a) 30)).alloc (.map #[] 0)).heap.size = s + 1 + 1 := by simp [hs]
 have hz3 : W3.heap.size = s + 1 + 1 + 1 := by rw [← hW3, World.size_alloc, z2]
 have hB3 : Below s w W3 := by rw [← hW3]; exact (((Below.refl _ _).alloc (by omega) _).alloc (by omega) _).alloc (by omega) _
 have hk3 : HB W3 (s + 1 + 1) ⟨(m0, m1, m2, m3, m4, m5), 0, 0, .map none, .map none, nilS, .pointer none, 0, .pointer none, nilS, .map none, .map (some (s + 1)), 0, 0, 0, 0, 0, 0, 0, 0, 0, 0, 0, 0, 0, 0, 0, 0, 0, 1, .map none⟩ := by rw [← hW3, ← z2]; exact Bk.new _ _ _
 have hI3 : IM mkI okI W3 (s + 1) [] := by
  rw [← hW3, ← z1]
  exact (IM.made _).alloc _
 have hc3 : Bk W3 s 30 (cfgC (m0, m1, m2, m3, m4, m5) a) := by
  rw [← hW3, ← hs]
  exact ((Bk.new w _ _).alloc _).alloc _
 have HW3 : Hid (((w.alloc (.cells #[.int .u8 m0, .int .u8 m1, .int .u8 m2, .int .u8 m3, .int .u8 m4, .int .u8 m5, .int .u32 a, .int .i64 24, .int .u32 0] 30)).alloc (.map #[] 0)).alloc (.cells #[.int .u8 m0, .int .u8 m1, .int .u8 m2, .int .u8 m3, .int .u8 m4, .int .u8 m5, .int .u32 0, .int .i64 0, .map none, .map none, nilS, nilS, .pointer none, .pointer none, .int .i64 0, .pointer none, nilS, .map none, .map (some (w.heap.size + 1)), .int .i64 0, .map none, .map none, .map none,
  .int .i64 0, .int .i64 0, .int .i64 0, .int .i64 0, .int .i64 0, .int .i64 0, .int .i64 0, .int .i64 0, .int .i64 0, .int .i64 0, .int .i64 0, .int .i64 0, .int .i64 0, .int .i64 0, .int .i64 0, .int .i64 0, .int .i64 0, .int .u32 0, .int .i32 0, .int .u32 0, .map none, nilS, .int .i64 1, .map none] 164) = W3) := Lib.hid (by rw [← hW3, hs]; rfl)
 have HB3 := Lib.hid hB3
 have HK3 := Lib.hid hk3
 have HI3 := Lib.hid hI3
 have HC3 := Lib.hid hc3
 have HZ3 := Lib.hid hz3
 have HA := Lib.hid ha
 clear z1 z2 hW3 hB3 hk3 hI3 hc3 hs hz3 ha
 go_enter Tryz.func14, Tryz.ntmps14
 unfold cfgC
 go_wp2_with fail
 rw [HW3.out, HS.out]
 refine (newbucket _).mono ?_
 rintro e1 w4 ⟨rfl, hw4⟩
 rw [HZ3.out]
 have hk4 := HK3.out.alloc (.cells #[.int .i64 10, .int .i64 20, .int .i64 10, .int .i64 0] 212)
 rw [← hw4] at hk4
 have hb4 : Bk w4 (s + 1 + 1 + 1) 212 #[.int .i64 10, .int .i64 20, .int .i64 10, .int .i64 0] := by rw [hw4, ← HZ3.out]; exact Bk.new _ _ _
 have hC4 : Below (s + 1 + 1 + 1) W3 w4 := by rw [hw4]; exact (Below.refl _ _).alloc (by rw [HZ3.out]; exact Nat.le_refl _) _
 have hz4 : w4.heap.size = s + 1 + 1 + 1 + 1 := by rw [hw4, World.size_alloc, HZ3.out]
 have h15 := hk4.bkt
 have f15 := hk4.fz 15
 have HK4 := Lib.hid hk4
 have HB4 := Lib.hid hb4
 have HC4 := Lib.hid hC4
 have HZ4 := Lib.hid hz4
 clear hk4 hb4 hC4 hw4 hz4
 go_wp2_with fail
 rw [HZ4.out]
 obtain ⟨W5, hW5⟩ : ∃ W5, (w4.setCell ⟨s + 1 + 1, 15, none⟩ (bp (s + 1 + 1 + 1))).alloc (.map #[] 0) = W5 := ⟨_, rfl⟩
 rw [hW5]
 have hzs : (w4.setCell ⟨s + 1 + 1, 15, none⟩ (bp (s + 1 + 1 + 1))).heap.size = s + 1 + 1 + 1 + 1 := by rw [size_setCell, HZ4.out]
 have hk5 := (HK4.out.set_bkt (bp (s + 1 + 1 + 1))).alloc (.map #[] 0)
 rw [hW5] at hk5
 have hi5 : IM mkI okI W5 (s + 1 + 1 + 1 + 1) [] := by rw [← hW5, ← hzs]; exact IM.made _
 have hz5 : W5.heap.size = s + 1 + 1 + 1 + 1 + 1 := by rw [← hW5, World.size_alloc, hzs]
 have hC5 : Chg (fun b => b = s + 1 + 1) w4 W5 := by rw [← hW5]; exact ((Chg.refl _ w4).set1 _).alloc _
 have HK5 := Lib.hid hk5
 have HZ5 := Lib.hid hz5
 have HC5 := Lib.hid hC5
 clear hW5 hzs hk5 hz5 hC5
 obtain ⟨v0, r0, i0, g0, e0⟩ := hi5.store keyI Tryz.underlying162 (x := 1) (by unfold okI; omega) (fnV 35)
 have q0 : (Instr.mapUpdate 162 (.map (some (s + 1 + 1 + 1 + 1))) (.int .i64 1) (.func (.func 35) #[] #[])).run Tryz.prog W5 = .ok () v0 := r0
 rw [q0]
 have I0 := Lib.hid i0
 have G0 := Lib.hid g0
 have E0 := Lib.hid e0
 clear r0 q0 g0 e0 hi5
 go_wp2_with fail
 obtain ⟨v1, r1, i1, g1, e1⟩ := i0.store keyI Tryz.underlying162 (x := 2) (by unfold okI; omega) (fnV 36)
 have q1 : (Instr.mapUpdate 162 (.map (some (s + 1 + 1 + 1 + 1))) (.int .i64 2) (.func (.func 36) #[] #[])).run Tryz.prog v0 = .ok () v1 := r1
 rw [q1]
 have I1 := Lib.hid i1
 have G1 := Lib.hid g1
 have E1 := Lib.hid e1
 clear r1 q1 g1 e1 i0
 go_wp2_with fail
 obtain ⟨v2, r2, i2, g2, e2⟩ := i1.store keyI Tryz.underlying162 (x := 17) (by unfold okI; omega) (fnV 37)
 have q2 : (Instr.mapUpdate 162 (.map (some (s + 1 + 1 + 1 + 1))) (.int .i64 17) (.func (.func 37) #[] #[])).run Tryz.prog v1 = .ok () v2 := r2
 rw [q2]
 have I2 := Lib.hid i2
 have G2 := Lib.hid g2
 have E2 := Lib.hid e2
 clear r2 q2 g2 e2 i1
 go_wp2_with fail
 obtain ⟨v3, r3, i3, g3, e3⟩ := i2.store keyI Tryz.underlying162 (x := 6) (by unfold okI; omega) (fnV 38)
 have q3 : (Instr.mapUpdate 162 (.map (some (s + 1 + 1 + 1 + 1))) (.int .i64 6) (.func (.func 38) #[] #[])).run Tryz.prog v2 = .ok () v3 := r3
 rw [q3]
 have I3 := Lib.hid i3
 have G3 := Lib.hid g3
 have E3 := Lib.hid e3
 clear r3 q3 g3 e3 i2
 have hg9 : W5.grownBy v3 (some (s + 1 + 1 + 1 + 1)) := ((G0.out.trans G1.out).trans G2.out).trans G3.out
 have hk9 := Bk.grown HK5.out hg9 (by intro e; injection e with e; omega)
 have hk9' : HB v3 (s + 1 + 1) ⟨(m0, m1, m2, m3, m4, m5), 0, 0, .map none, .map none, nilS, .pointer none, 0, bp (s + 1 + 1 + 1), nilS, .map none, .map (some (s + 1)), 0, 0, 0, 0, 0, 0, 0, 0, 0, 0, 0, 0, 0, 0, 0, 0, 0, 1, .map none⟩ := hk9
 have hC49 : Chg (fun b => b = s + 1 + 1) w4 v3 := HC5.out.trans (Chg.of_grown (F := fun b => b = s + 1 + 1 + 1 + 1) hg9 (fun b e => by injection e with e; exact e.symm)) (fun x e => .inr (by rw [HZ4.out]; omega))
 have hx9 : Bk v3 s 30 (cfgC (m0, m1, m2, m3, m4, m5) a) := ((HC3.out.below HC4.out (by omega)).chg hC49 (by omega))
 obtain ⟨W10, hW10⟩ : ∃ W10, v3.setCell ⟨s + 1 + 1, 46, none⟩ (.map (some (s + 1 + 1 + 1 + 1))) = W10 := ⟨_, rfl⟩
 have hk10 := hk9'.set_arr (.map (some (s + 1 + 1 + 1 + 1)))
 rw [hW10] at hk10
 have hx10 : Bk W10 s 30 (cfgC (m0, m1, m2, m3, m4, m5) a) := by rw [← hW10]; exact hx9.far (by simp; omega) _
 have x6 := hx9.cell 6
 have x7 := hx9.cell 7
 have x8 := hx9.cell 8
 simp only [cfgC, List.getElem?_toArray, List.getElem?_cons_zero, List.getElem?_cons_succ] at x6 x7 x8
 have y46 := hk9'.arr
 have f46 := hk9'.fz 46
 have hC10 : Chg (fun b => b = s + 1 + 1) w4 W10 := by rw [← hW10]; exact hC49.set1 _
 have HK10 := Lib.hid hk10
 have HC10 := Lib.hid hC10
 have HI10 : Hid (IM mkI okI W10 (s + 1 + 1 + 1 + 1) arrL) := Lib.hid (by rw [← hW10]; exact IM.setCell I3.out (p := ⟨s + 1 + 1, 46, none⟩) (by simp; omega) _)
 have HW10 := Lib.hid hW10
 have HZ10 : Hid (W10.heap.size = s + 1 + 1 + 1 + 1 + 1) := Lib.hid (by rw [← hW10, size_setCell, E3.out, E2.out, E1.out, E0.out, HZ5.out])
 clear hk9 hk9' hC49 hx9 hW10 hk10 hx10 hC10 hg9
 go_simp
 go_wp2_with fail
 rw [HW10.out]
 refine (setaddr_any (s + 1 + 1) _ a HA.out _ HK10.out rfl rfl).mono ?_
 rintro e5 w11 ⟨rfl, S, A, c, hS, hok, hk11, hC11⟩
 have HFIN : Hid (∃ h S A c bk plc arr, (Ending.returned (.tuple #[bp (s + 1 + 1), .int .i64 0])) = .returned (.tuple #[bp h, .int .i64 0]) ∧ w.heap.size ≤ h ∧ h < S ∧ w.heap.size ≤ bk ∧ w.heap.size ≤ plc ∧ w.heap.size ≤ arr ∧
   HB w11 h (hv0 (m0, m1, m2, m3, m4, m5) a S bk plc arr) ∧ RtOk w11 S A c ∧ Bk w11 bk 212 #[.int .i64 10, .int .i64 20, .int .i64 10, .int .i64 0] ∧ IM mkI okI w11 plc [] ∧ IM mkI okI w11 arr arrL ∧ Below w.heap.size w w11) := Lib.hid (by
  have hz10 := HZ10.out
  have hs := HS.out
  have hC4 : Chg (fun b => b = s + 1 + 1) w4 w11 := HC10.out.trans hC11 (fun x e => .inl e)
  have h34 : ∀ b, b < s + 1 + 1 + 1 → b ≠ s + 1 + 1 → w11.heap[b]? = W3.heap[b]? := fun b h1 h2 => (hC4.block b (by rw [HZ4.out]; omega) h2).trans (HC4.out.block b h1)
  refine ⟨s + 1 + 1, S, A, c, s + 1 + 1 + 1, s + 1, s + 1 + 1 + 1 + 1, rfl, by omega, by omega, by omega, by omega, by omega, hk11, hok, (hC4.block _ (by rw [HZ4.out]; omega) (by omega)).trans HB4.out, ?_, ?_, ?_⟩
  ·obtain ⟨es, cl, q1, q2⟩ := HI3.out
   exact ⟨es, cl, (h34 _ (by omega) (by omega)).trans q1, q2⟩
  ·obtain ⟨es, cl, q1, q2⟩ := HI10.out
   exact ⟨es, cl, (hC11.block _ (by omega) (by omega)).trans q1, q2⟩
  ·rw [hs]
   exact (HB3.out.trans (HC4.out.mono (by omega))).trans (hC4.below (fun b e => by omega) (by rw [HZ4.out]; omega)))
 clear hS hok hk11 hC11
 go_wp2
 go_ret2
 exact HFIN.out
open Go.RowKit
variable {V : HV}
abbrev K4 := Int × Int × Int × Int
def mkK (k : K4) : Value := .agg #[.int .u32 k.1, .int .u32 k.2.1, .int .i64 k.2.2.1, .int .i64 k.2.2.2]
def okK (k : K4) : Prop := (0 ≤ k.1 ∧ k.1 ≤ 4294967295) ∧ (0 ≤ k.2.1 ∧ k.2.1 ≤ 4294967295) ∧ okI k.2.2.1 ∧ okI k.2.2.2
open Go.RowKit
variable {V : HV}
open Go.RowKit
variable {V : HV}
def ptrs (K : List Nat) : List Value := K.map fun g => Value.pointer (some ⟨g, 0, none⟩)
section
variable {ops : Array Oper} {rest : List Oper} {o : Oper} {a : Act} {w : World} {Q : Exit → Act → World → Prop}
end
def pkK (p : PkV) : K4 := (p.src, p.dst, p.proto, p.id)
end Go.Proofs.YtaeafkdfbcppgaaGreat
