/- Proved: the tick of a cache; the rows that it answers are new, and the cache lies where it lay. Conditions: as each law says. -/
import Derived.Test.YtaeafkdfbcppgaaGreatT19
set_option linter.unusedSectionVars false
set_option linter.unusedSimpArgs false
set_option linter.unusedVariables false
namespace Go.Proofs.YtaeafkdfbcppgaaGreat
open Go.RowKit
variable {V : HV}
def TickPost2 (V : HV) (w : World) (F : Nat → Prop) (g : Nat) (now : Int) (S0 : List En) (e : Ending) (w' : World) : Prop :=
 ∃ A1 n1 c1 A2 n2 c2 asks losts, e = .returned (.tuple #[.slice A1 n1 c1, .slice A2 n2 c2]) ∧ OA w' w.heap.size A1 n1 c1 asks ∧ OA w' w.heap.size A2 n2 c2 losts ∧ SortedAs (askB now) S0 asks ∧ SortedAs (lostB now) S0 losts ∧
  ∃ S', CacheAt V w' F g S' ∧ S' = S0.filterMap (stepE now) ∧ Chg F w w'
theorem TkInv.done2 {w wr w1 w2 : World} {F : Nat → Prop} {g b : Nat} {now : Int} {S0 S : List En} {left : Int → Bool} {A1 A2 : Option Addr} {n1 c1 n2 c2 : Nat} {asks losts : List Int} (h : TkInv V w wr F g b now S0 left S A1 n1 c1 A2 n2 c2 asks losts) (hF : ∀ x, F x → x < w.heap.size)
  (hl : ∀ e ∈ S, left e.a = false) {e1 e2 : Ending} (h1 : SortPost (w.heap.size + 1) A1 n1 c1 asks wr e1 w1) (h2 : SortPost (w.heap.size + 1) A2 n2 c2 losts w1 e2 w2) : TickPost2 V w F g now S0 (.returned (.tuple #[.slice A1 n1 c1, .slice A2 n2 c2])) w2 := by
 obtain ⟨_, l1, p1, s1, o1, g1⟩ := h1
 obtain ⟨_, l2, p2, s2, o2, g2⟩ := h2
 have hall : ∀ e ∈ S0, left e.a = false := fun e he => by
  cases hc : left e.a with
  | false => rfl
  | true =>
   have : e ∈ S := by
    rw [h.cs]
    unfold curS
    exact List.mem_filterMap.2 ⟨e, he, by unfold curE; rw [if_pos hc]⟩
   rw [hl e this] at hc; cases hc
 have hS : S = S0.filterMap (stepE now) := by
  rw [h.cs]
  unfold curS
  exact filterMap_congr_ fun x hx => by unfold curE; rw [if_neg (by rw [hall x hx]; simp)]
 have hol1 := h.ol.kept g1 (by
  rcases h.ne with h5 | h5
  ·rw [h5]; cases blk A2 <;> simp
  ·exact .inr (Ne.symm h5))
 have o1' := o1.kept g2 h.ne
 refine ⟨A1, n1, c1, A2, n2, c2, l1, l2, rfl, Ow.mono o1' (Nat.le_succ _), Ow.mono o2 (Nat.le_succ _), h.as_.sorted hall p1 s1, h.ls.sorted hall p2 s2, S, ⟨some b, ?_⟩, hS, ?_⟩
 ·refine h.cm.keep (w' := w2) (fun x hx hlx => ?_) (fun _ h => h)
  have hx' := hF x hx
  have e1 := g1.block x hlx (fun e => by have := (h.oa.lt x e.symm).1; omega)
  have e2 := g2.block x (Nat.lt_of_lt_of_le hlx g1.size) (fun e => by have := (h.ol.lt x e.symm).1; omega)
  exact e2.trans e1
 ·refine (h.ch.trans (Chg.of_grown (F := fun x => blk A1 = some x) g1 (fun _ e => e)) (fun x e => .inr (by have := (h.oa.lt x e).1; omega))).trans (Chg.of_grown (F := fun x => blk A2 = some x) g2 (fun _ e => e)) (fun x e => .inr (by have := (h.ol.lt x e).1; omega))
set_option maxHeartbeats 4000000 in
set_option maxRecDepth 100000 in
theorem tick_some2 (N : Nat) (hsort : SortsTo N) (now : Int) (hnow : -9223372036854775808 ≤ now ∧ now ≤ 9223372036854775807) (w : World) (F : Nat → Prop) (g b : Nat) (S0 : List En) (hF : ∀ x, F x → x < w.heap.size)
  (h : CacheMv V w F g (some b) S0) (hN : S0.length ≤ N) :
  Calls Tryz.prog 42 #[.pointer (some ⟨g, 8, none⟩), .int .i64 now] w (TickPost2 V w F g now S0) := by
 have hnd : NoDup (S0.map enE) := CacheAt.nodup ⟨some b, h⟩
 have hk := NoDup.keys hnd
 have hok : ∀ e ∈ S0, okA e.a := fun e he => (h.2.2.2.1 e he).2.2.2.2.2.1
 have c0 : w.cell? ⟨g, 8, none⟩ = some (.map (some b)) := h.1.1.cell 8
 have hI := h.1.2.2 b rfl
 have hgF : F g := h.2.1
 have hbF : F b := h.2.2.1 b rfl
 have h16 := h.2.2.2.2.2
 have HS := Lib.hid hsort
 have HF := Lib.hid hF
 have HC := Lib.hid h
 have HK := Lib.hid hk
 have HOK := Lib.hid hok
 have HN := Lib.hid hN
 have hgl := h.1.1.lt
 have hbl := hI.lt
 clear h hnd hk hok hsort hF hN
 go_enter Tryz.func42, Tryz.ntmps42
 go_wp2_with (first
  | (at_range; refine wpList_range_im rfl (.tmp 13) mapT rfl mapU rfl hI ?_; intro w0 hR0 hg0 hs0))
 have hT0 : TkInv V w w0 F g b now S0 (fun _ => true) S0 none 0 0 none 0 0 [] [] :=
  {cm := HC.out.keep (fun x _ hl => hg0.block x hl (by simp)) (fun _ h => h), cs := (curS_start now S0).symm, oa := Ow.none_ _ _ _, ol := Ow.none_ _ _ _, as_ := AskIs.start _ _, ls := AskIs.start _ _
   ch := Chg.of_grown hg0 (fun _ e => by cases e), ne := .inl rfl, sz := by omega }
 have HT0 := Lib.hid hT0
 clear hT0 hg0 hs0
 go_simp
 go_loopw [4, 5, 6, 7] (fun v4 v5 v6 v7 wr => TkRel V w F g b now S0 v4 v5 wr) (fun _ _ _ _ wr => wr.rangeLeft b w.heap.size)
 case atStart => exact ⟨_, _, S0, none, 0, 0, none, 0, 0, [], [], rfl, rfl, hR0, HT0.out⟩
 case round =>
  obtain ⟨left, cnt, S, A1, n1, c1, A2, n2, c2, asks, losts, rfl, rfl, hR, hT⟩ := hrel
  have HT := Lib.hid hT
  clear hT
  have cr : wr.cell? ⟨g, 8, none⟩ = some (.map (some b)) := HT.out.cm.1.1.cell 8
  go_wp2_with (first
   | (at_next; refine wpList_next_hid rfl (.tmp 14) rfl rfl hR ?_ ?_))
  ·intro hl0
   have hl1 : ∀ e ∈ S, left e.a = false := fun e he => hl0.2 (enE e) (List.mem_map.2 ⟨e, he, rfl⟩)
   have HL1 := Lib.hid hl1
   clear hl0 hl1
   have hsz := HT.out.sz
   have hn1 : n1 ≤ N := by have := HT.out.as_.len; have := HT.out.oa.len; have := HN.out; omega
   have hn2 : n2 ≤ N := by have := HT.out.ls.len; have := HT.out.ol.len; have := HN.out; omega
   go_wp2_with fail
   refine (HS.out A1 n1 c1 (w.heap.size + 1) asks wr hn1 HT.out.oa (by omega) (HT.out.as_.ok HOK.out) HT.out.as_.1).mono ?_
   intro e1 w2 h1
   have HP1 := Lib.hid h1
   obtain ⟨rfl, l1, p1, s1, o1, g1⟩ := h1
   have G1 := Lib.hid g1
   have hol1 : OA w2 (w.heap.size + 1) A2 n2 c2 losts := HT.out.ol.kept g1 (by
    rcases HT.out.ne with h5 | h5
    ·rw [h5]; cases blk A2 <;> simp
    ·exact .inr (Ne.symm h5))
   have hz2 : w.heap.size + 1 ≤ w2.heap.size := by have := g1.size; omega
   have HOL := Lib.hid hol1
   clear p1 s1 o1 g1 hol1 cr hR
   go_wp2_with fail
   refine (HS.out A2 n2 c2 (w.heap.size + 1) losts w2 hn2 HOL.out hz2 (HT.out.ls.ok HOK.out) HT.out.ls.1).mono ?_
   intro e2 w3 h2
   have HP2 := Lib.hid h2
   obtain ⟨rfl, _⟩ := h2
   go_wp2
   go_ret2
   exact HT.out.done2 HF.out HL1.out HP1.out HP2.out
  ·intro x v w1 cnt1 hmore hen
   obtain ⟨hmem, hlx, hR1, hlt, hg1, hs1⟩ := hmore
   obtain ⟨e, he, rfl, rfl⟩ := mem_enE hmem
   change _ = Result.ok (Value.tuple #[Value.int .u32 e.a, Value.pointer (some ⟨e.p, 0, none⟩)]) w1 at hen
   have hT1 := HT.out.next HF.out hg1
   obtain ⟨k1, k2, k3, k4, k5, k6, k7⟩ := hT1.cm.2.2.2.1 e he
   have k0 : w1.cell? ⟨e.p, 0, none⟩ = some (.bool e.n.kn) := k1.cell 0
   have k7' : w1.cell? ⟨e.p, 7, none⟩ = some (.int .i64 e.n.tk) := k1.cell 7
   have k8' : w1.cell? ⟨e.p, 8, none⟩ = some (.int .i64 e.n.tr) := k1.cell 8
   have cr1 : w1.cell? ⟨g, 8, none⟩ = some (.map (some b)) := hT1.cm.1.1.cell 8
   have HT1 := Lib.hid hT1
   have HR := Lib.hid hR
   have HLX := Lib.hid hlx
   have HE := Lib.hid he
   have HLT := Lib.hid hlt
   have HBK := Lib.hid k1
   have HG1 := Lib.hid hg1
   clear hT1 hmem hR hlx he hlt k1 k2 k3 k4 k5 hg1 hs1
   rcases (by omega : now < e.n.tk ∨ ¬ now < e.n.tk) with d | d
   ·have HT2 := Lib.hid (HT1.out.stay HK.out HE.out HLX.out d)
    have HR1 := Lib.hid hR1
    clear hR1
    go_wp2
    go_roundw
    case rel => exact ⟨_, cnt1, S, A1, n1, c1, A2, n2, c2, asks, losts, rfl, rfl, HR1.out, HT2.out⟩
    case measure => exact rangeLeft_lt HR.out HR1.out HLT.out
   ·have HD := Lib.hid d
    cases hkn : e.n.kn with
    | true =>
     rw [hkn] at k0
     have HKN := Lib.hid hkn
     clear hkn
     go_wp2_with (at_delete; refine wpList_delete_ir rfl (.tmp 51) (.tmp 52) mapT rfl keyA mapU rfl hR1 (y := e.a) rfl k6 ?_; intro w2 cnt2 hR2 hle2 hg2 hs2)
     have HT2 := Lib.hid (HT1.out.gone HF.out HK.out HE.out HLX.out (by have := HD.out; omega) HKN.out hR2.im hg2)
     have hR2' : IR mkA okA w2 b w.heap.size ((S.filter fun x => decide (x.a ≠ e.a)).map enE) (past left e.a) cnt2 := by
      have := hR2
      rw [delL_enE (CacheAt.nodup ⟨some b, HT1.out.cm⟩)] at this
      exact this
     have HR2 := Lib.hid hR2'
     clear hR2 hR2' hg2 hs2 hR1
     go_wp2
     go_roundw
     case rel => exact ⟨_, cnt2, _, A1, n1, c1, A2, n2, c2, asks, losts, rfl, rfl, HR2.out, HT2.out⟩
     case measure => exact rangeLeft_lt HR.out HR2.out (Nat.lt_of_le_of_lt hle2 HLT.out)
    | false =>
     rw [hkn] at k0
     have HKN := Lib.hid hkn
     clear hkn
     rcases (by omega : 3 ≤ e.n.tr ∨ ¬ 3 ≤ e.n.tr) with d2 | d2
     ·have hsz1 := HT1.out.sz
      have hn2 : n2 ≤ 1000 := by have := HT1.out.ls.len; have := HT1.out.ol.len; omega
      go_wp2_with (first
       | (at_delete; refine wpList_delete_ir rfl (.tmp 62) (.tmp 63) mapT rfl keyA mapU rfl hR1 (y := e.a) rfl k6 ?_; intro w2 cnt2 hR2 hle2 hg2 hs2; have HS2 := Lib.hid (Nat.le_of_eq hs2.symm); clear hs2)
       | (at_builtin; go_loud (refine ap32_one rfl (.tmp 64) (.tmp 66) rfl (w.heap.size + 1) rfl ((HT1.out.map HF.out hR2.im hg2).2.2.1) e.a _ rfl rfl hn2 (Nat.le_trans hsz1 HS2.out) ?_; intro A3 c3 w3 hO3 hg3 hA3)))
      have HT2 := Lib.hid (HT1.out.lost HF.out HK.out HE.out HLX.out (by have := HD.out; omega) HKN.out d2 hR2.im hg2 hO3 hg3 hA3)
      have hR3 : IR mkA okA w3 b w.heap.size ((S.filter fun x => decide (x.a ≠ e.a)).map enE) (past left e.a) cnt2 := by
       have := hR2
       rw [delL_enE (CacheAt.nodup ⟨some b, HT1.out.cm⟩)] at this
       have hlt := HT1.out.ol.lt
       exact this.kept hg3 (fun e0 => by have := (hlt b e0.symm).1; omega) (fun e0 => by have := (hlt _ e0.symm).1; omega)
      have HR3 := Lib.hid hR3
      clear hR2 hR3 hg2 hR1 hO3 hg3 hA3
      go_wp2
      go_roundw
      case rel => exact ⟨_, cnt2, _, A1, n1, c1, A3, n2 + 1, c3, asks, losts ++ [e.a], rfl, rfl, HR3.out, HT2.out⟩
      case measure => exact rangeLeft_lt HR.out HR3.out (Nat.lt_of_le_of_lt hle2 HLT.out)
     ·have hsz1 := HT1.out.sz
      have hn1 : n1 ≤ 1000 := by have := HT1.out.as_.len; have := HT1.out.oa.len; omega
      have f7 := HBK.out.frozen 7
      have f8 := HBK.out.frozen 8
      have htr : IntKind.i64.wrap (e.n.tr + 1) = e.n.tr + 1 := IntWalk.i64_in _ (by omega)
      obtain ⟨w2, hw2⟩ : ∃ w2, (w1.setCell ⟨e.p, 8, none⟩ (.int .i64 (e.n.tr + 1))).setCell ⟨e.p, 7, none⟩ (.int .i64 (laterP now 10)) = w2 := ⟨_, rfl⟩
      have hbk2 : Bk w2 e.p 235 (nbC (stepN now e.n) e.A e.k e.c) := by
       have := (HBK.out.set 8 (.int .i64 (e.n.tr + 1))).set 7 (.int .i64 (laterP now 10))
       rw [hw2] at this
       simp only [nbC, List.setIfInBounds_toArray, List.set_cons_zero, List.set_cons_succ] at this
       exact this
      have hc2 : Chg (fun x => x = e.p) w1 w2 := by rw [← hw2]; exact ((Chg.refl _ _).set1 _).set1 _
      have hz2 : w2.heap.size = w1.heap.size := by rw [← hw2, size_setCell, size_setCell]
      have hbe : b ≠ e.p := (HT1.out.cm.1.2.2 b rfl).ne_bk HBK.out
      have hF2 := HT1.out.cm.2.2.2.1 e HE.out
      have hpe : e.p < w.heap.size := HF.out _ hF2.2.1
      have hR2 : IR mkA okA w2 b w.heap.size (S.map enE) (past left e.a) cnt1 := by
       rw [← hw2]
       exact (hR1.setCell (p := ⟨e.p, 8, none⟩) hbe (by show w.heap.size ≠ e.p; omega) _).setCell (p := ⟨e.p, 7, none⟩) hbe (by show w.heap.size ≠ e.p; omega) _
      have hoa2 : OA w2 (w.heap.size + 1) A1 n1 c1 asks := HT1.out.oa.kept ⟨hc2.os, hc2.tape, hc2.output, hc2.size, fun x hx hne => hc2.block x hx (fun e0 => hne (by rw [e0]))⟩ (HT1.out.oa.ne_ (by omega))
      have HW2 := Lib.hid hw2
      have HB2 := Lib.hid hbk2
      have HC2 := Lib.hid hc2
      have HZ2 := Lib.hid (Nat.le_of_eq hz2.symm)
      have HZ2' := Lib.hid (Nat.le_of_eq hz2)
      have HR2 := Lib.hid hR2
      have HOX : Hid (OA ((w1.setCell ⟨e.p, 8, none⟩ (.int .i64 (e.n.tr + 1))).setCell ⟨e.p, 7, none⟩ (.int .i64 (laterP now 10))) (w.heap.size + 1) A1 n1 c1 asks) := Lib.hid (by rw [hw2]; exact hoa2)
      have HZX : Hid (w1.heap.size = ((w1.setCell ⟨e.p, 8, none⟩ (.int .i64 (e.n.tr + 1))).setCell ⟨e.p, 7, none⟩ (.int .i64 (laterP now 10))).heap.size) := Lib.hid (by rw [hw2]; exact hz2.symm)
      have HBX : Hid (w.heap.size + 1 ≤ ((w1.setCell ⟨e.p, 8, none⟩ (.int .i64 (e.n.tr + 1))).setCell ⟨e.p, 7, none⟩ (.int .i64 (laterP now 10))).heap.size) := Lib.hid (by rw [hw2]; show _ ≤ _; omega)
      clear hw2 hbk2 hc2 hz2 hR2 hoa2 hF2 hR1
      go_wp2_with fail
      refine (plus_any now 10 hnow (by omega) _).mono ?_
      rintro e2 w2' ⟨rfl, rfl⟩
      go_wp2_with (first
       | (at_builtin; go_loud (refine ap32_one rfl (.tmp 32) (.tmp 34) rfl (w.heap.size + 1) rfl HOX.out e.a _ HZX.out rfl hn1 HBX.out ?_; intro A3 c3 w3 hO3 hg3 hA3)))
      rw [HW2.out] at hg3 hA3
      have HT2 := Lib.hid (HT1.out.again HF.out HK.out HE.out HLX.out (by have := HD.out; omega) HKN.out (by omega) HB2.out HC2.out (Nat.le_antisymm HZ2'.out HZ2.out) hO3 hg3 hA3)
      have hR3 : IR mkA okA w3 b w.heap.size ((putS S ⟨e.a, e.p, e.A, e.k, e.c, stepN now e.n⟩).map enE) (past left e.a) cnt1 := by
       rw [putS_enE (e' := ⟨e.a, e.p, e.A, e.k, e.c, stepN now e.n⟩) (CacheAt.nodup ⟨some b, HT1.out.cm⟩) HE.out rfl rfl]
       have hlt := HT1.out.oa.lt
       exact HR2.out.kept hg3 (fun e0 => by have := (hlt b e0.symm).1; omega) (fun e0 => by have := (hlt _ e0.symm).1; omega)
      have HR3 := Lib.hid hR3
      clear hR3 hO3 hg3 hA3
      go_wp2
      go_roundw
      case rel => exact ⟨_, cnt1, _, A3, n1 + 1, c3, A2, n2, c2, asks ++ [e.a], losts, rfl, rfl, HR3.out, HT2.out⟩
      case measure => exact rangeLeft_lt HR.out HR3.out HLT.out
set_option maxHeartbeats 4000000 in
set_option maxRecDepth 100000 in
theorem tick_none2 (now : Int) (w : World) (F : Nat → Prop) (g : Nat) (S0 : List En) (h : CacheMv V w F g none S0) :
  Calls Tryz.prog 42 #[.pointer (some ⟨g, 8, none⟩), .int .i64 now] w (TickPost2 V w F g now S0) := by
 have c0 : w.cell? ⟨g, 8, none⟩ = some (.map none) := h.1.1.cell 8
 have hS : S0 = [] := by
  have := h.1.2.1 rfl
  simpa using this
 have HC := Lib.hid h
 have HS0 := Lib.hid hS
 clear h hS
 go_enter Tryz.func42, Tryz.ntmps42
 have hrg := run_range_nilMap (P := Tryz.prog) w mapT _ _ mapU
 have hnx : ∀ ty, (Instr.next (.pointer (some ⟨w.heap.size, 0, none⟩)) false ty).run Tryz.prog (w.alloc (.mapIter none 0 #[] 0)) = _ := fun ty => run_next_nilMap w ty 0 0 #[]
 have HSO : Hid (∀ W, Calls Tryz.prog 93 #[.slice none 0 0] W (SortPost 0 none 0 0 [] W)) := Lib.hid (fun W => sort1 none 0 0 0 [] W (by omega) (Ow.none_ _ _ _) (Nat.zero_le _) (fun x hx => by cases hx) List.nodup_nil)
 go_wp2_with fail
 go_loopw [4, 5, 6, 7] (fun v4 v5 _ _ wr => v4 = .slice none 0 0 ∧ v5 = .slice none 0 0 ∧ wr = w.alloc (.mapIter none 0 #[] 0)) (fun _ _ _ _ _ => 0)
 case atStart => exact ⟨rfl, rfl, rfl⟩
 case round =>
  obtain ⟨rfl, rfl, rfl⟩ := hrel
  go_wp2_with fail
  refine (HSO.out _).mono ?_
  rintro e1 w1 ⟨rfl, l1, p1, _, _, g1⟩
  have G1 := Lib.hid g1
  clear g1
  go_wp2_with fail
  refine (HSO.out _).mono ?_
  rintro e2 w2 ⟨rfl, l2, p2, _, _, g2⟩
  have G2 := Lib.hid g2
  clear g2
  go_wp2
  go_ret2
  have hb : Below w.heap.size w w2 := by
   have h0 : Below w.heap.size w (w.alloc (.mapIter none 0 #[] 0)) := (Below.refl _ _).alloc (Nat.le_refl _) _
   exact Below.gr (Below.gr h0 G1.out (fun b e => by cases e)) G2.out (fun b e => by cases e)
  refine ⟨none, 0, 0, none, 0, 0, [], [], rfl, Ow.none_ _ _ _, Ow.none_ _ _ _, ⟨List.Pairwise.nil, fun a => ?_⟩, ⟨List.Pairwise.nil, fun a => ?_⟩, S0, ⟨none, HC.out.keep (fun b _ hl => hb.block b hl) (fun b hb => hb)⟩, ?_, (Chg.of_below (F := F) hb)⟩
  ·rw [HS0.out]; simp
  ·rw [HS0.out]; simp
  ·rw [HS0.out]; rfl
def PTick2 (V : HV) (w : World) (F : Nat → Prop) (g : Nat) (S : List En) (now : Int) (e : Ending) (w' : World) : Prop :=
 ∃ A1 n1 c1 A2 n2 c2 asks losts S', e = .returned (.tuple #[.slice A1 n1 c1, .slice A2 n2 c2]) ∧ OA w' w.heap.size A1 n1 c1 asks ∧ OA w' w.heap.size A2 n2 c2 losts ∧ CacheAt V w' (fun b => F b ∧ b < w.heap.size) g S' ∧ TickT (absT S) now asks losts (absT S') ∧ Chg F w w'
theorem ptick_n (N : Nat) (hsort : SortsTo N) (now : Int) (hnow : -9223372036854775808 ≤ now ∧ now ≤ 9223372036854775807) (w : World) (F : Nat → Prop) (g : Nat) (S : List En) (h : CacheAt V w F g S) (hN : S.length ≤ N) :
  Calls Tryz.prog 42 #[.pointer (some ⟨g, 8, none⟩), .int .i64 now] w (PTick2 V w F g S now) := by
 obtain ⟨mv, hmv⟩ := h.cap
 have hh : Calls Tryz.prog 42 #[.pointer (some ⟨g, 8, none⟩), .int .i64 now] w (TickPost2 V w (fun b => F b ∧ b < w.heap.size) g now S) := by
  rcases mv with _ | b
  ·exact tick_none2 now w _ g S hmv
  ·exact tick_some2 N hsort now hnow w _ g b S (fun x hx => hx.2) hmv hN
 refine hh.mono fun e w' hp => ?_
 obtain ⟨A1, n1, c1, A2, n2, c2, asks, losts, rfl, o1, o2, ⟨a1, a2⟩, ⟨b1, b2⟩, S', hc, rfl, hch⟩ := hp
 refine ⟨A1, n1, c1, A2, n2, c2, asks, losts, _, rfl, o1, o2, hc, ⟨abs_step now S, ⟨a1, fun a => (a2 a).trans ⟨?_, ?_⟩⟩, ⟨b1, fun a => (b2 a).trans ⟨?_, ?_⟩⟩⟩, hch.mono (fun x _ k => k.1)⟩
 ·rintro ⟨x, hx, rfl, hp⟩; exact ⟨(x.a, x.n), List.mem_map.2 ⟨x, hx, rfl⟩, rfl, hp⟩
 ·rintro ⟨y, hy, rfl, hp⟩
  obtain ⟨x, hx, rfl⟩ := List.mem_map.1 hy
  exact ⟨x, hx, rfl, hp⟩
 ·rintro ⟨x, hx, rfl, hp⟩; exact ⟨(x.a, x.n), List.mem_map.2 ⟨x, hx, rfl⟩, rfl, hp⟩
 ·rintro ⟨y, hy, rfl, hp⟩
  obtain ⟨x, hx, rfl⟩ := List.mem_map.1 hy
  exact ⟨x, hx, rfl, hp⟩
end Go.Proofs.YtaeafkdfbcppgaaGreat
