/- Proved: what the methods of octet.Reader do, each by its walk. Conditions: as each law says. -/
import Derived.Laws.EntriesVeiled
import Derived.Test.YtaeafkdfbcppgaaGreatT02
set_option linter.unusedSectionVars false
set_option linter.unusedSimpArgs false
set_option linter.unusedVariables false
namespace Go.Proofs.YtaeafkdfbcppgaaGreat
open Go.RowKit
theorem neq_nn (W : World) : (binOp .neq 200 .nilFunc .nilFunc).run Tryz.prog W = .ok (.bool false) W := by kernel_rfl
theorem neq_fn (W : World) (f : FuncId) (a c : Array Value) : (binOp .neq 200 (.func (.func f) a c) .nilFunc).run Tryz.prog W = .ok (.bool true) W := by kernel_rfl
def cls (e : Nat) : Value := .func (.func 187) #[] #[.pointer (some ⟨e, 0, none⟩)]
def NextIs (w : World) (base g : Nat) (F : Value) : Prop := F = .nilFunc ∨ ∃ e, F = cls e ∧ base ≤ e ∧ e ≠ g ∧ Bk w e 198 #[.pointer (some ⟨g, 0, none⟩)]
def U8Bk (w : World) (A : Option Addr) : Prop := ∀ b, blk A = some b → ∃ cs, w.heap[b]? = some (.cells cs 5 (0, 0))
theorem U8Bk.nil (w : World) : U8Bk w none := fun b h => by simp [blk] at h
theorem U8Bk.keep {w w' : World} {A : Option Addr} (h : U8Bk w A) (hk : ∀ b, blk A = some b → b < w.heap.size → w'.heap[b]? = w.heap[b]?) : U8Bk w' A := fun b hb => by
 obtain ⟨cs, hc⟩ := h b hb
 exact ⟨cs, (hk b hb (Array.getElem?_eq_some_iff.1 hc).1).trans hc⟩
theorem U8Bk.below {w w' : World} {A : Option Addr} (h : U8Bk w A) (hb : Below w.heap.size w w') : U8Bk w' A := h.keep fun b _ hl => hb.block b hl
theorem U8Bk.grown {w w' : World} {A : Option Addr} {g : Nat} (h : U8Bk w A) (hb : w.grownBy w' (some g)) (hne : blk A ≠ some g) : U8Bk w' A := h.keep fun b hA hl => hb.block b hl (fun e => hne (by rw [hA]; exact e))
theorem blk_add (A : Option Addr) (k : Nat) : blk (A.map fun x => x.add k) = blk A := by
 cases A with
 | none => rfl
 | some a => unfold blk Addr.add; simp only [Option.map_some]; split <;> rfl
theorem U8Bk.of_ow {w : World} {base : Nat} {A : Option Addr} {n c : Nat} {xs : List Value} (h : Ow 5 w base A n c xs) : U8Bk w A := fun b hb => by
 rcases Ow.cases_ h with ⟨rfl, _⟩ | ⟨g, cur, rfl, _, h3, _⟩
 ·simp [blk] at hb
 ·have : g = b := by simpa [blk] using hb
  subst this; exact ⟨cur, h3⟩
def RdAt (w : World) (base g : Nat) (F : Value) (l : List Int) (er : Int) : Prop :=
 base ≤ g ∧ Bs l ∧ NextIs w base g F ∧ ∃ A n c, Bk w g 287 #[.slice A n c, .int .i64 er, F] ∧ l.length = n ∧ n ≤ c ∧ c ≤ maxLen ∧ RB w w.heap.size A l ∧ blk A ≠ some g ∧ U8Bk w A
theorem NextIs.keep {w w' : World} {base g : Nat} {F : Value} (h : NextIs w base g F) (hk : ∀ i, i < w.heap.size → i ≠ g → w'.heap[i]? = w.heap[i]?) : NextIs w' base g F := by
 rcases h with h | ⟨e, h1, h2, h3, h4⟩
 ·exact .inl h
 ·exact .inr ⟨e, h1, h2, h3, (hk e h4.lt h3).trans h4⟩
theorem RdAt.lt {w : World} {base g : Nat} {F : Value} {l : List Int} {er : Int} (h : RdAt w base g F l er) : g < w.heap.size := by
 obtain ⟨_, _, _, A, n, c, h1, _⟩ := h
 exact h1.lt
theorem RdAt.below {w w' : World} {base g : Nat} {F : Value} {l : List Int} {er : Int} (h : RdAt w base g F l er) (hb : Below w.heap.size w w') : RdAt w' base g F l er := by
 obtain ⟨h0, hs, hF, A, n, c, h1, h2, h3, h4, h5, h6, h7⟩ := h
 exact ⟨h0, hs, hF.keep fun i hi _ => hb.block i hi, A, n, c, h1.below hb h1.lt, h2, h3, h4, Rw.more (Rw.below h5 hb) hb.size, h6, h7.below hb⟩
theorem ready_none (base g : Nat) (l : List Int) (er : Int) (w : World) (hr : RdAt w base g .nilFunc l er) (hbase : base ≤ w.heap.size) :
  Calls Tryz.prog 119 #[.pointer (some ⟨g, 0, none⟩)] w fun e w' => e = .returned (.tuple #[]) ∧ ∃ e', RdAt w' base g (cls e') l er ∧ w.grownBy w' (some g) := by
 obtain ⟨h0, hs, hF, A, n, c, hb, h2, h3, h4, h5, h6, h7⟩ := hr
 have hlt := hb.lt
 have c2 := (hb.alloc (.cells #[.pointer (some ⟨g, 0, none⟩)] 198)).cell 2
 have f2 := (hb.alloc (.cells #[.pointer (some ⟨g, 0, none⟩)] 198)).frozen 2
 simp only [List.getElem?_toArray, List.getElem?_cons_zero, List.getElem?_cons_succ] at c2
 have e1 := neq_nn
 have hg : w.grownBy ((w.setCell ⟨g, 2, none⟩ (cls w.heap.size)).alloc (.cells #[.pointer (some ⟨g, 0, none⟩)] 198)) (some g) :=
  World.grownBy.trans (grownBy_setCell (World.grownBy.refl w _) (.inl rfl) _) (World.grownBy_alloc _ _ _)
 have hb2 : Bk (w.setCell ⟨g, 2, none⟩ (cls w.heap.size)) g 287 #[.slice A n c, .int .i64 er, cls w.heap.size] := hb.set 2 _
 have h5' := Rw.more (Rw.grownNe h5 hg (Nat.le_refl _) h6) hg.size
 have hn : Bk ((w.setCell ⟨g, 2, none⟩ (cls w.heap.size)).alloc (.cells #[.pointer (some ⟨g, 0, none⟩)] 198)) w.heap.size 198 #[.pointer (some ⟨g, 0, none⟩)] := by
  have := Bk.new (w.setCell ⟨g, 2, none⟩ (cls w.heap.size)) 198 #[.pointer (some ⟨g, 0, none⟩)]
  simpa [World.setCell] using this
 go_enter Tryz.func119, Tryz.ntmps119
 go_wp2
 go_end0
 exact ⟨rfl, w.heap.size, ⟨h0, hs, .inr ⟨w.heap.size, rfl, hbase, by omega, hn⟩, A, n, c, hb2.alloc _, h2, h3, h4, h5', h6, h7.grown hg h6⟩, hg⟩
theorem ready_some (base g e : Nat) (l : List Int) (er : Int) (w : World) (hr : RdAt w base g (cls e) l er) (hbase : base ≤ w.heap.size) :
  Calls Tryz.prog 119 #[.pointer (some ⟨g, 0, none⟩)] w fun e2 w' => e2 = .returned (.tuple #[]) ∧ RdAt w' base g (cls e) l er ∧ w.grownBy w' none := by
 have hr2 := hr.below (w' := w.alloc (.cells #[.pointer (some ⟨g, 0, none⟩)] 198)) ((Below.refl _ _).alloc (Nat.le_refl _) _)
 obtain ⟨h0, hs, hF, A, n, c, hb, h2, h3, h4, h5, h6, h7⟩ := hr
 have hlt := hb.lt
 have c2 := (hb.alloc (.cells #[.pointer (some ⟨g, 0, none⟩)] 198)).cell 2
 simp only [List.getElem?_toArray, List.getElem?_cons_zero, List.getElem?_cons_succ] at c2
 have e1 := neq_fn
 unfold cls at c2
 go_enter Tryz.func119, Tryz.ntmps119
 go_wp2
 refine bodyPost_ret (results_none rfl _ _ _) rfl ?_
 exact ⟨rfl, hr2, World.grownBy_alloc _ _ _⟩
def rdOut (l : List Int) (er k : Int) : List Int := if er = 0 ∧ 0 ≤ k ∧ k ≤ l.length then l.take k.toNat else []
def rdRest (l : List Int) (er k : Int) : List Int := if er = 0 ∧ 0 ≤ k ∧ k ≤ l.length then l.drop k.toNat else []
def rdErr (l : List Int) (er k : Int) : Int := if er = 0 ∧ 0 ≤ k ∧ k ≤ l.length then 0 else 2
theorem rdOut_bs {l : List Int} (h : Bs l) (er k : Int) : Bs (rdOut l er k) := by
 unfold rdOut; split
 ·exact h.take _
 ·exact Bs.nil
theorem rdOut_len (l : List Int) (er k : Int) : (rdOut l er k).length ≤ k.toNat := by
 unfold rdOut; split
 ·rw [List.length_take]; omega
 ·simp
theorem rdOut_le (l : List Int) (er k : Int) : (rdOut l er k).length ≤ l.length := by
 unfold rdOut; split
 ·rw [List.length_take]; omega
 ·simp
theorem next_ok (base g e : Nat) (l : List Int) (k : Nat) (w : World) (hr : RdAt w base g (cls e) l 0) (hk : k ≤ l.length) :
  Calls Tryz.prog 187 #[.int .i64 k, .pointer (some ⟨e, 0, none⟩)] w fun e2 w' => ∃ A, e2 = .returned (.slice A k k) ∧ RB w' w.heap.size A (l.take k) ∧ RdAt w' base g (cls e) (l.drop k) 0 ∧ w.grownBy w' (some g) := by
 obtain ⟨h0, hs, hF, A, n, c, hb, h2, h3, h4, h5, h6, h7⟩ := hr
 have hF0 := hF
 rcases hF with hF | ⟨e', hF, q1, q2, q3⟩
 ·cases hF
 have : e = e' := by simpa [cls] using hF
 subst this
 have c0 := hb.cell 0
 have c1 := hb.cell 1
 have x0 := q3.cell 0
 have f0 := hb.frozen 0
 simp only [List.getElem?_toArray, List.getElem?_cons_zero, List.getElem?_cons_succ] at c0 c1 x0
 have H2 := Lib.hid h2
 have hkn : k ≤ n := by omega
 clear h2 hF
 go_enter Tryz.func187, Tryz.ntmps187
 go_wp2
 go_region
 all_goals
  have hcut := RB.cut h5 c k (by rw [H2.out]; exact h3)
  have hAe : blk (if c = k then A else A.map fun x => x.add k) = blk A := by
   split
   ·rfl
   ·exact blk_add A k
  have hA : blk (if c = k then A else A.map fun x => x.add k) ≠ some g := by rw [hAe]; exact h6
  have h7' : U8Bk w (if c = k then A else A.map fun x => x.add k) := fun b hb => h7 b (hAe ▸ hb)
  clear hAe
  generalize (if c = k then A else A.map fun x => x.add k) = A' at *
  go_wp2
  go_ret
  have hg : w.grownBy ((w.setCell ⟨g, 0, none⟩ (.slice A' (n - k) (c - k))).drew) (some g) := grownBy_drew (grownBy_setCell (World.grownBy.refl w _) (.inl rfl) _)
  refine ⟨A, rfl, Rw.grownNe (RB.take h5 k) hg (Nat.le_refl _) h6, ⟨h0, hs.drop k, hF0.keep fun i hi hne => hg.block i hi (by simpa using hne), A', n - k, c - k, hb.set 0 _, by rw [List.length_drop, H2.out], by omega, by omega, ?_, hA, h7'.grown hg hA⟩, hg⟩
  exact Rw.more (Rw.grownNe hcut hg (Nat.le_refl _) hA) hg.size
set_option maxHeartbeats 1000000 in
theorem next_no (base g e : Nat) (l : List Int) (er k : Int) (w : World) (hr : RdAt w base g (cls e) l er) (hk : er ≠ 0 ∨ k < 0 ∨ l.length < k) :
  Calls Tryz.prog 187 #[.int .i64 k, .pointer (some ⟨e, 0, none⟩)] w fun e2 w' => e2 = .returned (.slice none 0 0) ∧ RdAt w' base g (cls e) [] 2 ∧ w.grownBy w' (some g) := by
 obtain ⟨h0, hs, hF, A, n, c, hb, h2, h3, h4, h5, h6, h7⟩ := hr
 have hF0 := hF
 rcases hF with hF | ⟨e', hF, q1, q2, q3⟩
 ·cases hF
 have : e = e' := by simpa [cls] using hF
 subst this
 have c0 := hb.cell 0
 have c1 := hb.cell 1
 have x0 := q3.cell 0
 have f0 := hb.frozen 0
 have f1 := hb.frozen 1
 simp only [List.getElem?_toArray, List.getElem?_cons_zero, List.getElem?_cons_succ] at c0 c1 x0
 rw [h2] at hk
 have H2 := Lib.hid h2
 clear h2 hF
 have fin : ∀ w' : World, (w' = ((w.setCell ⟨g, 0, none⟩ (.slice none 0 0)).setCell ⟨g, 1, none⟩ (.int .i64 2)).drew ∨ w' = ((w.setCell ⟨g, 1, none⟩ (.int .i64 2)).setCell ⟨g, 0, none⟩ (.slice none 0 0)).drew) → RdAt w' base g (cls e) [] 2 ∧ w.grownBy w' (some g) := by
  rintro w' (rfl | rfl)
  ·have hg : w.grownBy (((w.setCell ⟨g, 0, none⟩ (.slice none 0 0)).setCell ⟨g, 1, none⟩ (.int .i64 2)).drew) (some g) := grownBy_drew (grownBy_setCell (grownBy_setCell (World.grownBy.refl w _) (by exact .inl rfl) _) (by exact .inl rfl) _)
   exact ⟨⟨h0, Bs.nil, hF0.keep fun i hi hne => hg.block i hi (by simpa using hne), none, 0, 0, (hb.set 0 _).set 1 _, rfl, Nat.le_refl _, Nat.zero_le _, Rw.nil _ _ _, by simp [blk], U8Bk.nil _⟩, hg⟩
  ·have hg : w.grownBy (((w.setCell ⟨g, 1, none⟩ (.int .i64 2)).setCell ⟨g, 0, none⟩ (.slice none 0 0)).drew) (some g) := grownBy_drew (grownBy_setCell (grownBy_setCell (World.grownBy.refl w _) (by exact .inl rfl) _) (by exact .inl rfl) _)
   exact ⟨⟨h0, Bs.nil, hF0.keep fun i hi hne => hg.block i hi (by simpa using hne), none, 0, 0, (hb.set 1 _).set 0 _, rfl, Nat.le_refl _, Nat.zero_le _, Rw.nil _ _ _, by simp [blk], U8Bk.nil _⟩, hg⟩
 by_cases t1 : er = 0
 ·subst t1
  rcases (by omega : k < 0 ∨ (0 ≤ k ∧ (n : Int) < k)) with t2 | ⟨t2, t3⟩
  all_goals
   clear hk
   go_enter Tryz.func187, Tryz.ntmps187
   go_wp2
   go_region
   all_goals
    go_wp2
    go_ret
    exact ⟨rfl, fin _ (by first | exact .inl rfl | exact .inr rfl)⟩
 ·have t2 : (er != 0) = true := by simpa using t1
  clear hk t1
  go_enter Tryz.func187, Tryz.ntmps187
  go_wp2
  go_region
  all_goals
   go_wp2
   go_ret
   exact ⟨rfl, fin _ (by first | exact .inl rfl | exact .inr rfl)⟩
theorem next_any (base g e : Nat) (l : List Int) (er k : Int) (w : World) (hr : RdAt w base g (cls e) l er) :
  Calls Tryz.prog 187 #[.int .i64 k, .pointer (some ⟨e, 0, none⟩)] w fun e2 w' => ∃ A m c, e2 = .returned (.slice A m c) ∧ (rdOut l er k).length = m ∧ RB w' w'.heap.size A (rdOut l er k) ∧
   RdAt w' base g (cls e) (rdRest l er k) (rdErr l er k) ∧ w.grownBy w' (some g) := by
 by_cases h : er = 0 ∧ 0 ≤ k ∧ k ≤ l.length
 ·obtain ⟨rfl, h1, h2⟩ := h
  obtain ⟨j, rfl⟩ := Int.eq_ofNat_of_zero_le h1
  have hj : j ≤ l.length := by omega
  have e1 : rdOut l 0 j = l.take j := by unfold rdOut; rw [if_pos ⟨rfl, h1, h2⟩]; rfl
  have e2 : rdRest l 0 j = l.drop j := by unfold rdRest; rw [if_pos ⟨rfl, h1, h2⟩]; rfl
  have e3 : rdErr l 0 j = 0 := by unfold rdErr; rw [if_pos ⟨rfl, h1, h2⟩]
  rw [e1, e2, e3]
  refine (next_ok base g e l j w hr hj).mono ?_
  rintro x w' ⟨A, rfl, q1, q2, q3⟩
  exact ⟨A, j, j, rfl, by rw [List.length_take]; omega, Rw.more q1 q3.size, q2, q3⟩
 ·have e1 : rdOut l er k = [] := by unfold rdOut; rw [if_neg h]
  have e2 : rdRest l er k = [] := by unfold rdRest; rw [if_neg h]
  have e3 : rdErr l er k = 2 := by unfold rdErr; rw [if_neg h]
  rw [e1, e2, e3]
  refine (next_no base g e l er k w hr (by omega)).mono ?_
  rintro x w' ⟨rfl, q2, q3⟩
  exact ⟨none, 0, 0, rfl, rfl, Rw.nil _ _ _, q2, q3⟩
def Rd (w : World) (base g : Nat) (l : List Int) (er : Int) : Prop := ∃ F, RdAt w base g F l er
theorem Rd.below {w w' : World} {base g : Nat} {l : List Int} {er : Int} (h : Rd w base g l er) (hb : Below w.heap.size w w') : Rd w' base g l er := by
 obtain ⟨F, h⟩ := h
 exact ⟨F, h.below hb⟩
theorem Rd.lt {w : World} {base g : Nat} {l : List Int} {er : Int} (h : Rd w base g l er) : g < w.heap.size := by
 obtain ⟨F, h⟩ := h
 exact h.lt
theorem Rd.ge {w : World} {base g : Nat} {l : List Int} {er : Int} (h : Rd w base g l er) : base ≤ g := by
 obtain ⟨F, h⟩ := h
 exact h.1
theorem Rd.bs {w : World} {base g : Nat} {l : List Int} {er : Int} (h : Rd w base g l er) : Bs l := by
 obtain ⟨F, h⟩ := h
 exact h.2.1
theorem ready_any (base g : Nat) (l : List Int) (er : Int) (w : World) (hr : Rd w base g l er) (hbase : base ≤ w.heap.size) :
  Calls Tryz.prog 119 #[.pointer (some ⟨g, 0, none⟩)] w fun e w' => e = .returned (.tuple #[]) ∧ ∃ e', RdAt w' base g (cls e') l er ∧ w.grownBy w' (some g) := by
 obtain ⟨F, hr⟩ := hr
 rcases hr.2.2.1 with rfl | ⟨e, rfl, _⟩
 ·exact ready_none base g l er w hr hbase
 ·refine (ready_some base g e l er w hr hbase).mono ?_
  rintro x w' ⟨rfl, h1, h2⟩
  exact ⟨rfl, e, h1, ⟨h2.os, h2.tape, h2.output, h2.size, fun k hk _ => h2.block k hk (by simp)⟩⟩
def numBE (l : List Int) : Int := l.foldl (fun v b => v * 256 + b) 0
theorem numBE_snoc (l : List Int) (b : Int) : numBE (l ++ [b]) = numBE l * 256 + b := by simp [numBE]
theorem numBE_bd3 : ∀ (l : List Int), Bs l → l.length ≤ 3 → 0 ≤ numBE l ∧ numBE l < 16777216
 | [], _, _ => by simp [numBE]
 | [a], h, _ => by
  have := h a (by simp)
  simp only [numBE, List.foldl_cons, List.foldl_nil]; omega
 | [a, b], h, _ => by
  have := h a (by simp)
  have := h b (by simp)
  simp only [numBE, List.foldl_cons, List.foldl_nil]; omega
 | [a, b, c], h, _ => by
  have := h a (by simp)
  have := h b (by simp)
  have := h c (by simp)
  simp only [numBE, List.foldl_cons, List.foldl_nil]; omega
 | _ :: _ :: _ :: _ :: _, _, h => by simp at h
theorem number_any (base g : Nat) (l : List Int) (er : Int) (k : Nat) (hk : k ≤ 4) (w : World) (hr : Rd w base g l er) (hbase : base ≤ w.heap.size) :
  Calls Tryz.prog 120 #[.pointer (some ⟨g, 0, none⟩), .int .i64 k] w fun e w' => e = .returned (.int .u32 (numBE (rdOut l er k))) ∧ Rd w' base g (rdRest l er k) (rdErr l er k) ∧ w.grownBy w' (some g) := by
 go_enter Tryz.func120, Tryz.ntmps120
 go_wp2_with fail
 refine (ready_any base g l er w hr hbase).mono ?_
 rintro x w1 ⟨rfl, e, hr1, hg1⟩
 have c2 : w1.cell? ⟨g, 2, none⟩ = some (cls e) := by
  obtain ⟨_, _, _, A, n, c, hb, _⟩ := hr1
  exact hb.cell 2
 unfold cls at c2
 go_wp2_with (go_at_call 187; refine (next_any base g e l er k w1 hr1).mono ?_; rintro x w2 ⟨A, m, c, rfl, hm, hr2, hR2, hg2⟩)
 have hbo := rdOut_bs hr1.2.1 er k
 have hm4 : m ≤ 4 := by
  rw [← hm]; unfold rdOut; split
  ·rw [List.length_take]; omega
  ·simp
 have hgg := hg1.trans hg2
 obtain ⟨out, hO⟩ : ∃ out, rdOut l er k = out := ⟨_, rfl⟩
 rw [hO] at hm hr2 hbo
 have HO := Lib.hid hO
 clear hO
 have Hm := Lib.hid hm
 clear hm c2
 go_loop [5, 7, 17] (fun v _b i => ∃ (j : Nat), j ≤ m ∧ i = .int .i64 j ∧ v = .int .u32 (numBE (out.take j))) (fun _ _ i => m - (intOf i).toNat)
 case atStart => exact ⟨0, Nat.zero_le _, rfl, rfl⟩
 case round =>
  obtain ⟨j, hj, rfl, rfl⟩ := hrel
  rcases Nat.lt_or_ge j m with d1 | d1
  ·obtain ⟨b, off, rfl, _, hc⟩ := hr2.at_ (k := j) (by rw [Hm.out]; exact d1)
   have hbx := hbo.at_ j
   have hv := numBE_bd3 (out.take j) (hbo.take j) (by rw [List.length_take]; omega)
   have HS : Hid (numBE (out.take (j + 1)) = numBE (out.take j) * 256 + out[j]?.getD 0) := by
    show _ = _
    rw [take_succ_getD out j (by rw [Hm.out]; exact d1), numBE_snoc]
   have hor := or_u32_8 (numBE (out.take j)) (out[j]?.getD 0) hv.1 hv.2 hbx.1 hbx.2
   go_wp2
   go_round
   case rel => exact ⟨j + 1, by omega, by go_num, by rw [HS.out]⟩
   case measure => simp [intOf]; omega
  ·have HT : Hid (out.take j = out) := by show _ = _; exact List.take_of_length_le (by rw [Hm.out]; omega)
   go_wp2
   go_ret
   exact ⟨by rw [HO.out, HT.out]; rfl, ⟨_, hR2⟩, hgg⟩
theorem rbyte_any (base g : Nat) (l : List Int) (er : Int) (w : World) (hr : Rd w base g l er) (hbase : base ≤ w.heap.size) :
  Calls Tryz.prog 72 #[.pointer (some ⟨g, 0, none⟩)] w fun e w' => e = .returned (.int .i64 (numBE (rdOut l er 1))) ∧ Rd w' base g (rdRest l er 1) (rdErr l er 1) ∧ w.grownBy w' (some g) := by
 have hb := numBE_bd3 (rdOut l er 1) (rdOut_bs hr.bs er 1) (Nat.le_trans (rdOut_len _ _ _) (by decide))
 go_enter Tryz.func72, Tryz.ntmps72
 go_wp2_with (go_at_call 120; refine (number_any base g l er 1 (by omega) w hr hbase).mono ?_; rintro e w1 ⟨rfl, h1, h2⟩)
 go_ret
 exact ⟨rfl, h1, h2⟩
theorem rtwo16_any (base g : Nat) (l : List Int) (er : Int) (w : World) (hr : Rd w base g l er) (hbase : base ≤ w.heap.size) :
  Calls Tryz.prog 65 #[.pointer (some ⟨g, 0, none⟩)] w fun e w' => e = .returned (.int .i64 (numBE (rdOut l er 2))) ∧ Rd w' base g (rdRest l er 2) (rdErr l er 2) ∧ w.grownBy w' (some g) := by
 have hb := numBE_bd3 (rdOut l er 2) (rdOut_bs hr.bs er 2) (Nat.le_trans (rdOut_len _ _ _) (by decide))
 go_enter Tryz.func65, Tryz.ntmps65
 go_wp2_with (go_at_call 120; refine (number_any base g l er 2 (by omega) w hr hbase).mono ?_; rintro e w1 ⟨rfl, h1, h2⟩)
 go_ret
 exact ⟨rfl, h1, h2⟩
theorem rfour32_any (base g : Nat) (l : List Int) (er : Int) (w : World) (hr : Rd w base g l er) (hbase : base ≤ w.heap.size) :
  Calls Tryz.prog 70 #[.pointer (some ⟨g, 0, none⟩)] w fun e w' => e = .returned (.int .u32 (numBE (rdOut l er 4))) ∧ Rd w' base g (rdRest l er 4) (rdErr l er 4) ∧ w.grownBy w' (some g) := by
 go_enter Tryz.func70, Tryz.ntmps70
 go_wp2_with (go_at_call 120; refine (number_any base g l er 4 (by omega) w hr hbase).mono ?_; rintro e w1 ⟨rfl, h1, h2⟩)
 go_ret
 exact ⟨rfl, h1, h2⟩
theorem rraw_any (base g : Nat) (l : List Int) (hl : l.length ≤ 1000000) (er k : Int) (w : World) (hr : Rd w base g l er) (hbase : base ≤ w.heap.size) :
  Calls Tryz.prog 64 #[.pointer (some ⟨g, 0, none⟩), .int .i64 k] w fun e w' => ∃ A n c, e = .returned (.slice A n c) ∧ OB 5 w' w.heap.size A n c (rdOut l er k) ∧ Rd w' base g (rdRest l er k) (rdErr l er k) ∧ w.grownBy w' (some g) := by
 go_enter Tryz.func64, Tryz.ntmps64
 go_wp2_with fail
 refine (ready_any base g l er w hr hbase).mono ?_
 rintro x w1 ⟨rfl, e, hr1, hg1⟩
 have c2 : w1.cell? ⟨g, 2, none⟩ = some (cls e) := by
  obtain ⟨_, _, _, A, n, c, hb, _⟩ := hr1
  exact hb.cell 2
 unfold cls at c2
 have hlen := rdOut_le l er k
 go_wp2_with (first
  | (go_at_call 187; refine (next_any base g e l er k w1 hr1).mono ?_; rintro x w2 ⟨A, m, c, rfl, hm, hr2, hR2, hg2⟩; have hm4 : m ≤ 1000000 := by omega)
  | (at_builtin; refine ap8_nil rfl (.const (.slice none 0 0)) (.tmp 12) rfl rfl rfl hr2 (by first | exact hm | rfl) (by omega) ?_; intro A1 c1 w3 hO3 hB3 hz3 hc3))
 go_ret
 have hgg := hg1.trans hg2
 have hz := hgg.size
 refine ⟨A1, m, c1, rfl, Ow.mono hO3 hz, (Rd.below ⟨_, hR2⟩ hB3), hgg.trans ⟨hB3.os, hB3.tape, hB3.output, hB3.size, fun i hi _ => hB3.block i hi⟩⟩
theorem rleft_any (base g : Nat) (l : List Int) (er : Int) (w : World) (hr : Rd w base g l er) :
  Calls Tryz.prog 67 #[.pointer (some ⟨g, 0, none⟩)] w fun e w' => e = .returned (.int .i64 l.length) ∧ w = w' := by
 obtain ⟨F, h0, hs, hF, A, n, c, hb, h2, _⟩ := hr
 rw [h2]
 have c0 := hb.cell 0
 simp only [List.getElem?_toArray, List.getElem?_cons_zero] at c0
 clear h2
 go_enter Tryz.func67, Tryz.ntmps67
 go_wp2
 go_ret
 exact ⟨rfl, rfl⟩
theorem rerr_any (base g : Nat) (l : List Int) (er : Int) (w : World) (hr : Rd w base g l er) :
  Calls Tryz.prog 66 #[.pointer (some ⟨g, 0, none⟩)] w fun e w' => e = .returned (.int .i64 er) ∧ w = w' := by
 obtain ⟨F, h0, hs, hF, A, n, c, hb, h2, _⟩ := hr
 have c0 := hb.cell 1
 simp only [List.getElem?_toArray, List.getElem?_cons_zero, List.getElem?_cons_succ] at c0
 clear h2
 go_enter Tryz.func66, Tryz.ntmps66
 go_wp2
 go_ret
 exact ⟨rfl, rfl⟩
theorem newreader_any (A : Option Addr) (n c B : Nat) (l : List Int) (hn : l.length = n) (hmax : n ≤ 1000000) (hb : Bs l) (w : World) (hr : RB w B A l) (hB : B ≤ w.heap.size) :
  Calls Tryz.prog 63 #[.slice A n c] w fun e w' => ∃ g, e = .returned (.pointer (some ⟨g, 0, none⟩)) ∧ Rd w' w.heap.size g l 0 ∧ Below w.heap.size w w' := by
 have Hn := Lib.hid hn
 clear hn
 go_enter Tryz.func63, Tryz.ntmps63
 go_wp2_with (first
  | (at_builtin; refine ap8_nil rfl (.const (.slice none 0 0)) (.tmp 4) rfl rfl rfl hr Hn.out (by omega) ?_; intro A1 c1 w1 hO1 hB1 hz1 hc1))
 have hR : Rd (w1.alloc (.cells #[.slice A1 n c1, .int .i64 0, .nilFunc] 287)) w.heap.size w1.heap.size l 0 :=
  ⟨.nilFunc, hz1, hb, .inl rfl, A1, n, c1, Bk.new w1 _ _, Hn.out, hc1, Ow.capMax hO1, Rw.more (Rw.alloc hO1.rb (Nat.le_refl _) _) (by simp), fun e => by have := (Ow.lt hO1 _ e).2; omega, (U8Bk.of_ow hO1).keep fun b hb hl => Below.heap_alloc w1 _ b hl⟩
 refine (ready_any w.heap.size w1.heap.size l 0 _ hR (by simp; omega)).mono ?_
 rintro x w2 ⟨rfl, e, hr2, hg2⟩
 go_wp2
 go_ret
 exact ⟨w1.heap.size, rfl, ⟨_, hr2⟩, (hB1.alloc hz1 _).grown hg2 (by simp; omega) (fun k hk => by injection hk with hk; omega)⟩
theorem rdOut_app (a b : List Int) (k : Int) (hk : k = a.length) : rdOut (a ++ b) 0 k = a := by
 subst hk
 unfold rdOut
 rw [if_pos ⟨rfl, by omega, by rw [List.length_append]; omega⟩]
 simp
end Go.Proofs.YtaeafkdfbcppgaaGreat
