/- Proved: the plain laws of the sum of a row of bytes, no program in sight; append of bytes to a row of bytes of the call's own, in this program's own numbers; what fold, Part, Join and Sum of package octet and of its reference return, each by its walk; what the methods of octet.Writer do, each by its walk. Conditions: as each law says. -/
import Derived.BigQuiet
import Derived.Deep.QuietTactic
import Derived.Deep.RegionLaw
import Derived.Test.YtaeafkdfbcppgaaGreatRows
import Derived.Test.YtaeafkdfbcppgaaGreatT00
set_option linter.unusedSectionVars false
set_option linter.unusedSimpArgs false
set_option linter.unusedVariables false
namespace Go.Proofs.YtaeafkdfbcppgaaGreat
def foldC (n : Int) : Int := if n = 0 then 0 else (n - 1) % 65535 + 1
theorem foldC_small {n : Int} (h0 : 0 ≤ n) (h1 : n ≤ 65535) : foldC n = n := by unfold foldC; split <;> omega
theorem foldC_step {n : Int} (h0 : 65535 < n) : foldC (n % 65536 + n / 65536) = foldC n := by unfold foldC; split <;> split <;> omega
theorem foldC_bd {n : Int} (_h : 0 ≤ n) : 0 ≤ foldC n ∧ foldC n ≤ 65535 := by unfold foldC; split <;> omega
def wsum : List Int → Int
 | [] => 0
 | [x] => x * 256
 | x :: y :: r => x * 256 + y + wsum r
def wt (k : Nat) : Int := if k % 2 = 0 then 256 else 1
theorem wt_two (k : Nat) : wt (k + 2) = wt k := by unfold wt; rw [show (k + 2) % 2 = k % 2 from by omega]
theorem wsum_snoc : ∀ (l : List Int) (x : Int), wsum (l ++ [x]) = wsum l + x * wt l.length
 | [], x => by simp [wsum, wt]
 | [y], x => by simp [wsum, wt]
 | y :: z :: r, x => by
  have ih := wsum_snoc r x
  simp only [List.cons_append, wsum, ih, List.length_cons]
  rw [show r.length + 1 + 1 = r.length + 2 from rfl, wt_two]
  omega
theorem wsum_bd : ∀ (l : List Int), (∀ x ∈ l, 0 ≤ x ∧ x < 256) → 0 ≤ wsum l ∧ wsum l ≤ 65280 * l.length
 | [], _ => by simp [wsum]
 | [y], h => by
  have := h y (by simp)
  simp only [wsum, List.length_cons, List.length_nil]
  omega
 | y :: z :: r, h => by
  have h1 := h y (by simp)
  have h2 := h z (by simp)
  have ih := wsum_bd r (fun x hx => h x (by simp [hx]))
  simp only [wsum, List.length_cons]
  omega
theorem take_succ_getD (l : List Int) (k : Nat) (h : k < l.length) : l.take (k + 1) = l.take k ++ [l[k]?.getD 0] := by
 rw [List.take_succ_eq_append_getElem h]; simp [h]
theorem wsum_take (l : List Int) (k : Nat) (h : k < l.length) : wsum (l.take (k + 1)) = wsum (l.take k) + l[k]?.getD 0 * wt k := by
 rw [take_succ_getD l k h, wsum_snoc, List.length_take, Nat.min_eq_left (by omega)]
def partC (l : List Int) : Int := foldC (wsum l)
theorem partC_bd (l : List Int) (h : ∀ x ∈ l, 0 ≤ x ∧ x < 256) : 0 ≤ partC l ∧ partC l ≤ 65535 := foldC_bd (wsum_bd l h).1
open Go.RowKit
theorem info_u8 : (Tryz.prog.info? 5).map (fun i => (i.zero, i.size, i.bytes)) = some (some (.int .u8 0), 1, 1) := by kernel_rfl
def NewOr (A A' : Option Addr) (k : Nat) : Prop := blk A' = blk A ∨ ∀ g, blk A' = some g → k ≤ g
section
variable {w : World} {ops : Array Oper} {rest : List Oper} {o : Oper} {a : Act} {Q : Exit → Act → World → Prop}
theorem ap8 (hgd : o.guard = none) (s x : Operand)
  (ho : o.op = .call { callee := .builtin .append, args := #[s, x], argTypes := #[37, 37] })
  (base : Nat) {A : Option Addr} {n c : Nat} {l : List Int} (hs : a.eval s = .slice A n c) (hown : OB 5 w base A n c l)
  {B : Nat} {A2 : Option Addr} {m c2 : Nat} {l2 : List Int} (hx : a.eval x = .slice A2 m c2) (hr : RB w B A2 l2) (hm : l2.length = m)
  (hsz : n + m ≤ 140737488355328) (hbase : base ≤ w.heap.size)
  (h : ∀ A' c' w', OB 5 w' base A' (n + m) c' (l ++ l2) → Below base w w' → w.grownBy w' (blk A) → NewOr A A' w.heap.size → w.heap.size ≤ w'.heap.size → n + m ≤ c' → wpList Tryz.prog ops Q rest (a.put o.dst (.slice A' (n + m) c')) w') : wpList Tryz.prog ops Q (o :: rest) a w :=
 wpList_append_rw hgd s x 37 ho base 5 (.int .u8 0) 1 Tryz.underlying37 info_u8 rfl hs hown hx hr (by rw [by8_length]; exact hm) (by8_one l2) (by unfold maxLen; omega) (by omega) hbase
  fun A' c' w' h1 h2 h3 => h A' c' w' (by rw [← by8_append] at h1; exact h1) ((Below.refl base w).grown h2 hbase fun k hk => (Ow.lt hown k hk).1) h2 (h3.imp id fun e g hg => by rw [e] at hg; injection hg with hg; omega) h2.size (Ow.cap h1)
theorem ap8_one (hgd : o.guard = none) (s x : Operand)
  (ho : o.op = .call { callee := .builtin .append, args := #[s, x], argTypes := #[37, 37] })
  (base : Nat) {A : Option Addr} {n c : Nat} {l : List Int} (hs : a.eval s = .slice A n c) (hown : OB 5 w base A n c l)
  {v : Int} {c2 : Nat} (hx : a.eval x = .slice (some ⟨w.heap.size, 0, none⟩) 1 c2)
  (hsz : n < 140737488355328) (hbase : base ≤ w.heap.size)
  (h : ∀ A' c' w', OB 5 w' base A' (n + 1) c' (l ++ [v]) → Below base w w' → w.grownBy w' (blk A) → NewOr A A' w.heap.size → w.heap.size ≤ w'.heap.size → n + 1 ≤ c' → wpList Tryz.prog ops Q rest (a.put o.dst (.slice A' (n + 1) c')) w') :
  wpList Tryz.prog ops Q (o :: rest) a (w.alloc (.cells #[.int .u8 v] 5)) :=
 ap8 hgd s x ho base hs (Ow.alloc hown _) (l2 := [v]) hx (rw_lit w 5 [.int .u8 v]) rfl hsz (by simp; omega)
  fun A' c' w' h1 h0 h2 h3 h4 h5 => h A' c' w' h1 (((Below.refl base w).alloc hbase _).trans h0) ((World.grownBy_alloc w _ _).trans h2) (h3.imp id fun e g hg => by have := e g hg; simp at this; omega) (by simp at h4; omega) h5
theorem ap8_new (hgd : o.guard = none) (s x : Operand)
  (ho : o.op = .call { callee := .builtin .append, args := #[s, x], argTypes := #[37, 37] })
  (hs : a.eval s = .slice (some ⟨w.heap.size, 0, none⟩) 0 0)
  {B : Nat} {A2 : Option Addr} {m c2 : Nat} {l2 : List Int} (hx : a.eval x = .slice A2 m c2) (hr : RB w B A2 l2) (hB : B ≤ w.heap.size) (hm : l2.length = m)
  (hsz : m ≤ 140737488355328)
  (h : ∀ A' c' w', OB 5 w' w.heap.size A' m c' l2 → Below w.heap.size w w' → w.heap.size < w'.heap.size → m ≤ c' → wpList Tryz.prog ops Q rest (a.put o.dst (.slice A' m c')) w') :
  wpList Tryz.prog ops Q (o :: rest) a (w.alloc (.cells #[] 5)) :=
 ap8 hgd s x ho w.heap.size hs (ow_lit w 5 w.heap.size [] (Nat.le_refl _) (by decide)) (l := []) hx (Rw.alloc hr hB _) hm (by omega) (by simp)
  fun A' c' w' h1 h0 h2 h3 h4 h5 => by
   simp only [Nat.zero_add, List.nil_append, World.size_alloc] at h1 h4 h5 ⊢
   exact h A' c' w' h1 (((Below.refl _ w).alloc (Nat.le_refl _) _).trans h0) (by omega) h5
theorem ap8_nil (hgd : o.guard = none) (s x : Operand)
  (ho : o.op = .call { callee := .builtin .append, args := #[s, x], argTypes := #[37, 37] })
  (hs : a.eval s = .slice none 0 0)
  {B : Nat} {A2 : Option Addr} {m c2 : Nat} {l2 : List Int} (hx : a.eval x = .slice A2 m c2) (hr : RB w B A2 l2) (hm : l2.length = m)
  (hsz : m ≤ 140737488355328)
  (h : ∀ A' c' w', OB 5 w' w.heap.size A' m c' l2 → Below w.heap.size w w' → w.heap.size ≤ w'.heap.size → m ≤ c' → wpList Tryz.prog ops Q rest (a.put o.dst (.slice A' m c')) w') :
  wpList Tryz.prog ops Q (o :: rest) a w :=
 ap8 hgd s x ho w.heap.size hs (Ow.none_ _ _ _) (l := []) hx hr hm (by omega) (Nat.le_refl _)
  fun A' c' w' h1 h0 h2 h3 h4 h5 => by
   simp only [Nat.zero_add, List.nil_append] at h1 h5 ⊢
   exact h A' c' w' h1 h0 h4 h5
end
section
variable {w : World} {ops : Array Oper} {o : Oper} {a : Act} {K : Act → World → Prop} {Q : Exit → Act → World → Prop} {E : Prop}
theorem st8 (hgd : o.guard = none) (s x : Operand)
  (ho : o.op = .call { callee := .builtin .append, args := #[s, x], argTypes := #[37, 37] })
  (base : Nat) {A : Option Addr} {n c : Nat} {l : List Int} (hs : a.eval s = .slice A n c) (hown : OB 5 w base A n c l)
  {B : Nat} {A2 : Option Addr} {m c2 : Nat} {l2 : List Int} (hx : a.eval x = .slice A2 m c2) (hr : RB w B A2 l2) (hm : l2.length = m)
  (hsz : n + m ≤ 140737488355328) (hbase : base ≤ w.heap.size)
  (h : ∀ A' c' w', OB 5 w' base A' (n + m) c' (l ++ l2) → Below base w w' → w.grownBy w' (blk A) → NewOr A A' w.heap.size → w.heap.size ≤ w'.heap.size → n + m ≤ c' → K (a.put o.dst (.slice A' (n + m) c')) w') :
  if Region.wanted o (yielded ops a.tmps) = true then Oper.wp Tryz.prog o a w K Q else E := by
 have hw : Region.wanted o (yielded ops a.tmps) = true := by simp [Region.wanted, hgd]
 rw [if_pos hw]
 exact wp_append_rw s x 37 ho base 5 (.int .u8 0) 1 Tryz.underlying37 info_u8 rfl hs hown hx hr (by rw [by8_length]; exact hm) (by8_one l2) (by unfold maxLen; omega) (by omega) hbase
  fun A' c' w' h1 h2 h3 => h A' c' w' (by rw [← by8_append] at h1; exact h1) ((Below.refl base w).grown h2 hbase fun k hk => (Ow.lt hown k hk).1) h2 (h3.imp id fun e g hg => by rw [e] at hg; injection hg with hg; omega) h2.size (Ow.cap h1)
end
open Go.RowKit
theorem andNot_8_0 : bits .andNot .u64 8 0 = 8 := by decide
theorem andNot_8_8 : bits .andNot .u64 8 8 = 0 := by decide
attribute [local go_sem] and_i64_65535 and_i64_1 andNot_8_0 andNot_8_8
theorem ret_i64 {x y : Int} (h : x = y) : Ending.returned (.int .i64 x) = .returned (.int .i64 y) := by rw [h]
theorem fold_any (n : Int) (h0 : 0 ≤ n) (h1 : n ≤ 9223372036854775807) (w : World) :
  Calls Tryz.prog 188 #[.int .i64 n] w fun e w' => e = .returned (.int .i64 (foldC n)) ∧ w = w' := by
 obtain ⟨q, hq⟩ : ∃ q, foldC n = q := ⟨_, rfl⟩
 have Hq := Lib.hid hq
 rw [hq]; clear hq
 go_enter Tryz.func188, Tryz.ntmps188
 go_wp2
 go_loop [0] (fun m => ∃ k : Int, 0 ≤ k ∧ k ≤ n ∧ m = .int .i64 k ∧ Hid (foldC k = q)) (fun m => (intOf m).toNat)
 case atStart => exact ⟨n, h0, Int.le_refl _, rfl, Hq⟩
 case round =>
  obtain ⟨k, hk, hk', rfl, Hk⟩ := hrel
  rcases (by omega : k ≤ 65535 ∨ 65535 < k) with c | c
  ·go_wp2
   go_ret
   exact ⟨ret_i64 (by rw [← Hk.out, foldC_small hk c]), rfl⟩
  ·have Hk2 : Hid (foldC (k % 65536 + k / 65536) = q) := by show _ = _; rw [foldC_step c]; exact Hk.out
   go_wp2
   go_round
   case rel => exact ⟨k % 65536 + k / 65536, by omega, by omega, by go_num, Hk2⟩
   case measure => simp [intOf]; omega
theorem part_any (A : Option Addr) (n c B : Nat) (l : List Int) (hn : l.length = n) (hmax : n ≤ 140737488355328) (hb : Bs l) (w : World) (hr : RB w B A l) :
  Calls Tryz.prog 121 #[.slice A n c] w fun e w' => e = .returned (.int .i64 (partC l)) ∧ w = w' := by
 have Hn := Lib.hid hn
 clear hn
 go_enter Tryz.func121, Tryz.ntmps121
 go_wp2
 go_loop [3, 7] (fun s i => ∃ k : Nat, k ≤ n ∧ i = .int .i64 k ∧ s = .int .i64 (wsum (l.take k))) (fun _ i => n - (intOf i).toNat)
 case atStart => exact ⟨0, Nat.zero_le _, rfl, rfl⟩
 case round =>
  obtain ⟨k, hk, rfl, rfl⟩ := hrel
  have hs := wsum_bd (l.take k) (hb.take k)
  have hlen : (l.take k).length ≤ k := List.length_take_le _ _
  have hs1 : 0 ≤ wsum (l.take k) := hs.1
  have hs2 : wsum (l.take k) ≤ 65280 * k := by omega
  clear hs hlen
  rcases Nat.lt_or_ge k n with c1 | c1
  ·obtain ⟨b, off, rfl, _, hc⟩ := hr.at_ (k := k) (by rw [Hn.out]; exact c1)
   have hbx := hb.at_ k
   have HW := Lib.hid (wsum_take l k (by rw [Hn.out]; exact c1))
   rcases (by omega : (k : Int) % 2 = 0 ∨ (k : Int) % 2 = 1) with c2 | c2
   ·have hw : wt k = 256 := by unfold wt; rw [if_pos (by omega)]
    have HV : Hid (wsum (l.take k) + l[k]?.getD 0 * 256 = wsum (l.take (k + 1))) := by show _ = _; rw [HW.out, hw]
    go_wp2
    go_round
    case rel => exact ⟨k + 1, by omega, by go_num, by rw [← HV.out]⟩
    case measure => simp [intOf]; omega
   ·have hw : wt k = 1 := by unfold wt; rw [if_neg (by omega)]
    have HV : Hid (wsum (l.take k) + l[k]?.getD 0 = wsum (l.take (k + 1))) := by show _ = _; rw [HW.out, hw, Int.mul_one]
    go_wp2
    go_round
    case rel => exact ⟨k + 1, by omega, by go_num, by rw [← HV.out]⟩
    case measure => simp [intOf]; omega
  ·have HT : Hid (l.take k = l) := by show _ = _; exact List.take_of_length_le (by rw [Hn.out]; omega)
   go_wp2_with (go_at_call 188; refine (fold_any _ (by omega) (by omega) _).mono ?_; rintro e w' ⟨rfl, rfl⟩)
   go_ret
   exact ⟨ret_i64 (by rw [HT.out]; rfl), rfl⟩
theorem sum_any (A : Option Addr) (n c B : Nat) (l : List Int) (hn : l.length = n) (hmax : n ≤ 140737488355328) (hb : Bs l) (w : World) (hr : RB w B A l) :
  Calls Tryz.prog 73 #[.slice A n c] w fun e w' => e = .returned (.int .i64 (65535 - partC l)) ∧ w = w' := by
 have hs := partC_bd l hb
 have Hn := Lib.hid hn
 clear hn
 go_enter Tryz.func73, Tryz.ntmps73
 go_wp2_with (go_at_call 121; refine (part_any A n c B l Hn.out hmax hb _ hr).mono ?_; rintro e w' ⟨rfl, rfl⟩)
 go_ret
 exact ⟨rfl, rfl⟩
end Go.Proofs.YtaeafkdfbcppgaaGreat

namespace Go.Proofs.YtaeafkdfbcppgaaGreat
open Go.RowKit
def WrAt (w : World) (base g : Nat) (l : List Int) : Prop := base ≤ g ∧ ∃ A n c, Bk w g 290 #[.slice A n c] ∧ OB 5 w base A n c l
def WF (g : Nat) (w : World) (h : Nat) : Prop := h = g ∨ ∃ A n c, Bk w g 290 #[.slice A n c] ∧ blk A = some h
theorem WrAt.wf {w : World} {base g : Nat} {l : List Int} (h : WrAt w base g l) : ∀ i, WF g w i → base ≤ i := by
 obtain ⟨hb, A, n, c, h1, h2⟩ := h
 rintro i (rfl | ⟨A', n', c', h3, h4⟩)
 ·exact hb
 ·unfold Bk at h1 h3
  rw [h1] at h3
  injection h3 with h3
  injection h3 with h3
  have e : #[Value.slice A n c] = #[Value.slice A' n' c'] := h3
  injection e with e
  injection e with e
  injection e with e
  subst e
  exact (Ow.lt h2 i h4).1
theorem WF.of {w : World} {g i : Nat} {A : Option Addr} {n c : Nat} (h1 : Bk w g 290 #[.slice A n c]) (h : WF g w i) : i = g ∨ blk A = some i := by
 rcases h with h | ⟨A', n', c', h3, h4⟩
 ·exact .inl h
 ·unfold Bk at h1 h3
  rw [h1] at h3
  injection h3 with h3
  injection h3 with h3
  have e : #[Value.slice A n c] = #[Value.slice A' n' c'] := h3
  injection e with e
  injection e with e
  injection e with e
  subst e
  exact .inr h4
theorem WrAt.below {w w' : World} {base g : Nat} {l : List Int} (h : WrAt w base g l) (hb : Below w.heap.size w w') : WrAt w' base g l := by
 obtain ⟨h0, A, n, c, h1, h2⟩ := h
 exact ⟨h0, A, n, c, h1.below hb h1.lt, Ow.stays h2 hb⟩
theorem wr_new (w : World) : WrAt (w.alloc (.cells #[.slice none 0 0] 290)) w.heap.size w.heap.size [] :=
 ⟨Nat.le_refl _, none, 0, 0, Bk.new w _ _, Ow.none_ _ _ _⟩
theorem wr_step {w w1 : World} {base g n c n1 c1 : Nat} {A A1 : Option Addr} {l l1 : List Int} (hb : base ≤ g) (hW : Bk w g 290 #[.slice A n c]) (hO : OB 5 w base A n c l)
  (hO1 : OB 5 w1 base A1 n1 c1 l1) (hg1 : w.grownBy w1 (blk A)) (hA1 : NewOr A A1 w.heap.size) :
  WrAt (w1.setCell ⟨g, 0, none⟩ (.slice A1 n1 c1)) base g l1 ∧ Kp (WF g) w (w1.setCell ⟨g, 0, none⟩ (.slice A1 n1 c1)) := by
 have hW1 := hW.grown hg1 (hW.ow_ne hO (by decide))
 have hW2 : Bk (w1.setCell ⟨g, 0, none⟩ (.slice A1 n1 c1)) g 290 #[.slice A1 n1 c1] := hW1.set 0 _
 refine ⟨⟨hb, A1, n1, c1, hW2, Ow.setCell hO1 (fun e => hW1.ow_ne hO1 (by decide) e.symm) _⟩, ⟨hg1.os, hg1.tape, hg1.output, by simpa [World.setCell] using hg1.size, fun h hh hn => ?_, fun h hh hf => ?_⟩⟩
 ·rw [Below.heap_setCell _ _ _ _ (fun e => hn (.inl e))]
  exact hg1.block h hh (fun e => hn (.inr ⟨A, n, c, hW, e.symm⟩))
 ·rcases hf.of hW2 with e | e
  ·exact .inl e
  ·rcases hA1 with h1 | h1
   ·exact .inr ⟨A, n, c, hW, by rw [← h1]; exact e⟩
   ·have := h1 h e; omega
def be : Nat → Int → List Int
 | 0, _ => []
 | k + 1, v => v / 256 ^ k % 256 :: be k v
theorem be_length (k : Nat) (v : Int) : (be k v).length = k := by induction k with | zero => rfl | succ k ih => simp [be, ih]
theorem be_bs (k : Nat) (v : Int) : Bs (be k v) := by
 induction k with
 | zero => exact Bs.nil
 | succ k ih =>
  intro x hx
  simp only [be, List.mem_cons] at hx
  rcases hx with rfl | hx
  ·omega
  ·exact ih x hx
theorem be_1 (v : Int) : be 1 v = v % 256 :: be 0 v := by simp [be]
theorem be_2 (v : Int) : be 2 v = v / 256 % 256 :: be 1 v := by simp [be]
theorem be_3 (v : Int) : be 3 v = v / 65536 % 256 :: be 2 v := by simp [be]
theorem be_4 (v : Int) : be 4 v = v / 16777216 % 256 :: be 3 v := by simp [be]
theorem be_4' (v : Int) (h0 : 0 ≤ v) (h1 : v ≤ 4294967295) : be 4 v = v / 16777216 :: be 3 v := by rw [be_4, show v / 16777216 % 256 = v / 16777216 from by omega]
theorem be_mod1 (v : Int) : be 1 (v % 4294967296) = be 1 v := by rw [be_1, be_1, show v % 4294967296 % 256 = v % 256 from by omega]; rfl
theorem be_mod2 (v : Int) : be 2 (v % 4294967296) = be 2 v := by rw [be_2, be_2, be_mod1, show v % 4294967296 / 256 % 256 = v / 256 % 256 from by omega]
theorem lay_any (v : Int) (k : Nat) (hk : k ≤ 4) (hv0 : 0 ≤ v) (hv1 : v ≤ 4294967295) (base g : Nat) (l : List Int) (hl : l.length ≤ 1000000) (w : World) (hw : WrAt w base g l) (hbase : base ≤ w.heap.size) :
  Calls Tryz.prog 189 #[.pointer (some ⟨g, 0, none⟩), .int .u32 v, .int .u64 k] w fun e w' => e = .returned (.tuple #[]) ∧ WrAt w' base g (l ++ be k v) ∧ Kp (WF g) w w' := by
 go_enter Tryz.func189, Tryz.ntmps189
 go_wp2
 go_loopw [6] (fun i wr => ∃ (j : Nat) (X : List Int), j ≤ k ∧ i = .int .u64 (8 * (j : Int)) ∧ X.length + j = k ∧ Hid (X ++ be j v = be k v) ∧ WrAt wr base g (l ++ X) ∧ Kp (WF g) w wr) (fun i _ => (intOf i).toNat)
 case atStart => exact ⟨k, [], Nat.le_refl _, by go_num, by simp, rfl, by simpa using hw, Kp.refl _ _⟩
 case round =>
  obtain ⟨j, X, hj, rfl, hX, HX, hW, hK⟩ := hrel
  rcases (by omega : j = 0 ∨ j = 1 ∨ j = 2 ∨ j = 3 ∨ j = 4) with rfl | rfl | rfl | rfl | rfl
  ·go_wp2
   go_end0
   refine ⟨rfl, ?_, hK⟩
   have e := HX.out
   simp only [be, List.append_nil] at e
   rw [← e]; exact hW
  ·obtain ⟨hb, A, n, c, hbk, hO⟩ := hW
   have hn := hO.length
   rw [List.length_append] at hn
   have hn2 : n ≤ 1000004 := by omega
   have hcell := hbk.cell 0
   have hfr := hbk.frozen 0
   have hz := hK.size
   simp only [List.getElem?_toArray, List.getElem?_cons_zero] at hcell
   have hkX := hX
   clear hX hn
   go_wp2_with (first
    | (at_builtin; refine ap8_one rfl (.tmp 17) (.tmp 22) rfl base rfl hO rfl (by omega) (by omega) ?_; intro A1 c1 w1 hO1 hB1 hg1 hA1 hz1 hc1; have hbk1 := hbk.grown hg1 (hbk.ow_ne hO (by decide)); have hcell1 := hbk1.cell 0; have hfr1 := hbk1.frozen 0; simp only [List.getElem?_toArray, List.getElem?_cons_zero] at hcell1))
   go_roundw
   case rel =>
    have st := wr_step hb hbk hO hO1 hg1 hA1
    have e := HX.out
    rw [be_1] at e
    exact ⟨0, X ++ [_], by omega, by go_num, by simp; omega, by show _ = _; rw [List.append_assoc]; exact e, by rw [← List.append_assoc]; exact st.1, hK.trans st.2⟩
   case measure => simp [intOf]
  ·obtain ⟨hb, A, n, c, hbk, hO⟩ := hW
   have hn := hO.length
   rw [List.length_append] at hn
   have hn2 : n ≤ 1000004 := by omega
   have hcell := hbk.cell 0
   have hfr := hbk.frozen 0
   have hz := hK.size
   simp only [List.getElem?_toArray, List.getElem?_cons_zero] at hcell
   have hkX := hX
   clear hX hn
   go_wp2_with (first
    | (at_builtin; refine ap8_one rfl (.tmp 17) (.tmp 22) rfl base rfl hO rfl (by omega) (by omega) ?_; intro A1 c1 w1 hO1 hB1 hg1 hA1 hz1 hc1; have hbk1 := hbk.grown hg1 (hbk.ow_ne hO (by decide)); have hcell1 := hbk1.cell 0; have hfr1 := hbk1.frozen 0; simp only [List.getElem?_toArray, List.getElem?_cons_zero] at hcell1))
   go_roundw
   case rel =>
    have st := wr_step hb hbk hO hO1 hg1 hA1
    have e := HX.out
    rw [be_2] at e
    exact ⟨1, X ++ [_], by omega, by go_num, by simp; omega, by show _ = _; rw [List.append_assoc]; exact e, by rw [← List.append_assoc]; exact st.1, hK.trans st.2⟩
   case measure => simp [intOf]
  ·obtain ⟨hb, A, n, c, hbk, hO⟩ := hW
   have hn := hO.length
   rw [List.length_append] at hn
   have hn2 : n ≤ 1000004 := by omega
   have hcell := hbk.cell 0
   have hfr := hbk.frozen 0
   have hz := hK.size
   simp only [List.getElem?_toArray, List.getElem?_cons_zero] at hcell
   have hkX := hX
   clear hX hn
   go_wp2_with (first
    | (at_builtin; refine ap8_one rfl (.tmp 17) (.tmp 22) rfl base rfl hO rfl (by omega) (by omega) ?_; intro A1 c1 w1 hO1 hB1 hg1 hA1 hz1 hc1; have hbk1 := hbk.grown hg1 (hbk.ow_ne hO (by decide)); have hcell1 := hbk1.cell 0; have hfr1 := hbk1.frozen 0; simp only [List.getElem?_toArray, List.getElem?_cons_zero] at hcell1))
   go_roundw
   case rel =>
    have st := wr_step hb hbk hO hO1 hg1 hA1
    have e := HX.out
    rw [be_3] at e
    exact ⟨2, X ++ [_], by omega, by go_num, by simp; omega, by show _ = _; rw [List.append_assoc]; exact e, by rw [← List.append_assoc]; exact st.1, hK.trans st.2⟩
   case measure => simp [intOf]
  ·obtain ⟨hb, A, n, c, hbk, hO⟩ := hW
   have hn := hO.length
   rw [List.length_append] at hn
   have hn2 : n ≤ 1000004 := by omega
   have hcell := hbk.cell 0
   have hfr := hbk.frozen 0
   have hz := hK.size
   simp only [List.getElem?_toArray, List.getElem?_cons_zero] at hcell
   have hkX := hX
   clear hX hn
   go_wp2_with (first
    | (at_builtin; refine ap8_one rfl (.tmp 17) (.tmp 22) rfl base rfl hO rfl (by omega) (by omega) ?_; intro A1 c1 w1 hO1 hB1 hg1 hA1 hz1 hc1; have hbk1 := hbk.grown hg1 (hbk.ow_ne hO (by decide)); have hcell1 := hbk1.cell 0; have hfr1 := hbk1.frozen 0; simp only [List.getElem?_toArray, List.getElem?_cons_zero] at hcell1))
   go_roundw
   case rel =>
    have st := wr_step hb hbk hO hO1 hg1 hA1
    have e := HX.out
    rw [be_4' v hv0 hv1] at e
    exact ⟨3, X ++ [_], by omega, by go_num, by simp; omega, by show _ = _; rw [List.append_assoc]; exact e, by rw [← List.append_assoc]; exact st.1, hK.trans st.2⟩
   case measure => simp [intOf]
theorem byte_any (v : Int) (base g : Nat) (l : List Int) (hl : l.length ≤ 1000000) (w : World) (hw : WrAt w base g l) (hbase : base ≤ w.heap.size) :
  Calls Tryz.prog 160 #[.pointer (some ⟨g, 0, none⟩), .int .i64 v] w fun e w' => e = .returned (.tuple #[]) ∧ WrAt w' base g (l ++ be 1 v) ∧ Kp (WF g) w w' := by
 rw [← be_mod1 v]
 go_enter Tryz.func160, Tryz.ntmps160
 go_wp2_with (go_at_call 189; refine (lay_any (v % 4294967296) 1 (by omega) (by omega) (by omega) base g l hl _ hw hbase).mono ?_; rintro e w1 ⟨rfl, h1, h2⟩)
 go_end0
 exact ⟨rfl, h1, h2⟩
theorem two_any (v : Int) (base g : Nat) (l : List Int) (hl : l.length ≤ 1000000) (w : World) (hw : WrAt w base g l) (hbase : base ≤ w.heap.size) :
  Calls Tryz.prog 124 #[.pointer (some ⟨g, 0, none⟩), .int .i64 v] w fun e w' => e = .returned (.tuple #[]) ∧ WrAt w' base g (l ++ be 2 v) ∧ Kp (WF g) w w' := by
 rw [← be_mod2 v]
 go_enter Tryz.func124, Tryz.ntmps124
 go_wp2_with (go_at_call 189; refine (lay_any (v % 4294967296) 2 (by omega) (by omega) (by omega) base g l hl _ hw hbase).mono ?_; rintro e w1 ⟨rfl, h1, h2⟩)
 go_end0
 exact ⟨rfl, h1, h2⟩
theorem four_any (v : Int) (hv0 : 0 ≤ v) (hv1 : v ≤ 4294967295) (base g : Nat) (l : List Int) (hl : l.length ≤ 1000000) (w : World) (hw : WrAt w base g l) (hbase : base ≤ w.heap.size) :
  Calls Tryz.prog 123 #[.pointer (some ⟨g, 0, none⟩), .int .u32 v] w fun e w' => e = .returned (.tuple #[]) ∧ WrAt w' base g (l ++ be 4 v) ∧ Kp (WF g) w w' := by
 go_enter Tryz.func123, Tryz.ntmps123
 go_wp2_with (go_at_call 189; refine (lay_any v 4 (by omega) hv0 hv1 base g l hl _ hw hbase).mono ?_; rintro e w1 ⟨rfl, h1, h2⟩)
 go_end0
 exact ⟨rfl, h1, h2⟩
theorem raw_any (A2 : Option Addr) (m c2 B : Nat) (l2 : List Int) (hm : l2.length = m) (hm2 : m ≤ 1000000) (base g : Nat) (l : List Int) (hl : l.length ≤ 1000000) (w : World) (hr : RB w B A2 l2) (hw : WrAt w base g l) (hbase : base ≤ w.heap.size) :
  Calls Tryz.prog 125 #[.pointer (some ⟨g, 0, none⟩), .slice A2 m c2] w fun e w' => e = .returned (.tuple #[]) ∧ WrAt w' base g (l ++ l2) ∧ Kp (WF g) w w' := by
 have Hm := Lib.hid hm
 clear hm
 obtain ⟨hb, A, n, c, hbk, hO⟩ := hw
 have hn := hO.length
 have hn2 : n ≤ 1000000 := by omega
 have hcell := hbk.cell 0
 have hfr := hbk.frozen 0
 simp only [List.getElem?_toArray, List.getElem?_cons_zero] at hcell
 clear hn
 go_enter Tryz.func125, Tryz.ntmps125
 go_wp2_with (first
  | (at_builtin; refine ap8 rfl (.tmp 8) (.tmp 9) rfl base rfl hO rfl hr Hm.out (by omega) hbase ?_; intro A1 c1 w1 hO1 hB1 hg1 hA1 hz1 hc1; have hbk1 := hbk.grown hg1 (hbk.ow_ne hO (by decide)); have hcell1 := hbk1.cell 0; have hfr1 := hbk1.frozen 0; simp only [List.getElem?_toArray, List.getElem?_cons_zero] at hcell1))
 go_end0
 have st := wr_step hb hbk hO hO1 hg1 hA1
 exact ⟨rfl, st.1, st.2⟩
theorem bytes_any (base g : Nat) (l : List Int) (hl : l.length ≤ 1000000) (w : World) (hw : WrAt w base g l) :
  Calls Tryz.prog 126 #[.pointer (some ⟨g, 0, none⟩)] w fun e w' => ∃ A n c, e = .returned (.slice A n c) ∧ OB 5 w' w.heap.size A n c l ∧ Below w.heap.size w w' := by
 obtain ⟨hb, A, n, c, hbk, hO⟩ := hw
 have hn := hO.length
 have hn2 : n ≤ 1000000 := by omega
 have hcell := hbk.cell 0
 simp only [List.getElem?_toArray, List.getElem?_cons_zero] at hcell
 clear hn
 go_enter Tryz.func126, Tryz.ntmps126
 go_wp2_with (first
  | (at_builtin; refine ap8_nil rfl (.const (.slice none 0 0)) (.tmp 6) rfl rfl rfl hO.rb hO.length (by omega) ?_; intro A1 c1 w1 hO1 hB1 hz1 hc1))
 go_ret
 exact ⟨A1, n, c1, rfl, hO1, hB1⟩
end Go.Proofs.YtaeafkdfbcppgaaGreat
