/- Proved: append of bytes to a row of bytes of the call's own, in this program's own numbers. Conditions: the sizes that each law says. -/
import Derived.Test.YtocigdkndlmikaaRows
import Derived.Test.YtocigdkndlmikaaLib
set_option linter.unusedVariables false
namespace Go.Proofs.Ytocigdkndlmikaa
open Go.RowKit
theorem info_u8 : (Try.prog.info? 5).map (fun i => (i.zero, i.size, i.bytes)) = some (some (.int .u8 0), 1, 1) := by kernel_rfl

/-- Where a row lies that was appended to: where it lay, or from block k on. -/
def NewOr (A A' : Option Addr) (k : Nat) : Prop := blk A' = blk A ∨ ∀ g, blk A' = some g → k ≤ g

section
variable {w : World} {ops : Array Oper} {rest : List Oper} {o : Oper} {a : Act} {Q : Exit → Act → World → Prop}
theorem ap8 (hgd : o.guard = none) (s x : Operand)
    (ho : o.op = .call { callee := .builtin .append, args := #[s, x], argTypes := #[27, 27] })
    (base : Nat) {A : Option Addr} {n c : Nat} {l : List Int} (hs : a.eval s = .slice A n c) (hown : OB 5 w base A n c l)
    {B : Nat} {A2 : Option Addr} {m c2 : Nat} {l2 : List Int} (hx : a.eval x = .slice A2 m c2) (hr : RB w B A2 l2) (hm : l2.length = m)
    (hsz : n + m ≤ 140737488355328) (hbase : base ≤ w.heap.size)
    (h : ∀ A' c' w', OB 5 w' base A' (n + m) c' (l ++ l2) → Below base w w' → w.grownBy w' (blk A) → NewOr A A' w.heap.size → w.heap.size ≤ w'.heap.size → n + m ≤ c' → wpList Try.prog ops Q rest (a.put o.dst (.slice A' (n + m) c')) w') : wpList Try.prog ops Q (o :: rest) a w :=
  wpList_append_rw hgd s x 27 ho base 5 (.int .u8 0) 1 Try.underlying27 info_u8 rfl hs hown hx hr (by rw [by8_length]; exact hm) (by8_one l2) (by unfold maxLen; omega) (by omega) hbase
    fun A' c' w' h1 h2 h3 => h A' c' w' (by rw [← by8_append] at h1; exact h1) ((Below.refl base w).grown h2 hbase fun k hk => (Ow.lt hown k hk).1) h2 (h3.imp id fun e g hg => by rw [e] at hg; injection hg with hg; omega) h2.size (Ow.cap h1)

/-- One byte: it lies in a block of its own that was laid for it. -/
theorem ap8_one (hgd : o.guard = none) (s x : Operand)
    (ho : o.op = .call { callee := .builtin .append, args := #[s, x], argTypes := #[27, 27] })
    (base : Nat) {A : Option Addr} {n c : Nat} {l : List Int} (hs : a.eval s = .slice A n c) (hown : OB 5 w base A n c l)
    {v : Int} {c2 : Nat} (hx : a.eval x = .slice (some ⟨w.heap.size, 0, none⟩) 1 c2)
    (hsz : n < 140737488355328) (hbase : base ≤ w.heap.size)
    (h : ∀ A' c' w', OB 5 w' base A' (n + 1) c' (l ++ [v]) → Below base w w' → w.grownBy w' (blk A) → NewOr A A' w.heap.size → w.heap.size ≤ w'.heap.size → n + 1 ≤ c' → wpList Try.prog ops Q rest (a.put o.dst (.slice A' (n + 1) c')) w') :
    wpList Try.prog ops Q (o :: rest) a (w.alloc (.cells #[.int .u8 v] 5)) :=
  ap8 hgd s x ho base hs (Ow.alloc hown _) (l2 := [v]) hx (rw_lit w 5 [.int .u8 v]) rfl hsz (by simp; omega)
    fun A' c' w' h1 h0 h2 h3 h4 h5 => h A' c' w' h1 (((Below.refl base w).alloc hbase _).trans h0) ((World.grownBy_alloc w _ _).trans h2) (h3.imp id fun e g hg => by have := e g hg; simp at this; omega) (by simp at h4; omega) h5

/-- Two bytes of a literal. -/
theorem ap8_lit (hgd : o.guard = none) (s x : Operand)
    (ho : o.op = .call { callee := .builtin .append, args := #[s, x], argTypes := #[27, 27] })
    (base : Nat) {A : Option Addr} {n c : Nat} {l : List Int} (hs : a.eval s = .slice A n c) (hown : OB 5 w base A n c l)
    (vs : List Int) {m c2 : Nat} {cs : Array Value} (hcs : cs = (by8 vs).toArray) (hx : a.eval x = .slice (some ⟨w.heap.size, 0, none⟩) m c2) (hm : vs.length = m)
    (hsz : n + m ≤ 140737488355328) (hbase : base ≤ w.heap.size)
    (h : ∀ A' c' w', OB 5 w' base A' (n + m) c' (l ++ vs) → Below base w w' → w.grownBy w' (blk A) → NewOr A A' w.heap.size → w.heap.size ≤ w'.heap.size → n + m ≤ c' → wpList Try.prog ops Q rest (a.put o.dst (.slice A' (n + m) c')) w') :
    wpList Try.prog ops Q (o :: rest) a (w.alloc (.cells cs 5)) := by
  subst hcs
  exact ap8 hgd s x ho base hs (Ow.alloc hown _) (l2 := vs) hx (rw_lit w 5 (by8 vs)) hm hsz (by simp; omega)
    fun A' c' w' h1 h0 h2 h3 h4 h5 => h A' c' w' h1 (((Below.refl base w).alloc hbase _).trans h0) ((World.grownBy_alloc w _ _).trans h2) (h3.imp id fun e g hg => by have := e g hg; simp at this; omega) (by simp at h4; omega) h5

/-- A copy: append to an empty row of its own. -/
theorem ap8_new (hgd : o.guard = none) (s x : Operand)
    (ho : o.op = .call { callee := .builtin .append, args := #[s, x], argTypes := #[27, 27] })
    (hs : a.eval s = .slice (some ⟨w.heap.size, 0, none⟩) 0 0)
    {B : Nat} {A2 : Option Addr} {m c2 : Nat} {l2 : List Int} (hx : a.eval x = .slice A2 m c2) (hr : RB w B A2 l2) (hB : B ≤ w.heap.size) (hm : l2.length = m)
    (hsz : m ≤ 140737488355328)
    (h : ∀ A' c' w', OB 5 w' w.heap.size A' m c' l2 → Below w.heap.size w w' → w.heap.size < w'.heap.size → m ≤ c' → wpList Try.prog ops Q rest (a.put o.dst (.slice A' m c')) w') :
    wpList Try.prog ops Q (o :: rest) a (w.alloc (.cells #[] 5)) :=
  ap8 hgd s x ho w.heap.size hs (ow_lit w 5 w.heap.size [] (Nat.le_refl _) (by decide)) (l := []) hx (Rw.alloc hr hB _) hm (by omega) (by simp)
    fun A' c' w' h1 h0 h2 h3 h4 h5 => by
      simp only [Nat.zero_add, List.nil_append, World.size_alloc] at h1 h4 h5 ⊢
      exact h A' c' w' h1 (((Below.refl _ w).alloc (Nat.le_refl _) _).trans h0) (by omega) h5
/-- A copy onto nil: 'append([]byte(nil), p...)', nil where there is nothing. -/
theorem ap8_nil (hgd : o.guard = none) (s x : Operand)
    (ho : o.op = .call { callee := .builtin .append, args := #[s, x], argTypes := #[27, 27] })
    (hs : a.eval s = .slice none 0 0)
    {B : Nat} {A2 : Option Addr} {m c2 : Nat} {l2 : List Int} (hx : a.eval x = .slice A2 m c2) (hr : RB w B A2 l2) (hm : l2.length = m)
    (hsz : m ≤ 140737488355328)
    (h : ∀ A' c' w', OB 5 w' w.heap.size A' m c' l2 → Below w.heap.size w w' → w.heap.size ≤ w'.heap.size → m ≤ c' → wpList Try.prog ops Q rest (a.put o.dst (.slice A' m c')) w') :
    wpList Try.prog ops Q (o :: rest) a w :=
  ap8 hgd s x ho w.heap.size hs (Ow.none_ _ _ _) (l := []) hx hr hm (by omega) (Nat.le_refl _)
    fun A' c' w' h1 h0 h2 h3 h4 h5 => by
      simp only [Nat.zero_add, List.nil_append] at h1 h5 ⊢
      exact h A' c' w' h1 h0 h4 h5
end

/-! ### the same as steps of a region that draws its order -/
section
variable {w : World} {ops : Array Oper} {o : Oper} {a : Act} {K : Act → World → Prop} {Q : Exit → Act → World → Prop} {E : Prop}
theorem st8 (hgd : o.guard = none) (s x : Operand)
    (ho : o.op = .call { callee := .builtin .append, args := #[s, x], argTypes := #[27, 27] })
    (base : Nat) {A : Option Addr} {n c : Nat} {l : List Int} (hs : a.eval s = .slice A n c) (hown : OB 5 w base A n c l)
    {B : Nat} {A2 : Option Addr} {m c2 : Nat} {l2 : List Int} (hx : a.eval x = .slice A2 m c2) (hr : RB w B A2 l2) (hm : l2.length = m)
    (hsz : n + m ≤ 140737488355328) (hbase : base ≤ w.heap.size)
    (h : ∀ A' c' w', OB 5 w' base A' (n + m) c' (l ++ l2) → Below base w w' → w.grownBy w' (blk A) → NewOr A A' w.heap.size → w.heap.size ≤ w'.heap.size → n + m ≤ c' → K (a.put o.dst (.slice A' (n + m) c')) w') :
    if Region.wanted o (yielded ops a.tmps) = true then Oper.wp Try.prog o a w K Q else E := by
  have hw : Region.wanted o (yielded ops a.tmps) = true := by simp [Region.wanted, hgd]
  rw [if_pos hw]
  exact wp_append_rw s x 27 ho base 5 (.int .u8 0) 1 Try.underlying27 info_u8 rfl hs hown hx hr (by rw [by8_length]; exact hm) (by8_one l2) (by unfold maxLen; omega) (by omega) hbase
    fun A' c' w' h1 h2 h3 => h A' c' w' (by rw [← by8_append] at h1; exact h1) ((Below.refl base w).grown h2 hbase fun k hk => (Ow.lt hown k hk).1) h2 (h3.imp id fun e g hg => by rw [e] at hg; injection hg with hg; omega) h2.size (Ow.cap h1)
theorem st8_lit (hgd : o.guard = none) (s x : Operand)
    (ho : o.op = .call { callee := .builtin .append, args := #[s, x], argTypes := #[27, 27] })
    (base : Nat) {A : Option Addr} {n c : Nat} {l : List Int} (hs : a.eval s = .slice A n c) (hown : OB 5 w base A n c l)
    (vs : List Int) {m c2 : Nat} {cs : Array Value} (hcs : cs = (by8 vs).toArray) (hx : a.eval x = .slice (some ⟨w.heap.size, 0, none⟩) m c2) (hm : vs.length = m)
    (hsz : n + m ≤ 140737488355328) (hbase : base ≤ w.heap.size)
    (h : ∀ A' c' w', OB 5 w' base A' (n + m) c' (l ++ vs) → Below base w w' → w.grownBy w' (blk A) → NewOr A A' w.heap.size → w.heap.size ≤ w'.heap.size → n + m ≤ c' → K (a.put o.dst (.slice A' (n + m) c')) w') :
    if Region.wanted o (yielded ops a.tmps) = true then Oper.wp Try.prog o a (w.alloc (.cells cs 5)) K Q else E := by
  subst hcs
  exact st8 hgd s x ho base hs (Ow.alloc hown _) (l2 := vs) hx (rw_lit w 5 (by8 vs)) hm hsz (by simp; omega)
    fun A' c' w' h1 h0 h2 h3 h4 h5 => h A' c' w' h1 (((Below.refl base w).alloc hbase _).trans h0) ((World.grownBy_alloc w _ _).trans h2) (h3.imp id fun e g hg => by have := e g hg; simp at this; omega) (by simp at h4; omega) h5
theorem st8_litd (hgd : o.guard = none) (s x : Operand)
    (ho : o.op = .call { callee := .builtin .append, args := #[s, x], argTypes := #[27, 27] })
    (base : Nat) {A : Option Addr} {n c : Nat} {l : List Int} (hs : a.eval s = .slice A n c) (hown : OB 5 w base A n c l)
    (vs : List Int) {m c2 : Nat} {cs : Array Value} (hcs : cs = (by8 vs).toArray) (hx : a.eval x = .slice (some ⟨w.heap.size, 0, none⟩) m c2) (hm : vs.length = m)
    (hsz : n + m ≤ 140737488355328) (hbase : base ≤ w.heap.size)
    (h : ∀ A' c' w', OB 5 w' base A' (n + m) c' (l ++ vs) → Below base w w' → w.grownBy w' (blk A) → NewOr A A' w.heap.size → w.heap.size ≤ w'.heap.size → n + m ≤ c' → K (a.put o.dst (.slice A' (n + m) c')) w') :
    if Region.wanted o (yielded ops a.tmps) = true then Oper.wp Try.prog o a (w.alloc (.cells cs 5)).drew K Q else E := by
  subst hcs
  exact st8 hgd s x ho base hs (Ow.drew (Ow.alloc hown _)) (l2 := vs) hx (Rw.drew (rw_lit w 5 (by8 vs))) hm hsz (by simp; omega)
    fun A' c' w' h1 h0 h2 h3 h4 h5 => h A' c' w' h1 ((((Below.refl base w).alloc hbase _).drew).trans h0) (World.grownBy.trans (grownBy_drew (World.grownBy_alloc w _ _)) h2) (h3.imp id fun e g hg => by have := e g hg; simp at this; omega) (by simp at h4; omega) h5
end
theorem ob_lit (w : World) (base : Nat) (vs : List Int) (hb : base ≤ w.heap.size) (hl : vs.length ≤ 140737488355328) : OB 5 (w.alloc (.cells (by8 vs).toArray 5)) base (some ⟨w.heap.size, 0, none⟩) vs.length vs.length vs := by
  have := ow_lit w 5 base (by8 vs) hb (by rw [by8_length]; unfold maxLen; omega)
  rwa [by8_length] at this
theorem ob_empty (w : World) (base : Nat) (hb : base ≤ w.heap.size) : OB 5 (w.alloc (.cells #[] 5)) base (some ⟨w.heap.size, 0, none⟩) 0 0 [] := ob_lit w base [] hb (by simp)
end Go.Proofs.Ytocigdkndlmikaa
