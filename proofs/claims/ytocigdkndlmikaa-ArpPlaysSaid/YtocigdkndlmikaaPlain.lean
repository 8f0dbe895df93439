/- Proved: the plain laws of the sum of a row of bytes, no program in sight. Conditions: as each law says. -/
import Derived.WalkKit
namespace Go.Proofs.Ytocigdkndlmikaa

/-- A number of carries added: nothing stays nothing, all else comes between 1 and 65535. -/
def foldC (n : Int) : Int := if n = 0 then 0 else (n - 1) % 65535 + 1
theorem foldC_small {n : Int} (h0 : 0 ≤ n) (h1 : n ≤ 65535) : foldC n = n := by unfold foldC; split <;> omega
theorem foldC_step {n : Int} (h0 : 65535 < n) : foldC (n % 65536 + n / 65536) = foldC n := by unfold foldC; split <;> split <;> omega
theorem foldC_bd {n : Int} (_h : 0 ≤ n) : 0 ≤ foldC n ∧ foldC n ≤ 65535 := by unfold foldC; split <;> omega
theorem foldC_add {x y : Int} (h : 0 ≤ x) (h' : 0 ≤ y) : foldC (foldC x + y) = foldC (x + y) := by
  unfold foldC
  repeat' split
  all_goals omega
theorem foldC_add2 {x y : Int} (h : 0 ≤ x) (h' : 0 ≤ y) : foldC (foldC x + foldC y) = foldC (x + y) := by
  rw [foldC_add h (foldC_bd h').1, Int.add_comm, foldC_add h' h, Int.add_comm]
theorem foldC_max {x : Int} (h : 0 ≤ x) : foldC x = 65535 ↔ 0 < x ∧ x % 65535 = 0 := by
  unfold foldC
  split <;> omega
theorem foldC_zero (x : Int) (h : 0 ≤ x) : foldC (x + (65535 - foldC x)) = 65535 := by
  unfold foldC
  repeat' split
  all_goals omega

/-- The sum of a row's words, the higher byte first; an odd row's last byte is a word's higher one. -/
def wsum : List Int → Int
  | [] => 0
  | [x] => x * 256
  | x :: y :: r => x * 256 + y + wsum r
/-- What a byte at a place counts. -/
def wt (k : Nat) : Int := if k % 2 = 0 then 256 else 1
theorem wt_two (k : Nat) : wt (k + 2) = wt k := by unfold wt; rw [show (k + 2) % 2 = k % 2 from by omega]
theorem wt_cases (k : Nat) : wt k = 256 ∨ wt k = 1 := by unfold wt; split <;> simp
theorem wsum_snoc : ∀ (l : List Int) (x : Int), wsum (l ++ [x]) = wsum l + x * wt l.length
  | [], x => by simp [wsum, wt]
  | [y], x => by simp [wsum, wt]
  | y :: z :: r, x => by
    have ih := wsum_snoc r x
    simp only [List.cons_append, wsum, ih, List.length_cons]
    rw [show r.length + 1 + 1 = r.length + 2 from rfl, wt_two]
    omega
theorem wsum_append : ∀ (l m : List Int), l.length % 2 = 0 → wsum (l ++ m) = wsum l + wsum m
  | [], m, _ => by simp [wsum]
  | [y], m, h => by simp at h
  | y :: z :: r, m, h => by
    have ih := wsum_append r m (by simp only [List.length_cons] at h; omega)
    simp only [List.cons_append, wsum, ih]
    omega
theorem wsum_bd : ∀ (l : List Int), (∀ x ∈ l, 0 ≤ x ∧ x < 256) → 0 ≤ wsum l ∧ wsum l ≤ 65280 * l.length
  | [], _ => by simp [wsum]
  | [y], h => by
    have := h y (by simp)
    simp only [wsum, List.length_cons, List.length_nil]
    omega
  | y :: z :: r, h => by
    have h1 := h y (by simp)
    have h2 := h z (by simp)
    have ih := wsum_bd r (fun x hx => h x (by simp [hx]))
    simp only [wsum, List.length_cons]
    omega
theorem take_succ_getD (l : List Int) (k : Nat) (h : k < l.length) : l.take (k + 1) = l.take k ++ [l[k]?.getD 0] := by
  rw [List.take_succ_eq_append_getElem h]; simp [h]
theorem wsum_take (l : List Int) (k : Nat) (h : k < l.length) : wsum (l.take (k + 1)) = wsum (l.take k) + l[k]?.getD 0 * wt k := by
  rw [take_succ_getD l k h, wsum_snoc, List.length_take, Nat.min_eq_left (by omega)]
def partC (l : List Int) : Int := foldC (wsum l)
theorem partC_bd (l : List Int) (h : ∀ x ∈ l, 0 ≤ x ∧ x < 256) : 0 ≤ partC l ∧ partC l ≤ 65535 := foldC_bd (wsum_bd l h).1
theorem partC_two (l : List Int) (hb : ∀ x ∈ l, 0 ≤ x ∧ x < 256) (k : Nat) (he : k % 2 = 0) (h : k + 1 < l.length) : foldC (partC (l.take k) + l[k]?.getD 0 * 256 + l[k + 1]?.getD 0) = partC (l.take (k + 2)) := by
  have h0 := wsum_bd (l.take k) (fun x hx => hb x (List.mem_of_mem_take hx))
  have h1 : 0 ≤ l[k]?.getD 0 := by rw [List.getElem?_eq_getElem (by omega)]; exact (hb _ (List.getElem_mem (by omega))).1
  have h2 : 0 ≤ l[k + 1]?.getD 0 := by rw [List.getElem?_eq_getElem h]; exact (hb _ (List.getElem_mem h)).1
  unfold partC
  rw [Int.add_assoc, foldC_add h0.1 (by omega), wsum_take l (k + 1) h, wsum_take l k (by omega)]
  have e1 : wt k = 256 := by unfold wt; rw [if_pos he]
  have e2 : wt (k + 1) = 1 := by unfold wt; rw [if_neg (by omega)]
  rw [e1, e2]
  congr 1
  omega
theorem partC_last (l : List Int) (hb : ∀ x ∈ l, 0 ≤ x ∧ x < 256) (k : Nat) (he : k % 2 = 0) (h : k + 1 = l.length) : foldC (partC (l.take k) + l[k]?.getD 0 * 256) = partC (l.take (k + 2)) := by
  have h0 := wsum_bd (l.take k) (fun x hx => hb x (List.mem_of_mem_take hx))
  have h1 : 0 ≤ l[k]?.getD 0 := by rw [List.getElem?_eq_getElem (by omega)]; exact (hb _ (List.getElem_mem (by omega))).1
  unfold partC
  rw [foldC_add h0.1 (by omega), show l.take (k + 2) = l.take (k + 1) from by rw [List.take_of_length_le (by omega), List.take_of_length_le (by omega)], wsum_take l k (by omega)]
  have e1 : wt k = 256 := by unfold wt; rw [if_pos he]
  rw [e1]
theorem partC_join (a b : List Int) (ha : ∀ x ∈ a, 0 ≤ x ∧ x < 256) (hb : ∀ x ∈ b, 0 ≤ x ∧ x < 256) (he : a.length % 2 = 0) : partC (a ++ b) = foldC (partC a % 65536 + partC b % 65536) := by
  have h1 := partC_bd a ha
  have h2 := partC_bd b hb
  rw [Int.emod_eq_of_lt h1.1 (by omega), Int.emod_eq_of_lt h2.1 (by omega)]
  unfold partC
  rw [foldC_add2 (wsum_bd a ha).1 (wsum_bd b hb).1, wsum_append a b he]
theorem partC_sum (p : List Int) (hp : ∀ x ∈ p, 0 ≤ x ∧ x < 256) (he : p.length % 2 = 0) : partC (p ++ [(65535 - partC p) / 256, (65535 - partC p) % 256]) = 65535 := by
  have h := wsum_bd p hp
  unfold partC
  rw [wsum_append _ _ he]
  simp only [wsum]
  rw [show (65535 - foldC (wsum p)) / 256 * 256 + (65535 - foldC (wsum p)) % 256 + 0 = 65535 - foldC (wsum p) from by omega]
  exact foldC_zero _ h.1
theorem wsum_set : ∀ (l : List Int) (i : Nat) (v : Int), i < l.length → wsum (l.set i v) = wsum l + (v - l[i]?.getD 0) * wt i
  | [], i, v, h => by simp at h
  | [y], 0, v, h => by simp [wsum, wt]; omega
  | [y], i + 1, v, h => by simp at h
  | y :: z :: r, 0, v, h => by simp [wsum, wt]; omega
  | y :: z :: r, 1, v, h => by simp [wsum, wt]; omega
  | y :: z :: r, i + 2, v, h => by
    have ih := wsum_set r i v (by simp only [List.length_cons] at h; omega)
    simp only [List.set_cons_succ, wsum, ih, List.getElem?_cons_succ]
    rw [wt_two]
    omega
/-- One byte turned into another: even bytes that sum up to 65535 no longer do. -/
theorem partC_set (l : List Int) (i : Nat) (v : Int) (hl : ∀ x ∈ l, 0 ≤ x ∧ x < 256) (hi : i < l.length) (hv0 : 0 ≤ v) (hv1 : v < 256) (hne : v ≠ l[i]?.getD 0) (h : partC l = 65535) : partC (l.set i v) ≠ 65535 := by
  have hb := wsum_bd l hl
  have hx : 0 ≤ l[i]?.getD 0 ∧ l[i]?.getD 0 < 256 := by rw [List.getElem?_eq_getElem hi]; exact hl _ (List.getElem_mem hi)
  have hb' := wsum_bd (l.set i v) (fun x hx => by
    rcases List.mem_or_eq_of_mem_set hx with h1 | h1
    · exact hl x h1
    · subst h1; exact ⟨hv0, hv1⟩)
  unfold partC at h ⊢
  rw [Ne, foldC_max hb'.1]
  rw [foldC_max hb.1] at h
  rw [wsum_set l i v hi]
  intro h2
  rcases wt_cases i with e | e <;> rw [e] at h2 <;> omega

/-- A row turned round word by word. -/
def wrev : List Int → List Int
  | [] => []
  | [_] => []
  | x :: y :: r => wrev r ++ [x, y]
theorem wrev_length : ∀ (l : List Int), l.length % 2 = 0 → (wrev l).length = l.length
  | [], _ => rfl
  | [y], h => by simp at h
  | y :: z :: r, h => by
    have ih := wrev_length r (by simp only [List.length_cons] at h; omega)
    simp [wrev, ih]
theorem wrev_bs : ∀ (l : List Int), (∀ x ∈ l, 0 ≤ x ∧ x < 256) → ∀ x ∈ wrev l, 0 ≤ x ∧ x < 256
  | [], _, x, hx => by simp [wrev] at hx
  | [_], _, x, hx => by simp [wrev] at hx
  | y :: z :: r, h, x, hx => by
    simp only [wrev, List.mem_append, List.mem_cons, List.not_mem_nil, or_false] at hx
    rcases hx with hx | rfl | rfl
    · exact wrev_bs r (fun u hu => h u (by simp [hu])) x hx
    · exact h _ (by simp)
    · exact h _ (by simp)
theorem wsum_wrev : ∀ (l : List Int), l.length % 2 = 0 → wsum (wrev l) = wsum l
  | [], _ => rfl
  | [y], h => by simp at h
  | y :: z :: r, h => by
    have he : r.length % 2 = 0 := by simp only [List.length_cons] at h; omega
    have ih := wsum_wrev r he
    rw [wrev, wsum_append _ _ (by rw [wrev_length r he]; exact he), ih]
    simp only [wsum]
    omega
theorem wrev_snoc2 : ∀ (l : List Int) (x y : Int), l.length % 2 = 0 → wrev (l ++ [x, y]) = x :: y :: wrev l
  | [], x, y, _ => rfl
  | [z], _, _, h => by simp at h
  | a :: b :: r, x, y, h => by
    have ih := wrev_snoc2 r x y (by simp only [List.length_cons] at h; omega)
    simp only [List.cons_append, wrev, ih]
end Go.Proofs.Ytocigdkndlmikaa
