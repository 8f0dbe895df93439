/- Proved: rows of numbers with two places exchanged, sorted parts, and what bounds them (plain). Conditions: as each law says. -/
import Derived.Test.YtocigdkndlmikaaRows
set_option linter.unusedVariables false
namespace Go.Proofs.Ytocigdkndlmikaa
/-- A row's number at a place. -/
def gt (D : List Int) (k : Nat) : Int := D[k]?.getD 0
theorem gt_some {D : List Int} {k : Nat} (h : k < D.length) : D[k]? = some (gt D k) := by
  unfold gt; rw [List.getElem?_eq_getElem h]; rfl
/-- Two places exchanged. -/
def swp (D : List Int) (i j : Nat) : List Int := (D.set i (gt D j)).set j (gt D i)
theorem swp_len (D : List Int) (i j : Nat) : (swp D i j).length = D.length := by unfold swp; rw [List.length_set, List.length_set]
theorem gt_set {D : List Int} {i k : Nat} {x : Int} (hi : i < D.length) : gt (D.set i x) k = if k = i then x else gt D k := by
  unfold gt
  rw [List.getElem?_set]
  by_cases e : k = i
  · subst e; rw [if_pos rfl, if_pos rfl, if_pos hi]; rfl
  · rw [if_neg e, if_neg (fun h => e h.symm)]
theorem gt_swp {D : List Int} {i j k : Nat} (hi : i < D.length) (hj : j < D.length) : gt (swp D i j) k = if k = j then gt D i else if k = i then gt D j else gt D k := by
  unfold swp
  rw [gt_set (by rw [List.length_set]; exact hj), gt_set hi]
theorem gt_get {D : List Int} {k : Nat} (h : k < D.length) : gt D k = D[k] := by
  unfold gt; rw [List.getElem?_eq_getElem h]; rfl
theorem swp_perm {D : List Int} {i j : Nat} (hi : i < D.length) (hj : j < D.length) : (swp D i j).Perm D := by
  have h := Array.swap_perm (xs := D.toArray) (i := i) (j := j) (by simpa using hi) (by simpa using hj)
  have e : (D.toArray.swap i j (by simpa using hi) (by simpa using hj)).toList = swp D i j := by
    unfold swp
    rw [gt_get hi, gt_get hj]
    simp [Array.swap]
  rw [← e]
  simpa using h.toList
/-- What lies in a part stays in it; what lies outside stays as it is. -/
structure Loc (a b : Nat) (D D' : List Int) : Prop where
  len : D'.length = D.length
  perm : D'.Perm D
  out : ∀ k, k < a ∨ b ≤ k → gt D' k = gt D k
  inn : ∀ k, a ≤ k → k < b → ∃ m, a ≤ m ∧ m < b ∧ gt D' k = gt D m
theorem Loc.refl (a b : Nat) (D : List Int) : Loc a b D D := ⟨rfl, List.Perm.refl _, fun _ _ => rfl, fun k h1 h2 => ⟨k, h1, h2, rfl⟩⟩
theorem Loc.trans {a b : Nat} {D E F : List Int} (h : Loc a b D E) (k : Loc a b E F) : Loc a b D F :=
  ⟨k.len.trans h.len, k.perm.trans h.perm, fun x hx => (k.out x hx).trans (h.out x hx), fun x h1 h2 => by
    obtain ⟨m, m1, m2, m3⟩ := k.inn x h1 h2
    obtain ⟨r, r1, r2, r3⟩ := h.inn m m1 m2
    exact ⟨r, r1, r2, m3.trans r3⟩⟩
theorem Loc.ex {a b : Nat} {D : List Int} {i j : Nat} (ha : a ≤ i) (hi : i < b) (hb : a ≤ j) (hj : j < b) (hl : b ≤ D.length) : Loc a b D (swp D i j) := by
  have h1 : i < D.length := by omega
  have h2 : j < D.length := by omega
  refine ⟨swp_len D i j, swp_perm h1 h2, fun k hk => ?_, fun k k1 k2 => ?_⟩
  · rw [gt_swp h1 h2, if_neg (by omega), if_neg (by omega)]
  · rw [gt_swp h1 h2]
    split
    · exact ⟨i, ha, hi, rfl⟩
    · split
      · exact ⟨j, hb, hj, rfl⟩
      · exact ⟨k, k1, k2, rfl⟩
theorem Loc.mono {a b a' b' : Nat} {D D' : List Int} (h : Loc a b D D') (ha : a' ≤ a) (hb : b ≤ b') : Loc a' b' D D' :=
  ⟨h.len, h.perm, fun k hk => h.out k (by omega), fun k k1 k2 => by
    rcases Nat.lt_or_ge k a with q | q
    · exact ⟨k, k1, k2, h.out k (.inl q)⟩
    · rcases Nat.lt_or_ge k b with r | r
      · obtain ⟨m, m1, m2, m3⟩ := h.inn k q r
        exact ⟨m, by omega, by omega, m3⟩
      · exact ⟨k, k1, k2, h.out k (.inr r)⟩⟩
/-- What holds of all in the part holds of all in it behind, too. -/
theorem Loc.all {a b : Nat} {D D' : List Int} (h : Loc a b D D') {P : Int → Prop} (hp : ∀ k, a ≤ k → k < b → P (gt D k)) : ∀ k, a ≤ k → k < b → P (gt D' k) := fun k k1 k2 => by
  obtain ⟨m, m1, m2, m3⟩ := h.inn k k1 k2
  rw [m3]; exact hp m m1 m2
/-- A part is sorted. -/
def Srt (D : List Int) (a b : Nat) : Prop := ∀ x y, a ≤ x → x < y → y < b → gt D x ≤ gt D y
theorem Srt.nil (D : List Int) {a b : Nat} (h : b ≤ a + 1) : Srt D a b := fun x y h1 h2 h3 => by omega
/-- Insertion: the part is sorted but for what stands at j. -/
structure Ins (D : List Int) (a i j : Nat) : Prop where
  s : ∀ x y, a ≤ x → x < y → y ≤ i → x ≠ j → y ≠ j → gt D x ≤ gt D y
  r : ∀ y, j < y → y ≤ i → gt D j ≤ gt D y
theorem Ins.start {D : List Int} {a i : Nat} (h : Srt D a i) : Ins D a i i := ⟨fun x y h1 h2 h3 h4 h5 => h x y h1 h2 (by omega), fun y h1 h2 => by omega⟩
theorem Ins.stop {D : List Int} {a i j : Nat} (h : Ins D a i j) (hj : j = a ∨ (a < j ∧ gt D (j - 1) ≤ gt D j)) : Srt D a (i + 1) := fun x y h1 h2 h3 => by
  by_cases e : x = j
  · subst e; exact h.r y h2 (by omega)
  by_cases e2 : y = j
  · subst e2
    rcases hj with e3 | ⟨e3, e4⟩
    · omega
    · by_cases e5 : x = y - 1
      · subst e5; exact e4
      · have := h.s x (y - 1) h1 (by omega) (by omega) e (by omega)
        omega
  exact h.s x y h1 h2 (by omega) e e2
theorem Ins.step {D : List Int} {a i j : Nat} (h : Ins D a i j) (hj : a < j) (hi : j ≤ i) (hl : i < D.length) (hlt : gt D j < gt D (j - 1)) : Ins (swp D j (j - 1)) a i (j - 1) := by
  have h1 : j < D.length := by omega
  have h2 : j - 1 < D.length := by omega
  refine ⟨fun x y q1 q2 q3 q4 q5 => ?_, fun y q1 q2 => ?_⟩
  · rw [gt_swp h1 h2, gt_swp h1 h2, if_neg q4, if_neg q5]
    by_cases e : x = j
    · subst e
      rw [if_pos rfl, if_neg (by omega)]
      exact h.s (x - 1) y (by omega) (by omega) q3 (by omega) (by omega)
    · rw [if_neg e]
      by_cases e2 : y = j
      · subst e2
        rw [if_pos rfl]
        exact h.s x (y - 1) q1 (by omega) (by omega) e (by omega)
      · rw [if_neg e2]
        exact h.s x y q1 q2 q3 e e2
  · rw [gt_swp h1 h2, gt_swp h1 h2, if_pos rfl, if_neg (by omega)]
    by_cases e : y = j
    · subst e; rw [if_pos rfl]; omega
    · rw [if_neg e]
      exact h.r y (by omega) q2
/-- What lies left of the pivot is below it, what lies right of it is not. -/
structure Part (D : List Int) (a b m : Nat) : Prop where
  lo : ∀ k, a ≤ k → k < m → gt D k < gt D m
  hi : ∀ k, m < k → k < b → gt D m ≤ gt D k
/-- While it is parted: the pivot stands at a. -/
structure Prt (D : List Int) (a b i j : Nat) : Prop where
  lo : ∀ k, a < k → k < i → gt D k < gt D a
  hi : ∀ k, j < k → k < b → gt D a ≤ gt D k
theorem Prt.ex {D : List Int} {a b i j : Nat} (h : Prt D a b i j) (ha : a < i) (hij : i < j) (hb : j < b) (hl : b ≤ D.length) (h1 : gt D a ≤ gt D i) (h2 : gt D j < gt D a) : Prt (swp D i j) a b (i + 1) (j - 1) := by
  have l1 : i < D.length := by omega
  have l2 : j < D.length := by omega
  refine ⟨fun k k1 k2 => ?_, fun k k1 k2 => ?_⟩
  · rw [gt_swp l1 l2, gt_swp l1 l2, if_neg (show ¬ a = j by omega), if_neg (show ¬ a = i by omega), if_neg (show ¬ k = j by omega)]
    split
    · exact h2
    · exact h.lo k k1 (by omega)
  · rw [gt_swp l1 l2, gt_swp l1 l2, if_neg (show ¬ a = j by omega), if_neg (show ¬ a = i by omega)]
    split
    · exact h1
    · rw [if_neg (by omega)]
      exact h.hi k (by omega) k2
theorem Prt.end_ {D : List Int} {a b i j : Nat} (h : Prt D a b i j) (ha : a < i) (hij : i = j + 1) (hb : j < b) (hl : b ≤ D.length) : Part (swp D j a) a b j := by
  have l1 : j < D.length := by omega
  have l2 : a < D.length := by omega
  refine ⟨fun k k1 k2 => ?_, fun k k1 k2 => ?_⟩
  · rw [gt_swp l1 l2, gt_swp l1 l2]
    rw [if_neg (show ¬ k = j by omega)] 
    by_cases e : k = a
    · subst e
      rw [if_pos rfl, if_neg (show ¬ j = k by omega), if_pos rfl]
      exact h.lo j (by omega) (by omega)
    · rw [if_neg e, if_neg (show ¬ j = a by omega), if_pos rfl]
      exact h.lo k (by omega) (by omega)
  · rw [gt_swp l1 l2, gt_swp l1 l2]
    by_cases e : j = a
    · subst e
      rw [if_pos rfl, if_neg (show ¬ k = j by omega), if_neg (show ¬ k = j by omega)]
      exact h.hi k (by omega) k2
    · rw [if_neg e, if_pos rfl, if_neg (show ¬ k = a by omega), if_neg (show ¬ k = j by omega)]
      exact h.hi k k1 k2
/-- The sort's state: whatever is not wholly between a and b is in order. -/
structure Pdq (D0 D : List Int) (a b : Nat) : Prop where
  perm : D.Perm D0
  ab : a ≤ b
  bl : b ≤ D.length
  ord : ∀ x y, x < y → y < D.length → x < a ∨ b ≤ y → gt D x ≤ gt D y
theorem Pdq.start (D : List Int) : Pdq D D 0 D.length := ⟨List.Perm.refl _, Nat.zero_le _, Nat.le_refl _, fun x y h1 h2 h3 => by omega⟩
theorem Pdq.loc {D0 D D' : List Int} {a b : Nat} (h : Pdq D0 D a b) (hl : Loc a b D D') : Pdq D0 D' a b := by
  have hlen := hl.len
  refine ⟨hl.perm.trans h.perm, h.ab, by rw [hlen]; exact h.bl, fun x y h1 h2 h3 => ?_⟩
  rw [hlen] at h2
  have key : ∀ k, ∃ m, gt D' k = gt D m ∧ ((a ≤ k ∧ k < b ∧ a ≤ m ∧ m < b) ∨ (m = k ∧ (k < a ∨ b ≤ k))) := fun k => by
    rcases (by omega : k < a ∨ b ≤ k ∨ (a ≤ k ∧ k < b)) with q | q | ⟨q, r⟩
    · exact ⟨k, hl.out k (.inl q), .inr ⟨rfl, .inl q⟩⟩
    · exact ⟨k, hl.out k (.inr q), .inr ⟨rfl, .inr q⟩⟩
    · obtain ⟨m, m1, m2, m3⟩ := hl.inn k q r
      exact ⟨m, m3, .inl ⟨q, r, m1, m2⟩⟩
  obtain ⟨m, e1, m1⟩ := key x
  obtain ⟨r, e2, r1⟩ := key y
  have hb := h.bl
  rw [e1, e2]
  exact h.ord m r (by omega) (by omega) (by omega)
theorem Pdq.done {D0 D : List Int} {a b : Nat} (h : Pdq D0 D a b) (hs : Srt D a b) : D.Perm D0 ∧ Srt D 0 D.length := ⟨h.perm, fun x y h1 h2 h3 => by
  rcases (by omega : (x < a ∨ b ≤ y) ∨ (a ≤ x ∧ y < b)) with q | ⟨q, r⟩
  · exact h.ord x y h2 h3 q
  · exact hs x y q h2 r⟩
theorem Pdq.left {D0 D : List Int} {a b m : Nat} (h : Pdq D0 D a b) (hp : Part D a b m) (ha : a ≤ m) (hb : m < b) (hs : Srt D a m) : Pdq D0 D (m + 1) b := by
  have hbl := h.bl
  refine ⟨h.perm, by omega, hbl, fun x y h1 h2 h3 => ?_⟩
  rcases (by omega : (x < a ∨ b ≤ y) ∨ (a ≤ x ∧ x ≤ m ∧ y < b)) with q | ⟨q, r, s⟩
  · exact h.ord x y h1 h2 q
  · rcases (by omega : y < m ∨ y = m ∨ m < y) with e | e | e
    · exact hs x y q h1 e
    · subst e; have := hp.lo x q h1; omega
    · have h5 := hp.hi y e s
      rcases Nat.lt_or_ge x m with e2 | e2
      · have := hp.lo x q e2; omega
      · obtain rfl : x = m := by omega
        exact h5
theorem Pdq.right {D0 D : List Int} {a b m : Nat} (h : Pdq D0 D a b) (hp : Part D a b m) (ha : a ≤ m) (hb : m < b) (hs : Srt D (m + 1) b) : Pdq D0 D a m := by
  have hbl := h.bl
  refine ⟨h.perm, ha, by omega, fun x y h1 h2 h3 => ?_⟩
  rcases (by omega : (x < a ∨ b ≤ y) ∨ (a ≤ x ∧ m ≤ y ∧ y < b)) with q | ⟨q, r, s⟩
  · exact h.ord x y h1 h2 q
  · rcases (by omega : x < m ∨ x = m ∨ m < x) with e | e | e
    · have h5 := hp.lo x q e
      rcases Nat.eq_or_lt_of_le r with e2 | e2
      · subst e2; omega
      · have := hp.hi y e2 s; omega
    · subst e; exact hp.hi y h1 s
    · exact hs x y (by omega) h1 s
/-- No two alike: what lies ahead is below. -/
theorem Pdq.below {D0 D : List Int} {a b : Nat} (h : Pdq D0 D a b) (hn : D0.Nodup) (ha : 0 < a) {k : Nat} (h1 : a ≤ k) (h2 : k < b) : gt D (a - 1) < gt D k := by
  have hbl := h.bl
  have h3 := h.ord (a - 1) k (by omega) (by omega) (.inl (by omega))
  have hd : D.Nodup := h.perm.nodup_iff.2 hn
  have l1 : a - 1 < D.length := by omega
  have l2 : k < D.length := by omega
  have hne : gt D (a - 1) ≠ gt D k := fun e => by
    rw [gt_get l1, gt_get l2] at e
    exact List.pairwise_iff_getElem.1 hd (a - 1) k l1 l2 (by omega) e
  omega
theorem srt_pairwise {D : List Int} (h : Srt D 0 D.length) : D.Pairwise (· ≤ ·) := by
  rw [List.pairwise_iff_getElem]
  intro i j hi hj hij
  have := h i j (Nat.zero_le _) hij hj
  rwa [gt_get hi, gt_get hj] at this
/-- The part that is sorted by a call of its own. -/
theorem Part.loc_lo {D D' : List Int} {a b m : Nat} (hp : Part D a b m) (hl : Loc a m D D') (hm : m < b) : Part D' a b m := by
  have e : gt D' m = gt D m := hl.out m (.inr (Nat.le_refl _))
  refine ⟨fun k k1 k2 => ?_, fun k k1 k2 => ?_⟩
  · rw [e]; exact hl.all (P := fun v => v < gt D m) (fun k q1 q2 => hp.lo k q1 q2) k k1 k2
  · rw [e, hl.out k (.inr (by omega))]; exact hp.hi k k1 k2
theorem Part.loc_hi {D D' : List Int} {a b m : Nat} (hp : Part D a b m) (hl : Loc (m + 1) b D D') (ha : a ≤ m) : Part D' a b m := by
  have e : gt D' m = gt D m := hl.out m (.inl (Nat.lt_succ_self _))
  refine ⟨fun k k1 k2 => ?_, fun k k1 k2 => ?_⟩
  · rw [e, hl.out k (.inl (by omega))]; exact hp.lo k k1 k2
  · rw [e]; exact hl.all (P := fun v => gt D m ≤ v) (fun k q1 q2 => hp.hi k (by omega) q2) k (by omega) k2
end Go.Proofs.Ytocigdkndlmikaa
