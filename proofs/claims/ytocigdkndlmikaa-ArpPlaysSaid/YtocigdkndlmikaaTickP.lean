/- Proved: the plain laws of Tick: who is asked, who is lost, who stays; a row of addresses grows; one address is in order. Conditions: none. -/
import Derived.Test.YtocigdkndlmikaaLearnR
set_option linter.unusedVariables false
set_option linter.unusedSimpArgs false
namespace Go.Proofs.Ytocigdkndlmikaa
open Go.RowKit

/-! ### rows of addresses -/
def by32 (l : List Int) : List Value := l.map (Value.int .u32)
theorem by32_length (l : List Int) : (by32 l).length = l.length := by simp [by32]
theorem by32_append (l m : List Int) : by32 (l ++ m) = by32 l ++ by32 m := by simp [by32]
theorem by32_one (l : List Int) : ∀ u ∈ by32 l, u.oneCell' = true := by
  intro u hu; obtain ⟨x, _, rfl⟩ := List.mem_map.1 hu; rfl
def OA (w : World) (base : Nat) (A : Option Addr) (n c : Nat) (l : List Int) : Prop := Ow 23 w base A n c (by32 l)
theorem OA.len {w : World} {base : Nat} {A : Option Addr} {n c : Nat} {l : List Int} (h : OA w base A n c l) : l.length = n := by rw [← by32_length]; exact Ow.length h
theorem info_u32 : (Try.prog.info? 23).map (fun i => (i.zero, i.size, i.bytes)) = some (some (.int .u32 0), 1, 4) := by kernel_rfl
section
variable {ops : Array Oper} {rest : List Oper} {o : Oper} {a : Act} {w : World} {Q : Exit → Act → World → Prop}
/-- One address more. -/
theorem ap32_one (hgd : o.guard = none) (s x : Operand)
    (ho : o.op = .call { callee := .builtin .append, args := #[s, x], argTypes := #[67, 67] })
    (base : Nat) {A : Option Addr} {n c : Nat} {l : List Int} (hs : a.eval s = .slice A n c) (hown : OA w base A n c l)
    (v : Int) (z : Nat) (hz : z = w.heap.size) {c2 : Nat} (hx : a.eval x = .slice (some ⟨z, 0, none⟩) 1 c2) (hsz : n ≤ 1000) (hbase : base ≤ w.heap.size)
    (h : ∀ A' c' w', OA w' base A' (n + 1) c' (l ++ [v]) → w.grownBy w' (blk A) → NewOr A A' w.heap.size → wpList Try.prog ops Q rest (a.put o.dst (.slice A' (n + 1) c')) w') :
    wpList Try.prog ops Q (o :: rest) a (w.alloc (.cells #[.int .u32 v] 23)) := by
  subst hz
  have hr : Rw (w.alloc (.cells #[.int .u32 v] 23)) (w.heap.size + 1) (some ⟨w.heap.size, 0, none⟩) [.int .u32 v] := rw_lit w 23 [.int .u32 v]
  exact wpList_append_rw hgd s x 67 ho base 23 (.int .u32 0) 4 Try.underlying67 info_u32 rfl hs (Ow.alloc hown _) hx hr rfl (by intro u hu; simp at hu; subst hu; rfl)
    (by unfold maxLen; omega) (by omega) (by rw [World.size_alloc]; omega)
    fun A' c' w' h1 h2 h3 => h A' c' w' (by unfold OA; rw [by32_append]; exact h1) ((World.grownBy_alloc w _ _).trans h2) (h3.imp id fun e g hg => by rw [e] at hg; injection hg with hg; rw [World.size_alloc] at hg; omega)
end

theorem filterMap_congr_ {α β : Type} {f g : α → Option β} : ∀ {l : List α}, (∀ x ∈ l, f x = g x) → l.filterMap f = l.filterMap g
  | [], _ => rfl
  | x :: r, h => by rw [List.filterMap_cons, List.filterMap_cons, h x (by simp), filterMap_congr_ (fun y hy => h y (by simp [hy]))]
theorem nodup_le : ∀ {l m : List Int}, l.Nodup → (∀ a ∈ l, a ∈ m) → l.length ≤ m.length
  | [], _, _, _ => Nat.zero_le _
  | x :: r, m, hn, hs => by
    have hx := hs x (by simp)
    have h1 := List.nodup_cons.1 hn
    have := nodup_le (l := r) (m := m.erase x) h1.2 fun a ha => (List.mem_erase_of_ne (by rintro rfl; exact h1.1 ha)).2 (hs a (by simp [ha]))
    rw [List.length_erase_of_mem hx] at this
    have := List.length_pos_of_mem hx
    simp only [List.length_cons]; omega
/-! ### one step of Tick -/
def stepN (now : Int) (n : Nb) : Nb := { n with tr := n.tr + 1, tk := laterP now 10 }
def stepE (now : Int) (e : En) : Option En := if now < e.n.tk then some e else if e.n.kn = true then none else if 3 ≤ e.n.tr then none else some { e with n := stepN now e.n }
def askB (now : Int) (e : En) : Prop := e.n.tk ≤ now ∧ e.n.kn = false ∧ e.n.tr < 3
def lostB (now : Int) (e : En) : Prop := e.n.tk ≤ now ∧ e.n.kn = false ∧ 3 ≤ e.n.tr
/-- Who is there while some have been looked at. -/
def curE (now : Int) (left : Int → Bool) (e : En) : Option En := if left e.a = true then some e else stepE now e
def curS (now : Int) (left : Int → Bool) (S : List En) : List En := S.filterMap (curE now left)
/-- Whose addresses a list has. -/
def AskIs (p : En → Prop) (left : Int → Bool) (S : List En) (l : List Int) : Prop := l.Nodup ∧ ∀ a, a ∈ l ↔ ∃ e ∈ S, e.a = a ∧ left e.a = false ∧ p e
theorem stepE_a {now : Int} {e e' : En} (h : stepE now e = some e') : e'.a = e.a ∧ e'.p = e.p ∧ e'.A = e.A := by
  unfold stepE at h
  split at h
  · injection h with h; subst h; exact ⟨rfl, rfl, rfl⟩
  · split at h
    · cases h
    · split at h
      · cases h
      · injection h with h; subst h; exact ⟨rfl, rfl, rfl⟩
theorem curE_a {now : Int} {left : Int → Bool} {e e' : En} (h : curE now left e = some e') : e'.a = e.a ∧ e'.p = e.p ∧ e'.A = e.A := by
  unfold curE at h
  split at h
  · injection h with h; subst h; exact ⟨rfl, rfl, rfl⟩
  · exact stepE_a h
theorem curS_start (now : Int) (S : List En) : curS now (fun _ => true) S = S := by
  unfold curS
  induction S with
  | nil => rfl
  | cons e r ih => rw [List.filterMap_cons]; simp [curE]; simpa using ih
/-- The one that is looked at now stands as it did. -/
theorem curS_has {now : Int} {left : Int → Bool} {S : List En} (hk : (S.map (·.a)).Nodup) {e : En} (he : e ∈ curS now left S) (hl : left e.a = true) : e ∈ S := by
  unfold curS at he
  obtain ⟨x, hx, hxe⟩ := List.mem_filterMap.1 he
  have ha := (curE_a hxe).1
  unfold curE at hxe
  rw [← ha, if_pos hl] at hxe
  injection hxe with hxe
  rw [← hxe]; exact hx
theorem keys_eq {S : List En} (hk : (S.map (·.a)).Nodup) {e x : En} (he : e ∈ S) (hx : x ∈ S) (h : e.a = x.a) : e = x := by
  induction S with
  | nil => cases he
  | cons y r ih =>
    simp only [List.map_cons, List.nodup_cons] at hk
    rcases List.mem_cons.1 he with h1 | h1
    · rcases List.mem_cons.1 hx with h2 | h2
      · rw [h1, h2]
      · exact absurd (by rw [← h1, h]; exact List.mem_map.2 ⟨x, h2, rfl⟩) hk.1
    · rcases List.mem_cons.1 hx with h2 | h2
      · exact absurd (by rw [← h2, ← h]; exact List.mem_map.2 ⟨e, h1, rfl⟩) hk.1
      · exact ih hk.2 h1 h2
/-- Behind a look at one. -/
def past (left : Int → Bool) (a : Int) : Int → Bool := fun y => left y && decide (y ≠ a)
theorem curE_past_ne {now : Int} {left : Int → Bool} {a : Int} {x : En} (h : x.a ≠ a) : curE now (past left a) x = curE now left x := by
  unfold curE past; simp [h]
theorem curE_past_eq {now : Int} {left : Int → Bool} {x : En} : curE now (past left x.a) x = stepE now x := by
  unfold curE past; simp
theorem curS_past {now : Int} {left : Int → Bool} {S : List En} (hk : (S.map (·.a)).Nodup) {e : En} (he : e ∈ S) (hl : left e.a = true) :
    curS now (past left e.a) S = (curS now left S).filterMap fun x => if x.a = e.a then stepE now e else some x := by
  unfold curS
  rw [List.filterMap_filterMap]
  refine filterMap_congr_ fun x hx => ?_
  by_cases h : x.a = e.a
  · obtain rfl := keys_eq hk he hx h.symm
    rw [curE_past_eq]
    unfold curE
    rw [if_pos hl]
    simp
  · rw [curE_past_ne h]
    cases hc : curE now left x with
    | none => rfl
    | some y =>
      have := (curE_a hc).1
      simp [this, h]
theorem curS_stay {now : Int} {left : Int → Bool} {S : List En} (hk : (S.map (·.a)).Nodup) {e : En} (he : e ∈ S) (hl : left e.a = true) (hs : stepE now e = some e) : curS now (past left e.a) S = curS now left S := by
  rw [curS_past hk he hl]
  have : ∀ x ∈ curS now left S, (if x.a = e.a then stepE now e else some x) = some x := fun x hx => by
    split
    · rename_i h
      rw [hs]
      have hxS := curS_has hk hx (by rw [h]; exact hl)
      rw [keys_eq hk he hxS h.symm]
    · rfl
  rw [filterMap_congr_ this]; simp
theorem curS_gone {now : Int} {left : Int → Bool} {S : List En} (hk : (S.map (·.a)).Nodup) {e : En} (he : e ∈ S) (hl : left e.a = true) (hs : stepE now e = none) : curS now (past left e.a) S = (curS now left S).filter fun x => decide (x.a ≠ e.a) := by
  rw [curS_past hk he hl, ← List.filterMap_eq_filter]
  refine filterMap_congr_ fun x _ => ?_
  by_cases h : x.a = e.a
  · simp [h, hs, Option.guard]
  · simp [h, Option.guard]
theorem curS_put {now : Int} {left : Int → Bool} {S : List En} (hk : (S.map (·.a)).Nodup) {e e' : En} (he : e ∈ S) (hl : left e.a = true) (hs : stepE now e = some e') : curS now (past left e.a) S = putS (curS now left S) e' := by
  rw [curS_past hk he hl]
  unfold putS
  rw [← List.filterMap_eq_map]
  refine filterMap_congr_ fun x _ => ?_
  have := (stepE_a hs).1
  by_cases h : x.a = e.a
  · simp [h, hs, this]
  · simp [h, this]
theorem AskIs.start (p : En → Prop) (S : List En) : AskIs p (fun _ => true) S [] := ⟨List.nodup_nil, fun a => by simp⟩
theorem AskIs.no {p : En → Prop} {left : Int → Bool} {S : List En} {l : List Int} (h : AskIs p left S l) (hk : (S.map (·.a)).Nodup) {e : En} (he : e ∈ S) (hl : left e.a = true) (hp : ¬ p e) : AskIs p (past left e.a) S l := by
  refine ⟨h.1, fun a => (h.2 a).trans ?_⟩
  constructor
  · rintro ⟨x, hx, rfl, h1, h2⟩; exact ⟨x, hx, rfl, by unfold past; rw [h1]; rfl, h2⟩
  · rintro ⟨x, hx, rfl, h1, h2⟩
    refine ⟨x, hx, rfl, ?_, h2⟩
    unfold past at h1
    by_cases hxe : x.a = e.a
    · rw [keys_eq hk he hx hxe.symm] at hp; exact absurd h2 hp
    · simpa [hxe] using h1
theorem AskIs.yes {p : En → Prop} {left : Int → Bool} {S : List En} {l : List Int} (h : AskIs p left S l) (hk : (S.map (·.a)).Nodup) {e : En} (he : e ∈ S) (hl : left e.a = true) (hp : p e) : AskIs p (past left e.a) S (l ++ [e.a]) := by
  have hno : e.a ∉ l := fun hm => by
    obtain ⟨x, hx, hxe, h1, h2⟩ := (h.2 e.a).1 hm
    rw [hxe, hl] at h1; cases h1
  refine ⟨List.nodup_append.2 ⟨h.1, by simp, fun a ha b hb => by simp at hb; subst hb; exact fun e0 => hno (e0 ▸ ha)⟩, fun a => ?_⟩
  rw [List.mem_append, h.2 a, List.mem_singleton]
  constructor
  · rintro (⟨x, hx, rfl, h1, h2⟩ | rfl)
    · exact ⟨x, hx, rfl, by unfold past; rw [h1]; rfl, h2⟩
    · exact ⟨e, he, rfl, by unfold past; simp, hp⟩
  · rintro ⟨x, hx, rfl, h1, h2⟩
    by_cases hxe : x.a = e.a
    · exact .inr hxe
    · exact .inl ⟨x, hx, rfl, by unfold past at h1; simpa [hxe] using h1, h2⟩
theorem AskIs.len {p : En → Prop} {left : Int → Bool} {S : List En} {l : List Int} (h : AskIs p left S l) : l.length ≤ S.length := by
  have hs : ∀ a ∈ l, a ∈ S.map (·.a) := fun a ha => by
    obtain ⟨e, he, rfl, _⟩ := (h.2 a).1 ha
    exact List.mem_map.2 ⟨e, he, rfl⟩
  have := nodup_le h.1 hs
  simpa using this
theorem AskIs.ok {p : En → Prop} {left : Int → Bool} {S : List En} {l : List Int} (h : AskIs p left S l) (hok : ∀ e ∈ S, okA e.a) : ∀ a ∈ l, okA a := fun a ha => by
  obtain ⟨e, he, rfl, _⟩ := (h.2 a).1 ha
  exact hok e he
/-- The addresses of some, in order. -/
def SortedAs (p : En → Prop) (S : List En) (l : List Int) : Prop := l.Pairwise (· < ·) ∧ ∀ a, a ∈ l ↔ ∃ e ∈ S, e.a = a ∧ p e
theorem AskIs.sorted {p : En → Prop} {left : Int → Bool} {S : List En} {l l' : List Int} (h : AskIs p left S l) (hl : ∀ e ∈ S, left e.a = false) (hp : l'.Perm l) (hs : l'.Pairwise (· ≤ ·)) : SortedAs p S l' := by
  have hn : l'.Nodup := hp.nodup_iff.2 h.1
  refine ⟨?_, fun a => ?_⟩
  · exact (hs.and hn).imp fun {a b} hab => by have := hab.1; have := hab.2; omega
  · rw [hp.mem_iff, h.2 a]
    constructor
    · rintro ⟨e, he, h1, _, h3⟩; exact ⟨e, he, h1, h3⟩
    · rintro ⟨e, he, h1, h3⟩; exact ⟨e, he, h1, hl e he, h3⟩
/-- What slices.Sort does to rows of up to N addresses. -/
def SortPost (base : Nat) (A : Option Addr) (n c : Nat) (l : List Int) (w : World) (e : Ending) (w' : World) : Prop :=
  e = .returned (.tuple #[]) ∧ ∃ l', l'.Perm l ∧ l'.Pairwise (· ≤ ·) ∧ OA w' base A n c l' ∧ w.grownBy w' (blk A)
def SortsTo (N : Nat) : Prop := ∀ (A : Option Addr) (n c base : Nat) (l : List Int) (w : World), n ≤ N → OA w base A n c l → base ≤ w.heap.size → (∀ x ∈ l, okA x) → l.Nodup →
    Calls Try.prog 48 #[.slice A n c] w (SortPost base A n c l w)
end Go.Proofs.Ytocigdkndlmikaa
