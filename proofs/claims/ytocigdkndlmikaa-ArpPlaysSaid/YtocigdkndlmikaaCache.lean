/- Proved: how a cache of neighbours lies in memory, and what keeps it; a copy of bytes. Conditions: as each law says. -/
import Derived.Test.YtocigdkndlmikaaRoom
set_option linter.unusedVariables false
set_option linter.unusedSimpArgs false
namespace Go.Proofs.Ytocigdkndlmikaa
open Go.RowKit

/-! ### the packets that wait -/
def RowAt (w : World) (F : Nat → Prop) (v : Value) (l : List Int) : Prop :=
  ∃ A n c, v = .slice A n c ∧ OB 5 w 0 A n c l ∧ (∀ b, blk A = some b → F b) ∧ Bs l ∧ n ≤ 140737488355328
def RowsAt (w : World) (F : Nat → Prop) : List Value → List (List Int) → Prop
  | [], [] => True
  | v :: vs, l :: ls => RowAt w F v l ∧ RowsAt w F vs ls
  | _, _ => False
section
variable {w w' : World} {F G : Nat → Prop}
theorem RowAt.keep {v : Value} {l : List Int} (h : RowAt w F v l) (hk : ∀ b, F b → b < w.heap.size → w'.heap[b]? = w.heap[b]?) (hFG : ∀ b, F b → G b) : RowAt w' G v l := by
  obtain ⟨A, n, c, rfl, h1, h2, h3⟩ := h
  refine ⟨A, n, c, rfl, ?_, fun b hb => hFG b (h2 b hb), h3⟩
  refine ⟨h1.1, ?_⟩
  rcases h1.2 with h4 | ⟨g, cap, cur, h4, h5, h6, h7⟩
  · exact .inl h4
  · have e := (Value.slice.inj h4).1
    have hb : blk A = some g := by rw [e]; rfl
    exact .inr ⟨g, cap, cur, h4, h5, (hk g (h2 g hb) (Ow.lt h1 g hb).2).trans h6, h7⟩
theorem RowsAt.keep : ∀ {vs : List Value} {ls : List (List Int)}, RowsAt w F vs ls → (∀ b, F b → b < w.heap.size → w'.heap[b]? = w.heap[b]?) → (∀ b, F b → G b) → RowsAt w' G vs ls
  | [], [], _, _, _ => trivial
  | v :: vs, l :: ls, h, hk, hG => ⟨h.1.keep hk hG, RowsAt.keep h.2 hk hG⟩
  | [], _ :: _, h, _, _ => h.elim
  | _ :: _, [], h, _, _ => h.elim
theorem RowsAt.length : ∀ {vs : List Value} {ls : List (List Int)}, RowsAt w F vs ls → vs.length = ls.length
  | [], [], _ => rfl
  | v :: vs, l :: ls, h => by simp [RowsAt.length h.2]
  | [], _ :: _, h => h.elim
  | _ :: _, [], h => h.elim
theorem RowsAt.snoc : ∀ {vs : List Value} {ls : List (List Int)}, RowsAt w F vs ls → ∀ {v : Value} {l : List Int}, RowAt w F v l → RowsAt w F (vs ++ [v]) (ls ++ [l])
  | [], [], _, _, _, h => ⟨h, trivial⟩
  | v :: vs, l :: ls, h, _, _, k => ⟨h.1, RowsAt.snoc h.2 k⟩
  | [], _ :: _, h, _, _, _ => h.elim
  | _ :: _, [], h, _, _, _ => h.elim
theorem RowsAt.one : ∀ {vs : List Value} {ls : List (List Int)}, RowsAt w F vs ls → ∀ u ∈ vs, u.oneCell' = true
  | [], [], _, _, hu => by cases hu
  | v :: vs, l :: ls, h, u, hu => by
    rcases List.mem_cons.1 hu with rfl | hu
    · obtain ⟨A, n, c, rfl, _⟩ := h.1; rfl
    · exact RowsAt.one h.2 u hu
  | [], _ :: _, h, _, _ => h.elim
  | _ :: _, [], h, _, _ => h.elim
theorem RowsAt.at_ : ∀ {vs : List Value} {ls : List (List Int)}, RowsAt w F vs ls → ∀ {i : Nat} {v : Value} {l : List Int}, vs[i]? = some v → ls[i]? = some l → RowAt w F v l
  | [], [], _, i, _, _, h, _ => by simp at h
  | v :: vs, l :: ls, h, 0, _, _, h1, h2 => by simp at h1 h2; subst h1; subst h2; exact h.1
  | v :: vs, l :: ls, h, i + 1, _, _, h1, h2 => by simp at h1 h2; exact RowsAt.at_ h.2 h1 h2
  | [], _ :: _, h, _, _, _, _, _ => h.elim
  | _ :: _, [], h, _, _, _, _, _ => h.elim

/-- A neighbour stands whole. -/
def EnAt (w : World) (F : Nat → Prop) (e : En) : Prop :=
  NbBk w e ∧ F e.p ∧ (∃ vs, Of 27 w 0 e.A e.k e.c vs ∧ RowsAt w F vs e.n.ws) ∧ (∀ b, blk e.A = some b → F b) ∧ e.n.ws.length ≤ 3 ∧ okA e.a ∧ 0 ≤ e.n.tr ∧ e.n.tr ≤ 3
theorem EnAt.keep {e : En} (h : EnAt w F e) (hk : ∀ b, F b → b < w.heap.size → w'.heap[b]? = w.heap[b]?) (hFG : ∀ b, F b → G b) : EnAt w' G e := by
  obtain ⟨h1, h2, ⟨vs, h3, h4⟩, h5, h6⟩ := h
  exact ⟨(hk _ h2 h1.lt).trans h1, hFG _ h2, ⟨vs, h3.of_block (fun g hg => hk g (h5 g hg) (h3.lt g hg).2), h4.keep hk hFG⟩, fun b hb => hFG b (h5 b hb), h6⟩
def Apart (e x : En) : Prop := e.p ≠ x.p ∧ (blk e.A = none ∨ blk e.A ≠ blk x.A)
theorem Apart.symm {e x : En} (h : Apart e x) : Apart x e := ⟨h.1.symm, by
  rcases h.2 with h2 | h2
  · cases hx : blk x.A with
    | none => exact .inl rfl
    | some b => rw [h2]; exact .inr (by simp)
  · exact .inr h2.symm⟩
/-- The cache: its block, its map, its neighbours; F: the blocks that are its own. -/
def CacheMv (w : World) (F : Nat → Prop) (g : Nat) (mv : Option Nat) (S : List En) : Prop :=
  MapAt w g mv (S.map enE) ∧ F g ∧ (∀ b, mv = some b → F b) ∧ (∀ e ∈ S, EnAt w F e) ∧ S.Pairwise Apart ∧ S.length ≤ 16
def CacheAt (w : World) (F : Nat → Prop) (g : Nat) (S : List En) : Prop := ∃ mv, CacheMv w F g mv S
theorem CacheMv.keep {g : Nat} {mv : Option Nat} {S : List En} (h : CacheMv w F g mv S) (hk : ∀ b, F b → b < w.heap.size → w'.heap[b]? = w.heap[b]?) (hFG : ∀ b, F b → G b) : CacheMv w' G g mv S := by
  obtain ⟨h1, h2, h3, h4, h5⟩ := h
  exact ⟨h1.kept (hk g h2 h1.1.lt) (fun b hb => hk b (h3 b hb) (h1.2.2 b hb).lt), hFG g h2, fun b hb => hFG b (h3 b hb), fun e he => (h4 e he).keep hk hFG, h5⟩
theorem CacheAt.keep {g : Nat} {S : List En} (h : CacheAt w F g S) (hk : ∀ b, F b → b < w.heap.size → w'.heap[b]? = w.heap[b]?) (hFG : ∀ b, F b → G b) : CacheAt w' G g S := by
  obtain ⟨mv, h1, h2, h3, h4, h5⟩ := h
  exact ⟨mv, h1.kept (hk g h2 h1.1.lt) (fun b hb => hk b (h3 b hb) (h1.2.2 b hb).lt), hFG g h2, fun b hb => hFG b (h3 b hb), fun e he => (h4 e he).keep hk hFG, h5⟩
theorem CacheAt.below {g : Nat} {S : List En} (h : CacheAt w F g S) (hb : Below w.heap.size w w') : CacheAt w' F g S := h.keep (fun b _ hl => hb.block b hl) (fun _ h => h)
/-- An empty one. -/
theorem CacheAt.new {g : Nat} (h : Bk w g 32 #[.map none]) (hF : F g) : CacheAt w F g [] :=
  ⟨none, ⟨h, fun _ => rfl, (fun b e => by cases e)⟩, hF, (fun b e => by cases e), (fun e he => by cases he), List.Pairwise.nil, Nat.zero_le _⟩
end

/-! ### the plain state -/
def absT (S : List En) : List (Int × Nb) := S.map fun e => (e.a, e.n)
def findT (T : List (Int × Nb)) (a : Int) : Option Nb := (T.find? fun p => decide (p.1 = a)).map (·.2)

/-- A copy of bytes, nil of nil. -/
theorem clone_any (A : Option Addr) (n c B : Nat) (l : List Int) (hn : l.length = n) (hmax : n ≤ 140737488355328) (w : World) (hr : RB w B A l) (hB : B ≤ w.heap.size) :
    Calls Try.prog 27 #[.slice A n c] w fun e w' => ∃ A' n' c', e = .returned (.slice A' n' c') ∧ OB 5 w' w.heap.size A' n' c' l ∧ Below w.heap.size w w' := by
  have HN := Lib.hid hn
  clear hn
  have qs : ∀ (w : World) (a : Option Addr) (n c n' c' : Nat), (binOp .eql 27 (.slice a n c) (.slice none n' c')).run Try.prog w = .ok (.bool a.isNone) w := fun w a n c n' c' => Lib.run_eql_slice_nil w _ _ a n c n' c' Try.underlying27
  rcases A with _ | a
  · have hl : n = 0 := by
      rcases Nat.eq_zero_or_pos l.length with h0 | h0
      · rw [← HN.out]; exact h0
      · obtain ⟨_, _, h, _⟩ := hr (by rw [by8_length]; exact h0); cases h
    subst hl
    have hl0 := Lib.hid (List.eq_nil_of_length_eq_zero HN.out)
    go_enter Try.func27, Try.ntmps27
    go_wp2
    go_ret
    exact ⟨none, 0, 0, rfl, by rw [hl0.out]; exact Ow.none_ _ _ _, Below.refl _ _⟩
  · go_enter Try.func27, Try.ntmps27
    go_wp2_with (at_builtin; refine ap8_new rfl (.tmp 5) (.tmp 6) rfl rfl rfl hr hB HN.out (by omega) ?_; intro A1 c1 w1 hO1 hB1 hz1 hc1)
    go_ret
    exact ⟨A1, n, c1, rfl, hO1, hB1⟩
end Go.Proofs.Ytocigdkndlmikaa
