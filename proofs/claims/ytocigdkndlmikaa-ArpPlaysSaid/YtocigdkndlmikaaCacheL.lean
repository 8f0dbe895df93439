/- Proved: what a removal, an insertion and a change of one neighbour make of a cache. Conditions: as each law says. -/
import Derived.Test.YtocigdkndlmikaaCache
set_option linter.unusedVariables false
set_option linter.unusedSimpArgs false
namespace Go.Proofs.Ytocigdkndlmikaa
open Go.RowKit

theorem CacheAt.nodup {w : World} {F : Nat → Prop} {g : Nat} {S : List En} (h : CacheAt w F g S) : NoDup (S.map enE) := by
  obtain ⟨mv, h1, h2, h3, h4, h5⟩ := h
  rcases mv with _ | b
  · rw [h1.2.1 rfl]; exact List.nodup_nil
  · exact (h1.2.2 b rfl).nodup
theorem NoDup.keys {S : List En} (h : NoDup (S.map enE)) : (S.map (·.a)).Nodup := by
  unfold NoDup at h
  rw [List.map_map] at h
  exact h
theorem getL_enE {S : List En} {e : En} (hn : NoDup (S.map enE)) (he : e ∈ S) : getL (S.map enE) e.a = some (ptr e.p) :=
  getL_of_mem (p := enE e) hn (List.mem_map.2 ⟨e, he, rfl⟩)
theorem getL_enE_none {S : List En} {a : Int} (h : ∀ e ∈ S, e.a ≠ a) : getL (S.map enE) a = none :=
  getL_none fun p hp => by obtain ⟨e, he, rfl⟩ := List.mem_map.1 hp; exact h e he
theorem delL_enE {S : List En} {a : Int} (hn : NoDup (S.map enE)) : delL (S.map enE) a = (S.filter fun e => decide (e.a ≠ a)).map enE := by
  rw [delL_filter hn, List.filter_map]; rfl
theorem putL_enE {S : List En} {e : En} (h : ∀ x ∈ S, x.a ≠ e.a) : putL (S.map enE) e.a (ptr e.p) = (S ++ [e]).map enE := by
  rw [putL_new fun p hp => by obtain ⟨x, hx, rfl⟩ := List.mem_map.1 hp; exact h x hx]
  simp [enE]

/-- A neighbour goes. -/
theorem CacheAt.remove {w w' : World} {F : Nat → Prop} {g : Nat} {S : List En} {mv : Option Nat} {a : Int} (h1 : MapAt w g mv (S.map enE)) (hg : F g) (hm : ∀ b, mv = some b → F b) (hS : ∀ e ∈ S, EnAt w F e) (hp : S.Pairwise Apart) (hl : S.length ≤ 16)
    (hn : NoDup (S.map enE)) (h' : MapAt w' g mv (delL (S.map enE) a)) (hc : Chg (fun x => mv = some x) w w') : CacheMv w' F g mv (S.filter fun e => decide (e.a ≠ a)) := by
  rw [delL_enE hn] at h'
  refine ⟨h', hg, hm, fun e he => ?_, hp.sublist List.filter_sublist, Nat.le_trans (List.length_filter_le _ _) hl⟩
  have he' := (List.mem_filter.1 he).1
  have hE := hS e he'
  -- the map's block is none of a neighbour's
  have hne : ∀ b, b < w.heap.size → (∃ cs t, w.heap[b]? = some (.cells cs t (0, 0))) → mv ≠ some b := by
    rintro b _ ⟨cs, t, hb⟩ e
    obtain ⟨es, clock, h3, _⟩ := h1.2.2 b e
    rw [hb] at h3; cases h3
  obtain ⟨k1, k2, ⟨vs, k3, k4⟩, k5, k6⟩ := hE
  refine ⟨(hc.block e.p k1.lt (hne e.p k1.lt ⟨_, _, k1⟩)).trans k1, k2, ⟨vs, k3.of_block (fun b hb => ?_), ?_⟩, k5, k6⟩
  · refine hc.block b (k3.lt b hb).2 (hne b (k3.lt b hb).2 ?_)
    rcases k3.2 with ⟨hA, _⟩ | ⟨g', off, cur, hA, _, hh, _⟩
    · rw [hA] at hb; cases hb
    · rw [hA] at hb
      have e2 : g' = b := by simpa [blk] using hb
      subst e2; exact ⟨_, _, hh⟩
  · have key : ∀ {vs : List Value} {ls : List (List Int)}, RowsAt w F vs ls → RowsAt w' F vs ls := by
      intro vs
      induction vs with
      | nil => intro ls h; cases ls; exact trivial; exact h.elim
      | cons v vs ih =>
        intro ls h
        cases ls with
        | nil => exact h.elim
        | cons l ls =>
          refine ⟨?_, ih h.2⟩
          obtain ⟨A, n, c, rfl, r1, r2, r3⟩ := h.1
          refine ⟨A, n, c, rfl, ⟨r1.1, ?_⟩, r2, r3⟩
          rcases r1.2 with h4 | ⟨g', cap, cur, h4, h5, h6, h7⟩
          · exact .inl h4
          · have e := (Value.slice.inj h4).1
            have hb : blk A = some g' := by rw [e]; rfl
            have hlt := (Ow.lt r1 g' hb).2
            exact .inr ⟨g', cap, cur, h4, h5, (hc.block g' hlt (hne g' hlt ⟨_, _, h6⟩)).trans h6, h7⟩
    exact key k4

/-- The blocks that are the cache's own, behind a call. -/
def Grew (F : Nat → Prop) (w w' : World) : Nat → Prop := fun b => F b ∨ (w.heap.size ≤ b ∧ b < w'.heap.size)
def newNb (now : Int) (l : List Int) : Nb := ⟨false, 0, 0, 0, 0, 0, 0, laterP now 10, 1, [l]⟩
/-- A neighbour comes. -/
theorem CacheAt.insert {w w1 w' : World} {F : Nat → Prop} {g : Nat} {S : List En} {mv : Option Nat} {a : Int} {nb : Nb} {A : Option Addr} {k c : Nat} {e : Ending} (h1 : MapAt w g mv (S.map enE)) (hg : F g) (hm : ∀ b, mv = some b → F b) (hS : ∀ e ∈ S, EnAt w F e) (hp : S.Pairwise Apart) (hl : S.length ≤ 15)
    (ha : ∀ x ∈ S, x.a ≠ a) (p : Nat) (hB : Below w.heap.size w w1) (hpn : w.heap.size ≤ p) (hnb : Bk w1 p 74 (nbC nb A k c)) (hws : ∃ vs, Of 27 w1 0 A k c vs ∧ RowsAt w1 (fun b => F b ∨ w.heap.size ≤ b) vs nb.ws) (hAn : ∀ b, blk A = some b → w.heap.size ≤ b) (h3 : nb.ws.length ≤ 3) (hoa : okA a) (ht : 0 ≤ nb.tr ∧ nb.tr ≤ 3)
    (hL : LayPost a p g mv (S.map enE) w1 e w') : CacheAt w' (fun b => F b ∨ w.heap.size ≤ b) g (S ++ [⟨a, p, A, k, c, nb⟩]) ∧ Chg F w w' := by
  obtain ⟨_, b, hM, hb, hC⟩ := hL
  have hlt1 := hB.size
  have hgl := h1.1.lt
  -- neither the cache's own block nor its map's is a neighbour's
  have hgne : ∀ x, x < w1.heap.size → (∃ cs, w1.heap[x]? = some (.cells cs 74 (0, 0)) ∨ w1.heap[x]? = some (.cells cs 27 (0, 0)) ∨ w1.heap[x]? = some (.cells cs 5 (0, 0))) → ¬ (x = g ∨ mv = some x) := by
    rintro x hx ⟨cs, hh⟩ (rfl | hmx)
    · have h9 : w1.heap[x]? = _ := (hB.block x hgl).trans h1.1
      rcases hh with hh | hh | hh <;> rw [h9] at hh <;> injection hh with hh <;> injection hh with _ hh <;> exact absurd hh (by decide)
    · obtain ⟨es, clock, h8, _⟩ := h1.2.2 x hmx
      have h9 : w1.heap[x]? = _ := (hB.block x (h1.2.2 x hmx).lt).trans h8
      rcases hh with hh | hh | hh <;> rw [h9] at hh <;> cases hh
  have rows : ∀ {vs : List Value} {ls : List (List Int)}, RowsAt w1 (fun b => F b ∨ w.heap.size ≤ b) vs ls → RowsAt w' (fun b => F b ∨ w.heap.size ≤ b) vs ls := by
    intro vs
    induction vs with
    | nil => intro ls h; cases ls; exact trivial; exact h.elim
    | cons v vs ih =>
      intro ls h
      cases ls with
      | nil => exact h.elim
      | cons l ls =>
        refine ⟨?_, ih h.2⟩
        obtain ⟨A, n, c, rfl, r1, r2, r3⟩ := h.1
        refine ⟨A, n, c, rfl, ⟨r1.1, ?_⟩, r2, r3⟩
        rcases r1.2 with h4 | ⟨g', cap, cur, h4, h5, h6, h7⟩
        · exact .inl h4
        · have e := (Value.slice.inj h4).1
          have hb : blk A = some g' := by rw [e]; rfl
          have hlt := (Ow.lt r1 g' hb).2
          exact .inr ⟨g', cap, cur, h4, h5, (hC.block g' hlt (hgne g' hlt ⟨_, .inr (.inr h6)⟩)).trans h6, h7⟩
  have ofs : ∀ {A : Option Addr} {k c : Nat} {vs : List Value}, Of 27 w1 0 A k c vs → Of 27 w' 0 A k c vs := by
    intro A k c vs h
    refine h.of_block fun b hb => ?_
    have hlt := (h.lt b hb).2
    refine hC.block b hlt (hgne b hlt ?_)
    rcases h.2 with ⟨hA, _⟩ | ⟨g', off, cur, hA, _, hh, _⟩
    · rw [hA] at hb; cases hb
    · rw [hA] at hb
      have e2 : g' = b := by simpa [blk] using hb
      subst e2; exact ⟨_, .inr (.inl hh)⟩
  have ens : ∀ x ∈ S, EnAt w' (fun b => F b ∨ w.heap.size ≤ b) x := fun x hx => by
    obtain ⟨k1, k2, ⟨vs, k3, k4⟩, k5, k6⟩ := (hS x hx).keep (w' := w1) (G := fun b => F b ∨ w.heap.size ≤ b) (fun b _ hl => hB.block b hl) (fun b h => .inl h)
    exact ⟨(hC.block x.p k1.lt (hgne x.p k1.lt ⟨_, .inl k1⟩)).trans k1, k2, ⟨vs, ofs k3, rows k4⟩, k5, k6⟩
  refine ⟨⟨some b, ?_, .inl hg, fun b' e => ?_, fun x hx => ?_, ?_, by simp; omega⟩, (Chg.of_below hB).trans hC (fun x hx => ?_)⟩
  · have := putL_enE (S := S) (e := ⟨a, p, A, k, c, nb⟩) ha
    simp only at this
    rw [← this]; exact hM
  · injection e with e; subst e
    rcases hb with hb | ⟨_, hb⟩
    · exact .inl (hm _ hb)
    · exact .inr (by omega)
  · rcases List.mem_append.1 hx with hx | hx
    · exact ens x hx
    · simp only [List.mem_singleton] at hx
      subst hx
      obtain ⟨vs, k3, k4⟩ := hws
      exact ⟨(hC.block p hnb.lt (hgne p hnb.lt ⟨_, .inl hnb⟩)).trans hnb, .inr hpn, ⟨vs, ofs k3, rows k4⟩, fun b hb => .inr (hAn b hb), h3, hoa, ht⟩
  · refine List.pairwise_append.2 ⟨hp, List.pairwise_singleton _ _, fun x hx y hy => ?_⟩
    simp only [List.mem_singleton] at hy
    subst hy
    obtain ⟨k1, k2, ⟨vs, k3, k4⟩, k5, k6⟩ := hS x hx
    refine ⟨fun e => by have := k1.lt; simp only at e; omega, ?_⟩
    cases hA : blk x.A with
    | none => exact .inl rfl
    | some b =>
      refine .inr fun e => ?_
      have h8 := (k3.lt b hA).2
      have h9 := hAn b e.symm
      omega
  · rcases hx with rfl | hx
    · exact .inl hg
    · exact .inl (hm x hx)
/-- The own blocks are some that are there. -/
theorem CacheAt.cap {w : World} {F : Nat → Prop} {g : Nat} {S : List En} (h : CacheAt w F g S) : CacheAt w (fun b => F b ∧ b < w.heap.size) g S := by
  obtain ⟨mv, h1, h2, h3, h4, h5⟩ := h
  refine ⟨mv, h1, ⟨h2, h1.1.lt⟩, fun b hb => ⟨h3 b hb, (h1.2.2 b hb).lt⟩, fun e he => ?_, h5⟩
  obtain ⟨k1, k2, ⟨vs, k3, k4⟩, k5, k6⟩ := h4 e he
  have rows : ∀ {vs : List Value} {ls : List (List Int)}, RowsAt w F vs ls → RowsAt w (fun b => F b ∧ b < w.heap.size) vs ls := by
    intro vs
    induction vs with
    | nil => intro ls h; cases ls; exact trivial; exact h.elim
    | cons v vs ih =>
      intro ls h
      cases ls with
      | nil => exact h.elim
      | cons l ls =>
        obtain ⟨A, n, c, rfl, r1, r2, r3⟩ := h.1
        exact ⟨⟨A, n, c, rfl, r1, fun b hb => ⟨r2 b hb, (Ow.lt r1 b hb).2⟩, r3⟩, ih h.2⟩
  exact ⟨k1, ⟨k2, k1.lt⟩, ⟨vs, k3, rows k4⟩, fun b hb => ⟨k5 b hb, (k3.lt b hb).2⟩, k6⟩
theorem MapAt.look {w : World} {g : Nat} {mv : Option Nat} {L : List (Int × Value)} (h : MapAt w g mv L) {a : Int} (ha : okA a) :
    (Instr.lookup mapT (.map mv) (.int .u32 a) false).run Try.prog w = .ok ((getL L a).getD (.pointer none)) w := by
  rcases mv with _ | b
  · rw [h.2.1 rfl]
    exact look_nil_ (mk := mkA) keyA mapU (zeroE w) ha false
  · exact (h.2.2 b rfl).look keyA mapU (zeroE w) ha false
theorem Chg.no {w w' : World} (h : Chg (fun _ => False) w w') : Below w.heap.size w w' := h.below (fun _ e => e.elim) (Nat.le_refl _)
theorem CacheAt.chg {w w' : World} {F G : Nat → Prop} {g : Nat} {S : List En} (h : CacheAt w F g S) (hc : Chg G w w') (hFG : ∀ b, F b → ¬ G b) : CacheAt w' F g S := h.keep (fun b hF hl => hc.block b hl (hFG b hF)) (fun _ h => h)
theorem CacheAt.mono {w : World} {F G : Nat → Prop} {g : Nat} {S : List En} (h : CacheAt w F g S) (hFG : ∀ b, F b → G b) : CacheAt w G g S := h.keep (fun _ _ _ => rfl) hFG
/-- What Send does where there is room: w2: room was made, w3: the neighbour's parts were made, w4: it was laid, w5: the answer (block t) was written. -/
theorem CacheMv.send {w2 w4 w5 : World} {F : Nat → Prop} {g t : Nat} {S : List En} {mv : Option Nat} {a now : Int} {l : List Int} {Ao : Option Addr} {no co : Nat} {e : Ending} (h : CacheMv w2 F g mv S) (hl : S.length ≤ 15) (ha : ∀ x ∈ S, x.a ≠ a) (hoa : okA a)
    (hrow : RowAt w2 F (.slice Ao no co) l)
    (hL : LayPost a (w2.heap.size + 1) g mv (S.map enE) ((w2.alloc (.cells #[.slice Ao no co] 27)).alloc (.cells (nbC (newNb now l) (some ⟨w2.heap.size, 0, none⟩) 1 1) 74)) e w4)
    (ht : t < w2.heap.size) (hFt : ¬ F t) (hC5 : Chg (fun b => b = t) w4 w5) :
    CacheAt w5 (fun b => F b ∨ w2.heap.size ≤ b) g (S ++ [⟨a, w2.heap.size + 1, some ⟨w2.heap.size, 0, none⟩, 1, 1, newNb now l⟩]) ∧ Chg (fun b => F b ∨ b = t) w2 w5 := by
  obtain ⟨h1, h2, h3, h4, h5, h6⟩ := h
  have hB3 : Below w2.heap.size w2 ((w2.alloc (.cells #[.slice Ao no co] 27)).alloc (.cells (nbC (newNb now l) (some ⟨w2.heap.size, 0, none⟩) 1 1) 74)) := ((Below.refl _ _).alloc (Nat.le_refl _) _).alloc (by simp) _
  have hp3 := Bk.new (w2.alloc (.cells #[.slice Ao no co] 27)) 74 (nbC (newNb now l) (some ⟨w2.heap.size, 0, none⟩) 1 1)
  rw [World.size_alloc] at hp3
  have hO := (ow_lit w2 27 0 [.slice Ao no co] (Nat.zero_le _) (show 1 ≤ maxLen by decide)).of.kept (World.grownBy_alloc _ (.cells (nbC (newNb now l) (some ⟨w2.heap.size, 0, none⟩) 1 1) 74) none) (.inr (by simp [blk]))
  have hAn : ∀ b, blk (some (⟨w2.heap.size, 0, none⟩ : Addr)) = some b → w2.heap.size ≤ b := by
    intro b hb
    have h8 : w2.heap.size = b := by simpa [blk] using hb
    omega
  obtain ⟨r1, r2⟩ := CacheAt.insert h1 h2 h3 h4 h5 hl ha (w2.heap.size + 1) hB3 (by omega) hp3 ⟨_, hO, hrow.keep (fun b _ hl => hB3.block b hl) (fun _ h => .inl h), trivial⟩ hAn (by simp [newNb]) hoa (by simp [newNb]) hL
  refine ⟨r1.chg hC5 ?_, (r2.mono (fun _ _ h => .inl h)).trans hC5 (fun x hx => .inl (.inr hx))⟩
  rintro b (hb | hb) e
  · exact hFt (by rw [← e]; exact hb)
  · omega
end Go.Proofs.Ytocigdkndlmikaa
