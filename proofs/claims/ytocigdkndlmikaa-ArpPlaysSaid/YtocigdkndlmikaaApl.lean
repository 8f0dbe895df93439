/- Proved: two caches with the same neighbours, in whatever order, answer alike (plain). Conditions: as each law says. -/
import Derived.Test.YtocigdkndlmikaaSendR
import Derived.Test.YtocigdkndlmikaaSendW
import Derived.Test.YtocigdkndlmikaaLearnR
import Derived.Test.YtocigdkndlmikaaTick
set_option linter.unusedVariables false
namespace Go.Proofs.Ytocigdkndlmikaa
open Go.RowKit
/-! ### what Send, Learn and Tick bring about, by the neighbours alone -/
abbrev Tb := List (Int × Nb)
def leastT (T : Tb) (e : Int × Nb) : Prop := e ∈ T ∧ e.2.kn = true ∧ ∀ x ∈ T, x.2.kn = true → (e.2.tk < x.2.tk ∨ (e.2.tk = x.2.tk ∧ e.1 ≤ x.1))
def RoomT (T T2 : Tb) : Prop := (T.length ≤ 15 ∧ T2 = T) ∨ (16 ≤ T.length ∧ ∃ x, leastT T x ∧ T2 = dropT T x.1)
def FullT (T : Tb) : Prop := 16 ≤ T.length ∧ ∀ x ∈ T, x.2.kn = false
def noneT (T : Tb) (a : Int) : Prop := ∀ x ∈ T, x.1 ≠ a
def SendT (T : Tb) (a now : Int) (l : List Int) (told : Array Value) (T' : Tb) : Prop :=
  (∃ n, (a, n) ∈ T ∧ n.kn = true ∧ now < n.tk ∧ told = toldC true (macOf n) false false ∧ T' = T) ∨
  (∃ n, (a, n) ∈ T ∧ n.kn = true ∧ n.tk ≤ now ∧ told = toldC false noMac true false ∧ T' = dropT T a ++ [(a, newNb now l)]) ∨
  (∃ n, (a, n) ∈ T ∧ n.kn = false ∧ told = toldC false noMac false false ∧ T' = updT T a (waiting n l)) ∨
  (noneT T a ∧ ∃ T2, RoomT T T2 ∧ told = toldC false noMac true false ∧ T' = T2 ++ [(a, newNb now l)]) ∨
  (noneT T a ∧ FullT T ∧ told = toldC false noMac false true ∧ T' = T)
def LearnT (T : Tb) (a : Int) (n' : Nb) (fresh : Bool) (ws : List (List Int)) (T' : Tb) : Prop :=
  (∃ n, (a, n) ∈ T ∧ ws = n.ws ∧ T' = updT T a n') ∨
  (noneT T a ∧ fresh = false ∧ ws = [] ∧ T' = T) ∨
  (noneT T a ∧ fresh = true ∧ (∃ T2, RoomT T T2 ∧ T' = T2 ++ [(a, n')]) ∧ ws = []) ∨
  (noneT T a ∧ fresh = true ∧ FullT T ∧ ws = [] ∧ T' = T)
/-- The keys are apart. -/
def KeysT (T : Tb) : Prop := (T.map (·.1)).Nodup
theorem KeysT.one {T : Tb} (h : KeysT T) {x y : Int × Nb} (hx : x ∈ T) (hy : y ∈ T) (e : x.1 = y.1) : x = y := by
  unfold KeysT at h
  induction T with
  | nil => cases hx
  | cons z r ih =>
    rw [List.map_cons, List.nodup_cons] at h
    rcases List.mem_cons.1 hx with q | q <;> rcases List.mem_cons.1 hy with r' | r'
    · rw [q, r']
    · exfalso
      subst q
      have h5 := List.mem_map_of_mem (f := (·.1)) r'
      exact h.1 (by rw [e]; exact h5)
    · exfalso
      subst r'
      have h5 := List.mem_map_of_mem (f := (·.1)) q
      exact h.1 (by rw [← e]; exact h5)
    · exact ih h.2 q r'
theorem KeysT.perm {T M : Tb} (h : KeysT T) (p : T.Perm M) : KeysT M := (p.map (fun x : Int × Nb => x.1)).nodup_iff.1 h
theorem dropT_perm {T M : Tb} (p : T.Perm M) (a : Int) : (dropT T a).Perm (dropT M a) := p.filter _
theorem updT_perm {T M : Tb} (p : T.Perm M) (a : Int) (n : Nb) : (updT T a n).Perm (updT M a n) := p.map _
theorem noneT_perm {T M : Tb} (p : T.Perm M) {a : Int} (h : noneT T a) : noneT M a := fun x hx => h x (p.mem_iff.2 hx)
theorem leastT_one {T M : Tb} (p : T.Perm M) (hk : KeysT T) {x y : Int × Nb} (h1 : leastT T x) (h2 : leastT M y) : x = y := by
  obtain ⟨a1, a2, a3⟩ := h1
  obtain ⟨b1, b2, b3⟩ := h2
  have h3 := a3 y (p.mem_iff.2 b1) b2
  have h4 := b3 x (p.mem_iff.1 a1) a2
  exact hk.one a1 (p.mem_iff.2 b1) (by omega)
theorem RoomT.perm {T M T2 M2 : Tb} (p : T.Perm M) (hk : KeysT T) (h1 : RoomT T T2) (h2 : RoomT M M2) : T2.Perm M2 := by
  have hl := p.length_eq
  rcases h1 with ⟨a, rfl⟩ | ⟨a, x, hx, rfl⟩ <;> rcases h2 with ⟨b, rfl⟩ | ⟨b, y, hy, rfl⟩
  · exact p
  · omega
  · omega
  · rw [leastT_one p hk hx hy]; exact dropT_perm p _
theorem RoomT.full {T T2 : Tb} (h : RoomT T T2) (hf : FullT T) : False := by
  rcases h with ⟨a, _⟩ | ⟨_, x, hx, _⟩
  · have := hf.1; omega
  · have := hf.2 x hx.1
    rw [hx.2.1] at this; cases this
theorem FullT.perm {T M : Tb} (p : T.Perm M) (h : FullT T) : FullT M := ⟨by rw [← p.length_eq]; exact h.1, fun x hx => h.2 x (p.mem_iff.2 hx)⟩
theorem none_mem {T : Tb} {a : Int} {n : Nb} (h : noneT T a) (hx : (a, n) ∈ T) : False := h _ hx rfl
/-- Both answer a Send alike. -/
theorem send_same {T M T' M' : Tb} {a now : Int} {l : List Int} {t u : Array Value} (p : T.Perm M) (hk : KeysT T) (h1 : SendT T a now l t T') (h2 : SendT M a now l u M') : t = u ∧ T'.Perm M' := by
  have one : ∀ {n m : Nb}, (a, n) ∈ T → (a, m) ∈ M → n = m := fun {n m} q r => by
    have := hk.one q (p.mem_iff.2 r) rfl
    injection this
  have nn : noneT T a → ∀ {m : Nb}, (a, m) ∈ M → False := fun q m r => none_mem (noneT_perm p q) r
  have nm : noneT M a → ∀ {m : Nb}, (a, m) ∈ T → False := fun q m r => none_mem (noneT_perm p.symm q) r
  rcases h1 with ⟨n, m1, k1, t1, rfl, rfl⟩ | ⟨n, m1, k1, t1, rfl, rfl⟩ | ⟨n, m1, k1, rfl, rfl⟩ | ⟨z1, T2, r1, rfl, rfl⟩ | ⟨z1, f1, rfl, rfl⟩ <;>
  rcases h2 with ⟨m, m2, k2, t2, rfl, rfl⟩ | ⟨m, m2, k2, t2, rfl, rfl⟩ | ⟨m, m2, k2, rfl, rfl⟩ | ⟨z2, M2, r2, rfl, rfl⟩ | ⟨z2, f2, rfl, rfl⟩ <;>
  first
    | exact (nn z1 m2).elim
    | exact (nm z2 m1).elim
    | (obtain rfl := one m1 m2; exact ⟨rfl, p⟩)
    | (obtain rfl := one m1 m2; exact ⟨rfl, (dropT_perm p a).append_right _⟩)
    | (obtain rfl := one m1 m2; exact ⟨rfl, updT_perm p a _⟩)
    | (obtain rfl := one m1 m2; exfalso; omega)
    | (obtain rfl := one m1 m2; rw [k1] at k2; cases k2)
    | exact ⟨rfl, (r1.perm p hk r2).append_right _⟩
    | exact (r1.full (f2.perm p.symm)).elim
    | exact (r2.full (f1.perm p)).elim
    | exact ⟨rfl, p⟩
/-- Both answer a Learn alike. -/
theorem learn_same {T M T' M' : Tb} {a : Int} {n' : Nb} {fr : Bool} {ws us : List (List Int)} (p : T.Perm M) (hk : KeysT T) (h1 : LearnT T a n' fr ws T') (h2 : LearnT M a n' fr us M') : ws = us ∧ T'.Perm M' := by
  have one : ∀ {n m : Nb}, (a, n) ∈ T → (a, m) ∈ M → n = m := fun {n m} q r => by
    have := hk.one q (p.mem_iff.2 r) rfl
    injection this
  have nn : noneT T a → ∀ {m : Nb}, (a, m) ∈ M → False := fun q m r => none_mem (noneT_perm p q) r
  have nm : noneT M a → ∀ {m : Nb}, (a, m) ∈ T → False := fun q m r => none_mem (noneT_perm p.symm q) r
  rcases h1 with ⟨n, m1, rfl, rfl⟩ | ⟨z1, g1, rfl, rfl⟩ | ⟨z1, g1, ⟨T2, r1, rfl⟩, rfl⟩ | ⟨z1, g1, f1, rfl, rfl⟩ <;>
  rcases h2 with ⟨m, m2, rfl, rfl⟩ | ⟨z2, g2, rfl, rfl⟩ | ⟨z2, g2, ⟨M2, r2, rfl⟩, rfl⟩ | ⟨z2, g2, f2, rfl, rfl⟩ <;>
  first
    | exact (nn z1 m2).elim
    | exact (nm z2 m1).elim
    | (obtain rfl := one m1 m2; exact ⟨rfl, updT_perm p a _⟩)
    | exact absurd (g1.symm.trans g2) (by decide)
    | exact ⟨rfl, (r1.perm p hk r2).append_right _⟩
    | exact (r1.full (f2.perm p.symm)).elim
    | exact (r2.full (f1.perm p)).elim
    | exact ⟨rfl, p⟩
/-- Two rising rows of the same numbers are one. -/
theorem rise_one : ∀ {l l' : List Int}, l.Pairwise (· < ·) → l'.Pairwise (· < ·) → (∀ a, a ∈ l ↔ a ∈ l') → l = l'
  | [], [], _, _, _ => rfl
  | [], y :: s, _, _, e => by have := (e y).2 (by simp); cases this
  | x :: r, [], _, _, e => by have := (e x).1 (by simp); cases this
  | x :: r, y :: s, h, h', e => by
    obtain ⟨h1, h2⟩ := List.pairwise_cons.1 h
    obtain ⟨g1, g2⟩ := List.pairwise_cons.1 h'
    have exy : x = y := by
      rcases List.mem_cons.1 ((e x).1 (by simp)) with q | q
      · exact q
      · rcases List.mem_cons.1 ((e y).2 (by simp)) with r' | r'
        · exact r'.symm
        · have a1 := g1 x q
          have a2 := h1 y r'
          omega
    subst exy
    rw [rise_one h2 g2 (fun a => ⟨fun ha => ?_, fun ha => ?_⟩)]
    · rcases List.mem_cons.1 ((e a).1 (List.mem_cons_of_mem _ ha)) with q | q
      · subst q; have := h1 a ha; omega
      · exact q
    · rcases List.mem_cons.1 ((e a).2 (List.mem_cons_of_mem _ ha)) with q | q
      · subst q; have := g1 a ha; omega
      · exact q
/-- What a tick makes of a neighbour. -/
def stepT (now : Int) (e : Int × Nb) : Option (Int × Nb) := if now < e.2.tk then some e else if e.2.kn = true then none else if 3 ≤ e.2.tr then none else some (e.1, stepN now e.2)
def askT (now : Int) (e : Int × Nb) : Prop := e.2.tk ≤ now ∧ e.2.kn = false ∧ e.2.tr < 3
def lostT (now : Int) (e : Int × Nb) : Prop := e.2.tk ≤ now ∧ e.2.kn = false ∧ 3 ≤ e.2.tr
def TickT (T : Tb) (now : Int) (ask lost : List Int) (T' : Tb) : Prop :=
  T' = T.filterMap (stepT now) ∧ (ask.Pairwise (· < ·) ∧ ∀ a, a ∈ ask ↔ ∃ e ∈ T, e.1 = a ∧ askT now e) ∧ (lost.Pairwise (· < ·) ∧ ∀ a, a ∈ lost ↔ ∃ e ∈ T, e.1 = a ∧ lostT now e)
/-- Both answer a Tick alike. -/
theorem tick_same {T M T' M' : Tb} {now : Int} {k o k2 o2 : List Int} (p : T.Perm M) (h1 : TickT T now k o T') (h2 : TickT M now k2 o2 M') : k = k2 ∧ o = o2 ∧ T'.Perm M' := by
  obtain ⟨rfl, ⟨a1, a2⟩, ⟨b1, b2⟩⟩ := h1
  obtain ⟨rfl, ⟨c1, c2⟩, ⟨d1, d2⟩⟩ := h2
  refine ⟨rise_one a1 c1 fun a => ?_, rise_one b1 d1 fun a => ?_, p.filterMap _⟩
  · rw [a2, c2]
    exact ⟨fun ⟨e, he, q⟩ => ⟨e, p.mem_iff.1 he, q⟩, fun ⟨e, he, q⟩ => ⟨e, p.mem_iff.2 he, q⟩⟩
  · rw [b2, d2]
    exact ⟨fun ⟨e, he, q⟩ => ⟨e, p.mem_iff.1 he, q⟩, fun ⟨e, he, q⟩ => ⟨e, p.mem_iff.2 he, q⟩⟩
end Go.Proofs.Ytocigdkndlmikaa
