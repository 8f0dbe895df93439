/- Proved: both caches side by side: what each call leaves of them. Conditions: as the laws say. -/
import Derived.Test.YtocigdkndlmikaaFul
import Derived.Test.YtocigdkndlmikaaSpoil
import Derived.Test.YtocigdkndlmikaaMem
import Derived.Test.YtocigdkndlmikaaRead
import Derived.Test.YtocigdkndlmikaaArpV
set_option linter.unusedVariables false
set_option linter.unusedSimpArgs false
namespace Go.Proofs.Ytocigdkndlmikaa
open Go.RowKit
/-- Both caches, with a link between what they hold; K: blocks that neither touches. -/
structure JX (w0 : World) (s q : Nat) (K : Nat → Prop) (link : List En → List En → Prop) (F G : Nat → Prop) (A : Option Addr) (n c : Nat) (S R : List En) (w : World) : Prop where
  ca : CacheAt w F s S
  rc : RcK w q G A n c R
  lk : link S R
  le : R.length ≤ 16
  fF : ∀ b, F b → w0.heap.size ≤ b ∧ b < w.heap.size ∧ ¬ ownC q A b ∧ ¬ G b ∧ ¬ K b
  fG : ∀ b, ownC q A b ∨ G b → w0.heap.size ≤ b ∧ ¬ K b
  fK : ∀ b, K b → w0.heap.size ≤ b ∧ b < w.heap.size
  bl : Below w0.heap.size w0 w
def JG (w0 : World) (s q : Nat) (K : Nat → Prop) (link : List En → List En → Prop) (w : World) : Prop := ∃ F G A n c S R, JX w0 s q K link F G A n c S R w
def pmL (S R : List En) : Prop := (absT S).Perm (absT R)
def sdL (a now : Int) (l : List Int) (told : Array Value) (S R : List En) : Prop := ∃ T, T.Perm (absT R) ∧ KeysT T ∧ SendT T a now l told (absT S)
def lnL (a : Int) (n' : Nb) (fresh : Bool) (ws : List (List Int)) (S R : List En) : Prop := ∃ T, T.Perm (absT R) ∧ KeysT T ∧ LearnT T a n' fresh ws (absT S)
def tkL (now : Int) (asks losts : List Int) (S R : List En) : Prop := ∃ T, T.Perm (absT R) ∧ TickT T now asks losts (absT S)
/-- What does not touch the blocks of K, nor what was there ahead of both. -/
def KC (w0 : World) (K : Nat → Prop) (w w' : World) : Prop := Chg (fun b => w0.heap.size ≤ b ∧ ¬ K b) w w'
section
variable {w0 w w' : World} {s q : Nat} {K K' : Nat → Prop} {link link' : List En → List En → Prop}
theorem JG.bl (h : JG w0 s q K link w) : Below w0.heap.size w0 w := by obtain ⟨F, G, A, n, c, S, R, h⟩ := h; exact h.bl
theorem JG.chg (h : JG w0 s q K link w) {P : Nat → Prop} (hc : Chg P w w') (hP : ∀ b, P b → w0.heap.size ≤ b ∧ (b < w.heap.size → K b)) : JG w0 s q K link w' := by
  obtain ⟨F, G, A, n, c, S, R, h⟩ := h
  refine ⟨F, G, A, n, c, S, R, h.ca.keep (fun b hb hl => hc.block b hl (fun e => (h.fF b hb).2.2.2.2 ((hP b e).2 hl))) (fun _ k => k), h.rc.chg hc (fun b hb e => (h.fG b hb).2 ((hP b e).2 (by
    rcases hb with hb | hb
    · exact h.rc.olt b hb
    · exact h.rc.lt b hb))), h.lk, h.le, fun b hb => ?_, h.fG, fun b hb => ⟨(h.fK b hb).1, Nat.lt_of_lt_of_le (h.fK b hb).2 hc.size⟩, ?_⟩
  · obtain ⟨k1, k2, k3⟩ := h.fF b hb
    exact ⟨k1, Nat.lt_of_lt_of_le k2 hc.size, k3⟩
  · exact ⟨hc.os.trans h.bl.os, hc.tape.trans h.bl.tape, hc.output.trans h.bl.output, Nat.le_trans h.bl.size hc.size, fun b hb => (hc.block b (Nat.lt_of_lt_of_le hb h.bl.size) (fun e => by have := (hP b e).1; omega)).trans (h.bl.block b hb)⟩
theorem JG.below (h : JG w0 s q K link w) (hb : Below w.heap.size w w') : JG w0 s q K link w' := h.chg (Chg.of_below (F := fun _ => False) hb) (fun _ e => e.elim)
/-- New blocks are kept. -/
theorem JG.grow (h : JG w0 s q K link w) (hb : Below w.heap.size w w') (hK : ∀ b, K' b → K b ∨ (w.heap.size ≤ b ∧ b < w'.heap.size)) : JG w0 s q K' link w' := by
  have h0 := h.below hb
  have hz := h.bl.size
  obtain ⟨F, G, A, n, c, S, R, h⟩ := h
  have hc := Chg.of_below (F := fun _ => False) hb
  refine ⟨F, G, A, n, c, S, R, h.ca.keep (fun b hb hl => hc.block b hl (fun e => e)) (fun _ k => k), h.rc.below hb, h.lk, h.le, fun b hb2 => ?_, fun b hb2 => ⟨(h.fG b hb2).1, fun e => ?_⟩, fun b hb2 => ?_, h.bl.trans (hb.mono hz)⟩
  · obtain ⟨k1, k2, k3, k4, k5⟩ := h.fF b hb2
    refine ⟨k1, Nat.lt_of_lt_of_le k2 hb.size, k3, k4, fun e => ?_⟩
    rcases hK b e with e | e
    · exact k5 e
    · omega
  · have hlt : b < w.heap.size := by
      rcases hb2 with hb2 | hb2
      · exact h.rc.olt b hb2
      · exact h.rc.lt b hb2
    rcases hK b e with e | e
    · exact (h.fG b hb2).2 e
    · omega
  · rcases hK b hb2 with e | e
    · exact ⟨(h.fK b e).1, Nat.lt_of_lt_of_le (h.fK b e).2 hb.size⟩
    · exact ⟨by omega, e.2⟩
theorem JG.less (h : JG w0 s q K link w) (hK : ∀ b, K' b → K b) : JG w0 s q K' link w := by
  obtain ⟨F, G, A, n, c, S, R, h⟩ := h
  exact ⟨F, G, A, n, c, S, R, h.ca, h.rc, h.lk, h.le, fun b hb => by
    obtain ⟨k1, k2, k3, k4, k5⟩ := h.fF b hb
    exact ⟨k1, k2, k3, k4, fun e => k5 (hK b e)⟩, fun b hb => ⟨(h.fG b hb).1, fun e => (h.fG b hb).2 (hK b e)⟩, fun b hb => h.fK b (hK b hb), h.bl⟩
/-- A call of the program's. -/
theorem JX.prog {F G : Nat → Prop} {A : Option Addr} {n c : Nat} {S R S' : List En} (h : JX w0 s q K link F G A n c S R w) (hc : CacheAt w' (fun b => F b ∨ w.heap.size ≤ b) s S') (hch : Chg F w w') (hl : link' S' R) : JX w0 s q K link' (fun b => (F b ∨ w.heap.size ≤ b) ∧ b < w'.heap.size) G A n c S' R w' ∧ KC w0 K w w' := by
  have hz := h.bl.size
  refine ⟨⟨hc.cap, h.rc.chg hch (fun b hb e => ?_), hl, h.le, fun b hb => ?_, h.fG, fun b hb => ⟨(h.fK b hb).1, Nat.lt_of_lt_of_le (h.fK b hb).2 hch.size⟩, ?_⟩, hch.mono (fun b _ e => ⟨(h.fF b e).1, (h.fF b e).2.2.2.2⟩)⟩
  · obtain ⟨_, _, k3, k4, _⟩ := h.fF b e
    rcases hb with hb | hb
    · exact k3 hb
    · exact k4 hb
  · rcases hb.1 with e | e
    · obtain ⟨k1, _, k3, k4, k5⟩ := h.fF b e
      exact ⟨k1, hb.2, k3, k4, k5⟩
    · exact ⟨by omega, hb.2, fun e2 => by have := h.rc.olt b e2; omega, fun e2 => by have := h.rc.lt b e2; omega, fun e2 => by have := (h.fK b e2).2; omega⟩
  · exact ⟨hch.os.trans h.bl.os, hch.tape.trans h.bl.tape, hch.output.trans h.bl.output, Nat.le_trans h.bl.size hch.size, fun b hb => (hch.block b (Nat.lt_of_lt_of_le hb h.bl.size) (fun e => by have := (h.fF b e).1; omega)).trans (h.bl.block b hb)⟩
/-- A call of the reference's. -/
theorem JX.refd {F G : Nat → Prop} {A : Option Addr} {n c : Nat} {S R R' : List En} (h : JX w0 s q K link F G A n c S R w) (hr : RcTo w q G A R' w') (hl : link' S R') (hle : R'.length ≤ 16) : (∃ G' A' n' c', JX w0 s q K link' F G' A' n' c' S R' w') ∧ KC w0 K w w' := by
  obtain ⟨G', A', n', c', h1, h2, h3, h4⟩ := hr
  have hz := h.bl.size
  have own : ∀ b, ownC q A' b → ownC q A b ∨ w.heap.size ≤ b := fun b hb => by
    rcases hb with hb | hb
    · exact .inl (.inl hb)
    · exact (h3 b hb).imp (fun e => .inr e) id
  refine ⟨⟨G', A', n', c', h.ca.keep (fun b hb hlt => h4.block b hlt (h.fF b hb).2.2.1) (fun _ k => k), h1, hl, hle, fun b hb => ?_, fun b hb => ?_, fun b hb => ⟨(h.fK b hb).1, Nat.lt_of_lt_of_le (h.fK b hb).2 h4.size⟩, ?_⟩, h4.mono (fun b _ e => h.fG b (.inl e))⟩
  · obtain ⟨k1, k2, k3, k4, k5⟩ := h.fF b hb
    refine ⟨k1, Nat.lt_of_lt_of_le k2 h4.size, fun e => ?_, fun e => ?_, k5⟩
    · rcases own b e with e | e
      · exact k3 e
      · omega
    · rcases h2 b e with e | e
      · exact k4 e
      · omega
  · rcases hb with hb | hb
    · rcases own b hb with e | e
      · exact h.fG b (.inl e)
      · exact ⟨by omega, fun e2 => by have := (h.fK b e2).2; omega⟩
    · rcases h2 b hb with e | e
      · exact h.fG b (.inr e)
      · exact ⟨by omega, fun e2 => by have := (h.fK b e2).2; omega⟩
  · exact ⟨h4.os.trans h.bl.os, h4.tape.trans h.bl.tape, h4.output.trans h.bl.output, Nat.le_trans h.bl.size h4.size, fun b hb => (h4.block b (Nat.lt_of_lt_of_le hb h.bl.size) (fun e => by have := (h.fG b (.inl e)).1; omega)).trans (h.bl.block b hb)⟩
end
theorem cache_keys {w : World} {F : Nat → Prop} {g : Nat} {S : List En} (h : CacheAt w F g S) : KeysT (absT S) := by
  have hk := NoDup.keys h.nodup
  have e : (absT S).map (·.1) = S.map (·.a) := by unfold absT; rw [List.map_map]; rfl
  unfold KeysT
  rw [e]; exact hk
theorem cache_len {w : World} {F : Nat → Prop} {g : Nat} {S : List En} (h : CacheAt w F g S) : S.length ≤ 16 := by
  obtain ⟨mv, h⟩ := h
  exact h.2.2.2.2.2
theorem perm_len {S R : List En} {M : Tb} (h : (absT R).Perm M) (h2 : (absT S).Perm M) : R.length = S.length := by
  have h1 := h.length_eq
  have h3 := h2.length_eq
  unfold absT at h1 h3
  rw [List.length_map] at h1 h3
  omega
def tld (kn : Bool) (m0 m1 m2 m3 m4 m5 : Int) (ask full : Bool) : Array Value := #[.bool kn, .int .u8 m0, .int .u8 m1, .int .u8 m2, .int .u8 m3, .int .u8 m4, .int .u8 m5, .bool ask, .bool full]
theorem told_form {T T' : Tb} {a now : Int} {l : List Int} {told : Array Value} (h : SendT T a now l told T') : ∃ kn m0 m1 m2 m3 m4 m5 ask full, told = tld kn m0 m1 m2 m3 m4 m5 ask full := by
  have key : ∀ kn m ask full, ∃ kn' m0 m1 m2 m3 m4 m5 ask' full', toldC kn m ask full = tld kn' m0 m1 m2 m3 m4 m5 ask' full' := fun kn m ask full => ⟨kn, m.1, m.2.1, m.2.2.1, m.2.2.2.1, m.2.2.2.2.1, m.2.2.2.2.2, ask, full, rfl⟩
  rcases h with ⟨_, _, _, _, h, _⟩ | ⟨_, _, _, _, h, _⟩ | ⟨_, _, _, h, _⟩ | ⟨_, _, _, h, _⟩ | ⟨_, _, h, _⟩ <;> rw [h] <;> exact key _ _ _ _
/-- Send of the program's. -/
theorem j_send1 {w0 w : World} {s q : Nat} {K : Nat → Prop} (h : JG w0 s q K pmL w) (a : Int) (ha : okA a) (A : Option Addr) (n c : Nat) (l : List Int) (hn : l.length = n) (hmax : n ≤ 140737488355328) (hb : Bs l) (now : Int) (hnow : 0 ≤ now ∧ now ≤ 1099511627776) (hr : RB w w.heap.size A l) :
    Calls Try.prog 13 #[.pointer (some ⟨s, 0, none⟩), .int .u32 a, .slice A n c, .int .i64 now] w fun e w' => ∃ kn m0 m1 m2 m3 m4 m5 ask full, e = .returned (.agg #[.bool kn, .int .u8 m0, .int .u8 m1, .int .u8 m2, .int .u8 m3, .int .u8 m4, .int .u8 m5, .bool ask, .bool full]) ∧ JG w0 s q K (sdL a now l (tld kn m0 m1 m2 m3 m4 m5 ask full)) w' ∧ KC w0 K w w' := by
  obtain ⟨F, G, A1, n1, c1, S, R, h⟩ := h
  refine (psend_any a ha A n c w.heap.size l hn hmax hb now (by omega) w hr (Nat.le_refl _) F s S h.ca).mono ?_
  rintro e w' ⟨told, T', hT, rfl, S', hc, rfl, hch⟩
  obtain ⟨kn, m0, m1, m2, m3, m4, m5, ask, full, rfl⟩ := told_form hT
  obtain ⟨k1, k2⟩ := h.prog hc hch (link' := sdL a now l (tld kn m0 m1 m2 m3 m4 m5 ask full)) ⟨absT S, h.lk, cache_keys h.ca, hT⟩
  exact ⟨kn, m0, m1, m2, m3, m4, m5, ask, full, rfl, ⟨_, _, _, _, _, _, _, k1⟩, k2⟩
theorem j_send2 {w0 w : World} {s q : Nat} {K : Nat → Prop} {a now : Int} {l : List Int} {told : Array Value} (h : JG w0 s q K (sdL a now l told) w) (ha : okA a) (A : Option Addr) (n c : Nat) (hn : l.length = n) (hmax : n ≤ 140737488355328) (hb : Bs l) (hnow : 0 ≤ now ∧ now ≤ 1099511627776) (hr : RB w w0.heap.size A l) :
    Calls Try.prog 43 #[.pointer (some ⟨q, 0, none⟩), .int .u32 a, .slice A n c, .int .i64 now] w fun e w' => e = .returned (.agg told) ∧ JG w0 s q K pmL w' ∧ KC w0 K w w' := by
  obtain ⟨F, G, A1, n1, c1, S, R, h⟩ := h
  have hln := h.rc.len
  refine (rsend_any q G A1 n1 c1 R a ha A n c w0.heap.size l hn hmax hb now hnow w hr (h.fG q (.inl (.inl rfl))).1 (fun b e => (h.fG b (.inl (.inr e))).1) h.rc (by have := h.le; omega)).mono ?_
  rintro e w' ⟨told2, M, R', rfl, hT2, hp, hr2⟩
  obtain ⟨T, p, hk, hT1⟩ := h.lk
  obtain ⟨e1, e2⟩ := send_same p hk hT1 hT2
  have hpm : pmL S R' := e2.trans hp.symm
  have hlen : R'.length ≤ 16 := by have := perm_len hp e2; have := cache_len h.ca; omega
  obtain ⟨k1, k2⟩ := h.refd hr2 (link' := pmL) hpm hlen
  obtain ⟨G', A', n', c', k1⟩ := k1
  exact ⟨by rw [e1], ⟨_, _, _, _, _, _, _, k1⟩, k2⟩
/-- The blocks that the reference writes are of other types. -/
theorem own_ty {w : World} {q : Nat} {G : Nat → Prop} {A : Option Addr} {n c : Nat} {R : List En} (h : RcK w q G A n c R) {b : Nat} {E : TypeId} {cs : Array Value} (hb : w.heap[b]? = some (.cells cs E (0, 0))) (h1 : E ≠ 63) (h2 : E ≠ 101) : ¬ ownC q A b := by
  rintro (e | e)
  · subst e
    have h3 : w.heap[b]? = some (.cells _ 63 (0, 0)) := h.st.1
    rw [hb] at h3
    injection h3 with h3
    injection h3 with _ h3
    exact h1 h3
  · rcases h.st.2.1.cases_ with ⟨e2, _⟩ | ⟨g, cur, e2, _, h3, _⟩
    · rw [e2] at e; cases e
    · rw [e2] at e
      have e3 : g = b := by simpa [blk] using e
      subst e3
      rw [hb] at h3
      injection h3 with h3
      injection h3 with _ h3
      exact h2 h3
theorem of_own {w w' : World} {q : Nat} {G : Nat → Prop} {A A1 : Option Addr} {n c k1 c1 : Nat} {R : List En} {vs : List Value} (h : RcK w q G A n c R) (hc : Chg (ownC q A) w w') (ho : Of 27 w 0 A1 k1 c1 vs) : Of 27 w' 0 A1 k1 c1 vs :=
  ho.of_block fun g hg => by
    obtain ⟨cs, hcs⟩ := ho.ty hg
    exact hc.block g (ho.lt g hg).2 (own_ty h hcs (by decide) (by decide))
theorem oa_own {w w' : World} {q : Nat} {G : Nat → Prop} {A A1 : Option Addr} {n c k1 c1 b : Nat} {R : List En} {l : List Int} (h : RcK w q G A n c R) (hc : Chg (ownC q A) w w') (ho : OA w b A1 k1 c1 l) : OA w' b A1 k1 c1 l := by
  refine ⟨ho.1, ?_⟩
  rcases ho.2 with h4 | ⟨g, cap, cur, h4, h5, h6, h7⟩
  · exact .inl h4
  · exact .inr ⟨g, cap, cur, h4, h5, (hc.block g (Array.getElem?_eq_some_iff.1 h6).1 (own_ty h h6 (by decide) (by decide))).trans h6, h7⟩
/-- Behind Learn of the program's. -/
def JL (w0 : World) (s q : Nat) (K : Nat → Prop) (a : Int) (n' : Nb) (fresh : Bool) (A1 : Option Addr) (k1 c1 : Nat) (ws : List (List Int)) (w : World) : Prop :=
  ∃ F G A n c S R vs, JX w0 s q K (lnL a n' fresh ws) F G A n c S R w ∧ Of 27 w 0 A1 k1 c1 vs ∧ RowsAt w F vs ws ∧ ws.length ≤ 3
/-- Learn of the program's. -/
theorem j_learn1 {w0 w : World} {s q : Nat} {K : Nat → Prop} (h : JG w0 s q K pmL w) (a : Int) (ha : okA a) (m0 m1 m2 m3 m4 m5 now : Int) (hnow : 0 ≤ now ∧ now ≤ 1099511627776) (fresh : Bool) :
    Calls Try.prog 14 #[.pointer (some ⟨s, 0, none⟩), .int .u32 a, .agg #[.int .u8 m0, .int .u8 m1, .int .u8 m2, .int .u8 m3, .int .u8 m4, .int .u8 m5], .int .i64 now, .bool fresh] w fun e w' => ∃ A1 k1 c1 ws, e = .returned (.slice A1 k1 c1) ∧ JL w0 s q K a (learnt m0 m1 m2 m3 m4 m5 now) fresh A1 k1 c1 ws w' ∧ KC w0 K w w' := by
  obtain ⟨F, G, A, n, c, S, R, h⟩ := h
  refine (plearn_any a ha m0 m1 m2 m3 m4 m5 now (by omega) fresh w F s S h.ca).mono ?_
  rintro e w' ⟨ws, T', hT, h3, A1, k1, c1, rfl, ⟨vs, hv1, hv2⟩, S', hc, rfl, hch⟩
  obtain ⟨j1, j2⟩ := h.prog hc hch (link' := lnL a (learnt m0 m1 m2 m3 m4 m5 now) fresh ws) ⟨absT S, h.lk, cache_keys h.ca, hT⟩
  exact ⟨A1, k1, c1, ws, rfl, ⟨_, G, A, n, c, S', R, vs, j1, hv1, hv2.cap_, h3⟩, j2⟩
/-- Behind both: the same packets. -/
def JR (w0 : World) (s q : Nat) (K : Nat → Prop) (A1 : Option Addr) (k1 : Nat) (A2 : Option Addr) (k2 : Nat) (w : World) : Prop :=
  JG w0 s q K pmL w ∧ ∃ vs vs2 ws, Rw w w.heap.size A1 vs ∧ Rw w w.heap.size A2 vs2 ∧ RdRows w vs ws ∧ RdRows w vs2 ws ∧ ws.length = k1 ∧ k2 = k1 ∧ k1 ≤ 3
theorem j_learn2 {w0 w : World} {s q : Nat} {K : Nat → Prop} {a m0 m1 m2 m3 m4 m5 now : Int} {fresh : Bool} {A1 : Option Addr} {k1 c1 : Nat} {ws : List (List Int)} (h : JL w0 s q K a (learnt m0 m1 m2 m3 m4 m5 now) fresh A1 k1 c1 ws w) (ha : okA a) (hnow : 0 ≤ now ∧ now ≤ 1099511627776) :
    Calls Try.prog 45 #[.pointer (some ⟨q, 0, none⟩), .int .u32 a, .agg #[.int .u8 m0, .int .u8 m1, .int .u8 m2, .int .u8 m3, .int .u8 m4, .int .u8 m5], .int .i64 now, .bool fresh] w fun e w' => ∃ A2 k2 c2, e = .returned (.slice A2 k2 c2) ∧ JR w0 s q K A1 k1 A2 k2 w' ∧ KC w0 K w w' := by
  obtain ⟨F, G, A, n, c, S, R, vs, h, hv1, hv2, h3⟩ := h
  have hln := h.rc.len
  refine (rlearn_any q G A n c R a ha m0 m1 m2 m3 m4 m5 now hnow fresh w h.rc (by have := h.le; omega)).mono ?_
  rintro e w' ⟨A2, k2, c2, ws2, M, R', rfl, ⟨vs2, hu1, hu2⟩, hu3, hT2, hp, hr2⟩
  have hr3 := hr2
  obtain ⟨G', A', n', c', hk1, hk2, hk3, hch⟩ := hr3
  obtain ⟨T, p, hk, hT1⟩ := h.lk
  obtain ⟨e1, e2⟩ := learn_same p hk hT1 hT2
  have hpm : pmL S R' := e2.trans hp.symm
  have hlen : R'.length ≤ 16 := by have := perm_len hp e2; have := cache_len h.ca; omega
  obtain ⟨⟨G2, A3, n3, c3, j1⟩, j2⟩ := h.refd hr2 (link' := pmL) hpm hlen
  have hv1' := of_own h.rc hch hv1
  have hv2' : RowsAt w' F vs ws := hv2.keep (fun b hb hl => hch.block b hl (h.fF b hb).2.2.1) (fun _ k => k)
  refine ⟨A2, k2, c2, rfl, ⟨⟨_, _, _, _, _, _, _, j1⟩, vs, vs2, ws, hv1'.rw, hu1.rw, hv2'.rd, by rw [e1]; exact hu2.rd, ?_, ?_, ?_⟩, j2⟩
  · rw [← hv2'.length]; exact hv1'.length
  · have q1 := hv2'.length
    have q2 := hu2.length
    have q3 := hv1'.length
    have q4 := hu1.length
    rw [e1] at q1
    omega
  · have q1 := hv2'.length
    have q3 := hv1'.length
    omega
theorem j_rows {w0 w : World} {s q : Nat} {K : Nat → Prop} {A1 A2 : Option Addr} {k1 k2 : Nat} (h : JR w0 s q K A1 k1 A2 k2 w) (c1 c2 : Nat) :
    Calls Try.prog 15 #[.slice A1 k1 c1, .slice A2 k2 c2] w fun e w' => e = .returned (.bool true) ∧ JG w0 s q K pmL w' := by
  obtain ⟨h1, vs, vs2, ws, a1, a2, a3, a4, a5, a6, a7⟩ := h
  subst a6
  refine (rows_same A1 A2 k2 c1 c2 vs vs2 ws w a1 a2 a3 a4 a5 (by omega)).mono ?_
  rintro e w' ⟨rfl, k, rfl⟩
  exact ⟨rfl, h1.below (bdrewN (Below.refl _ _) k)⟩
/-- Two rows of the same addresses are found alike. -/
theorem addrs_same (A A2 : Option Addr) (n n2 c c2 b b2 : Nat) (l : List Int) (w : World) (h1 : OA w b A n c l) (h2 : OA w b2 A2 n2 c2 l) (hm : n ≤ 1000) :
    Calls Try.prog 47 #[.slice A n c, .slice A2 n2 c2] w fun e w' => e = .returned (.bool true) ∧ ∃ k, w' = w.drewN k := by
  have hl1 := OA.len h1
  have hl2 := OA.len h2
  obtain rfl : n2 = n := by omega
  have hr1 : Rw w w.heap.size A (by32 l) := Ow.rw h1
  have hr2 : Rw w w.heap.size A2 (by32 l) := Ow.rw h2
  have HL := Lib.hid hl1
  clear hl1 hl2 h1 h2
  go_enter Try.func47, Try.ntmps47
  go_wp2_with fail
  go_loopw [5] (fun i wr => ∃ (k q : Nat), k ≤ n2 ∧ i = .int .i64 k ∧ Hid (wr = w.drewN q)) (fun i _ => n2 - (intOf i).toNat)
  case atStart => exact ⟨0, 0, Nat.zero_le _, rfl, Lib.hid rfl⟩
  case round =>
    obtain ⟨k, q, hk, rfl, HQ⟩ := hrel
    rcases Nat.lt_or_ge k n2 with c0 | c0
    · obtain ⟨v, hv⟩ : ∃ v, l[k]? = some v := ⟨_, List.getElem?_eq_getElem (by rw [HL.out]; exact c0)⟩
      have hv' : (by32 l)[k]? = some (.int .u32 v) := by unfold by32; rw [List.getElem?_map, hv]; rfl
      obtain ⟨g1, o1, rfl, _, e1⟩ := hr1.at_ hv'
      obtain ⟨g2, o2, rfl, _, e2⟩ := hr2.at_ hv'
      have e1' : wr.cell? ⟨g1, o1 + k, none⟩ = some (.int .u32 v) := by rw [HQ.out]; exact e1
      have e2' : wr.cell? ⟨g2, o2 + k, none⟩ = some (.int .u32 v) := by rw [HQ.out]; exact e2
      have c0' : (k : Int) < n2 := by omega
      have qq : (v != v) = false := by simp
      clear hv hv' e1 e2
      go_wp2_with fail
      go_quiet (fail)
      go_wp2_with fail
      go_roundw
      case rel => exact ⟨k + 1, q + _, by omega, by rw [Int.natCast_succ], Lib.hid (by rw [HQ.out]; exact World.drewN_drewN _ _ _)⟩
      case measure => simp only [intOf]; omega
    · have c0' : ¬ (k : Int) < n2 := by omega
      go_wp2_with fail
      go_ret
      exact ⟨rfl, q, HQ.out⟩
/-- Behind Tick of the program's. -/
def JT (w0 : World) (s q : Nat) (K : Nat → Prop) (now : Int) (A1 : Option Addr) (n1 c1 : Nat) (A2 : Option Addr) (n2 c2 : Nat) (asks losts : List Int) (w : World) : Prop :=
  ∃ F G A n c S R, JX w0 s q K (tkL now asks losts) F G A n c S R w ∧ OA w 0 A1 n1 c1 asks ∧ OA w 0 A2 n2 c2 losts
theorem j_tick1 {w0 w : World} {s q : Nat} {K : Nat → Prop} (h : JG w0 s q K pmL w) (now : Int) (hnow : 0 ≤ now ∧ now ≤ 1099511627776) :
    Calls Try.prog 26 #[.pointer (some ⟨s, 0, none⟩), .int .i64 now] w fun e w' => ∃ A1 n1 c1 A2 n2 c2 asks losts, e = .returned (.tuple #[.slice A1 n1 c1, .slice A2 n2 c2]) ∧ JT w0 s q K now A1 n1 c1 A2 n2 c2 asks losts w' := by
  obtain ⟨F, G, A, n, c, S, R, h⟩ := h
  refine (ptick_any now (by omega) w F s S h.ca).mono ?_
  rintro e w' ⟨A1, n1, c1, A2, n2, c2, asks, losts, S', rfl, o1, o2, hc, hT, hch⟩
  obtain ⟨j1, j2⟩ := h.prog hc hch (link' := tkL now asks losts) ⟨absT S, h.lk, hT⟩
  exact ⟨A1, n1, c1, A2, n2, c2, asks, losts, rfl, _, G, A, n, c, S', R, j1, o1, o2⟩
/-- Behind both Ticks. -/
def JU (w0 : World) (s q : Nat) (K : Nat → Prop) (A1 : Option Addr) (n1 c1 : Nat) (A2 : Option Addr) (n2 c2 : Nat) (A3 : Option Addr) (n3 c3 : Nat) (A4 : Option Addr) (n4 c4 : Nat) (w : World) : Prop :=
  ∃ asks losts, JG w0 s q K pmL w ∧ OA w 0 A1 n1 c1 asks ∧ OA w 0 A2 n2 c2 losts ∧ OA w 0 A3 n3 c3 asks ∧ OA w 0 A4 n4 c4 losts ∧ asks.length ≤ 100 ∧ losts.length ≤ 100
theorem j_tick2 {w0 w : World} {s q : Nat} {K : Nat → Prop} {now : Int} {A1 : Option Addr} {n1 c1 : Nat} {A2 : Option Addr} {n2 c2 : Nat} {asks losts : List Int} (h : JT w0 s q K now A1 n1 c1 A2 n2 c2 asks losts w) (hnow : 0 ≤ now ∧ now ≤ 1099511627776) :
    Calls Try.prog 46 #[.pointer (some ⟨q, 0, none⟩), .int .i64 now] w fun e w' => ∃ A3 n3 c3 A4 n4 c4, e = .returned (.tuple #[.slice A3 n3 c3, .slice A4 n4 c4]) ∧ JU w0 s q K A1 n1 c1 A2 n2 c2 A3 n3 c3 A4 n4 c4 w' := by
  obtain ⟨F, G, A, n, c, S, R, h, o1, o2⟩ := h
  have hln := h.rc.len
  refine (rtick_any q G A n c R now hnow w h.rc (by have := h.le; omega)).mono ?_
  rintro e w' ⟨A3, n3, c3, A4, n4, c4, asks2, losts2, R', rfl, p1, p2, l1, l2, hT2, hr2⟩
  have hr3 := hr2
  obtain ⟨G', A', n', c', hk1, hk2, hk3, hch⟩ := hr3
  obtain ⟨T, p, hT1⟩ := h.lk
  obtain ⟨e1, e2, e3⟩ := tick_same p hT1 hT2
  have hlen : R'.length ≤ 16 := by have := perm_len (List.Perm.refl _) e3; have := cache_len h.ca; omega
  obtain ⟨⟨G2, A5, n5, c5, j1⟩, j2⟩ := h.refd hr2 (link' := pmL) e3 hlen
  subst e1; subst e2
  exact ⟨A3, n3, c3, A4, n4, c4, rfl, asks, losts, ⟨_, _, _, _, _, _, _, j1⟩, oa_own h.rc hch o1, oa_own h.rc hch o2, p1, p2, l1, l2⟩
theorem j_addrs1 {w0 w : World} {s q : Nat} {K : Nat → Prop} {A1 : Option Addr} {n1 c1 : Nat} {A2 : Option Addr} {n2 c2 : Nat} {A3 : Option Addr} {n3 c3 : Nat} {A4 : Option Addr} {n4 c4 : Nat} (h : JU w0 s q K A1 n1 c1 A2 n2 c2 A3 n3 c3 A4 n4 c4 w) :
    Calls Try.prog 47 #[.slice A1 n1 c1, .slice A3 n3 c3] w fun e w' => e = .returned (.bool true) ∧ JU w0 s q K A1 n1 c1 A2 n2 c2 A3 n3 c3 A4 n4 c4 w' := by
  obtain ⟨asks, losts, h1, o1, o2, o3, o4, l1, l2⟩ := h
  refine (addrs_same A1 A3 n1 n3 c1 c3 0 0 asks w o1 o3 (by have := OA.len o1; omega)).mono ?_
  rintro e w' ⟨rfl, k, rfl⟩
  exact ⟨rfl, asks, losts, h1.below (bdrewN (Below.refl _ _) k), Ow.drewN o1 k, Ow.drewN o2 k, Ow.drewN o3 k, Ow.drewN o4 k, l1, l2⟩
theorem j_addrs2 {w0 w : World} {s q : Nat} {K : Nat → Prop} {A1 : Option Addr} {n1 c1 : Nat} {A2 : Option Addr} {n2 c2 : Nat} {A3 : Option Addr} {n3 c3 : Nat} {A4 : Option Addr} {n4 c4 : Nat} (h : JU w0 s q K A1 n1 c1 A2 n2 c2 A3 n3 c3 A4 n4 c4 w) :
    Calls Try.prog 47 #[.slice A2 n2 c2, .slice A4 n4 c4] w fun e w' => e = .returned (.bool true) ∧ JG w0 s q K pmL w' := by
  obtain ⟨asks, losts, h1, o1, o2, o3, o4, l1, l2⟩ := h
  refine (addrs_same A2 A4 n2 n4 c2 c4 0 0 losts w o2 o4 (by have := OA.len o2; omega)).mono ?_
  rintro e w' ⟨rfl, k, rfl⟩
  exact ⟨rfl, h1.below (bdrewN (Below.refl _ _) k)⟩
end Go.Proofs.Ytocigdkndlmikaa
