/- Proved: the wheel and the reference's wheel side by side: each operation of the one leaves the other. Conditions: both lie in memory, apart. -/
import Derived.Test.YtnnblakjaiccfaaPlL
import Derived.Test.YtnnblakjaiccfaaRowI
set_option linter.unusedVariables false
set_option linter.unusedSimpArgs false
namespace Go.Proofs.Ytnnblakjaiccfaa
open Go.RowKit
theorem RfAt.chg {F : Nat → Prop} {w w' : World} {q : Nat} {A : Option Addr} {n c : Nat} {S : Mt} (h : RfAt w q A n c S) (hc : Chg F w w') (hq : ¬ F q) (hA : n ≠ 0 → ∀ b, blk A = some b → ¬ F b) : RfAt w' q A n c S := by
  obtain ⟨h1, h2, h3, h4, h5⟩ := h
  refine ⟨h1.chg hc hq, fun hn => ?_, h3, h4, h5⟩
  obtain ⟨g, off, rfl, hb, hcs⟩ := h2 hn
  have hn0 : n ≠ 0 := by rw [tmsC_len] at hn; omega
  exact ⟨g, off, rfl, Nat.lt_of_lt_of_le hb hc.size, fun j u hu => (hc.cell (p := ⟨g, off + j, none⟩) hb (hA hn0 g rfl)).trans (hcs j u hu)⟩
theorem RfAt.blt {w : World} {q : Nat} {A : Option Addr} {n c : Nat} {S : Mt} (h : RfAt w q A n c S) (hn : n ≠ 0) {b : Nat} (hb : blk A = some b) : b < w.heap.size := by
  obtain ⟨g, off, rfl, hb', _⟩ := h.2.1 (by rw [tmsC_len, h.2.2.1]; omega)
  have : g = b := by simpa [blk] using hb
  omega
/-- Both wheels, apart; nothing of theirs behind N, nothing that changes ahead of B. -/
def Jp (w : World) (B N p q : Nat) (M S : Mt) : Prop := ∃ (F : Nat → Prop) (L : List Sl) (mv : Option Nat) (A : Option Addr) (n c : Nat), WhAt w F p L mv M ∧ RfAt w q A n c S ∧
  (∀ b, F b → B ≤ b ∧ b < N ∧ b ≠ q ∧ (n ≠ 0 → blk A ≠ some b)) ∧ (n ≠ 0 → ∀ b, blk A = some b → b < N) ∧ B ≤ q ∧ q < N ∧ B ≤ N ∧ N ≤ w.heap.size
section
variable {w w' : World} {B N p q : Nat} {M S : Mt}
theorem Jp.size (h : Jp w B N p q M S) : B ≤ N ∧ N ≤ w.heap.size := by obtain ⟨F, L, mv, A, n, c, _, _, _, _, _, _, h1, h2⟩ := h; exact ⟨h1, h2⟩
theorem Jp.stay (h : Jp w B N p q M S) (hc : Chg (fun b => N ≤ b) w w') : Jp w' B N p q M S := by
  obtain ⟨F, L, mv, A, n, c, h1, h2, h3, h4, h5, h6, h7, h8⟩ := h
  exact ⟨F, L, mv, A, n, c, h1.keep (fun b hb hl => hc.block b hl (by have := (h3 b hb).2.1; omega)) (fun _ h => h), h2.chg hc (by omega) (fun hn b hb => by have := h4 hn b hb; omega), h3, h4, h5, h6, h7, Nat.le_trans h8 hc.size⟩
theorem Jp.up {N' : Nat} (h : Jp w B N p q M S) (h1 : N ≤ N') (h2 : N' ≤ w.heap.size) : Jp w B N' p q M S := by
  obtain ⟨F, L, mv, A, n, c, a1, a2, a3, a4, a5, a6, a7, a8⟩ := h
  exact ⟨F, L, mv, A, n, c, a1, a2, fun b hb => ⟨(a3 b hb).1, by have := (a3 b hb).2.1; omega, (a3 b hb).2.2⟩, fun hn b hb => by have := a4 hn b hb; omega, a5, by omega, by omega, h2⟩
theorem Jp.top (h : Jp w B N p q M S) : Jp w B w.heap.size p q M S := h.up h.size.2 (Nat.le_refl _)
theorem Jp.drewN (h : Jp w B N p q M S) (k : Nat) : Jp (w.drewN k) B N p q M S := h.stay ((Chg.refl _ w).drewN k)
theorem Jp.below (h : Jp w B N p q M S) (hb : Below N w w') : Jp w' B N p q M S := h.stay ⟨hb.os, hb.tape, hb.output, hb.size, fun b _ hl => hb.block b (by omega)⟩
theorem Jp.keys (h : Jp w B N p q M S) : (M.map (·.1)).Nodup := by obtain ⟨F, L, mv, A, n, c, h1, _⟩ := h; exact h1.ok.keys
theorem Jp.room (h : Jp w B N p q M S) : M.length ≤ 256 := by obtain ⟨F, L, mv, A, n, c, h1, _⟩ := h; exact h1.ok.room
theorem Jp.q_ (h : Jp w B N p q M S) : B ≤ q ∧ q < N := by obtain ⟨F, L, mv, A, n, c, _, _, _, _, h1, h2, _⟩ := h; exact ⟨h1, h2⟩
theorem Jp.drew (h : Jp w B N p q M S) : Jp w.drew B N p q M S := h.stay ⟨rfl, rfl, rfl, Nat.le_refl _, fun _ _ _ => rfl⟩
theorem Jp.rf (h : Jp w B N p q M S) : ∃ A n c, RfAt w q A n c S ∧ n = S.length := by obtain ⟨F, L, mv, A, n, c, _, h2, _⟩ := h; exact ⟨A, n, c, h2, h2.2.2.1.symm⟩
end
/-- The two hold the same timers. -/
def Same (M S : Mt) : Prop := M.Perm S ∧ Srd S
section
variable (p q B N : Nat) (M S : Mt) (w : World)
theorem set_jp (k a : Int) (hk : okI k) (ha : okI a) (h : Jp w B N p q M S) :
    Calls Try.prog 9 #[.pointer (some ⟨p, 0, none⟩), .int .i64 k, .int .i64 a] w fun e w' => e = .returned (.int .i64 (setM M k a).1) ∧ Jp w' B w'.heap.size p q (setM M k a).2 S ∧ Chg (fun b => B ≤ b ∧ b < N) w w' := by
  obtain ⟨F, L, mv, A, n, c, h1, h2, h3, h4, h5, h6, h7, h8⟩ := h
  refine (set_any p L mv M F k a hk ha w h1).mono ?_
  rintro e w' ⟨he, F', L', mv', hW, hC, hF⟩
  have hs := hC.size
  refine ⟨he, ⟨_, L', mv', A, n, c, hW.norm, h2.chg hC (fun e => absurd rfl (h3 q e).2.2.1) (fun hn b hb hf => absurd hb ((h3 b hf).2.2.2 hn)), ?_, fun hn b hb => by have := h4 hn b hb; omega, h5, by omega, by omega, Nat.le_refl _⟩, hC.mono (fun b _ hb => ⟨(h3 b hb).1, (h3 b hb).2.1⟩)⟩
  rintro b ⟨hb, hbl⟩
  rcases hF b hb with hb | hb
  · exact ⟨(h3 b hb).1, hbl, (h3 b hb).2.2⟩
  · exact ⟨by omega, hbl, by omega, fun hn e => by have := h4 hn b e; omega⟩
theorem cancel_jp (k : Int) (hk : okI k) (h : Jp w B N p q M S) :
    Calls Try.prog 17 #[.pointer (some ⟨p, 0, none⟩), .int .i64 k] w fun e w' => e = .returned (.bool (getM M k).isSome) ∧ Jp w' B N p q (delM M k) S ∧ Chg (fun b => B ≤ b ∧ b < N) w w' := by
  obtain ⟨F, L, mv, A, n, c, h1, h2, h3, h4, h5, h6, h7, h8⟩ := h
  refine (cancel_any p L mv M F k hk w h1).mono ?_
  rintro e w' ⟨he, L', hW, hC⟩
  have hs := hC.size
  exact ⟨he, ⟨F, L', mv, A, n, c, hW, h2.chg hC (fun e => absurd rfl (h3 q e).2.2.1) (fun hn b hb hf => absurd hb ((h3 b hf).2.2.2 hn)), h3, h4, h5, h6, h7, by omega⟩, hC.mono (fun b _ hb => ⟨(h3 b hb).1, (h3 b hb).2.1⟩)⟩
theorem at_jp (k : Int) (hk : okI k) (h : Jp w B N p q M S) :
    Calls Try.prog 12 #[.pointer (some ⟨p, 0, none⟩), .int .i64 k] w fun e w' => e = .returned (.tuple #[.int .i64 ((getM M k).getD 0), .bool (getM M k).isSome]) ∧ w = w' := by
  obtain ⟨F, L, mv, A, n, c, h1, h2⟩ := h
  exact at_any p L mv M F k hk w h1
theorem len_jp (h : Jp w B N p q M S) :
    Calls Try.prog 10 #[.pointer (some ⟨p, 0, none⟩)] w fun e w' => e = .returned (.int .i64 M.length) ∧ w = w' := by
  obtain ⟨F, L, mv, A, n, c, h1, h2⟩ := h
  exact len_any p L mv M F w h1
theorem next_jp (h : Jp w B N p q M S) :
    Calls Try.prog 16 #[.pointer (some ⟨p, 0, none⟩)] w fun e w' => ∃ n is_, e = .returned (.tuple #[.int .i64 n, .bool is_]) ∧ NextIs M n is_ ∧ Below w.heap.size w w' := by
  obtain ⟨F, L, mv, A, n, c, h1, h2⟩ := h
  exact next_any p L mv M F w h1
theorem due_jp (now : Int) (h : Jp w B N p q M S) :
    Calls Try.prog 13 #[.pointer (some ⟨p, 0, none⟩), .int .i64 now] w fun e w' => ∃ (D : Mt) (A : Option Addr) (n c : Nat), e = .returned (.slice A n c) ∧ D.Perm (dueS now M) ∧ Srd D ∧
      Ow 3 w' w.heap.size A n c (int64s (D.map (·.1))) ∧ Jp w' B N p q (M.filter fun t => decide (now < t.2)) S ∧ Chg (fun b => B ≤ b ∧ b < N) w w' := by
  obtain ⟨F, L, mv, A, n, c, h1, h2, h3, h4, h5, h6, h7, h8⟩ := h
  refine (due_any sorts_tm p L mv M F now w h1).mono ?_
  rintro e w' ⟨D, A2, n2, c2, L', he, hp, hs, hO, hW, hC⟩
  have hsz := hC.size
  exact ⟨D, A2, n2, c2, he, hp, hs, hO, ⟨F, L', mv, A, n, c, hW, h2.chg hC (fun e => absurd rfl (h3 q e).2.2.1) (fun hn b hb hf => absurd hb ((h3 b hf).2.2.2 hn)), h3, h4, h5, h6, h7, by omega⟩, hC.mono (fun b _ hb => ⟨(h3 b hb).1, (h3 b hb).2.1⟩)⟩
theorem rset_jp (k a : Int) (hl : S.length ≤ 256) (hn : (S.map (·.1)).Nodup) (h : Jp w B N p q M S) :
    Calls Try.prog 23 #[.pointer (some ⟨q, 0, none⟩), .int .i64 k, .int .i64 a] w fun e w' => ∃ r S', e = .returned (.int .i64 r) ∧ SetR S k a r S' ∧ Jp w' B w'.heap.size p q M S' ∧ Chg (fun b => b = q) w w' := by
  obtain ⟨F, L, mv, A, n, c, h1, h2, h3, h4, h5, h6, h7, h8⟩ := h
  have hSn := h2.2.2.1
  refine (rset_any q A n c S k a w h2 (by omega) hn).mono ?_
  have hWh : ∀ w', Chg (fun b => b = q) w w' → WhAt w' F p L mv M := fun w' hC => h1.keep (fun b hb hl => hC.block b hl (fun e => absurd e (h3 b hb).2.2.1)) (fun _ h => h)
  rintro e w' (⟨d, rfl, ⟨n', c', hR⟩, hC⟩ | ⟨d, g1, g2, rfl, ⟨n', c', hR⟩, hC⟩ | ⟨d, g1, rfl, j, A', n', c', hR, g2, g3, hC, hA'⟩)
  · have hs := hC.size
    have hnn : n' = n := by rw [← hR.2.2.1, hSn]
    subst hnn
    exact ⟨1, S, rfl, .inl ⟨d, rfl, rfl⟩, ⟨F, L, mv, A, n', c', hWh w' hC, hR, fun b hb => ⟨(h3 b hb).1, by have := (h3 b hb).2.1; omega, (h3 b hb).2.2⟩, fun hn b hb => by have := h4 hn b hb; omega, h5, by omega, by omega, Nat.le_refl _⟩, hC⟩
  · have hs := hC.size
    have hnn : n' = n := by rw [← hR.2.2.1, hSn]
    subst hnn
    exact ⟨6, S, rfl, .inr (.inl ⟨d, g1, g2, rfl, rfl⟩), ⟨F, L, mv, A, n', c', hWh w' hC, hR, fun b hb => ⟨(h3 b hb).1, by have := (h3 b hb).2.1; omega, (h3 b hb).2.2⟩, fun hn b hb => by have := h4 hn b hb; omega, h5, by omega, by omega, Nat.le_refl _⟩, hC⟩
  · have hs := hC.size
    exact ⟨0, _, rfl, .inr (.inr ⟨d, g1, rfl, j, rfl, g2, g3⟩), ⟨F, L, mv, A', n', c', hWh w' hC, hR, fun b hb => ⟨(h3 b hb).1, by have := (h3 b hb).2.1; omega, (h3 b hb).2.2.1, fun _ e => by have := hA' b e; have := (h3 b hb).2.1; omega⟩, fun hn b hb => hR.blt hn hb, h5, by omega, by omega, Nat.le_refl _⟩, hC⟩
theorem rcan_jp (k : Int) (hl : S.length ≤ 256) (hn : (S.map (·.1)).Nodup) (h : Jp w B N p q M S) :
    Calls Try.prog 24 #[.pointer (some ⟨q, 0, none⟩), .int .i64 k] w fun e w' => e = .returned (.bool (getM S k).isSome) ∧ Jp w' B w'.heap.size p q M (delM S k) ∧ Chg (fun b => b = q) w w' := by
  obtain ⟨F, L, mv, A, n, c, h1, h2, h3, h4, h5, h6, h7, h8⟩ := h
  have hSn := h2.2.2.1
  refine (rcan_any q A n c S k w h2 (by omega) hn).mono ?_
  rintro e w' ⟨he, A', n', c', hR, hC, hA'⟩
  have hs := hC.size
  have hle : (delM S k).length ≤ S.length := List.length_filter_le _ _
  have hn' := hR.2.2.1
  refine ⟨he, ⟨F, L, mv, A', n', c', h1.keep (fun b hb hl => hC.block b hl (fun e => absurd e (h3 b hb).2.2.1)) (fun _ h => h), hR, fun b hb => ⟨(h3 b hb).1, by have := (h3 b hb).2.1; omega, (h3 b hb).2.2.1, fun h0 e => ?_⟩, fun hn b hb => hR.blt hn hb, h5, by omega, by omega, Nat.le_refl _⟩, hC⟩
  rcases hA' b e with e | e
  · exact (h3 b hb).2.2.2 (by omega) e
  · have := (h3 b hb).2.1; omega
theorem rat_jp (k : Int) (hl : S.length ≤ 256) (hn : (S.map (·.1)).Nodup) (h : Jp w B N p q M S) :
    Calls Try.prog 25 #[.pointer (some ⟨q, 0, none⟩), .int .i64 k] w fun e w' => e = .returned (.tuple #[.int .i64 ((getM S k).getD 0), .bool (getM S k).isSome]) ∧ ∃ j, w' = w.drewN j := by
  obtain ⟨F, L, mv, A, n, c, h1, h2, _⟩ := h
  have hSn := h2.2.2.1
  exact rat_any q A n c S k w h2 (by omega) hn
theorem rdue_jp (now : Int) (hl : S.length ≤ 256) (h : Jp w B N p q M S) :
    Calls Try.prog 26 #[.pointer (some ⟨q, 0, none⟩), .int .i64 now] w fun e w' => ∃ (i : Nat) (AO : Option Addr) (cO : Nat), e = .returned (.slice AO i cO) ∧ i ≤ S.length ∧ (∀ t ∈ S.take i, t.2 ≤ now) ∧ (∀ t, S[i]? = some t → now < t.2) ∧
      Ow 3 w' w.heap.size AO i cO (int64s ((S.take i).map (·.1))) ∧ Jp w' B N p q M (S.drop i) ∧ Chg (fun b => b = q) w w' := by
  obtain ⟨F, L, mv, A, n, c, h1, h2, h3, h4, h5, h6, h7, h8⟩ := h
  have hSn := h2.2.2.1
  refine (rdue_any q A n c S now w h2 (by omega)).mono ?_
  rintro e w' ⟨i, m, AO, cO, A', c', he, him, g1, g2, hO, hR, hA', hC⟩
  have hs := hC.size
  refine ⟨i, AO, cO, he, by omega, g1, g2, hO, ⟨F, L, mv, A', m, c', h1.keep (fun b hb hl => hC.block b hl (fun e => absurd e (h3 b hb).2.2.1)) (fun _ h => h), hR, fun b hb => ⟨(h3 b hb).1, (h3 b hb).2.1, (h3 b hb).2.2.1, fun h0 e => ?_⟩, fun h0 b hb => ?_, h5, h6, h7, by omega⟩, hC⟩
  · rcases hA' with e2 | e2
    · exact (h3 b hb).2.2.2 (by omega) (e2.symm.trans e)
    · rw [e2] at e; cases e
  · rcases hA' with e2 | e2
    · exact h4 (by omega) b (e2.symm.trans hb)
    · rw [e2] at hb; cases hb
end
end Go.Proofs.Ytnnblakjaiccfaa
