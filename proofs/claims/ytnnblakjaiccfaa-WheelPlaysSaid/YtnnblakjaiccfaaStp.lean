/- Proved: a script of the wheel that came in reads as a list of steps. Conditions: none. -/
import Derived.Test.YtnnblakjaiccfaaPlD
import Derived.Test.YtnnblakjaiccfaaRead
import Derived.Deep.RegionHeld3
set_option linter.unusedVariables false
namespace Go.Proofs.Ytnnblakjaiccfaa
open Go.RowKit

/-- A step: its kind, its number, its tick. -/
def stepC (x : Int × Int × Int) : List Value := [.int .i64 x.1, .int .i64 x.2.1, .int .i64 x.2.2]
def StepOk (x : Int × Int × Int) : Prop := (-9223372036854775808 ≤ x.1 ∧ x.1 ≤ 9223372036854775807) ∧ (-9223372036854775808 ≤ x.2.1 ∧ x.2.1 ≤ 9223372036854775807) ∧ (-9223372036854775808 ≤ x.2.2 ∧ x.2.2 ≤ 9223372036854775807)
def ViewSteps (w : World) (v : Value) : Prop := ∃ A len cap, ∃ l : List (Int × Int × Int), v = .slice A len cap ∧ len ≤ cap ∧ cap * 24 ≤ 140737488351232 ∧ l.length = len ∧ SL 3 stepC w w.heap.size A l ∧ ∀ x ∈ l, StepOk x
theorem sh_steps : shapeOf Try.prog 9 39 = some (.slice 3 24 (.part 0 1 (.int .i64) (.part 1 1 (.int .i64) (.part 2 1 (.int .i64) .fin)))) := by kernel_rfl
theorem open_steps {H : Type} {enc : TypeId × Value → H} {W : World} {b0 : Nat} {v : Value} {d : DataW H} {p : List MemPlace} (hv : Value.okWide Try.prog W .any b0 39 v)
    (h : DataW.Trod enc Try.prog W 0 (fun _ => true) true 39 v d p) (hw : ∀ k ∈ d.weights Try.prog 39, k ≤ reachBytes) : ViewSteps W v := by
  have h1 := Sh.open_slice sh_steps Try.underlying39 hv h hw
  obtain ⟨A, len, cap, l, e, h2, h3, _, h4, h5, h6⟩ := SL.of_is (f := stepC) (Q := StepOk) h1 (by omega) fun cs hl hI => by
    match cs, hl with
    | [c0, c1, c2], _ =>
      obtain ⟨⟨n0, e0, k0⟩, ⟨n1, e1, k1⟩, ⟨n2, e2, k2⟩, _⟩ := hI
      simp at e0 e1 e2
      subst e0; subst e1; subst e2
      exact ⟨(n0, n1, n2), rfl, bounds_i64 k0, bounds_i64 k1, bounds_i64 k2⟩
  injection e with e _
  exact ⟨A, len, cap, l, e, h2, h3, h4, h5, h6⟩
theorem Jp.start (w W1 W2 : World) (h1 : w.alloc (.cells whZ 27) = W1) (h2 : W1.alloc (.cells #[.slice none 0 0] 43) = W2) : Jp W2 w.heap.size W2.heap.size w.heap.size W1.heap.size [] [] := by
  have hs1 : w.heap.size < W1.heap.size := by rw [← h1, World.size_alloc]; exact Nat.lt_succ_self _
  have hs2 : W1.heap.size < W2.heap.size := by rw [← h2, World.size_alloc]; exact Nat.lt_succ_self _
  have hb1 : Bk W1 w.heap.size 27 whZ := by rw [← h1]; exact Bk.new w _ _
  have hb2 : Bk W2 w.heap.size 27 whZ := by rw [← h2]; exact hb1.alloc _
  have hq2 : Bk W2 W1.heap.size 43 #[.slice none 0 0] := by rw [← h2]; exact Bk.new W1 _ _
  refine ⟨_, _, none, none, 0, 0, WhAt.new hb2, ⟨hq2, fun hn => absurd hn (by simp [tmsC]), rfl, Nat.le_refl _, by simp [blk]⟩, fun b hb => ?_, fun h => absurd rfl h, by omega, hs2, by omega, Nat.le_refl _⟩
  subst hb
  exact ⟨Nat.le_refl _, by omega, by omega, fun h => absurd rfl h⟩
theorem zero_rf (w : World) : (zeroValue 43).run Try.prog w = .ok (.agg #[.slice none 0 0]) w := by kernel_rfl
theorem zero_stp (w : World) : (zeroValue 46).run Try.prog w = .ok (.agg #[.int .i64 0, .int .i64 0, .int .i64 0]) w := by kernel_rfl
theorem does_any (p q B : Nat) (M S : Mt) (kd k a : Int) (hk : okI k) (ha : okI a) (w : World) (h : Jp w B w.heap.size p q M S) (hsm : Same M S) :
    Calls Try.prog 15 #[.pointer (some ⟨p, 0, none⟩), .pointer (some ⟨q, 0, none⟩), .agg #[.int .i64 kd, .int .i64 k, .int .i64 a]] w (DoesPost B p q w) := by
  by_cases h1 : kd = 1
  · subst h1; exact does_set p q B M S k a hk ha w h hsm
  by_cases h2 : kd = 2
  · subst h2; exact does_cancel p q B M S k a hk ha w h hsm
  by_cases h3 : kd = 3
  · subst h3; exact does_at p q B M S k a hk ha w h hsm
  by_cases h4 : kd = 4
  · subst h4; exact does_due p q B M S k a hk ha w h hsm
  exact does_next p q B M S kd k a hk ha h1 h2 h3 h4 w h hsm
/-- What the law's loop keeps. -/
def PlK (w0 : World) (p q : Nat) (wr : World) : Prop := ∃ M S, Jp wr p wr.heap.size p q M S ∧ Same M S ∧ Below p w0 wr
theorem does_plk (w0 wr : World) (p q : Nat) (kd k a : Int) (hk : okI k) (ha : okI a) (h : PlK w0 p q wr) :
    Calls Try.prog 15 #[.pointer (some ⟨p, 0, none⟩), .pointer (some ⟨q, 0, none⟩), .agg #[.int .i64 kd, .int .i64 k, .int .i64 a]] wr fun e w' => e = .returned (.bool true) ∧ PlK w0 p q w' := by
  obtain ⟨M, S, h1, h2, h3⟩ := h
  refine (does_any p q p M S kd k a hk ha wr h1 h2).mono ?_
  rintro e w' ⟨rfl, M', S', g1, g2, g3⟩
  exact ⟨rfl, M', S', g1, g2, h3.trans g3⟩
theorem PlK.len {w0 wr : World} {p q : Nat} (h : PlK w0 p q wr) : ∃ (A : Option Addr) (n c : Nat), wr.cell? ⟨q, 0, none⟩ = some (.slice A n c) ∧ Calls Try.prog 10 #[.pointer (some ⟨p, 0, none⟩)] wr fun e w' => e = .returned (.int .i64 n) ∧ w' = wr := by
  obtain ⟨M, S, h1, h2, h3⟩ := h
  obtain ⟨A, n, c, hR, hn⟩ := h1.rf
  refine ⟨A, n, c, hR.cellL, (len_jp p q p wr.heap.size M S wr h1).mono ?_⟩
  rintro e w' ⟨he, hw⟩
  exact ⟨by rw [he, (h2.keys h1).2.2, hn], hw.symm⟩
theorem PlK.drewN {w0 wr : World} {p q : Nat} (h : PlK w0 p q wr) (k : Nat) : PlK w0 p q (wr.drewN k) := by
  obtain ⟨M, S, h1, h2, h3⟩ := h
  exact ⟨M, S, h1.drewN k, h2, bel_drewN h3 k⟩
theorem PlK.drew {w0 wr : World} {p q : Nat} (h : PlK w0 p q wr) : PlK w0 p q wr.drew := by
  obtain ⟨M, S, h1, h2, h3⟩ := h
  exact ⟨M, S, h1.drew, h2, bel_drewN h3 1⟩
theorem PlK.start (w W1 W2 : World) (h1 : w.alloc (.cells whZ 27) = W1) (h2 : W1.alloc (.cells #[.slice none 0 0] 43) = W2) : PlK w w.heap.size W1.heap.size W2 := by
  refine ⟨[], [], Jp.start w W1 W2 h1 h2, ⟨List.Perm.refl _, List.Pairwise.nil⟩, ?_⟩
  rw [← h2, ← h1]
  exact ((Below.refl _ _).alloc (Nat.le_refl _) _).alloc (by rw [World.size_alloc]; exact Nat.le_succ _) _
end Go.Proofs.Ytnnblakjaiccfaa
