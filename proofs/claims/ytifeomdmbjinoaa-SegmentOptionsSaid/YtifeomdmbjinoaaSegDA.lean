/- Proved: what segment.Decode answers, whatever the bytes. Conditions: the bytes lie in memory. -/
import Derived.Test.YtifeomdmbjinoaaSegD
set_option linter.unusedVariables false
namespace Go.Proofs.Ytifeomdmbjinoaa
open Go.RowKit
def zeroS : Sg := ⟨0, 0, 0, 0, 0, 0, 0, 0, 0, 0⟩
def optMK (l : List Int) : Int × Int := (parse (optsOf l) 0 0 (-1)).getD (0, 0)
def decOf (a b : Int) (l : List Int) : Sg := if dErr a b l = 0 then decS a b l (optMK l).1 (optMK l).2 else zeroS
def decD (a b : Int) (l : List Int) : List Int := if dErr a b l = 0 then l.drop (hdN l) else []
theorem decD_bs {a b : Int} {l : List Int} (h : Bs l) : Bs (decD a b l) := by unfold decD; split; exact h.drop _; exact Bs.nil
theorem decD_len (a b : Int) (l : List Int) : (decD a b l).length ≤ l.length := by unfold decD; split; rw [List.length_drop]; omega; simp
/-- The five ways. -/
theorem dErr_cases (a b : Int) (l : List Int) :
    (65515 < l.length ∧ dErr a b l = 5) ∨ (l.length < 20 ∧ dErr a b l = 2) ∨ (20 ≤ l.length ∧ l.length ≤ 65515 ∧
      ((hdN l < 20 ∧ dErr a b l = 3) ∨ ((20 ≤ hdN l ∧ l.length < hdN l) ∧ dErr a b l = 2) ∨ ((20 ≤ hdN l ∧ hdN l ≤ l.length ∧ segSum a b l ≠ 0) ∧ dErr a b l = 4) ∨
        ((20 ≤ hdN l ∧ hdN l ≤ l.length ∧ segSum a b l = 0 ∧ parse (optsOf l) 0 0 (-1) = none) ∧ dErr a b l = 3) ∨
        ∃ m k, (20 ≤ hdN l ∧ hdN l ≤ l.length ∧ segSum a b l = 0 ∧ parse (optsOf l) 0 0 (-1) = some (m, k)) ∧ dErr a b l = 0 ∧ optMK l = (m, k))) := by
  unfold dErr
  by_cases h1 : 65515 < l.length
  · exact .inl ⟨h1, if_pos h1⟩
  rw [if_neg h1]
  by_cases h2 : l.length < 20
  · exact .inr (.inl ⟨h2, if_pos h2⟩)
  rw [if_neg h2]
  refine .inr (.inr ⟨by omega, by omega, ?_⟩)
  by_cases h3 : hdN l < 20
  · exact .inl ⟨h3, if_pos h3⟩
  rw [if_neg h3]
  by_cases h4 : l.length < hdN l
  · exact .inr (.inl ⟨⟨by omega, h4⟩, if_pos h4⟩)
  rw [if_neg h4]
  by_cases h5 : segSum a b l ≠ 0
  · exact .inr (.inr (.inl ⟨⟨by omega, by omega, h5⟩, if_pos h5⟩))
  rw [if_neg h5]
  have h5' : segSum a b l = 0 := by omega
  cases hp : parse (optsOf l) 0 0 (-1) with
  | none => exact .inr (.inr (.inr (.inl ⟨⟨by omega, by omega, h5', rfl⟩, if_pos rfl⟩)))
  | some mk =>
    obtain ⟨m, k⟩ := mk
    exact .inr (.inr (.inr (.inr ⟨m, k, ⟨by omega, by omega, h5', rfl⟩, if_neg (by simp), by unfold optMK; rw [hp]; rfl⟩)))
theorem decode_any (a b : Int) (ha : U32 a) (hb' : U32 b) (A : Option Addr) (n c B : Nat) (l : List Int) (hn : l.length = n) (hb : Bs l) (w : World) (hr : RB w B A l) (hB : B ≤ w.heap.size) :
    Calls Try.prog 23 #[.int .u32 a, .int .u32 b, .slice A n c] w fun e w' => ∃ A' n' c', e = .returned (.tuple #[.agg #[.int .u32 (decOf a b l).fr, .int .i64 (decOf a b l).fp, .int .u32 (decOf a b l).to, .int .i64 (decOf a b l).tp, .int .u32 (decOf a b l).seq, .int .u32 (decOf a b l).ack, .int .i64 (decOf a b l).fl, .int .i64 (decOf a b l).win, .int .i64 (decOf a b l).mss, .int .i64 (decOf a b l).sc, .slice A' n' c'], .int .i64 (dErr a b l)]) ∧
      OB 5 w' w.heap.size A' n' c' (decD a b l) ∧ Below w.heap.size w w' := by
  have bad : ∀ er : Int, er ≠ 0 → dErr a b l = er → Calls Try.prog 23 #[.int .u32 a, .int .u32 b, .slice A n c] w (fun e w' => e = .returned (.tuple #[.agg #[.int .u32 zeroS.fr, .int .i64 zeroS.fp, .int .u32 zeroS.to, .int .i64 zeroS.tp, .int .u32 zeroS.seq, .int .u32 zeroS.ack, .int .i64 zeroS.fl, .int .i64 zeroS.win, .int .i64 zeroS.mss, .int .i64 zeroS.sc, .slice none 0 0], .int .i64 er]) ∧ Below w.heap.size w w') →
      Calls Try.prog 23 #[.int .u32 a, .int .u32 b, .slice A n c] w fun e w' => ∃ A' n' c', e = .returned (.tuple #[.agg #[.int .u32 (decOf a b l).fr, .int .i64 (decOf a b l).fp, .int .u32 (decOf a b l).to, .int .i64 (decOf a b l).tp, .int .u32 (decOf a b l).seq, .int .u32 (decOf a b l).ack, .int .i64 (decOf a b l).fl, .int .i64 (decOf a b l).win, .int .i64 (decOf a b l).mss, .int .i64 (decOf a b l).sc, .slice A' n' c'], .int .i64 (dErr a b l)]) ∧ OB 5 w' w.heap.size A' n' c' (decD a b l) ∧ Below w.heap.size w w' := fun er h0 he h => by
    have e1 : decOf a b l = zeroS := if_neg (by rw [he]; exact h0)
    have e2 : decD a b l = [] := if_neg (by rw [he]; exact h0)
    rw [e1, e2, he]
    exact h.mono fun e w' ⟨h1, h2⟩ => ⟨none, 0, 0, h1, Ow.none_ _ _ _, h2⟩
  rcases dErr_cases a b l with ⟨h, e⟩ | ⟨h, e⟩ | ⟨h20, hmax, ⟨h, e⟩ | ⟨h, e⟩ | ⟨h, e⟩ | ⟨h, e⟩ | ⟨m, k, h, e, hmk⟩⟩
  · exact bad 5 (by omega) e (decode_long a b A n c (by omega) w)
  · exact bad 2 (by omega) e (decode_short a b A n c B l hn (by omega) hb w hr hB)
  · exact bad 3 (by omega) e (decode_bad0 a b ha hb' A n c B l hn (by omega) (by omega) hb w hr hB h)
  · exact bad 2 (by omega) e (decode_bad1 a b ha hb' A n c B l hn (by omega) (by omega) hb w hr hB (by rw [← hn]; exact h))
  · exact bad 4 (by omega) e (decode_bad2 a b ha hb' A n c B l hn (by omega) (by omega) hb w hr hB (by rw [← hn]; exact h))
  · exact bad 3 (by omega) e (decode_bad3 a b ha hb' A n c B l hn (by omega) (by omega) hb w hr hB (by rw [← hn]; exact h))
  · have e1 : decOf a b l = decS a b l m k := by unfold decOf; rw [if_pos e, hmk]
    have e2 : decD a b l = l.drop (hdN l) := if_pos e
    rw [e1, e2, e]
    exact decode_good a b ha hb' A n c B l hn (by omega) (by omega) hb w hr hB m k (by rw [← hn]; exact h)
end Go.Proofs.Ytifeomdmbjinoaa
