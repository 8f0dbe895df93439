/- Proved: Add of a crowd's pieces, in memory. Conditions: as each law says. -/
import Derived.Test.YtcjkhonapafndaaSto
import Derived.Test.YtcjkhonapafndaaCrl
set_option linter.unusedVariables false
set_option linter.unusedSimpArgs false
namespace Go.Proofs.Ytcjkhonapafndaa
open Go.RowKit
/-- A Store made at ps behind the world w0. -/
def CrT (w0 : World) (ps : Nat) (w : World) (L : List Rec) : Prop := ∃ F, Sto w ps F L ∧ (∀ b, F b → ps ≤ b) ∧ Below ps w0 w ∧ ps ≤ w.heap.size
theorem CrT.new {w0 : World} : CrT w0 w0.heap.size (w0.alloc (.cells #[.map none, .slice none 0 0] 46)) [] :=
  ⟨fun b => b = w0.heap.size, sto_new _ _ (Bk.new w0 _ _), fun b hb => by omega, (Below.refl _ _).alloc (Nat.le_refl _) _, by rw [World.size_alloc]; omega⟩
theorem CrT.alloc {w0 w : World} {ps : Nat} {L : List Rec} (h : CrT w0 ps w L) (o : Obj) : CrT w0 ps (w.alloc o) L := by
  obtain ⟨F, h1, h2, h3, h4⟩ := h
  exact ⟨F, h1.alloc o, h2, h3.alloc h4 o, by rw [World.size_alloc]; omega⟩
/-- Add of any piece whose bytes lie in the newest block. -/
theorem crt_add {w0 : World} {ps : Nat} {w : World} {L : List Rec} (h : CrT w0 ps w L) (p : PkV) (hp : p.Ok) (dl : List Int) (n : Nat) (hn : dl.length = n) (hm : n ≤ 1000) (now : Int) (cs : Array Value) (hcs : cs = (by8 dl).toArray) (hg : Good p dl.length) :
    Calls Try.prog 21 #[.pointer (some ⟨ps, 0, none⟩), .agg (pkC p (.slice none 0 0) (.slice (some ⟨w.heap.size, 0, none⟩) n n)), .int .i64 now] (w.alloc (.cells cs 5)) fun e w' =>
      ∃ (L' : List Rec) (out : Pk3) (is : Bool) (er : Int) (A1 A2 : Option Addr) (n1 c1 n2 c2 : Nat), e = .returned (.tuple #[.agg (pkC out.1 (.slice A1 n1 c1) (.slice A2 n2 c2)), .bool is, .int .i64 er]) ∧ CrT w0 ps w' L' ∧ OwnAt w' 0 A1 n1 c1 out.2.1 A2 n2 c2 out.2.2 ∧ RecsOk L' ∧ GoodR L p [] dl now L' out is er := by
  subst hcs
  obtain ⟨F, h1, h2, h3, h4⟩ := h
  have hz : (w.alloc (.cells (by8 dl).toArray 5)).heap.size = w.heap.size + 1 := World.size_alloc _ _
  have hrow : RB (w.alloc (.cells (by8 dl).toArray 5)) (w.heap.size + 1) (some ⟨w.heap.size, 0, none⟩) dl := by
    have q := Ow.rw (ow_lit w 5 w.heap.size (by8 dl) (Nat.le_refl _) (by rw [by8_length]; unfold maxLen; omega))
    rw [hz] at q
    exact q
  refine (sto_add ps F L p hp none (some ⟨w.heap.size, 0, none⟩) 0 0 n n (w.heap.size + 1) [] dl rfl (by omega) hn (Nat.le_refl _) (by omega) now _ (Rw.nil _ _ _) hrow (by omega) (h1.alloc _) (fun b hb => ?_)).mono ?_
  · rcases hb with hb | hb
    · cases hb.2
    · have : w.heap.size = b := by simpa [blk] using hb
      exact ⟨by omega, fun hf => by have := h1.lt hf; omega⟩
  · rintro e w' ⟨F', L', out, is, er, A1, A2, n1, c1, n2, c2, he, q1, q2, q3, q4, q5, q6⟩
    have hB5 : Below ps (w.alloc (.cells (by8 dl).toArray 5)) w' := q5.below (fun b hb => h2 b hb) (by omega)
    exact ⟨L', out, is, er, A1, A2, n1, c1, n2, c2, he, ⟨F', q1, fun b hb => (q4 b hb).elim (fun q => h2 b q) (fun q => by omega), (h3.alloc h4 _).trans hB5, by have := hB5.size; omega⟩, ⟨Ow.mono q2.1 (Nat.zero_le _), Ow.mono q2.2.1 (Nat.zero_le _), q2.2.2⟩, q1.oks, addR_good q6 hg⟩
/-- The crowd behind k of them. -/
def CrA (w0 : World) (ps k : Nat) (w : World) : Prop := ∃ L, CrT w0 ps w L ∧ L.length = min k 8 ∧ CrL (k - min k 8) L
theorem CrA.new {w0 : World} : CrA w0 w0.heap.size 0 (w0.alloc (.cells #[.map none, .slice none 0 0] 46)) := ⟨[], CrT.new, rfl, fun t r h => by simp at h⟩
theorem crowd_add {w0 : World} {ps k : Nat} {w : World} (h : CrA w0 ps k w) (hk : k ≤ 40) :
    Calls Try.prog 21 #[.pointer (some ⟨ps, 0, none⟩), .agg #[.int .i64 0, .int .i64 k, .bool false, .bool true, .int .i64 0, .int .i64 0, .int .i64 0, .int .u32 0, .int .u32 0, .slice none 0 0, .slice (some ⟨w.heap.size, 0, none⟩) 8 8], .int .i64 k]
      (w.alloc (.cells #[.int .u8 1, .int .u8 2, .int .u8 3, .int .u8 4, .int .u8 5, .int .u8 6, .int .u8 7, .int .u8 k] 5)) fun e w' => (∃ v, e = .returned v) ∧ CrA w0 ps (k + 1) w' := by
  obtain ⟨L, h1, h2, h3⟩ := h
  refine (crt_add h1 (crP k) (crP_ok hk) (crD k) 8 rfl (by omega) k _ rfl (crP_good k)).mono ?_
  rintro e w' ⟨L', out, is, er, A1, A2, n1, c1, n2, c2, he, q1, q2, q3, q4⟩
  obtain ⟨r1, r2⟩ := crowd_in hk h2 h3 q4
  exact ⟨⟨_, he⟩, L', q1, r1, r2⟩
/-- Behind o that came out; number i is next. -/
def CrB (w0 : World) (ps n : Nat) (i : Int) (o : Nat) (w : World) : Prop := ∃ L, CrT w0 ps w L ∧ CrO n i o L
theorem CrA.out {w0 : World} {ps n : Nat} {w : World} (h : CrA w0 ps n w) : CrB w0 ps n (n - 1) 0 w := by
  obtain ⟨L, h1, h2, h3⟩ := h
  exact ⟨L, h1, CrO.start h2 h3⟩
theorem CrB.alloc {w0 w : World} {ps n o : Nat} {i : Int} (h : CrB w0 ps n i o w) (ob : Obj) : CrB w0 ps n i o (w.alloc ob) := by
  obtain ⟨L, h1, h2⟩ := h
  exact ⟨L, h1.alloc ob, h2⟩
theorem CrB.below {w0 w : World} {ps n o : Nat} {i : Int} (h : CrB w0 ps n i o w) : Below ps w0 w := by
  obtain ⟨L, ⟨F, _, _, h3, _⟩, _⟩ := h
  exact h3
theorem CrB.size {w0 w : World} {ps n o : Nat} {i : Int} (h : CrB w0 ps n i o w) : ps ≤ w.heap.size := by
  obtain ⟨L, ⟨F, _, _, _, h4⟩, _⟩ := h
  exact h4
theorem CrA.below {w0 w : World} {ps n : Nat} (h : CrA w0 ps n w) : Below ps w0 w := by
  obtain ⟨L, ⟨F, _, _, h3, _⟩, _⟩ := h
  exact h3
theorem crowd_len {w0 w : World} {ps n : Nat} (h : CrA w0 ps n w) : Calls Try.prog 22 #[.pointer (some ⟨ps, 0, none⟩)] w fun e w' => e = .returned (.int .i64 (min n 8 : Nat)) ∧ w' = w := by
  obtain ⟨L, ⟨F, h1, _⟩, h2, _⟩ := h
  rw [← h2]
  exact sto_len ps F L w h1
/-- What the last pieces bring about. -/
def CrOut (w0 : World) (ps n i o : Nat) (e : Ending) (w' : World) : Prop :=
  ∃ (p : PkV) (is : Bool) (er : Int) (A1 A2 : Option Addr) (n1 c1 n2 c2 : Nat), e = .returned (.tuple #[.agg (pkC p (.slice A1 n1 c1) (.slice A2 n2 c2)), .bool is, .int .i64 er]) ∧
    ((o < 8 ∧ n ≤ i + 8 ∧ is = true ∧ n2 = 9 ∧ (∃ g, A2 = some ⟨g, 0, none⟩ ∧ g < w'.heap.size ∧ w'.cell? ⟨g, 7, none⟩ = some (.int .u8 i)) ∧ CrB w0 ps n ((i : Int) - 1) (o + 1) w') ∨ (o = 8 ∧ is = false ∧ CrB w0 ps n ((i : Int) - 1) o w'))
theorem crowd_last {w0 : World} {ps n i o : Nat} {w : World} (h : CrB w0 ps n i o w) (hn : n ≤ 40) (hi : i < n) :
    Calls Try.prog 21 #[.pointer (some ⟨ps, 0, none⟩), .agg #[.int .i64 0, .int .i64 i, .bool false, .bool false, .int .i64 8, .int .i64 0, .int .i64 0, .int .u32 0, .int .u32 0, .slice none 0 0, .slice (some ⟨w.heap.size, 0, none⟩) 1 1], .int .i64 n]
      (w.alloc (.cells #[.int .u8 9] 5)) (CrOut w0 ps n i o) := by
  obtain ⟨L, h1, h2⟩ := h
  refine (crt_add h1 (crQ i) (crQ_ok (by omega)) [9] 1 rfl (by omega) n _ rfl (crQ_good i)).mono ?_
  rintro e w' ⟨L', ⟨p, ol, T⟩, is, er, A1, A2, n1, c1, n2, c2, he, q1, q2, q3, q4⟩
  refine ⟨p, is, er, A1, A2, n1, c1, n2, c2, he, ?_⟩
  rcases crowd_out hn hi h2 q4 ⟨q3.2, q3.1⟩ with ⟨r1, r2, r3, r4, r5⟩ | ⟨r1, r2, r3⟩
  · refine .inl ⟨r1, r2, r3, ?_, ?_, L', q1, r5⟩
    · have := OB.length q2.2.1
      have h4 : T = crD i ++ [9] := r4
      rw [h4] at this
      exact this.symm
    · have h4 : T = crD i ++ [9] := r4
      have h5 : OB 5 w' 0 A2 n2 c2 T := q2.2.1
      obtain ⟨b, off, hA, hb, hc⟩ := OB.rb h5 (by rw [by8_length, h4]; exact (by decide : 0 < 9))
      rcases Ow.cases_ h5 with ⟨rfl, _⟩ | ⟨g, cur, rfl, _⟩
      · cases hA
      · injection hA with hA
        injection hA with e1 e2
        subst e1; subst e2
        refine ⟨g, rfl, hb, ?_⟩
        have := hc 7 (.int .u8 i) (by rw [by8_get _ 7 (by rw [h4]; exact (by decide : 7 < 9)), h4]; rfl)
        rw [Nat.zero_add] at this
        exact this
  · exact .inr ⟨r1, r2, L', q1, r3⟩
end Go.Proofs.Ytcjkhonapafndaa
