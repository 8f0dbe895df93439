/- Proved: what segment.Encode hands out, whatever the segment; the law's own helper known. Conditions: the segment is one that came in. -/
import Derived.Test.YtifeomdmbjinoaaSegE
set_option linter.unusedVariables false
set_option linter.unusedSimpArgs false
namespace Go.Proofs.Ytifeomdmbjinoaa
open Go.RowKit
set_option maxHeartbeats 1000000 in
theorem encode_long (s : Sg) (hwf : s.wf) (hg : s.good) (A : Option Addr) (n cap : Nat) (hmax : n ≤ 140737488351232) (hlong : 65515 < 20 + (optB s.mss s.sc).length + n) (w : World) :
    Calls Try.prog 11 #[.agg #[.int .u32 s.fr, .int .i64 s.fp, .int .u32 s.to, .int .i64 s.tp, .int .u32 s.seq, .int .u32 s.ack, .int .i64 s.fl, .int .i64 s.win, .int .i64 s.mss, .int .i64 s.sc, .slice A n cap]] w fun e w' => e = .returned (.tuple #[.slice none 0 0, .int .i64 5]) ∧ Below w.heap.size w w' := by
  obtain ⟨d1, d2, d3, d4, d5, d6, d7⟩ := hg
  have hmi : I64 s.mss := hwf.2.2.2.2.2.2.2.2.1
  have hsi : I64 s.sc := hwf.2.2.2.2.2.2.2.2.2
  have hom := optB_len s.mss s.sc
  obtain ⟨o, ho⟩ : ∃ o, optB s.mss s.sc = o := ⟨_, rfl⟩
  rw [ho] at hom hlong
  have HO := Lib.hid ho
  obtain ⟨m, hm⟩ : ∃ m, o.length = m := ⟨_, rfl⟩
  rw [hm] at hom hlong
  have HM := Lib.hid hm
  obtain ⟨W0, hW0⟩ : ∃ W0, w.alloc (.cells #[.int .u32 s.fr, .int .i64 s.fp, .int .u32 s.to, .int .i64 s.tp, .int .u32 s.seq, .int .u32 s.ack, .int .i64 s.fl, .int .i64 s.win, .int .i64 s.mss, .int .i64 s.sc, .slice A n cap] 26) = W0 := ⟨_, rfl⟩
  have k0 : Bk W0 w.heap.size 26 #[.int .u32 s.fr, .int .i64 s.fp, .int .u32 s.to, .int .i64 s.tp, .int .u32 s.seq, .int .u32 s.ack, .int .i64 s.fl, .int .i64 s.win, .int .i64 s.mss, .int .i64 s.sc, .slice A n cap] := by rw [← hW0]; exact Bk.new w _ _
  have hB0 : Below w.heap.size w W0 := by rw [← hW0]; exact (Below.refl _ _).alloc (Nat.le_refl _) _
  have z0 := k0.lt
  have HW0 := Lib.hid hW0
  have t1 := d1.1; have t2 := d1.2; have t3 := d2.1; have t4 := d2.2; have t5 := d3.1; have t6 := d3.2; have t7 := d4.1; have t8 := d4.2; have t9 := d5.1; have t10 := d5.2
  clear hW0 ho hm hwf
  go_enter Try.func11, Try.ntmps11
  go_wp2_with (go_at_call 27; refine (within_yes _ _ (by constructor <;> assumption) _).mono ?_; rintro e w' ⟨rfl, rfl⟩)
  rw [HW0.out]
  refine (options_any s A n cap W0 hmi hsi).mono ?_
  rintro e w1 ⟨Bo, m', co, rfl, hO1, hB1⟩
  rw [HO.out] at hO1
  obtain rfl : m = m' := by rw [← HM.out]; exact hO1.length
  have k1 := k0.below hB1 z0
  have z1 := hB1.size
  have c10 := ((k1.alloc (.cells #[.slice Bo m co] 24)).alloc (.cells #[.int .i64 (20 + (m : Int))] 3)).cell 10
  simp only [List.getElem?_toArray, List.getElem?_cons_zero, List.getElem?_cons_succ] at c10
  have hBw : Below w.heap.size w w1 := hB0.trans (hB1.mono (by omega))
  have HBW := Lib.hid hBw
  clear hBw
  go_wp2
  go_ret2
  exact ⟨rfl, (HBW.out.alloc HBW.out.size _).alloc (by have := HBW.out.size; simp; omega) _⟩

/-! ### whatever the segment -/
def segErr (s : Sg) (n : Nat) : Int := if s.fp < 0 ∨ 65535 < s.fp ∨ s.tp < 0 ∨ 65535 < s.tp ∨ s.win < 0 ∨ 65535 < s.win ∨ s.fl < 0 ∨ 63 < s.fl ∨ s.mss < 0 ∨ 65535 < s.mss ∨ s.sc < -1 ∨ 14 < s.sc then 1 else if 65515 < 20 + (optB s.mss s.sc).length + n then 5 else 0
def segHd (s : Sg) : Int := (20 + ((optB s.mss s.sc).length : Int)) / 4 * 16
def segAll (s : Sg) (d : List Int) : List Int := segB s (segHd s) (segSum s.fr s.to (segB s (segHd s) 0 (optB s.mss s.sc) d)) (optB s.mss s.sc) d
def segOut (s : Sg) (d : List Int) : List Int := if segErr s d.length = 0 then segAll s d else []
theorem segErr_arg {s : Sg} {n : Nat} (h : s.bad) : segErr s n = 1 := if_pos h
theorem segErr_long {s : Sg} {n : Nat} (h : ¬ s.bad) (h2 : 65515 < 20 + (optB s.mss s.sc).length + n) : segErr s n = 5 := by unfold segErr; rw [if_neg (show ¬ (_ ∨ _) from h), if_pos h2]
theorem segErr_ok {s : Sg} {n : Nat} (h : ¬ s.bad) (h2 : ¬ 65515 < 20 + (optB s.mss s.sc).length + n) : segErr s n = 0 := by unfold segErr; rw [if_neg (show ¬ (_ ∨ _) from h), if_neg h2]
theorem segErr_zero {s : Sg} {n : Nat} (h : segErr s n = 0) : s.good ∧ 20 + (optB s.mss s.sc).length + n ≤ 65515 := by
  unfold segErr at h
  split at h
  · omega
  · rename_i h1
    split at h
    · omega
    · exact ⟨Sg.good_of h1, by omega⟩
theorem segAll_bs {s : Sg} {d : List Int} (hd : Bs d) : Bs (segAll s d) := segB_bs _ _ _ (optB_bs _ _) hd
theorem segAll_len {s : Sg} {d : List Int} : (segAll s d).length = 20 + (optB s.mss s.sc).length + d.length := segB_len _ _ _ _ _
theorem segOut_bs {s : Sg} {d : List Int} (hd : Bs d) : Bs (segOut s d) := by
  unfold segOut; split
  · exact segAll_bs hd
  · exact Bs.nil
theorem segOut_len {s : Sg} {d : List Int} : (segOut s d).length ≤ 28 + d.length := by
  unfold segOut; split
  · rw [segAll_len]; have := optB_len s.mss s.sc; omega
  · simp
theorem encode_any (s : Sg) (hwf : s.wf) (A : Option Addr) (n cap : Nat) (d : List Int) (hn : d.length = n) (hmax : n ≤ 140737488351232) (hb : Bs d) (w : World) (hd : RB w w.heap.size A d) :
    Calls Try.prog 11 #[.agg #[.int .u32 s.fr, .int .i64 s.fp, .int .u32 s.to, .int .i64 s.tp, .int .u32 s.seq, .int .u32 s.ack, .int .i64 s.fl, .int .i64 s.win, .int .i64 s.mss, .int .i64 s.sc, .slice A n cap]] w fun e w' => ∃ A' n' c', e = .returned (.tuple #[.slice A' n' c', .int .i64 (segErr s n)]) ∧
      OB 5 w' w.heap.size A' n' c' (segOut s d) ∧ Below w.heap.size w w' := by
  unfold segOut
  rw [hn]
  by_cases h : s.bad
  · rw [segErr_arg h, if_neg (by omega)]
    exact (encode_arg s h A n cap w).mono fun e w' ⟨h1, h2⟩ => ⟨none, 0, 0, h1, Ow.none_ _ _ _, h2⟩
  · by_cases h2 : 65515 < 20 + (optB s.mss s.sc).length + n
    · rw [segErr_long h h2, if_neg (by omega)]
      exact (encode_long s hwf (Sg.good_of h) A n cap hmax h2 w).mono fun e w' ⟨h1, h2⟩ => ⟨none, 0, 0, h1, Ow.none_ _ _ _, h2⟩
    · rw [segErr_ok h h2, if_pos rfl]
      exact encode_ok s hwf (Sg.good_of h) A n cap d hn (by omega) hb w hd

def knownS : Sg := ⟨167772161, 1, 167772162, 2, 1, 0, 2, 1000, 1460, -1⟩
theorem known_any (w : World) :
    Calls Try.prog 15 #[] w fun e w' => e = .returned (.bool true) ∧ Below w.heap.size w w' := by
  have e0 : segOut knownS [] = [0, 1, 0, 2, 0, 0, 0, 1, 0, 0, 0, 0, 96, 2, 3, 232, 128, 56, 0, 0, 2, 4, 5, 180] := by decide +kernel
  have e1 : segErr knownS 0 = 0 := by decide +kernel
  have he := encode_any knownS (by refine ⟨?_, ?_, ?_, ?_, ?_, ?_, ?_, ?_, ?_, ?_⟩ <;> (first | unfold U32 | unfold I64) <;> decide) none 0 0 [] rfl (by omega) Bs.nil w (Rw.nil _ _ _)
  rw [e0, e1] at he
  clear e0 e1
  simp only [knownS] at he
  go_enter Try.func15, Try.ntmps15
  go_wp2_with fail
  refine he.mono ?_
  rintro e w1 ⟨A, n, c, rfl, hO, hB⟩
  obtain rfl : 24 = n := hO.length
  obtain ⟨g, rfl, hg, c2, f2⟩ := hO.lit_at (k := 12) (by omega)
  obtain ⟨g', eg, _, c3, f3⟩ := hO.lit_at (k := 20) (by omega)
  obtain rfl : g = g' := by injection eg with eg; injection eg with eg
  obtain ⟨g', eg, _, c4, f4⟩ := hO.lit_at (k := 22) (by omega)
  obtain rfl : g = g' := by injection eg with eg; injection eg with eg
  obtain ⟨g', eg, _, c5, f5⟩ := hO.lit_at (k := 23) (by omega)
  obtain rfl : g = g' := by injection eg with eg; injection eg with eg
  simp only [List.getElem?_cons_succ, List.getElem?_cons_zero, Option.getD_some] at c2 c3 c4 c5
  clear eg
  go_wp2
  go_ret
  exact ⟨rfl, hB⟩
end Go.Proofs.Ytifeomdmbjinoaa
