/- Proved: the plain laws of a segment that was written: its sum, its header, its options, read again. Conditions: as each says. -/
import Derived.Test.YtifeomdmbjinoaaSegDA
set_option linter.unusedVariables false
set_option linter.unusedSimpArgs false
namespace Go.Proofs.Ytifeomdmbjinoaa
open Go.RowKit
theorem wsum_segB (s : Sg) (h x : Int) (h0 : 0 ≤ x) (h1 : x ≤ 65535) (o d : List Int) (p : List Int) (hp : p.length % 2 = 0) : wsum (p ++ segB s h x o d) = wsum (p ++ segB s h 0 o d) + x := by
  rw [segB_lay, segB_lay, wsum_append _ _ hp, wsum_append _ _ hp, wsum_append _ (o ++ d) (by simp), wsum_append _ (o ++ d) (by simp)]
  simp only [wsum]
  omega
theorem segAll_sum (s : Sg) (d : List Int) (hd : Bs d) : partC (pseu s.fr s.to (segAll s d).length ++ segAll s d) = 65535 := by
  have hb0 : Bs (pseu s.fr s.to (segB s (segHd s) 0 (optB s.mss s.sc) d).length ++ segB s (segHd s) 0 (optB s.mss s.sc) d) := (pseu_bs _ _ _).append (segB_bs _ _ _ (optB_bs _ _) hd)
  have hx := segSum_bd s.fr s.to (segB_bs s (segHd s) 0 (optB_bs s.mss s.sc) hd)
  have hw := wsum_bd _ hb0
  have hl : (segAll s d).length = (segB s (segHd s) 0 (optB s.mss s.sc) d).length := by unfold segAll; rw [segB_len, segB_len]
  rw [hl]
  unfold segAll
  unfold partC
  rw [wsum_segB _ _ _ hx.1 hx.2 _ _ _ (by rw [pseu_len])]
  unfold segSum partC
  exact foldC_zero _ hw.1
theorem segAll_segSum (s : Sg) (d : List Int) (hd : Bs d) : segSum s.fr s.to (segAll s d) = 0 := by
  unfold segSum
  rw [segAll_sum s d hd]
  rfl
theorem parse_opt (m k : Int) (hm : 0 ≤ m ∧ m ≤ 65535) (hk : -1 ≤ k ∧ k ≤ 14) : parse (optB m k) 0 0 (-1) = some (m, k) := by
  unfold optB mssB scB
  have hm2 : m / 256 % 256 * 256 + m % 256 = m := by omega
  by_cases h1 : m = 0
  · by_cases h2 : k = -1
    · rw [if_pos h1, if_pos h2, h1, h2]
      exact parse_end (by simp)
    · rw [if_pos h1, if_neg h2, List.nil_append, h1]
      simp only [be]
      rw [parse_one (by simp) rfl, parse_three (by simp) rfl rfl (by simp), parse_end (by simp)]
      simp [at8]
      omega
  · by_cases h2 : k = -1
    · rw [if_neg h1, if_pos h2, List.append_nil, h2]
      simp only [be]
      rw [parse_two (by simp) rfl rfl (by simp), parse_end (by simp)]
      simp [rd2, at8]
      omega
    · rw [if_neg h1, if_neg h2]
      simp only [be, List.cons_append, List.nil_append]
      rw [parse_two (by simp) rfl rfl (by simp), parse_one (by simp) rfl, parse_three (by simp) rfl rfl (by simp), parse_end (by simp)]
      simp [rd2, at8]
      omega
theorem segAll_hd (s : Sg) (d : List Int) : hdN (segAll s d) = 20 + (optB s.mss s.sc).length := by
  have h := optB_len4 s.mss s.sc
  have hh : 0 ≤ segHd s ∧ segHd s ≤ 255 := by unfold segHd; omega
  unfold hdN segAll
  rw [segB_12 _ _ _ _ _ hh]
  unfold segHd
  omega
theorem segAll_opts (s : Sg) (d : List Int) : optsOf (segAll s d) = optB s.mss s.sc := by
  unfold optsOf
  rw [segAll_hd]
  unfold segAll
  rw [segB_drop20, show 20 + (optB s.mss s.sc).length - 20 = (optB s.mss s.sc).length from by omega, List.take_left]
theorem segAll_dErr (s : Sg) (hg : s.good) (d : List Int) (hd : Bs d) (hl : 20 + (optB s.mss s.sc).length + d.length ≤ 65515) : dErr s.fr s.to (segAll s d) = 0 := by
  unfold dErr
  rw [segAll_len, segAll_hd, segAll_segSum s d hd, segAll_opts, parse_opt _ _ hg.mss hg.sc, if_neg (by omega), if_neg (by omega), if_neg (by omega), if_neg (by omega), if_neg (by simp), if_neg (by simp)]
theorem segAll_dec (s : Sg) (hwf : s.wf) (hg : s.good) (d : List Int) (hd : Bs d) (hl : 20 + (optB s.mss s.sc).length + d.length ≤ 65515) : decOf s.fr s.to (segAll s d) = s ∧ decD s.fr s.to (segAll s d) = d := by
  have h0 := segAll_dErr s hg d hd hl
  have hp : optMK (segAll s d) = (s.mss, s.sc) := by unfold optMK; rw [segAll_opts, parse_opt _ _ hg.mss hg.sc]; rfl
  refine ⟨?_, ?_⟩
  · unfold decOf
    rw [if_pos h0, hp]
    unfold decS segAll
    rw [segB_0 _ _ _ _ _ hg.fp, segB_2 _ _ _ _ _ hg.tp, segB_4 _ _ _ _ _ hwf.2.2.2.2.1, segB_8 _ _ _ _ _ hwf.2.2.2.2.2.1, segB_13 _ _ _ _ _ hg.fl, segB_14 _ _ _ _ _ hg.win]
    have := hg.fl
    rw [show s.fl % 64 = s.fl from by omega]
  · unfold decD
    rw [if_pos h0, segAll_hd]
    exact segB_drop _ _ _ _ _ _ rfl
end Go.Proofs.Ytifeomdmbjinoaa
