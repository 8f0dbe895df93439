/- Proved: pdqsort of a row of up to 16 addresses of which no two are alike, by its walk; slices.Sort of it. Conditions: as said. -/
import Derived.Test.YtocigdkndlmikaaPqb
import Derived.Test.YtocigdkndlmikaaSort1
set_option linter.unusedVariables false
set_option linter.unusedSimpArgs false
namespace Go.Proofs.Ytocigdkndlmikaa
open Go.RowKit

set_option maxHeartbeats 4000000 in
set_option maxRecDepth 1000000 in
theorem pdq_small (base g n c a b : Nat) (lim : Int) (D : List Int) (w : World) (h : SR w base g n c D) (hn : n ≤ 1000) (hab : a ≤ b) (hb : b ≤ n) (h12 : b ≤ a + 12) :
    Calls Try.prog 57 #[.slice (some ⟨g, 0, none⟩) n c, .int .i64 a, .int .i64 b, .int .i64 lim] w (InsPost w base g n c a b D) := by
  have H := Lib.hid h
  clear h
  have h12' : (b : Int) - (a : Int) ≤ 12 := by omega
  go_enter Try.func57, Try.ntmps57
  go_wp2
  go_loopw [1, 2, 3, 8, 9, 10] (fun v1 v2 _ _ _ _ wr => v1 = .int .i64 a ∧ v2 = .int .i64 b ∧ wr = w) (fun _ _ _ _ _ _ _ => 0)
  case atStart => exact ⟨rfl, rfl, rfl⟩
  case round =>
    obtain ⟨rfl, rfl, rfl⟩ := hrel
    go_wp2_with fail
    refine (ins_any base g n c a b D _ H.out hn hab hb).mono ?_
    rintro e w' ⟨rfl, hh⟩
    have HH := Lib.hid hh
    clear hh
    go_wp2
    refine bodyPost_ret (results_none rfl _ _ _) rfl ?_
    exact ⟨rfl, HH.out⟩
def PqRel (w : World) (base g n c : Nat) (D : List Int) (v1 v2 v3 v8 v9 : Value) (wr : World) : Prop :=
  ∃ (a b : Nat) (lim : Int) (p8 p9 : Bool) (E : List Int), v1 = .int .i64 a ∧ v2 = .int .i64 b ∧ v3 = .int .i64 lim ∧ v8 = .bool p8 ∧ v9 = .bool p9 ∧ SRC w base g n c D wr E ∧ Pdq D E a b ∧ (b : Int) - a - 11 ≤ lim ∧ 0 ≤ lim ∧ lim ≤ 64
theorem pq_fin {base g n c a b : Nat} {D E E' : List Int} {w wr w' : World} (hD : D.length = n) (hr : SRC w base g n c D wr E) (hp : Pdq D E a b) (hr' : SRC wr base g n c E w' E') (hl' : Loc a b E E') (hs' : Srt E' a b) : InsPost w base g n c 0 n D (.returned (.tuple #[])) w' := by
  obtain ⟨k1, k2⟩ := (hp.loc hl').done hs'
  have h5 : E'.length = n := hr'.1.len
  refine ⟨rfl, E', hr.trans hr', ⟨by omega, k1, fun k hk => ?_, fun k k1' k2' => ?_⟩, by rw [← h5]; exact k2⟩
  · rcases hk with hk | hk
    · omega
    · unfold gt
      rw [List.getElem?_eq_none (by omega), List.getElem?_eq_none (by omega)]
  · have hm : gt E' k ∈ D := k1.mem_iff.1 (by rw [gt_get (by omega)]; exact List.getElem_mem _)
    obtain ⟨i, hi, he⟩ := List.mem_iff_getElem.1 hm
    exact ⟨i, Nat.zero_le _, by omega, by rw [gt_get hi, he]⟩
set_option maxHeartbeats 4000000 in
set_option maxRecDepth 1000000 in
theorem pdq_any (base g n c : Nat) (lim0 : Int) (D : List Int) (w : World) (h : SR w base g n c D) (hn16 : n ≤ 16) (hnd : D.Nodup) (hlim : (n : Int) - 11 ≤ lim0 ∧ 0 ≤ lim0 ∧ lim0 ≤ 64) :
    Calls Try.prog 57 #[.slice (some ⟨g, 0, none⟩) n c, .int .i64 0, .int .i64 n, .int .i64 lim0] w (InsPost w base g n c 0 n D) := by
  have H := Lib.hid h
  have HN := Lib.hid hnd
  have hln := h.len
  have HLN := Lib.hid hln
  have HLIM := Lib.hid hlim
  have hn : n ≤ 1000 := by omega
  clear h hnd hln hlim
  go_enter Try.func57, Try.ntmps57
  go_wp2
  go_loopw [1, 2, 3, 8, 9, 10] (fun v1 v2 v3 v8 v9 _ wr => PqRel w base g n c D v1 v2 v3 v8 v9 wr) (fun v1 v2 _ _ _ _ _ => (intOf v2).toNat - (intOf v1).toNat)
  case atStart => exact ⟨0, n, lim0, true, true, D, rfl, rfl, rfl, rfl, rfl, SRC.refl H.out, by have := Pdq.start D; rw [HLN.out] at this; exact this, by have := HLIM.out; omega, HLIM.out.2.1, HLIM.out.2.2⟩
  case round =>
    obtain ⟨a, b, lim, p8, p9, E, rfl, rfl, rfl, rfl, rfl, hR, hP, hl1, hl2, hl3⟩ := hrel
    have hab := hP.ab
    have hbn : b ≤ n := by have := hP.bl; have := hR.1.len; omega
    have HE := Lib.hid hR
    have HP := Lib.hid hP
    clear hR hP
    rcases Nat.lt_or_ge (a + 12) b with r | r
    · have r12 : ¬ (b : Int) - (a : Int) ≤ 12 := by omega
      have hlz : (lim == 0) = false := beq_eq_false_iff_ne.2 (by omega)
      have h13 : a + 13 ≤ b := r
      have h16 : b ≤ a + 16 := by omega
      clear r
      cases p8 with
      | false =>
        obtain ⟨l, hl⟩ : ∃ l, b = a + l := ⟨b - a, by omega⟩
        have HBL := Lib.hid hl
        have HLL : Hid ((l = 16 ∧ (if l = 16 then 32 else 16) = 32) ∨ ((l = 13 ∨ l = 14 ∨ l = 15) ∧ (if l = 16 then 32 else 16) = 16)) := Lib.hid (by split <;> omega)
        clear hl
        go_wp2_with fail
        refine (break_any base g n c a b l (if l = 16 then 32 else 16) (l / 4 * 2) E _ HE.out.1 hn HBL.out hbn HLL.out rfl).mono ?_
        rintro e0 w0 ⟨rfl, E1, hr0, hl0⟩
        have HEb := Lib.hid (HE.out.trans hr0)
        have HP1 := Lib.hid (HP.out.loc hl0)
        clear hr0 hl0
        go_wp2_with fail
        refine (pivot_any base g n c a b E1 _ HEb.out.1 hn h13 h16 hbn).mono ?_
        rintro e1 w1 ⟨pv, hint, rfl, hp1, hp2, hh, hbl⟩
        have HE0 := Lib.hid (HEb.out.below hbl)
        have HPV : Hid (a < pv ∧ pv < b) := Lib.hid ⟨hp1, hp2⟩
        have hz2 : (hint == 2) = false := beq_eq_false_iff_ne.2 (by omega)
        clear hbl hp1 hp2 hh HEb
        go_wp2_with fail
        rcases Nat.eq_zero_or_pos a with q | q
        · have ha0 : decide ((a : Int) > 0) = false := decide_eq_false (by omega)
          have t9 : decide (0 < a) = false := decide_eq_false (by omega)
          clear q
          go_wp2_with fail
          go_quiet (fail)
          generalize hWq : World.drewN _ _ = wq
          have HE1 : Hid (SRC w base g n c D wq E1) := Lib.hid (by rw [← hWq]; exact HE0.out.drewN _)
          clear hWq HE0
          go_wp2_with fail
          refine (part_any base g n c a b pv E1 _ HE1.out.1 hn HPV.out.1 HPV.out.2 hbn).mono ?_
          rintro e2 w2 ⟨m, pt, E2, rfl, hm1, hm2, hr2, hl2, hpt⟩
          have HE2 := Lib.hid (HE1.out.trans hr2)
          have HP2 := Lib.hid (HP1.out.loc hl2)
          have HPT := Lib.hid hpt
          have HM : Hid (a ≤ m ∧ m < b) := Lib.hid ⟨hm1, hm2⟩
          clear hr2 hl2 hpt
          rcases Nat.lt_or_ge (m + m) (a + b) with s | s
          · have s1 : (m : Int) - (a : Int) < (b : Int) - (m : Int) := by omega
            clear s
            go_wp2_with fail
            refine (pdq_small base g n c a m _ E2 _ HE2.out.1 hn HM.out.1 (by omega) (by omega)).mono ?_
            rintro e3 w3 ⟨rfl, E3, hr3, hl3, hs3⟩
            have HE3 := Lib.hid (HE2.out.trans hr3)
            have HP3 : Hid (Pdq D E3 (m + 1) b) := Lib.hid ((HP2.out.loc (hl3.mono (Nat.le_refl _) (Nat.le_of_lt HM.out.2))).left (HPT.out.loc_lo hl3 HM.out.2) HM.out.1 HM.out.2 hs3)
            clear hr3 hl3 hs3
            go_wp2_with fail
            go_roundw
            case rel => exact ⟨m + 1, b, lim - 1, _, _, E3, by rw [Int.natCast_succ], rfl, rfl, rfl, rfl, HE3.out, HP3.out, by omega, by omega, by omega⟩
            case measure => simp only [intOf]; omega
          · have s1 : ¬ (m : Int) - (a : Int) < (b : Int) - (m : Int) := by omega
            have hm1 : ((m : Int) + 1) = ((m + 1 : Nat) : Int) := by omega
            have HM1 := Lib.hid hm1
            clear s hm1
            go_wp2_with fail
            rw [HM1.out]
            refine (pdq_small base g n c (m + 1) b _ E2 _ HE2.out.1 hn HM.out.2 (by omega) (by omega)).mono ?_
            rintro e3 w3 ⟨rfl, E3, hr3, hl3, hs3⟩
            have HE3 := Lib.hid (HE2.out.trans hr3)
            have HP3 : Hid (Pdq D E3 a m) := Lib.hid ((HP2.out.loc (hl3.mono (by omega) (Nat.le_refl _))).right (HPT.out.loc_hi hl3 HM.out.1) HM.out.1 HM.out.2 hs3)
            clear hr3 hl3 hs3
            go_wp2_with fail
            go_roundw
            case rel => exact ⟨a, m, lim - 1, _, _, E3, rfl, rfl, rfl, rfl, rfl, HE3.out, HP3.out, by omega, by omega, by omega⟩
            case measure => simp only [intOf]; omega
        · have ha1 : (a : Int) > 0 := by omega
          have t9 : decide (0 < a) = true := decide_eq_true (by omega)
          obtain ⟨x, hx⟩ : ∃ x, gt E1 (a - 1) = x := ⟨_, rfl⟩
          obtain ⟨y, hy⟩ : ∃ y, gt E1 pv = y := ⟨_, rfl⟩
          have hlt : x < y := by rw [← hx, ← hy]; exact HP1.out.below HN.out q (by have := HPV.out; omega) HPV.out.2
          have ci := HE0.out.1.cell (k := a - 1) (by omega)
          have ck := HE0.out.1.cell (k := pv) (by have := HPV.out; omega)
          rw [hx] at ci
          rw [hy] at ck
          have hwj : IntKind.i64.wrap ((a : Int) - 1) = ((a - 1 : Nat) : Int) := by rw [IntWalk.i64_in _ (by omega)]; omega
          have b1 : ((a - 1 : Nat) : Int) < (n : Int) := by omega
          have b2 : (pv : Int) < (n : Int) := by have := HPV.out; omega
          have hl : decide (x < y) = true := decide_eq_true hlt
          clear hlt hx hy
          go_wp2_with fail
          go_quiet ((go_at_call 66; exact Calls.quiet_of_same (less_q x y hl _)))
          generalize hWq : World.drewN _ _ = wq
          have HE1 : Hid (SRC w base g n c D wq E1) := Lib.hid (by rw [← hWq]; exact HE0.out.drewN _)
          clear hWq HE0 ci ck hl b1 b2
          go_wp2_with fail
          refine (part_any base g n c a b pv E1 _ HE1.out.1 hn HPV.out.1 HPV.out.2 hbn).mono ?_
          rintro e2 w2 ⟨m, pt, E2, rfl, hm1, hm2, hr2, hl2, hpt⟩
          have HE2 := Lib.hid (HE1.out.trans hr2)
          have HP2 := Lib.hid (HP1.out.loc hl2)
          have HPT := Lib.hid hpt
          have HM : Hid (a ≤ m ∧ m < b) := Lib.hid ⟨hm1, hm2⟩
          clear hr2 hl2 hpt
          rcases Nat.lt_or_ge (m + m) (a + b) with s | s
          · have s1 : (m : Int) - (a : Int) < (b : Int) - (m : Int) := by omega
            clear s
            go_wp2_with fail
            refine (pdq_small base g n c a m _ E2 _ HE2.out.1 hn HM.out.1 (by omega) (by omega)).mono ?_
            rintro e3 w3 ⟨rfl, E3, hr3, hl3, hs3⟩
            have HE3 := Lib.hid (HE2.out.trans hr3)
            have HP3 : Hid (Pdq D E3 (m + 1) b) := Lib.hid ((HP2.out.loc (hl3.mono (Nat.le_refl _) (Nat.le_of_lt HM.out.2))).left (HPT.out.loc_lo hl3 HM.out.2) HM.out.1 HM.out.2 hs3)
            clear hr3 hl3 hs3
            go_wp2_with fail
            go_roundw
            case rel => exact ⟨m + 1, b, lim - 1, _, _, E3, by rw [Int.natCast_succ], rfl, rfl, rfl, rfl, HE3.out, HP3.out, by omega, by omega, by omega⟩
            case measure => simp only [intOf]; omega
          · have s1 : ¬ (m : Int) - (a : Int) < (b : Int) - (m : Int) := by omega
            have hm1 : ((m : Int) + 1) = ((m + 1 : Nat) : Int) := by omega
            have HM1 := Lib.hid hm1
            clear s hm1
            go_wp2_with fail
            rw [HM1.out]
            refine (pdq_small base g n c (m + 1) b _ E2 _ HE2.out.1 hn HM.out.2 (by omega) (by omega)).mono ?_
            rintro e3 w3 ⟨rfl, E3, hr3, hl3, hs3⟩
            have HE3 := Lib.hid (HE2.out.trans hr3)
            have HP3 : Hid (Pdq D E3 a m) := Lib.hid ((HP2.out.loc (hl3.mono (by omega) (Nat.le_refl _))).right (HPT.out.loc_hi hl3 HM.out.1) HM.out.1 HM.out.2 hs3)
            clear hr3 hl3 hs3
            go_wp2_with fail
            go_roundw
            case rel => exact ⟨a, m, lim - 1, _, _, E3, rfl, rfl, rfl, rfl, rfl, HE3.out, HP3.out, by omega, by omega, by omega⟩
            case measure => simp only [intOf]; omega
      | true =>
        go_wp2_with fail
        refine (pivot_any base g n c a b E _ HE.out.1 hn h13 h16 hbn).mono ?_
        rintro e1 w1 ⟨pv, hint, rfl, hp1, hp2, hh, hbl⟩
        have HE9 := Lib.hid (HE.out.below hbl)
        have HPV : Hid (a < pv ∧ pv < b) := Lib.hid ⟨hp1, hp2⟩
        have hz2 : (hint == 2) = false := beq_eq_false_iff_ne.2 (by omega)
        clear hbl hp1 hp2
        cases p9 with
        | false =>
          obtain ⟨E1, HE0, HP1⟩ : ∃ E1, Hid (SRC w base g n c D w1 E1) ∧ Hid (Pdq D E1 a b) := ⟨E, HE9, HP⟩
          clear HE9 hh
          go_wp2_with fail
          rcases Nat.eq_zero_or_pos a with q | q
          · have ha0 : decide ((a : Int) > 0) = false := decide_eq_false (by omega)
            have t9 : decide (0 < a) = false := decide_eq_false (by omega)
            clear q
            go_wp2_with fail
            go_quiet (fail)
            generalize hWq : World.drewN _ _ = wq
            have HE1 : Hid (SRC w base g n c D wq E1) := Lib.hid (by rw [← hWq]; exact HE0.out.drewN _)
            clear hWq HE0
            go_wp2_with fail
            refine (part_any base g n c a b pv E1 _ HE1.out.1 hn HPV.out.1 HPV.out.2 hbn).mono ?_
            rintro e2 w2 ⟨m, pt, E2, rfl, hm1, hm2, hr2, hl2, hpt⟩
            have HE2 := Lib.hid (HE1.out.trans hr2)
            have HP2 := Lib.hid (HP1.out.loc hl2)
            have HPT := Lib.hid hpt
            have HM : Hid (a ≤ m ∧ m < b) := Lib.hid ⟨hm1, hm2⟩
            clear hr2 hl2 hpt
            rcases Nat.lt_or_ge (m + m) (a + b) with s | s
            · have s1 : (m : Int) - (a : Int) < (b : Int) - (m : Int) := by omega
              clear s
              go_wp2_with fail
              refine (pdq_small base g n c a m _ E2 _ HE2.out.1 hn HM.out.1 (by omega) (by omega)).mono ?_
              rintro e3 w3 ⟨rfl, E3, hr3, hl3, hs3⟩
              have HE3 := Lib.hid (HE2.out.trans hr3)
              have HP3 : Hid (Pdq D E3 (m + 1) b) := Lib.hid ((HP2.out.loc (hl3.mono (Nat.le_refl _) (Nat.le_of_lt HM.out.2))).left (HPT.out.loc_lo hl3 HM.out.2) HM.out.1 HM.out.2 hs3)
              clear hr3 hl3 hs3
              go_wp2_with fail
              go_roundw
              case rel => exact ⟨m + 1, b, lim, _, _, E3, by rw [Int.natCast_succ], rfl, rfl, rfl, rfl, HE3.out, HP3.out, by omega, by omega, by omega⟩
              case measure => simp only [intOf]; omega
            · have s1 : ¬ (m : Int) - (a : Int) < (b : Int) - (m : Int) := by omega
              have hm1 : ((m : Int) + 1) = ((m + 1 : Nat) : Int) := by omega
              have HM1 := Lib.hid hm1
              clear s hm1
              go_wp2_with fail
              rw [HM1.out]
              refine (pdq_small base g n c (m + 1) b _ E2 _ HE2.out.1 hn HM.out.2 (by omega) (by omega)).mono ?_
              rintro e3 w3 ⟨rfl, E3, hr3, hl3, hs3⟩
              have HE3 := Lib.hid (HE2.out.trans hr3)
              have HP3 : Hid (Pdq D E3 a m) := Lib.hid ((HP2.out.loc (hl3.mono (by omega) (Nat.le_refl _))).right (HPT.out.loc_hi hl3 HM.out.1) HM.out.1 HM.out.2 hs3)
              clear hr3 hl3 hs3
              go_wp2_with fail
              go_roundw
              case rel => exact ⟨a, m, lim, _, _, E3, rfl, rfl, rfl, rfl, rfl, HE3.out, HP3.out, by omega, by omega, by omega⟩
              case measure => simp only [intOf]; omega
          · have ha1 : (a : Int) > 0 := by omega
            have t9 : decide (0 < a) = true := decide_eq_true (by omega)
            obtain ⟨x, hx⟩ : ∃ x, gt E1 (a - 1) = x := ⟨_, rfl⟩
            obtain ⟨y, hy⟩ : ∃ y, gt E1 pv = y := ⟨_, rfl⟩
            have hlt : x < y := by rw [← hx, ← hy]; exact HP1.out.below HN.out q (by have := HPV.out; omega) HPV.out.2
            have ci := HE0.out.1.cell (k := a - 1) (by omega)
            have ck := HE0.out.1.cell (k := pv) (by have := HPV.out; omega)
            rw [hx] at ci
            rw [hy] at ck
            have hwj : IntKind.i64.wrap ((a : Int) - 1) = ((a - 1 : Nat) : Int) := by rw [IntWalk.i64_in _ (by omega)]; omega
            have b1 : ((a - 1 : Nat) : Int) < (n : Int) := by omega
            have b2 : (pv : Int) < (n : Int) := by have := HPV.out; omega
            have hl : decide (x < y) = true := decide_eq_true hlt
            clear hlt hx hy
            go_wp2_with fail
            go_quiet ((go_at_call 66; exact Calls.quiet_of_same (less_q x y hl _)))
            generalize hWq : World.drewN _ _ = wq
            have HE1 : Hid (SRC w base g n c D wq E1) := Lib.hid (by rw [← hWq]; exact HE0.out.drewN _)
            clear hWq HE0 ci ck hl b1 b2
            go_wp2_with fail
            refine (part_any base g n c a b pv E1 _ HE1.out.1 hn HPV.out.1 HPV.out.2 hbn).mono ?_
            rintro e2 w2 ⟨m, pt, E2, rfl, hm1, hm2, hr2, hl2, hpt⟩
            have HE2 := Lib.hid (HE1.out.trans hr2)
            have HP2 := Lib.hid (HP1.out.loc hl2)
            have HPT := Lib.hid hpt
            have HM : Hid (a ≤ m ∧ m < b) := Lib.hid ⟨hm1, hm2⟩
            clear hr2 hl2 hpt
            rcases Nat.lt_or_ge (m + m) (a + b) with s | s
            · have s1 : (m : Int) - (a : Int) < (b : Int) - (m : Int) := by omega
              clear s
              go_wp2_with fail
              refine (pdq_small base g n c a m _ E2 _ HE2.out.1 hn HM.out.1 (by omega) (by omega)).mono ?_
              rintro e3 w3 ⟨rfl, E3, hr3, hl3, hs3⟩
              have HE3 := Lib.hid (HE2.out.trans hr3)
              have HP3 : Hid (Pdq D E3 (m + 1) b) := Lib.hid ((HP2.out.loc (hl3.mono (Nat.le_refl _) (Nat.le_of_lt HM.out.2))).left (HPT.out.loc_lo hl3 HM.out.2) HM.out.1 HM.out.2 hs3)
              clear hr3 hl3 hs3
              go_wp2_with fail
              go_roundw
              case rel => exact ⟨m + 1, b, lim, _, _, E3, by rw [Int.natCast_succ], rfl, rfl, rfl, rfl, HE3.out, HP3.out, by omega, by omega, by omega⟩
              case measure => simp only [intOf]; omega
            · have s1 : ¬ (m : Int) - (a : Int) < (b : Int) - (m : Int) := by omega
              have hm1 : ((m : Int) + 1) = ((m + 1 : Nat) : Int) := by omega
              have HM1 := Lib.hid hm1
              clear s hm1
              go_wp2_with fail
              rw [HM1.out]
              refine (pdq_small base g n c (m + 1) b _ E2 _ HE2.out.1 hn HM.out.2 (by omega) (by omega)).mono ?_
              rintro e3 w3 ⟨rfl, E3, hr3, hl3, hs3⟩
              have HE3 := Lib.hid (HE2.out.trans hr3)
              have HP3 : Hid (Pdq D E3 a m) := Lib.hid ((HP2.out.loc (hl3.mono (by omega) (Nat.le_refl _))).right (HPT.out.loc_hi hl3 HM.out.1) HM.out.1 HM.out.2 hs3)
              clear hr3 hl3 hs3
              go_wp2_with fail
              go_roundw
              case rel => exact ⟨a, m, lim, _, _, E3, rfl, rfl, rfl, rfl, rfl, HE3.out, HP3.out, by omega, by omega, by omega⟩
              case measure => simp only [intOf]; omega
        | true =>
          rcases hh with hh | hh
          · have hz1 : (hint == 1) = true := beq_iff_eq.2 hh
            clear hh
            go_wp2_with fail
            refine (partial_any base g n c a b E _ HE9.out.1 hn h13 h16 hbn).mono ?_
            rintro e2 w2 ⟨v, rfl, hv, k, rfl⟩
            cases v with
            | true =>
              have HH := Lib.hid (pq_fin HLN.out (HE9.out.drewN k) HP.out (SRC.refl (HE9.out.1.drewN k)) (Loc.refl a b E) (hv rfl))
              clear hv
              go_wp2
              refine bodyPost_ret (results_none rfl _ _ _) rfl ?_
              exact HH.out
            | false =>
              generalize hWk : World.drewN _ k = wk
              obtain ⟨E1, HE0, HP1⟩ : ∃ E1, Hid (SRC w base g n c D wk E1) ∧ Hid (Pdq D E1 a b) := ⟨E, Lib.hid (by rw [← hWk]; exact HE9.out.drewN k), HP⟩
              clear HE9 hv hWk
              go_wp2_with fail
              rcases Nat.eq_zero_or_pos a with q | q
              · have ha0 : decide ((a : Int) > 0) = false := decide_eq_false (by omega)
                have t9 : decide (0 < a) = false := decide_eq_false (by omega)
                clear q
                go_wp2_with fail
                go_quiet (fail)
                generalize hWq : World.drewN _ _ = wq
                have HE1 : Hid (SRC w base g n c D wq E1) := Lib.hid (by rw [← hWq]; exact HE0.out.drewN _)
                clear hWq HE0
                go_wp2_with fail
                refine (part_any base g n c a b pv E1 _ HE1.out.1 hn HPV.out.1 HPV.out.2 hbn).mono ?_
                rintro e2 w2 ⟨m, pt, E2, rfl, hm1, hm2, hr2, hl2, hpt⟩
                have HE2 := Lib.hid (HE1.out.trans hr2)
                have HP2 := Lib.hid (HP1.out.loc hl2)
                have HPT := Lib.hid hpt
                have HM : Hid (a ≤ m ∧ m < b) := Lib.hid ⟨hm1, hm2⟩
                clear hr2 hl2 hpt
                rcases Nat.lt_or_ge (m + m) (a + b) with s | s
                · have s1 : (m : Int) - (a : Int) < (b : Int) - (m : Int) := by omega
                  clear s
                  go_wp2_with fail
                  refine (pdq_small base g n c a m _ E2 _ HE2.out.1 hn HM.out.1 (by omega) (by omega)).mono ?_
                  rintro e3 w3 ⟨rfl, E3, hr3, hl3, hs3⟩
                  have HE3 := Lib.hid (HE2.out.trans hr3)
                  have HP3 : Hid (Pdq D E3 (m + 1) b) := Lib.hid ((HP2.out.loc (hl3.mono (Nat.le_refl _) (Nat.le_of_lt HM.out.2))).left (HPT.out.loc_lo hl3 HM.out.2) HM.out.1 HM.out.2 hs3)
                  clear hr3 hl3 hs3
                  go_wp2_with fail
                  go_roundw
                  case rel => exact ⟨m + 1, b, lim, _, _, E3, by rw [Int.natCast_succ], rfl, rfl, rfl, rfl, HE3.out, HP3.out, by omega, by omega, by omega⟩
                  case measure => simp only [intOf]; omega
                · have s1 : ¬ (m : Int) - (a : Int) < (b : Int) - (m : Int) := by omega
                  have hm1 : ((m : Int) + 1) = ((m + 1 : Nat) : Int) := by omega
                  have HM1 := Lib.hid hm1
                  clear s hm1
                  go_wp2_with fail
                  rw [HM1.out]
                  refine (pdq_small base g n c (m + 1) b _ E2 _ HE2.out.1 hn HM.out.2 (by omega) (by omega)).mono ?_
                  rintro e3 w3 ⟨rfl, E3, hr3, hl3, hs3⟩
                  have HE3 := Lib.hid (HE2.out.trans hr3)
                  have HP3 : Hid (Pdq D E3 a m) := Lib.hid ((HP2.out.loc (hl3.mono (by omega) (Nat.le_refl _))).right (HPT.out.loc_hi hl3 HM.out.1) HM.out.1 HM.out.2 hs3)
                  clear hr3 hl3 hs3
                  go_wp2_with fail
                  go_roundw
                  case rel => exact ⟨a, m, lim, _, _, E3, rfl, rfl, rfl, rfl, rfl, HE3.out, HP3.out, by omega, by omega, by omega⟩
                  case measure => simp only [intOf]; omega
              · have ha1 : (a : Int) > 0 := by omega
                have t9 : decide (0 < a) = true := decide_eq_true (by omega)
                obtain ⟨x, hx⟩ : ∃ x, gt E1 (a - 1) = x := ⟨_, rfl⟩
                obtain ⟨y, hy⟩ : ∃ y, gt E1 pv = y := ⟨_, rfl⟩
                have hlt : x < y := by rw [← hx, ← hy]; exact HP1.out.below HN.out q (by have := HPV.out; omega) HPV.out.2
                have ci := HE0.out.1.cell (k := a - 1) (by omega)
                have ck := HE0.out.1.cell (k := pv) (by have := HPV.out; omega)
                rw [hx] at ci
                rw [hy] at ck
                have hwj : IntKind.i64.wrap ((a : Int) - 1) = ((a - 1 : Nat) : Int) := by rw [IntWalk.i64_in _ (by omega)]; omega
                have b1 : ((a - 1 : Nat) : Int) < (n : Int) := by omega
                have b2 : (pv : Int) < (n : Int) := by have := HPV.out; omega
                have hl : decide (x < y) = true := decide_eq_true hlt
                clear hlt hx hy
                go_wp2_with fail
                go_quiet ((go_at_call 66; exact Calls.quiet_of_same (less_q x y hl _)))
                generalize hWq : World.drewN _ _ = wq
                have HE1 : Hid (SRC w base g n c D wq E1) := Lib.hid (by rw [← hWq]; exact HE0.out.drewN _)
                clear hWq HE0 ci ck hl b1 b2
                go_wp2_with fail
                refine (part_any base g n c a b pv E1 _ HE1.out.1 hn HPV.out.1 HPV.out.2 hbn).mono ?_
                rintro e2 w2 ⟨m, pt, E2, rfl, hm1, hm2, hr2, hl2, hpt⟩
                have HE2 := Lib.hid (HE1.out.trans hr2)
                have HP2 := Lib.hid (HP1.out.loc hl2)
                have HPT := Lib.hid hpt
                have HM : Hid (a ≤ m ∧ m < b) := Lib.hid ⟨hm1, hm2⟩
                clear hr2 hl2 hpt
                rcases Nat.lt_or_ge (m + m) (a + b) with s | s
                · have s1 : (m : Int) - (a : Int) < (b : Int) - (m : Int) := by omega
                  clear s
                  go_wp2_with fail
                  refine (pdq_small base g n c a m _ E2 _ HE2.out.1 hn HM.out.1 (by omega) (by omega)).mono ?_
                  rintro e3 w3 ⟨rfl, E3, hr3, hl3, hs3⟩
                  have HE3 := Lib.hid (HE2.out.trans hr3)
                  have HP3 : Hid (Pdq D E3 (m + 1) b) := Lib.hid ((HP2.out.loc (hl3.mono (Nat.le_refl _) (Nat.le_of_lt HM.out.2))).left (HPT.out.loc_lo hl3 HM.out.2) HM.out.1 HM.out.2 hs3)
                  clear hr3 hl3 hs3
                  go_wp2_with fail
                  go_roundw
                  case rel => exact ⟨m + 1, b, lim, _, _, E3, by rw [Int.natCast_succ], rfl, rfl, rfl, rfl, HE3.out, HP3.out, by omega, by omega, by omega⟩
                  case measure => simp only [intOf]; omega
                · have s1 : ¬ (m : Int) - (a : Int) < (b : Int) - (m : Int) := by omega
                  have hm1 : ((m : Int) + 1) = ((m + 1 : Nat) : Int) := by omega
                  have HM1 := Lib.hid hm1
                  clear s hm1
                  go_wp2_with fail
                  rw [HM1.out]
                  refine (pdq_small base g n c (m + 1) b _ E2 _ HE2.out.1 hn HM.out.2 (by omega) (by omega)).mono ?_
                  rintro e3 w3 ⟨rfl, E3, hr3, hl3, hs3⟩
                  have HE3 := Lib.hid (HE2.out.trans hr3)
                  have HP3 : Hid (Pdq D E3 a m) := Lib.hid ((HP2.out.loc (hl3.mono (by omega) (Nat.le_refl _))).right (HPT.out.loc_hi hl3 HM.out.1) HM.out.1 HM.out.2 hs3)
                  clear hr3 hl3 hs3
                  go_wp2_with fail
                  go_roundw
                  case rel => exact ⟨a, m, lim, _, _, E3, rfl, rfl, rfl, rfl, rfl, HE3.out, HP3.out, by omega, by omega, by omega⟩
                  case measure => simp only [intOf]; omega
          · have hz1 : (hint == 1) = false := beq_eq_false_iff_ne.2 (by omega)
            clear hh
            obtain ⟨E1, HE0, HP1⟩ : ∃ E1, Hid (SRC w base g n c D w1 E1) ∧ Hid (Pdq D E1 a b) := ⟨E, HE9, HP⟩
            clear HE9
            go_wp2_with fail
            rcases Nat.eq_zero_or_pos a with q | q
            · have ha0 : decide ((a : Int) > 0) = false := decide_eq_false (by omega)
              have t9 : decide (0 < a) = false := decide_eq_false (by omega)
              clear q
              go_wp2_with fail
              go_quiet (fail)
              generalize hWq : World.drewN _ _ = wq
              have HE1 : Hid (SRC w base g n c D wq E1) := Lib.hid (by rw [← hWq]; exact HE0.out.drewN _)
              clear hWq HE0
              go_wp2_with fail
              refine (part_any base g n c a b pv E1 _ HE1.out.1 hn HPV.out.1 HPV.out.2 hbn).mono ?_
              rintro e2 w2 ⟨m, pt, E2, rfl, hm1, hm2, hr2, hl2, hpt⟩
              have HE2 := Lib.hid (HE1.out.trans hr2)
              have HP2 := Lib.hid (HP1.out.loc hl2)
              have HPT := Lib.hid hpt
              have HM : Hid (a ≤ m ∧ m < b) := Lib.hid ⟨hm1, hm2⟩
              clear hr2 hl2 hpt
              rcases Nat.lt_or_ge (m + m) (a + b) with s | s
              · have s1 : (m : Int) - (a : Int) < (b : Int) - (m : Int) := by omega
                clear s
                go_wp2_with fail
                refine (pdq_small base g n c a m _ E2 _ HE2.out.1 hn HM.out.1 (by omega) (by omega)).mono ?_
                rintro e3 w3 ⟨rfl, E3, hr3, hl3, hs3⟩
                have HE3 := Lib.hid (HE2.out.trans hr3)
                have HP3 : Hid (Pdq D E3 (m + 1) b) := Lib.hid ((HP2.out.loc (hl3.mono (Nat.le_refl _) (Nat.le_of_lt HM.out.2))).left (HPT.out.loc_lo hl3 HM.out.2) HM.out.1 HM.out.2 hs3)
                clear hr3 hl3 hs3
                go_wp2_with fail
                go_roundw
                case rel => exact ⟨m + 1, b, lim, _, _, E3, by rw [Int.natCast_succ], rfl, rfl, rfl, rfl, HE3.out, HP3.out, by omega, by omega, by omega⟩
                case measure => simp only [intOf]; omega
              · have s1 : ¬ (m : Int) - (a : Int) < (b : Int) - (m : Int) := by omega
                have hm1 : ((m : Int) + 1) = ((m + 1 : Nat) : Int) := by omega
                have HM1 := Lib.hid hm1
                clear s hm1
                go_wp2_with fail
                rw [HM1.out]
                refine (pdq_small base g n c (m + 1) b _ E2 _ HE2.out.1 hn HM.out.2 (by omega) (by omega)).mono ?_
                rintro e3 w3 ⟨rfl, E3, hr3, hl3, hs3⟩
                have HE3 := Lib.hid (HE2.out.trans hr3)
                have HP3 : Hid (Pdq D E3 a m) := Lib.hid ((HP2.out.loc (hl3.mono (by omega) (Nat.le_refl _))).right (HPT.out.loc_hi hl3 HM.out.1) HM.out.1 HM.out.2 hs3)
                clear hr3 hl3 hs3
                go_wp2_with fail
                go_roundw
                case rel => exact ⟨a, m, lim, _, _, E3, rfl, rfl, rfl, rfl, rfl, HE3.out, HP3.out, by omega, by omega, by omega⟩
                case measure => simp only [intOf]; omega
            · have ha1 : (a : Int) > 0 := by omega
              have t9 : decide (0 < a) = true := decide_eq_true (by omega)
              obtain ⟨x, hx⟩ : ∃ x, gt E1 (a - 1) = x := ⟨_, rfl⟩
              obtain ⟨y, hy⟩ : ∃ y, gt E1 pv = y := ⟨_, rfl⟩
              have hlt : x < y := by rw [← hx, ← hy]; exact HP1.out.below HN.out q (by have := HPV.out; omega) HPV.out.2
              have ci := HE0.out.1.cell (k := a - 1) (by omega)
              have ck := HE0.out.1.cell (k := pv) (by have := HPV.out; omega)
              rw [hx] at ci
              rw [hy] at ck
              have hwj : IntKind.i64.wrap ((a : Int) - 1) = ((a - 1 : Nat) : Int) := by rw [IntWalk.i64_in _ (by omega)]; omega
              have b1 : ((a - 1 : Nat) : Int) < (n : Int) := by omega
              have b2 : (pv : Int) < (n : Int) := by have := HPV.out; omega
              have hl : decide (x < y) = true := decide_eq_true hlt
              clear hlt hx hy
              go_wp2_with fail
              go_quiet ((go_at_call 66; exact Calls.quiet_of_same (less_q x y hl _)))
              generalize hWq : World.drewN _ _ = wq
              have HE1 : Hid (SRC w base g n c D wq E1) := Lib.hid (by rw [← hWq]; exact HE0.out.drewN _)
              clear hWq HE0 ci ck hl b1 b2
              go_wp2_with fail
              refine (part_any base g n c a b pv E1 _ HE1.out.1 hn HPV.out.1 HPV.out.2 hbn).mono ?_
              rintro e2 w2 ⟨m, pt, E2, rfl, hm1, hm2, hr2, hl2, hpt⟩
              have HE2 := Lib.hid (HE1.out.trans hr2)
              have HP2 := Lib.hid (HP1.out.loc hl2)
              have HPT := Lib.hid hpt
              have HM : Hid (a ≤ m ∧ m < b) := Lib.hid ⟨hm1, hm2⟩
              clear hr2 hl2 hpt
              rcases Nat.lt_or_ge (m + m) (a + b) with s | s
              · have s1 : (m : Int) - (a : Int) < (b : Int) - (m : Int) := by omega
                clear s
                go_wp2_with fail
                refine (pdq_small base g n c a m _ E2 _ HE2.out.1 hn HM.out.1 (by omega) (by omega)).mono ?_
                rintro e3 w3 ⟨rfl, E3, hr3, hl3, hs3⟩
                have HE3 := Lib.hid (HE2.out.trans hr3)
                have HP3 : Hid (Pdq D E3 (m + 1) b) := Lib.hid ((HP2.out.loc (hl3.mono (Nat.le_refl _) (Nat.le_of_lt HM.out.2))).left (HPT.out.loc_lo hl3 HM.out.2) HM.out.1 HM.out.2 hs3)
                clear hr3 hl3 hs3
                go_wp2_with fail
                go_roundw
                case rel => exact ⟨m + 1, b, lim, _, _, E3, by rw [Int.natCast_succ], rfl, rfl, rfl, rfl, HE3.out, HP3.out, by omega, by omega, by omega⟩
                case measure => simp only [intOf]; omega
              · have s1 : ¬ (m : Int) - (a : Int) < (b : Int) - (m : Int) := by omega
                have hm1 : ((m : Int) + 1) = ((m + 1 : Nat) : Int) := by omega
                have HM1 := Lib.hid hm1
                clear s hm1
                go_wp2_with fail
                rw [HM1.out]
                refine (pdq_small base g n c (m + 1) b _ E2 _ HE2.out.1 hn HM.out.2 (by omega) (by omega)).mono ?_
                rintro e3 w3 ⟨rfl, E3, hr3, hl3, hs3⟩
                have HE3 := Lib.hid (HE2.out.trans hr3)
                have HP3 : Hid (Pdq D E3 a m) := Lib.hid ((HP2.out.loc (hl3.mono (by omega) (Nat.le_refl _))).right (HPT.out.loc_hi hl3 HM.out.1) HM.out.1 HM.out.2 hs3)
                clear hr3 hl3 hs3
                go_wp2_with fail
                go_roundw
                case rel => exact ⟨a, m, lim, _, _, E3, rfl, rfl, rfl, rfl, rfl, HE3.out, HP3.out, by omega, by omega, by omega⟩
                case measure => simp only [intOf]; omega
    · have r12 : (b : Int) - (a : Int) ≤ 12 := by omega
      clear r
      go_wp2_with fail
      refine (ins_any base g n c a b E _ HE.out.1 hn hab hbn).mono ?_
      rintro e w' ⟨rfl, E', hr', hl', hs'⟩
      have HH := Lib.hid (pq_fin HLN.out HE.out HP.out hr' hl' hs')
      clear hr' hl' hs'
      go_wp2
      refine bodyPost_ret (results_none rfl _ _ _) rfl ?_
      exact HH.out
set_option maxRecDepth 100000 in
theorem len_tab (n k : Nat) (hl : (n = 0 ∧ k = 0) ∨ (n = 1 ∧ k = 1) ∨ (n = 2 ∧ k = 2) ∨ (n = 3 ∧ k = 2) ∨ (n = 4 ∧ k = 3) ∨ (n = 5 ∧ k = 3) ∨ (n = 6 ∧ k = 3) ∨ (n = 7 ∧ k = 3) ∨ (n = 8 ∧ k = 4) ∨ (n = 9 ∧ k = 4) ∨ (n = 10 ∧ k = 4) ∨ (n = 11 ∧ k = 4) ∨ (n = 12 ∧ k = 4) ∨ (n = 13 ∧ k = 4) ∨ (n = 14 ∧ k = 4) ∨ (n = 15 ∧ k = 4) ∨ (n = 16 ∧ k = 5)) (w : World) : Calls Try.prog 58 #[.int .u64 n] w fun e w' => e = .returned (.int .i64 k) ∧ w = w' := by
  have h64 : Calls Try.prog 70 #[.int .u64 n] w fun e w' => e = .returned (.int .i64 k) ∧ w = w' := by
    rcases hl with ⟨rfl, rfl⟩ | ⟨rfl, rfl⟩ | ⟨rfl, rfl⟩ | ⟨rfl, rfl⟩ | ⟨rfl, rfl⟩ | ⟨rfl, rfl⟩ | ⟨rfl, rfl⟩ | ⟨rfl, rfl⟩ | ⟨rfl, rfl⟩ | ⟨rfl, rfl⟩ | ⟨rfl, rfl⟩ | ⟨rfl, rfl⟩ | ⟨rfl, rfl⟩ | ⟨rfl, rfl⟩ | ⟨rfl, rfl⟩ | ⟨rfl, rfl⟩ | ⟨rfl, rfl⟩
    all_goals
      go_enter Try.func70, Try.ntmps70
      go_wp2
      go_ret
      exact ⟨by kernel_rfl, rfl⟩
  have H64 := Lib.hid h64
  clear h64 hl
  go_enter Try.func58, Try.ntmps58
  go_wp2_with fail
  refine H64.out.mono ?_
  rintro e w' ⟨rfl, rfl⟩
  go_wp2
  go_ret
  exact ⟨rfl, rfl⟩
theorem len_ok (n : Nat) (hn : n ≤ 16) (w : World) : Calls Try.prog 58 #[.int .u64 n] w fun e w' => (∃ k : Nat, e = .returned (.int .i64 k) ∧ n ≤ k + 11 ∧ k ≤ 64) ∧ w = w' := by
  obtain ⟨k, hk, h1, h2⟩ : ∃ k, ((n = 0 ∧ k = 0) ∨ (n = 1 ∧ k = 1) ∨ (n = 2 ∧ k = 2) ∨ (n = 3 ∧ k = 2) ∨ (n = 4 ∧ k = 3) ∨ (n = 5 ∧ k = 3) ∨ (n = 6 ∧ k = 3) ∨ (n = 7 ∧ k = 3) ∨ (n = 8 ∧ k = 4) ∨ (n = 9 ∧ k = 4) ∨ (n = 10 ∧ k = 4) ∨ (n = 11 ∧ k = 4) ∨ (n = 12 ∧ k = 4) ∨ (n = 13 ∧ k = 4) ∨ (n = 14 ∧ k = 4) ∨ (n = 15 ∧ k = 4) ∨ (n = 16 ∧ k = 5)) ∧ n ≤ k + 11 ∧ k ≤ 64 := by
    rcases (by omega : n = 0 ∨ n = 1 ∨ n = 2 ∨ n = 3 ∨ n = 4 ∨ n = 5 ∨ n = 6 ∨ n = 7 ∨ n = 8 ∨ n = 9 ∨ n = 10 ∨ n = 11 ∨ n = 12 ∨ n = 13 ∨ n = 14 ∨ n = 15 ∨ n = 16) with rfl | rfl | rfl | rfl | rfl | rfl | rfl | rfl | rfl | rfl | rfl | rfl | rfl | rfl | rfl | rfl | rfl
    · exact ⟨0, .inl ⟨rfl, rfl⟩, by omega, by omega⟩
    · exact ⟨1, .inr (.inl ⟨rfl, rfl⟩), by omega, by omega⟩
    · exact ⟨2, .inr (.inr (.inl ⟨rfl, rfl⟩)), by omega, by omega⟩
    · exact ⟨2, .inr (.inr (.inr (.inl ⟨rfl, rfl⟩))), by omega, by omega⟩
    · exact ⟨3, .inr (.inr (.inr (.inr (.inl ⟨rfl, rfl⟩)))), by omega, by omega⟩
    · exact ⟨3, .inr (.inr (.inr (.inr (.inr (.inl ⟨rfl, rfl⟩))))), by omega, by omega⟩
    · exact ⟨3, .inr (.inr (.inr (.inr (.inr (.inr (.inl ⟨rfl, rfl⟩)))))), by omega, by omega⟩
    · exact ⟨3, .inr (.inr (.inr (.inr (.inr (.inr (.inr (.inl ⟨rfl, rfl⟩))))))), by omega, by omega⟩
    · exact ⟨4, .inr (.inr (.inr (.inr (.inr (.inr (.inr (.inr (.inl ⟨rfl, rfl⟩)))))))), by omega, by omega⟩
    · exact ⟨4, .inr (.inr (.inr (.inr (.inr (.inr (.inr (.inr (.inr (.inl ⟨rfl, rfl⟩))))))))), by omega, by omega⟩
    · exact ⟨4, .inr (.inr (.inr (.inr (.inr (.inr (.inr (.inr (.inr (.inr (.inl ⟨rfl, rfl⟩)))))))))), by omega, by omega⟩
    · exact ⟨4, .inr (.inr (.inr (.inr (.inr (.inr (.inr (.inr (.inr (.inr (.inr (.inl ⟨rfl, rfl⟩))))))))))), by omega, by omega⟩
    · exact ⟨4, .inr (.inr (.inr (.inr (.inr (.inr (.inr (.inr (.inr (.inr (.inr (.inr (.inl ⟨rfl, rfl⟩)))))))))))), by omega, by omega⟩
    · exact ⟨4, .inr (.inr (.inr (.inr (.inr (.inr (.inr (.inr (.inr (.inr (.inr (.inr (.inr (.inl ⟨rfl, rfl⟩))))))))))))), by omega, by omega⟩
    · exact ⟨4, .inr (.inr (.inr (.inr (.inr (.inr (.inr (.inr (.inr (.inr (.inr (.inr (.inr (.inr (.inl ⟨rfl, rfl⟩)))))))))))))), by omega, by omega⟩
    · exact ⟨4, .inr (.inr (.inr (.inr (.inr (.inr (.inr (.inr (.inr (.inr (.inr (.inr (.inr (.inr (.inr (.inl ⟨rfl, rfl⟩))))))))))))))), by omega, by omega⟩
    · exact ⟨5, .inr (.inr (.inr (.inr (.inr (.inr (.inr (.inr (.inr (.inr (.inr (.inr (.inr (.inr (.inr (.inr (⟨rfl, rfl⟩)))))))))))))))), by omega, by omega⟩
  exact (len_tab n k hk w).mono fun e w' h => ⟨⟨k, h.1, h1, h2⟩, h.2⟩
set_option maxRecDepth 100000 in
/-- Rows of up to 16 of which no two are alike are sorted. -/
theorem sort16 (A : Option Addr) (n c base : Nat) (l : List Int) (w : World) (hn : n ≤ 16) (hoa : OA w base A n c l) (hb : base ≤ w.heap.size) (hok : ∀ x ∈ l, okA x) (hnd : l.Nodup) :
    Calls Try.prog 48 #[.slice A n c] w (SortPost base A n c l w) := by
  rcases Nat.lt_or_ge 1 n with h1 | h1
  · have hw : IntKind.u64.wrap (n : Int) = n := by rw [IntKind.wrap_u64]; omega
    obtain ⟨g, rfl⟩ : ∃ g, A = some ⟨g, 0, none⟩ := by
      rcases Ow.cases_ hoa with ⟨_, rfl, _⟩ | ⟨g, _, rfl, _⟩
      · omega
      · exact ⟨g, rfl⟩
    have HO : Hid (SR w base g n c l) := Lib.hid hoa
    have HN := Lib.hid hnd
    clear hoa hok hnd
    go_enter Try.func48, Try.ntmps48
    go_wp2_with fail
    refine (len_ok n hn _).mono ?_
    rintro e w' ⟨⟨k, rfl, hk1, hk2⟩, rfl⟩
    go_wp2_with fail
    refine (pdq_any base g n c k l _ HO.out hn HN.out ⟨by omega, by omega, by omega⟩).mono ?_
    rintro e w' ⟨rfl, D', hr, hl, hs⟩
    have HH : Hid (SortPost base (some ⟨g, 0, none⟩) n c l w (.returned (.tuple #[])) w') := Lib.hid ⟨rfl, D', hl.perm, srt_pairwise (by rw [hr.1.len]; exact hs), hr.1, hr.2⟩
    clear hr hl hs
    go_wp2
    go_end0
    exact HH.out
  · exact sort1 A n c base l w h1 hoa hb hok hnd
theorem sorts16 : SortsTo 16 := fun A n c base l w hn hoa hb hok hnd => sort16 A n c base l w hn hoa hb hok hnd
end Go.Proofs.Ytocigdkndlmikaa
