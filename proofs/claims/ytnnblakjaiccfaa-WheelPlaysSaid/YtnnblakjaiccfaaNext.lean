/- Proved: the least tick at which a timer is due: Next of a wheel, by its walk. Conditions: the wheel lies in memory. -/
import Derived.Test.YtnnblakjaiccfaaNil
set_option linter.unusedVariables false
set_option linter.unusedSimpArgs false
namespace Go.Proofs.Ytnnblakjaiccfaa
open Go.RowKit

/-- The least of the ticks that were seen, or the most of all. -/
def Least (b : Int) (D : Mt) : Prop := b ≤ 1099511627776 ∧ (∀ t ∈ D, b ≤ t.2) ∧ (b = 1099511627776 ∨ ∃ t ∈ D, t.2 = b)
theorem Least.nil : Least 1099511627776 [] := ⟨Int.le_refl _, (fun t h => by cases h), .inl rfl⟩
theorem Least.snoc {b : Int} {D : Mt} (h : Least b D) (t : Int × Int) : Least (min b t.2) (D ++ [t]) := by
  obtain ⟨h1, h2, h3⟩ := h
  refine ⟨by omega, fun x hx => ?_, ?_⟩
  · rcases List.mem_append.1 hx with hx | hx
    · have := h2 x hx; omega
    · simp at hx; subst hx; omega
  · rcases (by omega : b ≤ t.2 ∨ t.2 < b) with d | d
    · rw [show min b t.2 = b by omega]
      rcases h3 with h3 | ⟨x, hx, h3⟩
      · exact .inl h3
      · exact .inr ⟨x, List.mem_append.2 (.inl hx), h3⟩
    · rw [show min b t.2 = t.2 by omega]
      exact .inr ⟨t, by simp, rfl⟩
def allL (L : List Sl) : Mt := L.flatMap (·.S)
theorem allL_snoc {L : List Sl} {i : Nat} {s : Sl} (hi : L[i]? = some s) : allL (L.take (i + 1)) = allL (L.take i) ++ s.S := by
  rw [List.take_add_one, hi]
  unfold allL
  simp
def NxRel (w : World) (v4 : Value) (D : Mt) (wr : World) : Prop := ∃ b, v4 = .int .i64 b ∧ Least b D ∧ Below w.heap.size w wr
/-- What Next answers. -/
def NextIs (M : Mt) (n : Int) (is_ : Bool) : Prop := (M = [] ∧ n = 0 ∧ is_ = false) ∨ (M ≠ [] ∧ is_ = true ∧ (∀ t ∈ M, n ≤ t.2) ∧ ∃ t ∈ M, t.2 = n)
set_option maxHeartbeats 2000000 in
set_option maxRecDepth 100000 in
theorem next_any (p : Nat) (L : List Sl) (mv : Option Nat) (M : Mt) (F : Nat → Prop) (w : World) (h : WhAt w F p L mv M) :
    Calls Try.prog 16 #[.pointer (some ⟨p, 0, none⟩)] w fun e w' => ∃ n is_, e = .returned (.tuple #[.int .i64 n, .bool is_]) ∧ NextIs M n is_ ∧ Below w.heap.size w w' := by
  have HH := Lib.hid h
  have HL := Lib.hid (len_any p L mv M F w h)
  have HN0 : Hid (NxRel w (.int .i64 1099511627776) (allL (L.take 0)) w) := Lib.hid ⟨_, rfl, Least.nil, Below.refl _ _⟩
  clear h
  rcases Nat.eq_zero_or_pos M.length with hz | hz
  · have hM : M = [] := List.eq_nil_of_length_eq_zero hz
    subst hM
    go_enter Try.func16, Try.ntmps16
    go_wp2_with fail
    refine HL.out.mono ?_
    rintro e w1 ⟨rfl, rfl⟩
    go_wp2
    go_ret2
    exact ⟨0, false, rfl, .inl ⟨rfl, rfl, rfl⟩, Below.refl _ _⟩
  · have hz' : ((M.length : Int) == 0) = false := by rw [beq_eq_false_iff_ne]; omega
    have hz2 : ¬ M.length = 0 := by omega
    have hMn : M ≠ [] := fun e => by rw [e] at hz; simp at hz
    have HMN := Lib.hid hMn
    clear hMn
    go_enter Try.func16, Try.ntmps16
    go_wp2_with fail
    refine HL.out.mono ?_
    rintro e w1 ⟨rfl, rfl⟩
    go_wp2
    go_loopw [4, 11] (fun v4 v11 wr => ∃ i : Nat, i ≤ 64 ∧ v11 = .int .i64 i ∧ Hid (NxRel w v4 (allL (L.take i)) wr)) (fun _ v11 _ => 64 - (intOf v11).toNat)
    case atStart => exact ⟨0, Nat.zero_le _, rfl, HN0⟩
    case round =>
      obtain ⟨i, hi, rfl, HD⟩ := hrel
      obtain ⟨b, rfl, hb, hB⟩ := HD.out
      rcases Nat.lt_or_ge i 64 with hi64 | hi64
      · have hW := HH.out.below hB
        obtain ⟨s, hs, hsm⟩ := hW.get hi64
        have hci := hW.cell hs
        have hsn : s.n ≤ 256 := hW.row_le hs
        have HTS := Lib.hid ((HH.out.sl s hsm).1)
        have HSI := Lib.hid hs
        have hi64' : (i : Int) < 64 := by omega
        have HIN : Hid (NxRel w (.int .i64 b) (allL (L.take i) ++ s.S.take 0) wr) := Lib.hid ⟨b, rfl, by simpa using hb, hB⟩
        clear hW hsm HD hs hb hB
        go_wp2
        go_loopw [4, 21] (fun v4 v21 wr => ∃ j : Nat, j ≤ s.n ∧ v21 = .int .i64 j ∧ Hid (NxRel w v4 (allL (L.take i) ++ s.S.take j) wr)) (fun _ v21 _ => s.n - (intOf v21).toNat)
        case atStart => exact ⟨0, Nat.zero_le _, rfl, HIN⟩
        case round =>
          obtain ⟨j, hj, rfl, HD⟩ := hrel
          obtain ⟨b, rfl, hb, hB⟩ := HD.out
          rcases Nat.lt_or_ge j s.n with hjn | hjn
          · obtain ⟨t, ht⟩ : ∃ t, s.S[j]? = some t := ⟨_, List.getElem?_eq_getElem (by rw [HTS.out.len]; exact hjn)⟩
            obtain ⟨g, hAs, _, hgl, d0, d1, _, _⟩ := HTS.out.cell ht
            have e0 : wr.cell? ⟨g, j * 2, none⟩ = some (.int .i64 t.1) := (hB.cell (p := ⟨g, j * 2, none⟩) hgl).trans d0
            have e1 : wr.cell? ⟨g, j * 2 + 1, none⟩ = some (.int .i64 t.2) := (hB.cell (p := ⟨g, j * 2 + 1, none⟩) hgl).trans d1
            have hjn' : (j : Int) < s.n := by omega
            have HNX : Hid (NxRel w (.int .i64 (min b t.2)) (allL (L.take i) ++ s.S.take (j + 1)) (wr.alloc (.cells #[.int .i64 t.1, .int .i64 t.2] 54))) := Lib.hid ⟨_, rfl, by
              rw [List.take_add_one, ht, ← List.append_assoc]
              exact hb.snoc t, hB.alloc hB.size _⟩
            have HAS := Lib.hid hAs
            clear d0 d1 hb hB ht
            rw [hAs]
            go_wp2
            go_roundw
            case rel =>
              exact ⟨j + 1, by omega, by go_num, HNX⟩
            case measure => simp [intOf]; omega
          · have HNX : Hid (NxRel w (.int .i64 b) (allL (L.take (i + 1))) wr) := Lib.hid ⟨b, rfl, by
              rw [allL_snoc HSI.out]
              rw [List.take_of_length_le (l := s.S) (by rw [HTS.out.len]; exact hjn)] at hb
              exact hb, hB⟩
            have hjn' : ¬ (j : Int) < s.n := by omega
            clear hb hB
            go_wp2
            go_roundw
            case rel => exact ⟨i + 1, by omega, by go_num, HNX⟩
            case measure => simp [intOf]; omega
      · obtain rfl : i = 64 := by omega
        rw [List.take_of_length_le (by rw [HH.out.len]; exact Nat.le_refl _)] at hb
        have hmem : ∀ t, t ∈ allL L ↔ t ∈ M := fun t => by
          unfold allL
          rw [List.mem_flatMap]
          constructor
          · rintro ⟨s, hs, ht⟩
            obtain ⟨i, hi⟩ := List.getElem?_of_mem hs
            exact (HH.out.ok.inM i s hi t ht).1
          · intro ht
            obtain ⟨s, hs, hts⟩ := HH.out.ok.inL t ht
            exact ⟨s, List.mem_of_getElem? hs, hts⟩
        have HF : Hid (NextIs M b true) := Lib.hid (.inr ⟨HMN.out, rfl, fun t ht => hb.2.1 t ((hmem t).2 ht), by
          rcases hb.2.2 with e | ⟨t, ht, e⟩
          · obtain ⟨t, ht⟩ := List.exists_mem_of_ne_nil M HMN.out
            have h1 := hb.2.1 t ((hmem t).2 ht)
            have h2 := (HH.out.ok.bd t ht).2.2
            exact ⟨t, ht, by omega⟩
          · exact ⟨t, (hmem t).1 ht, e⟩⟩)
        have HB := Lib.hid hB
        clear hb hB hmem HD
        go_wp2
        go_ret2
        exact ⟨b, true, rfl, HF.out, HB.out⟩
theorem next_wh (p B : Nat) (M : Mt) (w : World) (h : Wh w B p M) :
    Calls Try.prog 16 #[.pointer (some ⟨p, 0, none⟩)] w fun e w' => ∃ n is_, e = .returned (.tuple #[.int .i64 n, .bool is_]) ∧ NextIs M n is_ ∧ Wh w' B p M ∧ Below w.heap.size w w' := by
  have h0 := h
  obtain ⟨F, L, mv, h1, h2, h3⟩ := h
  exact (next_any p L mv M F w h1).mono fun e w' ⟨n, is_, q1, q2, q3⟩ => ⟨n, is_, q1, q2, h0.below q3, q3⟩
end Go.Proofs.Ytnnblakjaiccfaa
