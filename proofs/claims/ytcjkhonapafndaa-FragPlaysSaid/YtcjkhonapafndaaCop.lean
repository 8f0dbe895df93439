/- Proved: the options that are copied, by frag.copied and by the reference's, each by its walk. Conditions: the options are well made and lie in memory. -/
import Derived.Test.YtcjkhonapafndaaOwn
set_option linter.unusedVariables false
set_option linter.unusedSimpArgs false
namespace Go.Proofs.Ytcjkhonapafndaa
open Go.RowKit

theorem RB.from_ {w : World} {B b off : Nat} {l : List Int} (h : RB w B (some ⟨b, off, none⟩) l) (k : Nat) : RB w B (some ⟨b, off + k, none⟩) (l.drop k) := by
  have := Rw.drop h (k := k) (A' := some ⟨b, off + k, none⟩) (fun _ => by rw [Option.map_some, add_eq])
  unfold RB by8
  rw [List.map_drop]; exact this
/-- How long an option is. -/
def optN (l : List Int) (i : Nat) : Nat := if b8 l i = 1 then 1 else (b8 l (i + 1)).toNat
/-- The options from a place on that are copied. -/
def copF : Nat → List Int → Nat → List Int
  | 0, _, _ => []
  | k + 1, l, i => if i < l.length ∧ b8 l i ≠ 0 then (if 128 ≤ b8 l i then (l.drop i).take (optN l i) else []) ++ copF k l (i + optN l i) else []
def copO (l : List Int) : List Int := copF (l.length + 1) l 0
theorem copF_end {k : Nat} {l : List Int} {i : Nat} (h : ¬ (i < l.length ∧ b8 l i ≠ 0)) : copF k l i = [] := by
  cases k with
  | zero => rfl
  | succ k => rw [copF, if_neg h]
theorem copF_one {k : Nat} {l : List Int} {i : Nat} (h : i < l.length) (h1 : b8 l i = 1) : copF (k + 1) l i = copF k l (i + 1) := by
  rw [copF, if_pos ⟨h, by omega⟩, if_neg (by omega)]
  unfold optN
  rw [if_pos h1]; rfl
theorem copF_low {k : Nat} {l : List Int} {i : Nat} (h : i < l.length) (h0 : b8 l i ≠ 0) (h1 : b8 l i ≠ 1) (h2 : b8 l i < 128) : copF (k + 1) l i = copF k l (i + (b8 l (i + 1)).toNat) := by
  rw [copF, if_pos ⟨h, h0⟩, if_neg (by omega)]
  unfold optN
  rw [if_neg h1]; rfl
theorem copF_high {k : Nat} {l : List Int} {i : Nat} (h : i < l.length) (h2 : 128 ≤ b8 l i) : copF (k + 1) l i = (l.drop i).take (b8 l (i + 1)).toNat ++ copF k l (i + (b8 l (i + 1)).toNat) := by
  rw [copF, if_pos ⟨h, by omega⟩, if_pos h2]
  unfold optN
  rw [if_neg (by omega)]
theorem goodF_inv {k : Nat} {l : List Int} {i : Nat} (h : i < l.length) (h0 : b8 l i ≠ 0) (h1 : b8 l i ≠ 1) (hg : goodF (k + 1) l i = true) : i + 1 < l.length ∧ 2 ≤ b8 l (i + 1) ∧ (i : Int) + b8 l (i + 1) ≤ l.length ∧ goodF k l (i + (b8 l (i + 1)).toNat) = true := by
  rw [goodF, if_pos h, if_neg h0, if_neg h1] at hg
  split at hg
  · cases hg
  · rename_i hh
    exact ⟨by omega, by omega, by omega, hg⟩
theorem copF_len : ∀ (k : Nat) (l : List Int) (i : Nat), i ≤ l.length → goodF k l i = true → i + (copF k l i).length ≤ l.length
  | 0, l, i, hi, _ => by simp [copF]; exact hi
  | k + 1, l, i, hi, hg => by
    by_cases h : i < l.length ∧ b8 l i ≠ 0
    · by_cases h1 : b8 l i = 1
      · rw [copF_one h.1 h1]
        rw [goodF_one h.1 h1] at hg
        have := copF_len k l (i + 1) (by omega) hg
        omega
      · obtain ⟨a, b, c, d⟩ := goodF_inv h.1 h.2 h1 hg
        have := copF_len k l (i + (b8 l (i + 1)).toNat) (by omega) d
        rcases (by omega : b8 l i < 128 ∨ 128 ≤ b8 l i) with e | e
        · rw [copF_low h.1 h.2 h1 e]; omega
        · rw [copF_high h.1 e, List.length_append, List.length_take]; omega
    · rw [copF_end h]; simp; exact hi
theorem copO_len {l : List Int} (h : goodO l = true) : (copO l).length ≤ l.length := by
  have := copF_len (l.length + 1) l 0 (Nat.zero_le _) h
  unfold copO; omega
theorem copF_bs : ∀ (k : Nat) (l : List Int) (i : Nat), Bs l → Bs (copF k l i)
  | 0, _, _, _ => Bs.nil
  | k + 1, l, i, h => by
    rw [copF]
    split
    · refine Bs.append ?_ (copF_bs k l _ h)
      split
      · exact (h.drop i).take _
      · exact Bs.nil
    · exact Bs.nil
def CopPost (l : List Int) (w : World) (e : Ending) (w' : World) : Prop := ∃ A n c, e = .returned (.slice A n c) ∧ OB 5 w' w.heap.size A n c (copO l) ∧ Below w.heap.size w w'
def CopRel (w : World) (l : List Int) (v : Value) (j : Nat) (wr : World) : Prop := ∃ (f : Nat) (A1 : Option Addr) (n1 c1 : Nat) (out : List Int), v = .slice A1 n1 c1 ∧ goodF f l j = true ∧ l.length ≤ j + f ∧ out ++ copF f l j = copO l ∧ n1 ≤ j ∧ OB 5 wr w.heap.size A1 n1 c1 out ∧ Below w.heap.size w wr
set_option maxHeartbeats 4000000 in
set_option maxRecDepth 100000 in
theorem cop_any (A : Option Addr) (n c B : Nat) (l : List Int) (hn : l.length = n) (hc : n ≤ c) (hmax : n ≤ 1000000) (hb : Bs l) (hg : goodO l = true) (w : World) (hr : RB w B A l) (hB : B ≤ w.heap.size) :
    Calls Try.prog 30 #[.slice A n c] w (CopPost l w) := by
  have HN := Lib.hid hn
  have HR := Lib.hid hr
  have HS : Hid (CopRel w l (.slice none 0 0) 0 w) := Lib.hid ⟨l.length + 1, none, 0, 0, [], rfl, hg, by omega, rfl, Nat.le_refl _, Ow.none_ _ _ _, Below.refl _ _⟩
  clear hn hg hr
  go_enter Try.func30, Try.ntmps30
  go_wp2
  go_step3
  go_wp2
  go_step3
  go_wp2
  go_loopw [3, 4] (fun v i wr => ∃ j : Nat, j ≤ n ∧ i = .int .i64 j ∧ Hid (CopRel w l v j wr)) (fun _ i _ => n - (intOf i).toNat)
  case atStart => exact ⟨0, Nat.zero_le _, rfl, HS⟩
  case round =>
    obtain ⟨j, hj, rfl, HC⟩ := hrel
    obtain ⟨f, A1, n1, c1, out, rfl, hgf, hlf, hout, hn1, hO1, hB1⟩ := HC.out
    have HGF := Lib.hid hgf
    have HOUT := Lib.hid hout
    have HLF := Lib.hid hlf
    have HB1 := Lib.hid hB1
    have HO1 := Lib.hid hO1
    have hsz1 := hB1.size
    clear hgf hout hlf hB1 hO1 HC
    rcases Nat.lt_or_ge j n with c0 | c0
    · obtain ⟨f, rfl⟩ : ∃ f', f = f' + 1 := ⟨f - 1, by have := HLF.out; have := HN.out; omega⟩
      obtain ⟨b, off, rfl, hbB, hx⟩ := HR.out.at_ (k := j) (by rw [HN.out]; exact c0)
      have hx0 := b8_bd hb j
      obtain ⟨x, hxx⟩ : ∃ x, b8 l j = x := ⟨_, rfl⟩
      have hx' : wr.cell? ⟨b, off + j, none⟩ = some (.int .u8 x) := (HB1.out.cell (p := ⟨b, off + j, none⟩) (show b < w.heap.size by omega)).trans (by rw [← hxx]; exact hx)
      rw [hxx] at hx0
      have HX := Lib.hid hxx
      have c1' : (j : Int) < n := by omega
      clear hx hxx
      rcases (by omega : x = 0 ∨ x = 1 ∨ (x ≠ 0 ∧ x ≠ 1)) with rfl | rfl | ⟨d0, d1⟩
      · have HE : Hid (out = copO l) := Lib.hid (by rw [← HOUT.out, copF_end (by rw [HX.out]; omega), List.append_nil])
        go_wp2
        try rw [Exit.noGoto_ret]
        go_ret
        exact ⟨A1, n1, c1, rfl, by rw [← HE.out]; exact HO1.out, HB1.out⟩
      · have HC2 : Hid (CopRel w l (.slice A1 n1 c1) (j + 1) wr) := Lib.hid ⟨f, A1, n1, c1, out, rfl, by rw [← goodF_one (by rw [HN.out]; exact c0) HX.out]; exact HGF.out, by have := HLF.out; omega, by rw [← copF_one (by rw [HN.out]; exact c0) HX.out]; exact HOUT.out, by omega, HO1.out, HB1.out⟩
        go_wp2
        go_roundw
        case rel => exact ⟨j + 1, by omega, by go_num, HC2⟩
        case measure => simp [intOf]; omega
      · have hgi := goodF_inv (by rw [HN.out]; exact c0) (by rw [HX.out]; exact d0) (by rw [HX.out]; exact d1) HGF.out
        rw [HN.out] at hgi
        obtain ⟨g1, g2, g3, g4⟩ := hgi
        have e2 : (x == 0) = false := by simpa using d0
        have e3 : (x == 1) = false := by simpa using d1
        have e4 : (x != 0) = true := by simpa using d0
        have e5 : (x != 1) = true := by simpa using d1
        obtain ⟨b', off', e', _, hy⟩ := HR.out.at_ (k := j + 1) (by rw [HN.out]; omega)
        injection e' with e'; injection e' with ea eb; subst ea; subst eb
        have hy0 := b8_bd hb (j + 1)
        obtain ⟨y, hyy⟩ : ∃ y, b8 l (j + 1) = y := ⟨_, rfl⟩
        have hy' : wr.cell? ⟨b, off + (j + 1), none⟩ = some (.int .u8 y) := (HB1.out.cell (p := ⟨b, off + (j + 1), none⟩) (show b < w.heap.size by omega)).trans (by rw [← hyy]; exact hy)
        rw [hyy] at hy0 g2 g3 g4
        have hjn : ((j : Int) + 1).toNat = j + 1 := by omega
        have hj1 : (j : Int) + 1 < n := by omega
        have HY := Lib.hid hyy
        have HG4 := Lib.hid g4
        obtain ⟨m, hm⟩ : ∃ m : Nat, y = m := ⟨y.toNat, by omega⟩
        subst hm
        have hcj : ¬ c = j := by omega
        clear hy hyy g4
        rcases (by omega : x < 128 ∨ 128 ≤ x) with f0 | f0
        · have HC2 : Hid (CopRel w l (.slice A1 n1 c1) (j + m) wr) := Lib.hid ⟨f, A1, n1, c1, out, rfl, HG4.out, by have := HLF.out; omega, by rw [← HOUT.out, copF_low (by rw [HN.out]; exact c0) (by rw [HX.out]; exact d0) (by rw [HX.out]; exact d1) (by rw [HX.out]; exact f0), HY.out]; rfl, by omega, HO1.out, HB1.out⟩
          have f1 : decide (128 ≤ x) = false := by simp; omega
          go_wp2
          go_roundw
          case rel => exact ⟨j + m, by omega, by go_num, HC2⟩
          case measure => simp [intOf]; omega
        · have f1 : decide (128 ≤ x) = true := by simpa using f0
          have HRX : Hid (RB wr B (some ⟨b, off + j, none⟩) ((l.drop j).take m)) := Lib.hid (RB.take (RB.from_ (show RB wr B (some ⟨b, off, none⟩) l from Rw.below HR.out (HB1.out.mono hB)) j) m)
          have HLM : Hid (((l.drop j).take m).length = m) := Lib.hid (by rw [List.length_take, List.length_drop, HN.out]; omega)
          have hjm : ((j : Int) + m).toNat = j + m := by omega
          go_wp2_with (at_builtin; refine ap8 rfl (.tmp 23) (.tmp 27) rfl w.heap.size rfl HO1.out rfl HRX.out HLM.out (by omega) hsz1 ?_; intro A3 c3 w3 hO3 hB3 hg3 hA3 hz3 hc3)
          have HC2 : Hid (CopRel w l (.slice A3 (n1 + m) c3) (j + m) w3) := Lib.hid ⟨f, A3, n1 + m, c3, out ++ (l.drop j).take m, rfl, HG4.out, by have := HLF.out; omega, by
            rw [← HOUT.out, copF_high (by rw [HN.out]; exact c0) (by rw [HX.out]; exact f0), HY.out, List.append_assoc]; rfl, by omega, hO3, HB1.out.trans hB3⟩
          clear hO3 hB3 hg3 hA3
          go_roundw
          case rel => exact ⟨j + m, by omega, by go_num, HC2⟩
          case measure => simp [intOf]; omega
    · have HE : Hid (out = copO l) := Lib.hid (by rw [← HOUT.out, copF_end (by rw [HN.out]; omega), List.append_nil])
      have c1' : ¬ (j : Int) < n := by omega
      go_wp2
      try rw [Exit.noGoto_ret]
      go_ret
      exact ⟨A1, n1, c1, rfl, by rw [← HE.out]; exact HO1.out, HB1.out⟩
set_option maxHeartbeats 4000000 in
set_option maxRecDepth 100000 in
theorem rcop_any (A : Option Addr) (n c B : Nat) (l : List Int) (hn : l.length = n) (hc : n ≤ c) (hmax : n ≤ 1000000) (hb : Bs l) (hg : goodO l = true) (w : World) (hr : RB w B A l) (hB : B ≤ w.heap.size) :
    Calls Try.prog 33 #[.slice A n c] w (CopPost l w) := by
  have HN := Lib.hid hn
  have HR := Lib.hid hr
  have HS : Hid (CopRel w l (.slice none 0 0) 0 w) := Lib.hid ⟨l.length + 1, none, 0, 0, [], rfl, hg, by omega, rfl, Nat.le_refl _, Ow.none_ _ _ _, Below.refl _ _⟩
  clear hn hg hr
  go_enter Try.func33, Try.ntmps33
  go_wp2
  go_loopw [3, 4] (fun v i wr => ∃ j : Nat, j ≤ n ∧ i = .int .i64 j ∧ Hid (CopRel w l v j wr)) (fun _ i _ => n - (intOf i).toNat)
  case atStart => exact ⟨0, Nat.zero_le _, rfl, HS⟩
  case round =>
    obtain ⟨j, hj, rfl, HC⟩ := hrel
    obtain ⟨f, A1, n1, c1, out, rfl, hgf, hlf, hout, hn1, hO1, hB1⟩ := HC.out
    have HGF := Lib.hid hgf
    have HOUT := Lib.hid hout
    have HLF := Lib.hid hlf
    have HB1 := Lib.hid hB1
    have HO1 := Lib.hid hO1
    have hsz1 := hB1.size
    clear hgf hout hlf hB1 hO1 HC
    rcases Nat.lt_or_ge j n with c0 | c0
    · obtain ⟨f, rfl⟩ : ∃ f', f = f' + 1 := ⟨f - 1, by have := HLF.out; have := HN.out; omega⟩
      obtain ⟨b, off, rfl, hbB, hx⟩ := HR.out.at_ (k := j) (by rw [HN.out]; exact c0)
      have hx0 := b8_bd hb j
      obtain ⟨x, hxx⟩ : ∃ x, b8 l j = x := ⟨_, rfl⟩
      have hx' : wr.cell? ⟨b, off + j, none⟩ = some (.int .u8 x) := (HB1.out.cell (p := ⟨b, off + j, none⟩) (show b < w.heap.size by omega)).trans (by rw [← hxx]; exact hx)
      rw [hxx] at hx0
      have HX := Lib.hid hxx
      have c1' : (j : Int) < n := by omega
      clear hx hxx
      rcases (by omega : x = 0 ∨ x = 1 ∨ (x ≠ 0 ∧ x ≠ 1)) with rfl | rfl | ⟨d0, d1⟩
      · have HE : Hid (out = copO l) := Lib.hid (by rw [← HOUT.out, copF_end (by rw [HX.out]; omega), List.append_nil])
        go_wp2
        try rw [Exit.noGoto_ret]
        go_ret
        exact ⟨A1, n1, c1, rfl, by rw [← HE.out]; exact HO1.out, HB1.out⟩
      · have HC2 : Hid (CopRel w l (.slice A1 n1 c1) (j + 1) wr) := Lib.hid ⟨f, A1, n1, c1, out, rfl, by rw [← goodF_one (by rw [HN.out]; exact c0) HX.out]; exact HGF.out, by have := HLF.out; omega, by rw [← copF_one (by rw [HN.out]; exact c0) HX.out]; exact HOUT.out, by omega, HO1.out, HB1.out⟩
        go_wp2
        go_roundw
        case rel => exact ⟨j + 1, by omega, by go_num, HC2⟩
        case measure => simp [intOf]; omega
      · have hgi := goodF_inv (by rw [HN.out]; exact c0) (by rw [HX.out]; exact d0) (by rw [HX.out]; exact d1) HGF.out
        rw [HN.out] at hgi
        obtain ⟨g1, g2, g3, g4⟩ := hgi
        have e2 : (x == 0) = false := by simpa using d0
        have e3 : (x == 1) = false := by simpa using d1
        have e4 : (x != 0) = true := by simpa using d0
        have e5 : (x != 1) = true := by simpa using d1
        obtain ⟨b', off', e', _, hy⟩ := HR.out.at_ (k := j + 1) (by rw [HN.out]; omega)
        injection e' with e'; injection e' with ea eb; subst ea; subst eb
        have hy0 := b8_bd hb (j + 1)
        obtain ⟨y, hyy⟩ : ∃ y, b8 l (j + 1) = y := ⟨_, rfl⟩
        have hy' : wr.cell? ⟨b, off + (j + 1), none⟩ = some (.int .u8 y) := (HB1.out.cell (p := ⟨b, off + (j + 1), none⟩) (show b < w.heap.size by omega)).trans (by rw [← hyy]; exact hy)
        rw [hyy] at hy0 g2 g3 g4
        have hjn : ((j : Int) + 1).toNat = j + 1 := by omega
        have hj1 : (j : Int) + 1 < n := by omega
        have HY := Lib.hid hyy
        have HG4 := Lib.hid g4
        obtain ⟨m, hm⟩ : ∃ m : Nat, y = m := ⟨y.toNat, by omega⟩
        subst hm
        have hcj : ¬ c = j := by omega
        clear hy hyy g4
        rcases (by omega : x < 128 ∨ 128 ≤ x) with f0 | f0
        · have HC2 : Hid (CopRel w l (.slice A1 n1 c1) (j + m) wr) := Lib.hid ⟨f, A1, n1, c1, out, rfl, HG4.out, by have := HLF.out; omega, by rw [← HOUT.out, copF_low (by rw [HN.out]; exact c0) (by rw [HX.out]; exact d0) (by rw [HX.out]; exact d1) (by rw [HX.out]; exact f0), HY.out]; rfl, by omega, HO1.out, HB1.out⟩
          have f1 : decide (128 ≤ x) = false := by simp; omega
          go_wp2
          go_roundw
          case rel => exact ⟨j + m, by omega, by go_num, HC2⟩
          case measure => simp [intOf]; omega
        · have f1 : decide (128 ≤ x) = true := by simpa using f0
          have HRX : Hid (RB wr B (some ⟨b, off + j, none⟩) ((l.drop j).take m)) := Lib.hid (RB.take (RB.from_ (show RB wr B (some ⟨b, off, none⟩) l from Rw.below HR.out (HB1.out.mono hB)) j) m)
          have HLM : Hid (((l.drop j).take m).length = m) := Lib.hid (by rw [List.length_take, List.length_drop, HN.out]; omega)
          have hjm : ((j : Int) + m).toNat = j + m := by omega
          go_wp2_with (at_builtin; refine ap8 rfl (.tmp 33) (.tmp 39) rfl w.heap.size rfl HO1.out rfl HRX.out HLM.out (by omega) hsz1 ?_; intro A3 c3 w3 hO3 hB3 hg3 hA3 hz3 hc3)
          have HC2 : Hid (CopRel w l (.slice A3 (n1 + m) c3) (j + m) w3) := Lib.hid ⟨f, A3, n1 + m, c3, out ++ (l.drop j).take m, rfl, HG4.out, by have := HLF.out; omega, by
            rw [← HOUT.out, copF_high (by rw [HN.out]; exact c0) (by rw [HX.out]; exact f0), HY.out, List.append_assoc]; rfl, by omega, hO3, HB1.out.trans hB3⟩
          clear hO3 hB3 hg3 hA3
          go_roundw
          case rel => exact ⟨j + m, by omega, by go_num, HC2⟩
          case measure => simp [intOf]; omega
    · have HE : Hid (out = copO l) := Lib.hid (by rw [← HOUT.out, copF_end (by rw [HN.out]; omega), List.append_nil])
      have c1' : ¬ (j : Int) < n := by omega
      go_wp2
      try rw [Exit.noGoto_ret]
      go_ret
      exact ⟨A1, n1, c1, rfl, by rw [← HE.out]; exact HO1.out, HB1.out⟩
end Go.Proofs.Ytcjkhonapafndaa
