/- Proved: what segment.Encode hands out, by its walk, and the plain laws of a segment's bytes. Conditions: the segment is one that came in. -/
import Derived.Test.YtifeomdmbjinoaaRows
import Derived.Test.YtifeomdmbjinoaaMem
import Derived.Test.YtifeomdmbjinoaaScript
import Derived.Test.YtifeomdmbjinoaaBytes
import Derived.Deep.RegionHeld3
import Derived.Deep.RegionLaw
set_option linter.unusedVariables false
set_option linter.unusedSimpArgs false
namespace Go.Proofs.Ytifeomdmbjinoaa
open Go.RowKit

theorem bel_cell {B b o : Nat} {u : Value} {w w2 : World} (h : Below B w w2) (hb : b < B) (hc : w.cell? ⟨b, o, none⟩ = some u) : w2.cell? ⟨b, o, none⟩ = some u := (h.cell (p := ⟨b, o, none⟩) hb).trans hc

/-- A segment's numbers. -/
structure Sg where
  fr : Int
  fp : Int
  to : Int
  tp : Int
  seq : Int
  ack : Int
  fl : Int
  win : Int
  mss : Int
  sc : Int
def I64 (x : Int) : Prop := -9223372036854775808 ≤ x ∧ x ≤ 9223372036854775807
def U32 (x : Int) : Prop := 0 ≤ x ∧ x ≤ 4294967295
def Sg.wf (s : Sg) : Prop := U32 s.fr ∧ I64 s.fp ∧ U32 s.to ∧ I64 s.tp ∧ U32 s.seq ∧ U32 s.ack ∧ I64 s.fl ∧ I64 s.win ∧ I64 s.mss ∧ I64 s.sc

def mssB (m : Int) : List Int := if m = 0 then [] else 2 :: 4 :: be 2 m
def scB (k : Int) : List Int := if k = -1 then [] else 1 :: 3 :: 3 :: be 1 k
def optB (m k : Int) : List Int := mssB m ++ scB k
theorem mssB_len (m : Int) : (mssB m).length ≤ 4 := by unfold mssB; split <;> simp [be_length]
theorem scB_len (m : Int) : (scB m).length ≤ 4 := by unfold scB; split <;> simp [be_length]
theorem optB_len (m k : Int) : (optB m k).length ≤ 8 := by unfold optB; rw [List.length_append]; have := mssB_len m; have := scB_len k; omega
theorem mssB_bs (m : Int) : Bs (mssB m) := by
  unfold mssB; split
  · exact Bs.nil
  · intro x hx
    simp only [List.mem_cons] at hx
    rcases hx with rfl | rfl | hx
    · omega
    · omega
    · exact be_bs _ _ x hx
theorem scB_bs (m : Int) : Bs (scB m) := by
  unfold scB; split
  · exact Bs.nil
  · intro x hx
    simp only [List.mem_cons] at hx
    rcases hx with rfl | rfl | rfl | hx
    · omega
    · omega
    · omega
    · exact be_bs _ _ x hx
theorem optB_bs (m k : Int) : Bs (optB m k) := (mssB_bs m).append (scB_bs k)

/-- A segment's bytes: with the header byte h, the sum x, the options o and the data d. -/
def segH (s : Sg) (h x : Int) : List Int := be 2 s.fp ++ be 2 s.tp ++ be 4 s.seq ++ be 4 s.ack ++ be 1 h ++ be 1 s.fl ++ be 2 s.win ++ be 2 x ++ be 2 0
def segB (s : Sg) (h x : Int) (o d : List Int) : List Int := segH s h x ++ o ++ d
theorem segH_len (s : Sg) (h x : Int) : (segH s h x).length = 20 := by simp [segH, be_length]
theorem segB_len (s : Sg) (h x : Int) (o d : List Int) : (segB s h x o d).length = 20 + o.length + d.length := by simp [segB, segH_len, Nat.add_assoc]
theorem segH_bs (s : Sg) (h x : Int) : Bs (segH s h x) := (((((((((be_bs _ _).append (be_bs _ _)).append (be_bs _ _)).append (be_bs _ _)).append (be_bs _ _)).append (be_bs _ _)).append (be_bs _ _)).append (be_bs _ _)).append (be_bs _ _))
theorem segB_bs (s : Sg) (h x : Int) {o d : List Int} (ho : Bs o) (hd : Bs d) : Bs (segB s h x o d) := ((segH_bs s h x).append ho).append hd
/-- What is summed ahead of a segment. -/
def pseu (a b : Int) (n : Int) : List Int := be 4 a ++ be 4 b ++ be 2 6 ++ be 2 n
theorem pseu_len (a b n : Int) : (pseu a b n).length = 12 := by simp [pseu, be_length]
theorem pseu_bs (a b n : Int) : Bs (pseu a b n) := (((be_bs _ _).append (be_bs _ _)).append (be_bs _ _)).append (be_bs _ _)
def segSum (a b : Int) (l : List Int) : Int := 65535 - partC (pseu a b l.length ++ l)
theorem segSum_bd (a b : Int) {l : List Int} (hb : Bs l) : 0 ≤ segSum a b l ∧ segSum a b l ≤ 65535 := by
  have := partC_bd _ ((pseu_bs a b l.length).append hb)
  unfold segSum; omega

theorem segsum_any (a b : Int) (ha : U32 a) (hb : U32 b) (A : Option Addr) (n c B : Nat) (l : List Int) (hn : l.length = n) (hmax : n ≤ 100000) (hl : Bs l) (w : World) (hr : RB w B A l) (hB : B ≤ w.heap.size) :
    Calls Try.prog 35 #[.int .u32 a, .int .u32 b, .slice A n c] w fun e w' => e = .returned (.int .i64 (segSum a b l)) ∧ Below w.heap.size w w' := by
  obtain ⟨a0, a1⟩ := ha
  obtain ⟨b0, b1⟩ := hb
  have H := Lib.hid hn
  clear hn
  have hB0 := (Below.refl w.heap.size w).alloc (Nat.le_refl _) (.cells #[.slice none 0 0] 56)
  have hW0 := wr_new w
  have hz0 := hB0.size
  have hr' : RB w w.heap.size A l := Rw.more hr hB
  go_enter Try.func35, Try.ntmps35
  go_wp2_with fail
  refine (four_any a a0 a1 w.heap.size w.heap.size _ (by simp only [List.length_append, be_length, List.length_nil]; (try have := H.out); (try have := HM.out); omega) _ hW0 hz0).mono ?_
  rintro e w1 ⟨rfl, hW1, hK1⟩
  have hB1 := hB0.trans (hK1.below hz0 hW0.wf)
  have hz1 := hB1.size
  go_wp2_with fail
  refine (four_any b b0 b1 w.heap.size w.heap.size _ (by simp only [List.length_append, be_length, List.length_nil]; (try have := H.out); (try have := HM.out); omega) _ hW1 hz1).mono ?_
  rintro e w2 ⟨rfl, hW2, hK2⟩
  have hB2 := hB1.trans (hK2.below hz1 hW1.wf)
  have hz2 := hB2.size
  go_wp2_with fail
  refine (two_any 6 w.heap.size w.heap.size _ (by simp only [List.length_append, be_length, List.length_nil]; (try have := H.out); (try have := HM.out); omega) _ hW2 hz2).mono ?_
  rintro e w3 ⟨rfl, hW3, hK3⟩
  have hB3 := hB2.trans (hK3.below hz2 hW2.wf)
  have hz3 := hB3.size
  go_wp2_with fail
  refine (two_any n w.heap.size w.heap.size _ (by simp only [List.length_append, be_length, List.length_nil]; (try have := H.out); (try have := HM.out); omega) _ hW3 hz3).mono ?_
  rintro e w4 ⟨rfl, hW4, hK4⟩
  have hB4 := hB3.trans (hK4.below hz3 hW3.wf)
  have hz4 := hB4.size
  go_wp2_with fail
  refine (raw_any A n c _ l H.out (by omega) w.heap.size w.heap.size _ (by simp only [List.length_append, be_length, List.length_nil]; (try have := H.out); (try have := HM.out); omega) _ (Rw.below hr' hB4) hW4 hz4).mono ?_
  rintro e w5 ⟨rfl, hW5, hK5⟩
  have hB5 := hB4.trans (hK5.below hz4 hW4.wf)
  have hz5 := hB5.size
  go_wp2_with fail
  refine (bytes_any w.heap.size w.heap.size _ (by simp only [List.length_append, be_length, List.length_nil, H.out]; omega) _ hW5).mono ?_
  rintro e w6 ⟨A', n', c', rfl, hO, hB6⟩
  have hl6 : n' ≤ 100012 := by have := hO.length; simp only [List.length_append, be_length, List.length_nil, H.out] at this; omega
  have hbs : Bs ((([] ++ be 4 a ++ be 4 b ++ be 2 6 ++ be 2 n) ++ l)) := (((((Bs.nil.append (be_bs _ _)).append (be_bs _ _)).append (be_bs _ _)).append (be_bs _ _)).append hl)
  have hO' := hO.length
  have HL := Lib.hid hO'
  clear hO'
  go_wp2_with fail
  refine (sum_any A' n' c' _ _ HL.out (by omega) hbs _ hO.rb).mono ?_
  rintro e w7 ⟨rfl, rfl⟩
  go_wp2
  go_ret
  refine ⟨?_, hB5.trans (hB6.mono hz5)⟩
  unfold segSum pseu
  rw [H.out]
  rfl

theorem wn_within (n m : Int) (w : World) :
    Calls Try.prog 27 #[.int .i64 n, .int .i64 m] w fun e w' => e = .returned (.bool (decide (0 ≤ n ∧ n ≤ m))) ∧ w = w' := by
  rcases (by omega : n < 0 ∨ (0 ≤ n ∧ m < n) ∨ (0 ≤ n ∧ n ≤ m)) with h | ⟨h, h'⟩ | ⟨h, h'⟩
  · have e : decide (0 ≤ n ∧ n ≤ m) = false := decide_eq_false (by omega)
    rw [e]
    clear e
    go_enter Try.func27, Try.ntmps27
    go_wp2
    go_ret
    exact ⟨rfl, rfl⟩
  · have e : decide (0 ≤ n ∧ n ≤ m) = false := decide_eq_false (by omega)
    have t : decide (n ≤ m) = false := decide_eq_false (by omega)
    rw [e]
    clear e
    go_enter Try.func27, Try.ntmps27
    go_wp2
    go_ret
    exact ⟨rfl, rfl⟩
  · have e : decide (0 ≤ n ∧ n ≤ m) = true := decide_eq_true ⟨h, h'⟩
    rw [e]
    clear e
    go_enter Try.func27, Try.ntmps27
    go_wp2
    go_ret
    exact ⟨rfl, rfl⟩
theorem within_yes (n m : Int) (h : 0 ≤ n ∧ n ≤ m) (w : World) : Calls Try.prog 27 #[.int .i64 n, .int .i64 m] w fun e w' => e = .returned (.bool true) ∧ w = w' :=
  (wn_within n m w).mono fun e w' ⟨h1, h2⟩ => ⟨by rw [h1, decide_eq_true h], h2⟩
theorem within_no (n m : Int) (h : n < 0 ∨ m < n) (w : World) : Calls Try.prog 27 #[.int .i64 n, .int .i64 m] w fun e w' => e = .returned (.bool false) ∧ w = w' :=
  (wn_within n m w).mono fun e w' ⟨h1, h2⟩ => ⟨by rw [h1, decide_eq_false (by omega)], h2⟩

theorem options_any (s : Sg) (A : Option Addr) (n c : Nat) (w : World) (hm : I64 s.mss) (hs : I64 s.sc) :
    Calls Try.prog 28 #[.agg #[.int .u32 s.fr, .int .i64 s.fp, .int .u32 s.to, .int .i64 s.tp, .int .u32 s.seq, .int .u32 s.ack, .int .i64 s.fl, .int .i64 s.win, .int .i64 s.mss, .int .i64 s.sc, .slice A n c]] w fun e w' => ∃ A' n' c', e = .returned (.slice A' n' c') ∧ OB 5 w' w.heap.size A' n' c' (optB s.mss s.sc) ∧ Below w.heap.size w w' := by
  have hB00 := (Below.refl w.heap.size w).alloc (Nat.le_refl _) (.cells #[.int .u32 s.fr, .int .i64 s.fp, .int .u32 s.to, .int .i64 s.tp, .int .u32 s.seq, .int .u32 s.ack, .int .i64 s.fl, .int .i64 s.win, .int .i64 s.mss, .int .i64 s.sc, .slice A n c] 26)
  have hk := Bk.new w 26 #[.int .u32 s.fr, .int .i64 s.fp, .int .u32 s.to, .int .i64 s.tp, .int .u32 s.seq, .int .u32 s.ack, .int .i64 s.fl, .int .i64 s.win, .int .i64 s.mss, .int .i64 s.sc, .slice A n c]
  have hW0 := wr_new (w.alloc (.cells #[.int .u32 s.fr, .int .i64 s.fp, .int .u32 s.to, .int .i64 s.tp, .int .u32 s.seq, .int .u32 s.ack, .int .i64 s.fl, .int .i64 s.win, .int .i64 s.mss, .int .i64 s.sc, .slice A n c] 26))
  rw [World.size_alloc] at hW0
  have hB0 : Below (w.heap.size + 1) (w.alloc (.cells #[.int .u32 s.fr, .int .i64 s.fp, .int .u32 s.to, .int .i64 s.tp, .int .u32 s.seq, .int .u32 s.ack, .int .i64 s.fl, .int .i64 s.win, .int .i64 s.mss, .int .i64 s.sc, .slice A n c] 26)) _ := (Below.refl _ _).alloc (by simp) (.cells #[.slice none 0 0] 56)
  have hz0 := hB0.size
  rw [World.size_alloc w] at hz0
  have key : ∀ w', Below (w.heap.size + 1) (w.alloc (.cells #[.int .u32 s.fr, .int .i64 s.fp, .int .u32 s.to, .int .i64 s.tp, .int .u32 s.seq, .int .u32 s.ack, .int .i64 s.fl, .int .i64 s.win, .int .i64 s.mss, .int .i64 s.sc, .slice A n c] 26)) w' → (w'.cell? ⟨w.heap.size, 8, none⟩ = some (.int .i64 s.mss) ∧ w'.cell? ⟨w.heap.size, 9, none⟩ = some (.int .i64 s.sc)) := fun w' hb =>
    ⟨(hk.below hb (by omega)).cell 8, (hk.below hb (by omega)).cell 9⟩
  have K := Lib.hid key
  have HB := Lib.hid hB00
  clear key hk hB00
  unfold I64 at hm hs
  by_cases h1 : s.mss = 0
  · by_cases h2 : s.sc = -1
    · have t1 : (s.mss != 0) = false := by simp [h1]
      have t2 : (s.sc != -1) = false := by simp [h2]
      have HO : Hid (optB s.mss s.sc = []) := by show _ = _; unfold optB mssB scB; rw [if_pos h1, if_pos h2]; rfl
      clear h1 h2
      obtain ⟨c8, c9⟩ := K.out _ hB0
      go_enter Try.func28, Try.ntmps28
      go_wp2_with fail
      refine (bytes_any (w.heap.size + 1) (w.heap.size + 1) _ (by simp) _ hW0).mono ?_
      rintro e w6 ⟨A', n', c', rfl, hO, hB6⟩
      go_wp2
      go_ret
      rw [HO.out]
      exact ⟨A', n', c', rfl, Ow.mono hO (by omega), HB.out.trans ((hB0.trans (hB6.mono hz0)).mono (by omega))⟩
    · have t1 : (s.mss != 0) = false := by simp [h1]
      have t2 : (s.sc != -1) = true := by simp [h2]
      have HO : Hid (optB s.mss s.sc = [] ++ be 1 1 ++ be 1 3 ++ be 1 3 ++ be 1 s.sc) := by show _ = _; unfold optB mssB scB; rw [if_pos h1, if_neg h2]; rfl
      clear h1 h2
      obtain ⟨c8, c9⟩ := K.out _ hB0
      go_enter Try.func28, Try.ntmps28
      go_wp2_with fail
      refine (byte_any 1 (w.heap.size + 1) (w.heap.size + 1) _ (by simp only [List.length_append, be_length, List.length_nil]; (try have := H.out); (try have := HM.out); omega) _ hW0 hz0).mono ?_
      rintro e w1 ⟨rfl, hW1, hK1⟩
      have hB1 := hB0.trans (hK1.below hz0 hW0.wf)
      have hz1 := hB1.size
      rw [World.size_alloc w] at hz1
      clear c8 c9
      go_wp2_with fail
      refine (byte_any 3 (w.heap.size + 1) (w.heap.size + 1) _ (by simp only [List.length_append, be_length, List.length_nil]; (try have := H.out); (try have := HM.out); omega) _ hW1 hz1).mono ?_
      rintro e w2 ⟨rfl, hW2, hK2⟩
      have hB2 := hB1.trans (hK2.below hz1 hW1.wf)
      have hz2 := hB2.size
      rw [World.size_alloc w] at hz2
      go_wp2_with fail
      refine (byte_any 3 (w.heap.size + 1) (w.heap.size + 1) _ (by simp only [List.length_append, be_length, List.length_nil]; (try have := H.out); (try have := HM.out); omega) _ hW2 hz2).mono ?_
      rintro e w3 ⟨rfl, hW3, hK3⟩
      have hB3 := hB2.trans (hK3.below hz2 hW2.wf)
      have hz3 := hB3.size
      rw [World.size_alloc w] at hz3
      obtain ⟨d8, d9⟩ := K.out _ hB3
      go_wp2_with fail
      refine (byte_any s.sc (w.heap.size + 1) (w.heap.size + 1) _ (by simp only [List.length_append, be_length, List.length_nil]; (try have := H.out); (try have := HM.out); omega) _ hW3 hz3).mono ?_
      rintro e w4 ⟨rfl, hW4, hK4⟩
      have hB4 := hB3.trans (hK4.below hz3 hW3.wf)
      have hz4 := hB4.size
      rw [World.size_alloc w] at hz4
      go_wp2_with fail
      refine (bytes_any (w.heap.size + 1) (w.heap.size + 1) _ (by simp [be_length]) _ hW4).mono ?_
      rintro e w6 ⟨A', n', c', rfl, hO, hB6⟩
      go_wp2
      go_ret
      rw [HO.out]
      exact ⟨A', n', c', rfl, Ow.mono hO (by omega), HB.out.trans ((hB4.trans (hB6.mono hz4)).mono (by omega))⟩
  · by_cases h2 : s.sc = -1
    · have t1 : (s.mss != 0) = true := by simp [h1]
      have t2 : (s.sc != -1) = false := by simp [h2]
      have HO : Hid (optB s.mss s.sc = [] ++ be 1 2 ++ be 1 4 ++ be 2 s.mss) := by show _ = _; unfold optB mssB scB; rw [if_neg h1, if_pos h2]; rw [List.append_nil]; rfl
      clear h1 h2
      obtain ⟨c8, c9⟩ := K.out _ hB0
      go_enter Try.func28, Try.ntmps28
      go_wp2_with fail
      refine (byte_any 2 (w.heap.size + 1) (w.heap.size + 1) _ (by simp only [List.length_append, be_length, List.length_nil]; (try have := H.out); (try have := HM.out); omega) _ hW0 hz0).mono ?_
      rintro e w1 ⟨rfl, hW1, hK1⟩
      have hB1 := hB0.trans (hK1.below hz0 hW0.wf)
      have hz1 := hB1.size
      rw [World.size_alloc w] at hz1
      clear c8 c9
      go_wp2_with fail
      refine (byte_any 4 (w.heap.size + 1) (w.heap.size + 1) _ (by simp only [List.length_append, be_length, List.length_nil]; (try have := H.out); (try have := HM.out); omega) _ hW1 hz1).mono ?_
      rintro e w2 ⟨rfl, hW2, hK2⟩
      have hB2 := hB1.trans (hK2.below hz1 hW1.wf)
      have hz2 := hB2.size
      rw [World.size_alloc w] at hz2
      obtain ⟨c8, c9⟩ := K.out _ hB2
      go_wp2_with fail
      refine (two_any s.mss (w.heap.size + 1) (w.heap.size + 1) _ (by simp only [List.length_append, be_length, List.length_nil]; (try have := H.out); (try have := HM.out); omega) _ hW2 hz2).mono ?_
      rintro e w3 ⟨rfl, hW3, hK3⟩
      have hB3 := hB2.trans (hK3.below hz2 hW2.wf)
      have hz3 := hB3.size
      rw [World.size_alloc w] at hz3
      clear c8 c9
      obtain ⟨c8, c9⟩ := K.out _ hB3
      go_wp2_with fail
      refine (bytes_any (w.heap.size + 1) (w.heap.size + 1) _ (by simp [be_length]) _ hW3).mono ?_
      rintro e w6 ⟨A', n', c', rfl, hO, hB6⟩
      go_wp2
      go_ret
      rw [HO.out]
      exact ⟨A', n', c', rfl, Ow.mono hO (by omega), HB.out.trans ((hB3.trans (hB6.mono hz3)).mono (by omega))⟩
    · have t1 : (s.mss != 0) = true := by simp [h1]
      have t2 : (s.sc != -1) = true := by simp [h2]
      have HO : Hid (optB s.mss s.sc = [] ++ be 1 2 ++ be 1 4 ++ be 2 s.mss ++ be 1 1 ++ be 1 3 ++ be 1 3 ++ be 1 s.sc) := by show _ = _; unfold optB mssB scB; rw [if_neg h1, if_neg h2]; simp [be_1, be]
      clear h1 h2
      obtain ⟨c8, c9⟩ := K.out _ hB0
      go_enter Try.func28, Try.ntmps28
      go_wp2_with fail
      refine (byte_any 2 (w.heap.size + 1) (w.heap.size + 1) _ (by simp only [List.length_append, be_length, List.length_nil]; (try have := H.out); (try have := HM.out); omega) _ hW0 hz0).mono ?_
      rintro e w1 ⟨rfl, hW1, hK1⟩
      have hB1 := hB0.trans (hK1.below hz0 hW0.wf)
      have hz1 := hB1.size
      rw [World.size_alloc w] at hz1
      clear c8 c9
      go_wp2_with fail
      refine (byte_any 4 (w.heap.size + 1) (w.heap.size + 1) _ (by simp only [List.length_append, be_length, List.length_nil]; (try have := H.out); (try have := HM.out); omega) _ hW1 hz1).mono ?_
      rintro e w2 ⟨rfl, hW2, hK2⟩
      have hB2 := hB1.trans (hK2.below hz1 hW1.wf)
      have hz2 := hB2.size
      rw [World.size_alloc w] at hz2
      obtain ⟨c8, c9⟩ := K.out _ hB2
      go_wp2_with fail
      refine (two_any s.mss (w.heap.size + 1) (w.heap.size + 1) _ (by simp only [List.length_append, be_length, List.length_nil]; (try have := H.out); (try have := HM.out); omega) _ hW2 hz2).mono ?_
      rintro e w3 ⟨rfl, hW3, hK3⟩
      have hB3 := hB2.trans (hK3.below hz2 hW2.wf)
      have hz3 := hB3.size
      rw [World.size_alloc w] at hz3
      clear c8 c9
      obtain ⟨c8, c9⟩ := K.out _ hB3
      go_wp2_with fail
      refine (byte_any 1 (w.heap.size + 1) (w.heap.size + 1) _ (by simp only [List.length_append, be_length, List.length_nil]; (try have := H.out); (try have := HM.out); omega) _ hW3 hz3).mono ?_
      rintro e w4 ⟨rfl, hW4, hK4⟩
      have hB4 := hB3.trans (hK4.below hz3 hW3.wf)
      have hz4 := hB4.size
      rw [World.size_alloc w] at hz4
      clear c8 c9
      go_wp2_with fail
      refine (byte_any 3 (w.heap.size + 1) (w.heap.size + 1) _ (by simp only [List.length_append, be_length, List.length_nil]; (try have := H.out); (try have := HM.out); omega) _ hW4 hz4).mono ?_
      rintro e w5 ⟨rfl, hW5, hK5⟩
      have hB5 := hB4.trans (hK5.below hz4 hW4.wf)
      have hz5 := hB5.size
      rw [World.size_alloc w] at hz5
      go_wp2_with fail
      refine (byte_any 3 (w.heap.size + 1) (w.heap.size + 1) _ (by simp only [List.length_append, be_length, List.length_nil]; (try have := H.out); (try have := HM.out); omega) _ hW5 hz5).mono ?_
      rintro e w6 ⟨rfl, hW6, hK6⟩
      have hB6 := hB5.trans (hK6.below hz5 hW5.wf)
      have hz6 := hB6.size
      rw [World.size_alloc w] at hz6
      obtain ⟨c8, c9⟩ := K.out _ hB6
      go_wp2_with fail
      refine (byte_any s.sc (w.heap.size + 1) (w.heap.size + 1) _ (by simp only [List.length_append, be_length, List.length_nil]; (try have := H.out); (try have := HM.out); omega) _ hW6 hz6).mono ?_
      rintro e w7 ⟨rfl, hW7, hK7⟩
      have hB7 := hB6.trans (hK7.below hz6 hW6.wf)
      have hz7 := hB7.size
      rw [World.size_alloc w] at hz7
      go_wp2_with fail
      refine (bytes_any (w.heap.size + 1) (w.heap.size + 1) _ (by simp [be_length]) _ hW7).mono ?_
      rintro e w6 ⟨A', n', c', rfl, hO, hB6⟩
      go_wp2
      go_ret
      rw [HO.out]
      exact ⟨A', n', c', rfl, Ow.mono hO (by omega), HB.out.trans ((hB7.trans (hB6.mono hz7)).mono (by omega))⟩

theorem encf_any (gs gn gl : Nat) (s : Sg) (hwf : s.wf) (x : Int) (A B : Option Addr) (n cap m capm : Nat) (d o : List Int) (hn : d.length = n) (hmax : n ≤ 70000) (hm : o.length = m) (hmm : m ≤ 8) (w : World)
    (h1 : Bk w gs 26 #[.int .u32 s.fr, .int .i64 s.fp, .int .u32 s.to, .int .i64 s.tp, .int .u32 s.seq, .int .u32 s.ack, .int .i64 s.fl, .int .i64 s.win, .int .i64 s.mss, .int .i64 s.sc, .slice A n cap]) (h2 : Bk w gn 3 #[.int .i64 (20 + m)]) (h3 : Bk w gl 24 #[.slice B m capm]) (hd : RB w w.heap.size A d) (ho : RB w w.heap.size B o) :
    Calls Try.prog 29 #[.int .i64 x, .pointer (some ⟨gs, 0, none⟩), .pointer (some ⟨gn, 0, none⟩), .pointer (some ⟨gl, 0, none⟩)] w fun e w' =>
      ∃ A' n' c', e = .returned (.slice A' n' c') ∧ OB 5 w' w.heap.size A' n' c' (segB s ((20 + (m : Int)) / 4 * 16) x o d) ∧ Below w.heap.size w w' := by
  obtain ⟨-, -, -, -, ⟨q0, q1⟩, ⟨k0, k1⟩, -⟩ := hwf
  have g1 := h1.lt
  have g2 := h2.lt
  have g3 := h3.lt
  have key : ∀ w', Below w.heap.size w w' → (w'.cell? ⟨gs, 1, none⟩ = some (.int .i64 s.fp) ∧ w'.cell? ⟨gs, 3, none⟩ = some (.int .i64 s.tp) ∧ w'.cell? ⟨gs, 4, none⟩ = some (.int .u32 s.seq) ∧ w'.cell? ⟨gs, 5, none⟩ = some (.int .u32 s.ack) ∧
      w'.cell? ⟨gn, 0, none⟩ = some (.int .i64 (20 + m)) ∧ w'.cell? ⟨gs, 6, none⟩ = some (.int .i64 s.fl) ∧ w'.cell? ⟨gs, 7, none⟩ = some (.int .i64 s.win) ∧ w'.cell? ⟨gl, 0, none⟩ = some (.slice B m capm) ∧ w'.cell? ⟨gs, 10, none⟩ = some (.slice A n cap)) := fun w' hb =>
    ⟨(h1.below hb g1).cell 1, (h1.below hb g1).cell 3, (h1.below hb g1).cell 4, (h1.below hb g1).cell 5, (h2.below hb g2).cell 0, (h1.below hb g1).cell 6, (h1.below hb g1).cell 7, (h3.below hb g3).cell 0, (h1.below hb g1).cell 10⟩
  have K := Lib.hid key
  have H := Lib.hid hn
  have HM := Lib.hid hm
  clear key hn hm
  have hB0 := (Below.refl w.heap.size w).alloc (Nat.le_refl _) (.cells #[.slice none 0 0] 56)
  have hW0 := wr_new w
  have hz0 := hB0.size
  go_enter Try.func29, Try.ntmps29
  obtain ⟨c1, -, -, -, -, -, -, -, -⟩ := K.out _ hB0
  go_wp2_with fail
  refine (two_any s.fp w.heap.size w.heap.size _ (by simp only [List.length_append, be_length, List.length_nil]; (try have := H.out); (try have := HM.out); omega) _ hW0 hz0).mono ?_
  rintro e w1 ⟨rfl, hW1, hK1⟩
  have hB1 := hB0.trans (hK1.below hz0 hW0.wf)
  have hz1 := hB1.size
  clear c1
  obtain ⟨-, c1, -, -, -, -, -, -, -⟩ := K.out _ hB1
  go_wp2_with fail
  refine (two_any s.tp w.heap.size w.heap.size _ (by simp only [List.length_append, be_length, List.length_nil]; (try have := H.out); (try have := HM.out); omega) _ hW1 hz1).mono ?_
  rintro e w2 ⟨rfl, hW2, hK2⟩
  have hB2 := hB1.trans (hK2.below hz1 hW1.wf)
  have hz2 := hB2.size
  clear c1
  obtain ⟨-, -, c1, -, -, -, -, -, -⟩ := K.out _ hB2
  go_wp2_with fail
  refine (four_any s.seq q0 q1 w.heap.size w.heap.size _ (by simp only [List.length_append, be_length, List.length_nil]; (try have := H.out); (try have := HM.out); omega) _ hW2 hz2).mono ?_
  rintro e w3 ⟨rfl, hW3, hK3⟩
  have hB3 := hB2.trans (hK3.below hz2 hW2.wf)
  have hz3 := hB3.size
  clear c1
  obtain ⟨-, -, -, c1, -, -, -, -, -⟩ := K.out _ hB3
  go_wp2_with fail
  refine (four_any s.ack k0 k1 w.heap.size w.heap.size _ (by simp only [List.length_append, be_length, List.length_nil]; (try have := H.out); (try have := HM.out); omega) _ hW3 hz3).mono ?_
  rintro e w4 ⟨rfl, hW4, hK4⟩
  have hB4 := hB3.trans (hK4.below hz3 hW3.wf)
  have hz4 := hB4.size
  clear c1
  obtain ⟨-, -, -, -, c1, -, -, -, -⟩ := K.out _ hB4
  go_wp2_with fail
  refine (byte_any ((20 + (m : Int)) / 4 * 16) w.heap.size w.heap.size _ (by simp only [List.length_append, be_length, List.length_nil]; (try have := H.out); (try have := HM.out); omega) _ hW4 hz4).mono ?_
  rintro e w5 ⟨rfl, hW5, hK5⟩
  have hB5 := hB4.trans (hK5.below hz4 hW4.wf)
  have hz5 := hB5.size
  clear c1
  obtain ⟨-, -, -, -, -, c1, -, -, -⟩ := K.out _ hB5
  go_wp2_with fail
  refine (byte_any s.fl w.heap.size w.heap.size _ (by simp only [List.length_append, be_length, List.length_nil]; (try have := H.out); (try have := HM.out); omega) _ hW5 hz5).mono ?_
  rintro e w6 ⟨rfl, hW6, hK6⟩
  have hB6 := hB5.trans (hK6.below hz5 hW5.wf)
  have hz6 := hB6.size
  clear c1
  obtain ⟨-, -, -, -, -, -, c1, -, -⟩ := K.out _ hB6
  go_wp2_with fail
  refine (two_any s.win w.heap.size w.heap.size _ (by simp only [List.length_append, be_length, List.length_nil]; (try have := H.out); (try have := HM.out); omega) _ hW6 hz6).mono ?_
  rintro e w7 ⟨rfl, hW7, hK7⟩
  have hB7 := hB6.trans (hK7.below hz6 hW6.wf)
  have hz7 := hB7.size
  clear c1
  go_wp2_with fail
  refine (two_any x w.heap.size w.heap.size _ (by simp only [List.length_append, be_length, List.length_nil]; (try have := H.out); (try have := HM.out); omega) _ hW7 hz7).mono ?_
  rintro e w8 ⟨rfl, hW8, hK8⟩
  have hB8 := hB7.trans (hK8.below hz7 hW7.wf)
  have hz8 := hB8.size
  go_wp2_with fail
  refine (two_any 0 w.heap.size w.heap.size _ (by simp only [List.length_append, be_length, List.length_nil]; (try have := H.out); (try have := HM.out); omega) _ hW8 hz8).mono ?_
  rintro e w9 ⟨rfl, hW9, hK9⟩
  have hB9 := hB8.trans (hK9.below hz8 hW8.wf)
  have hz9 := hB9.size
  obtain ⟨-, -, -, -, -, -, -, c1, -⟩ := K.out _ hB9
  go_wp2_with fail
  refine (raw_any B m capm _ o HM.out (by omega) w.heap.size w.heap.size _ (by simp only [List.length_append, be_length, List.length_nil]; (try have := H.out); (try have := HM.out); omega) _ (Rw.below ho hB9) hW9 hz9).mono ?_
  rintro e w10 ⟨rfl, hW10, hK10⟩
  have hB10 := hB9.trans (hK10.below hz9 hW9.wf)
  have hz10 := hB10.size
  clear c1
  obtain ⟨-, -, -, -, -, -, -, -, c1⟩ := K.out _ hB10
  go_wp2_with fail
  refine (raw_any A n cap _ d H.out (by omega) w.heap.size w.heap.size _ (by simp only [List.length_append, be_length, List.length_nil]; (try have := H.out); (try have := HM.out); omega) _ (Rw.below hd hB10) hW10 hz10).mono ?_
  rintro e w11 ⟨rfl, hW11, hK11⟩
  have hB11 := hB10.trans (hK11.below hz10 hW10.wf)
  have hz11 := hB11.size
  clear c1
  go_wp2_with fail
  refine (bytes_any w.heap.size w.heap.size _ (by simp only [List.length_append, be_length, List.length_nil, H.out, HM.out]; omega) _ hW11).mono ?_
  rintro e w12 ⟨A', n', c', rfl, hO, hB12⟩
  go_wp2
  go_ret
  exact ⟨A', n', c', rfl, Ow.mono hO hz11, hB11.trans (hB12.mono hz11)⟩
end Go.Proofs.Ytifeomdmbjinoaa
