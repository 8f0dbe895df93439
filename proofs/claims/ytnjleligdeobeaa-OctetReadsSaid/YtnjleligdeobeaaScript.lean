/- Proved: what the laws' own helpers heavy, wrote and spoil of package wharflaw1 do, each by its walk. Conditions: as each says. -/
import Derived.Test.YtnjleligdeobeaaOps
import Derived.Test.YtnjleligdeobeaaWriter
import Derived.Test.YtnjleligdeobeaaMem
set_option linter.unusedVariables false
namespace Go.Proofs.Ytnjleligdeobeaa
open Go.RowKit

/-- How much a script is. -/
def htot : List OpV → Int
  | [] => 0
  | o :: r => 4 + o.2.2.length + htot r
theorem htot_append : ∀ (l m : List OpV), htot (l ++ m) = htot l + htot m
  | [], m => by simp [htot]
  | o :: r, m => by simp only [List.cons_append, htot, htot_append r m]; omega
theorem htot_nonneg : ∀ (l : List OpV), 4 * (l.length : Int) ≤ htot l
  | [] => by simp [htot]
  | o :: r => by have := htot_nonneg r; simp only [htot, List.length_cons]; omega
theorem htot_take_le (l : List OpV) (k : Nat) : htot (l.take k) ≤ htot l := by
  have h := htot_append (l.take k) (l.drop k)
  rw [List.take_append_drop] at h
  have := htot_nonneg (l.drop k)
  omega
theorem take_snoc_some {α : Type} (l : List α) (k : Nat) (o : α) (h : l[k]? = some o) : l.take (k + 1) = l.take k ++ [o] := by
  rw [List.take_add_one, h]; rfl

theorem heavy_any (A : Option Addr) (n c B : Nat) (l : List OpV) (hn : l.length = n) (hc : n ≤ c) (hmax : c * 40 ≤ 140737488351232) (w : World) (hr : Ops w B A l) :
    Calls Try.prog 21 #[.slice A n c] w fun e w' => e = .returned (.bool (decide (4000 < htot l))) ∧ w = w' := by
  have Hn := Lib.hid hn
  clear hn
  go_enter Try.func21, Try.ntmps21
  go_wp2
  go_loop [3, 4] (fun s i => ∃ (k : Nat) (t : Int), k ≤ n ∧ i = .int .i64 k ∧ s = .int .i64 t ∧ Hid (t = htot (l.take k)) ∧ 0 ≤ t ∧ t ≤ 140737488400000) (fun _ i => n - (intOf i).toNat)
  case atStart => exact ⟨0, 0, Nat.zero_le _, rfl, rfl, by show (0 : Int) = _; simp [htot], by omega, by omega⟩
  case round =>
    obtain ⟨k, t, hk, rfl, rfl, HT, ht0, ht1⟩ := hrel
    rcases Nat.lt_or_ge k n with c1 | c1
    · rcases (by omega : t ≤ 4000 ∨ 4000 < t) with c2 | c2
      · obtain ⟨o, ho⟩ : ∃ o, l[k]? = some o := ⟨_, List.getElem?_eq_getElem (by rw [Hn.out]; exact c1)⟩
        obtain ⟨b, off, rfl, hb, hA⟩ := hr (by rw [Hn.out]; omega)
        obtain ⟨A2, n2, c2, hx, hr2, hn2, hc2, hc3⟩ := (hA k o ho).raw
        have HT2 : Hid (t + 4 + n2 = htot (l.take (k + 1))) := by
          show _ = _
          rw [take_snoc_some l k o ho, htot_append, ← HT.out, ← hn2]
          simp only [htot]; omega
        clear hA hn2 ho
        go_wp2
        go_round
        case rel => exact ⟨k + 1, t + 4 + n2, by omega, by go_num, by go_num, HT2, by omega, by omega⟩
        case measure => simp [intOf]; omega
      · have HF : Hid (4000 < htot l) := by
          show _ < _
          have := htot_take_le l k
          rw [← HT.out] at this; omega
        go_wp2
        go_ret
        exact ⟨eq_true_bool HF.out, rfl⟩
    · have HE : Hid (t = htot l) := by
        show _ = _
        rw [HT.out, List.take_of_length_le (by rw [Hn.out]; omega)]
      rcases (by omega : t ≤ 4000 ∨ 4000 < t) with c2 | c2
      · have HF : Hid (htot l ≤ 4000) := by show _ ≤ _; rw [← HE.out]; omega
        go_wp2
        go_ret
        refine ⟨?_, rfl⟩
        have e : decide (4000 < htot l) = false := decide_eq_false (by have := HF.out; omega)
        rw [e]
        first | rfl | (simp; omega)
      · have HF : Hid (4000 < htot l) := by show _ < _; rw [← HE.out]; omega
        go_wp2
        go_ret
        exact ⟨eq_true_bool HF.out, rfl⟩

/-- What a step writes. -/
def encOp (o : OpV) : List Int := if o.1 = 1 then be 1 o.2.1 else if o.1 = 2 then be 2 o.2.1 else if o.1 = 4 then be 4 (o.2.1 % 4294967296) else o.2.2
def encs : List OpV → List Int
  | [] => []
  | o :: r => encOp o ++ encs r
theorem encs_append : ∀ (l m : List OpV), encs (l ++ m) = encs l ++ encs m
  | [], m => rfl
  | o :: r, m => by simp only [List.cons_append, encs, encs_append r m, List.append_assoc]
theorem encOp_length (o : OpV) : ((encOp o).length : Int) ≤ 4 + o.2.2.length := by
  unfold encOp
  repeat' split
  all_goals try simp only [be_length]
  all_goals omega
theorem encs_length : ∀ (l : List OpV), ((encs l).length : Int) ≤ htot l
  | [] => by simp [encs, htot]
  | o :: r => by
    have h1 := encOp_length o
    have h2 := encs_length r
    simp only [encs, htot, List.length_append]; omega
theorem encOp_bs (o : OpV) (h : Bs o.2.2) : Bs (encOp o) := by
  unfold encOp
  repeat' split
  all_goals first | exact be_bs _ _ | exact h
theorem encs_bs : ∀ (l : List OpV), (∀ o ∈ l, Bs o.2.2) → Bs (encs l)
  | [], _ => Bs.nil
  | o :: r, h => (encOp_bs o (h o (by simp))).append (encs_bs r fun x hx => h x (by simp [hx]))

theorem rtwo_any (v : Int) (w : World) :
    Calls Try.prog 40 #[.int .i64 v] w fun e w' => e = .returned (.slice (some ⟨w.heap.size, 0, none⟩) 2 2) ∧ w.alloc (.cells (by8 (be 2 v)).toArray 5) = w' := by
  go_enter Try.func40, Try.ntmps40
  go_wp2
  go_ret
  refine ⟨rfl, ?_⟩
  simp [by8, be]
theorem rfour_any (v : Int) (h0 : 0 ≤ v) (h1 : v ≤ 4294967295) (w : World) :
    Calls Try.prog 41 #[.int .u32 v] w fun e w' => e = .returned (.slice (some ⟨w.heap.size, 0, none⟩) 4 4) ∧ w.alloc (.cells (by8 (be 4 v)).toArray 5) = w' := by
  go_enter Try.func41, Try.ntmps41
  go_wp2
  go_ret
  refine ⟨rfl, ?_⟩
  rw [be_4' v h0 h1]
  simp [by8, be]

theorem wrote_any (A : Option Addr) (n c B : Nat) (l : List OpV) (hn : l.length = n) (hc : n ≤ c) (hmax : c * 40 ≤ 140737488351232) (hl : htot l ≤ 4000) (w : World) (hr : Ops w B A l) (hB : B ≤ w.heap.size) :
    Calls Try.prog 27 #[.slice A n c] w fun e w' => ∃ A' n' c', e = .returned (.slice A' n' c') ∧ OB 5 w' w.heap.size A' n' c' (encs l) ∧ Below w.heap.size w w' := by
  have Hn := Lib.hid hn
  clear hn
  go_enter Try.func27, Try.ntmps27
  go_wp2
  go_loopw [3, 4] (fun s i wr => ∃ (k : Nat) (A1 : Option Addr) (n1 c1 : Nat), k ≤ n ∧ i = .int .i64 k ∧ s = .slice A1 n1 c1 ∧ n1 ≤ 4000 ∧ OB 5 wr w.heap.size A1 n1 c1 (encs (l.take k)) ∧ Below w.heap.size w wr) (fun _ i _ => n - (intOf i).toNat)
  case atStart => exact ⟨0, none, 0, 0, Nat.zero_le _, rfl, rfl, by omega, Ow.none_ _ _ _, Below.refl _ _⟩
  case round =>
    obtain ⟨k, A1, n1, c1, hk, rfl, rfl, hn1, hO, hBl⟩ := hrel
    have hz := hBl.size
    rcases Nat.lt_or_ge k n with d1 | d1
    · obtain ⟨o, ho⟩ : ∃ o, l[k]? = some o := ⟨_, List.getElem?_eq_getElem (by rw [Hn.out]; exact d1)⟩
      obtain ⟨b, off, rfl, hb, hA⟩ := (hr.below (hBl.mono hB)) (by rw [Hn.out]; omega)
      have hA := hA k o ho
      have HT : Hid (encs (l.take (k + 1)) = encs (l.take k) ++ encOp o) := by
        show _ = _
        rw [take_snoc_some l k o ho, encs_append]; simp [encs]
      have HL : Hid (((encs (l.take (k + 1))).length : Int) ≤ 4000) := by
        show _ ≤ _
        have h1 := encs_length (l.take (k + 1))
        have h2 := htot_take_le l (k + 1)
        omega
      have h0 := hA.kind
      have h1 := hA.num
      have ok1 := hA.ok1
      unfold i64ok at ok1
      obtain ⟨A2, n2, c2, h2, hr2, hn2, hc2, hc3⟩ := hA.raw
      clear ho hA
      obtain ⟨kd, v, raw⟩ := o
      simp only at h0 h1 h2 hr2 hn2 ok1
      rcases (by omega : kd = 1 ∨ kd = 2 ∨ kd = 4 ∨ (kd ≠ 1 ∧ kd ≠ 2 ∧ kd ≠ 4)) with rfl | rfl | rfl | ⟨e1, e2, e3⟩
      · have HEO : Hid (encOp (1, v, raw) = [v % 256]) := by show _ = _; simp [encOp, be]
        clear hn2
        go_wp2_with (first
          | (at_builtin; refine ap8_lit rfl (.tmp 25) (.tmp 32) rfl w.heap.size rfl hO [v % 256] (by rfl) rfl (by rfl) (by omega) (by omega) ?_; intro A3 c3 w3 hO3 hB3 hg3 hA3 hz3 hc3))
        go_roundw
        case rel => exact ⟨k + 1, A3, _, c3, by omega, by go_num, rfl, by have := HL.out; rw [HT.out, HEO.out, hO3.length] at this; omega, by rw [HT.out, HEO.out]; exact hO3, hBl.trans hB3⟩
        case measure => simp [intOf]; omega
      · have HEO : Hid (encOp (2, v, raw) = be 2 v) := by show _ = _; simp [encOp]
        clear hn2
        go_wp2_with (first
          | (go_at_call 40; refine (rtwo_any v _).mono ?_; rintro e w2 ⟨rfl, rfl⟩)
          | (at_builtin; refine ap8_lit rfl (.tmp 36) (.tmp 42) rfl w.heap.size rfl hO (be 2 v) (by rfl) rfl (by rfl) (by omega) (by omega) ?_; intro A3 c3 w3 hO3 hB3 hg3 hA3 hz3 hc3))
        go_roundw
        case rel => exact ⟨k + 1, A3, _, c3, by omega, by go_num, rfl, by have := HL.out; rw [HT.out, HEO.out, hO3.length] at this; omega, by rw [HT.out, HEO.out]; exact hO3, hBl.trans hB3⟩
        case measure => simp [intOf]; omega
      · have HEO : Hid (encOp (4, v, raw) = be 4 (v % 4294967296)) := by show _ = _; simp [encOp]
        clear hn2
        have f0 : 0 ≤ v % 4294967296 := by omega
        have f1 : v % 4294967296 ≤ 4294967295 := by omega
        go_wp2_with (first
          | (go_at_call 41; refine (rfour_any (v % 4294967296) f0 f1 _).mono ?_; rintro e w2 ⟨rfl, rfl⟩)
          | (at_builtin; refine ap8_lit rfl (.tmp 46) (.tmp 53) rfl w.heap.size rfl hO (be 4 (v % 4294967296)) (by rfl) rfl (by rfl) (by omega) (by omega) ?_; intro A3 c3 w3 hO3 hB3 hg3 hA3 hz3 hc3))
        go_roundw
        case rel => exact ⟨k + 1, A3, _, c3, by omega, by go_num, rfl, by have := HL.out; rw [HT.out, HEO.out, hO3.length] at this; omega, by rw [HT.out, HEO.out]; exact hO3, hBl.trans hB3⟩
        case measure => simp [intOf]; omega
      · have HEO : Hid (encOp (kd, v, raw) = raw) := by
          show _ = _
          simp [encOp, e1, e2, e3]
        have g1 : (kd == 1) = false := by simpa using e1
        have g2 : (kd == 2) = false := by simpa using e2
        have g3 : (kd == 4) = false := by simpa using e3
        have HN2 := Lib.hid hn2
        have hn4 : n2 ≤ 4000 := by
          have := HL.out
          rw [HT.out, HEO.out, List.length_append, hn2] at this
          omega
        clear hn2 e1 e2 e3
        go_wp2_with (first
          | (at_builtin; refine ap8 rfl (.tmp 16) (.tmp 21) rfl w.heap.size rfl hO rfl hr2 HN2.out (by omega) (by omega) ?_; intro A3 c3 w3 hO3 hB3 hg3 hA3 hz3 hc3))
        go_roundw
        case rel => exact ⟨k + 1, A3, _, c3, by omega, by go_num, rfl, by have := HL.out; rw [HT.out, HEO.out, hO3.length] at this; omega, by rw [HT.out, HEO.out]; exact hO3, hBl.trans hB3⟩
        case measure => simp [intOf]; omega
    · have HT : Hid (l.take k = l) := by show _ = _; exact List.take_of_length_le (by rw [Hn.out]; omega)
      go_wp2
      go_ret
      exact ⟨A1, n1, c1, rfl, by rw [← HT.out]; exact hO, hBl⟩

/-- spoil writes over a row of the caller's own, and over no other. -/
theorem spoil_any (A : Option Addr) (n c base : Nat) (l : List Int) (hn : n ≤ 4000) (w : World) (hO : OB 5 w base A n c l) (hbase : base ≤ w.heap.size) :
    Calls Try.prog 26 #[.slice A n c] w fun e w' => e = .returned (.tuple #[]) ∧ w.grownBy w' (blk A) := by
  go_enter Try.func26, Try.ntmps26
  go_wp2_with (first
    | (at_builtin; refine ap8_one rfl (.tmp 4) (.tmp 5) rfl base rfl hO rfl (by omega) (by omega) ?_; intro A1 c1 w1 hO1 hB1 hg1 hA1 hz1 hc1))
  go_loopw [3] (fun i wr => ∃ (k : Nat) (l2 : List Int), k ≤ n + 1 ∧ i = .int .i64 k ∧ OB 5 wr base A1 (n + 1) c1 l2 ∧ w.grownBy wr (blk A)) (fun i _ => n + 1 - (intOf i).toNat)
  case atStart => exact ⟨0, _, Nat.zero_le _, rfl, hO1, hg1⟩
  case round =>
    obtain ⟨k, l2, hk, rfl, hO2, hg2⟩ := hrel
    rcases Nat.lt_or_ge k (n + 1) with d1 | d1
    · obtain ⟨g, rfl, hg, hc, hf⟩ := hO2.lit_at d1
      have hst := hO2.store d1 98
      have hgb : w.grownBy (wr.setCell ⟨g, k, none⟩ (.int .u8 98)) (blk A) := grownBy_setCell hg2 (by
        rcases hA1 with h | h
        · exact .inl (by rw [← h]; rfl)
        · exact .inr (h g rfl)) _
      go_wp2
      go_roundw
      case rel => exact ⟨k + 1, _, by omega, by go_num, hst, hgb⟩
      case measure => simp [intOf]; omega
    · go_wp2
      go_end0
      exact ⟨rfl, hg2⟩
end Go.Proofs.Ytnjleligdeobeaa
