/- Proved: Set of the reference's wheel. Conditions: the wheel lies in memory, its keys are apart. -/
import Derived.Test.YtnnblakjaiccfaaRfW
set_option linter.unusedVariables false
set_option linter.unusedSimpArgs false
namespace Go.Proofs.Ytnnblakjaiccfaa
open Go.RowKit
/-- One stands ahead of a key at a tick. -/
def bef (t : Int × Int) (k a : Int) : Prop := t.2 < a ∨ (t.2 = a ∧ t.1 < k)
/-- What Set leaves. -/
def RsetPost (q : Nat) (A : Option Addr) (S : Mt) (k a : Int) (w : World) (e : Ending) (w' : World) : Prop :=
  (a < 0 ∨ 1099511627776 < a ∧ 0 ≤ a) ∧ e = .returned (.int .i64 1) ∧ (∃ n c, RfAt w' q A n c S) ∧ Chg (fun b => b = q) w w' ∨
  (0 ≤ a ∧ a ≤ 1099511627776) ∧ getM S k = none ∧ 256 ≤ S.length ∧ e = .returned (.int .i64 6) ∧ (∃ n c, RfAt w' q A n c S) ∧ Chg (fun b => b = q) w w' ∨
  (0 ≤ a ∧ a ≤ 1099511627776) ∧ ¬ (getM S k = none ∧ 256 ≤ S.length) ∧ e = .returned (.int .i64 0) ∧ ∃ (j : Nat) (A' : Option Addr) (n' c' : Nat), RfAt w' q A' n' c' ((delM S k).take j ++ (k, a) :: (delM S k).drop j) ∧
    (∀ t ∈ (delM S k).take j, bef t k a) ∧ (∀ t, (delM S k)[j]? = some t → ¬ bef t k a) ∧ Chg (fun b => b = q) w w' ∧ ∀ b, blk A' = some b → w.heap.size ≤ b
theorem rset_fin {q : Nat} {A : Option Addr} {S T : Mt} {k a : Int} {w w2 W5 : World} {A5 : Option Addr} {j N c5 : Nat} {x : Value} (hd : 0 ≤ a ∧ a ≤ 1099511627776) (hng : ¬ (getM S k = none ∧ 256 ≤ S.length)) (hT : delM S k = T)
    (hO : Rt W5 w2.heap.size (.slice A5 N c5) N (T.take j ++ [(k, a)] ++ T.drop j)) (hB : Bk W5 q 43 #[x]) (hql : q < w2.heap.size) (hb : ∀ t ∈ T.take j, bef t k a) (hnb : ∀ t, T[j]? = some t → ¬ bef t k a)
    (hC2 : Chg (fun b => b = q) w w2) (hC5 : Chg (fun b => w2.heap.size ≤ b) w2 W5) : RsetPost q A S k a w (.returned (.int .i64 0)) (W5.setCell ⟨q, 0, none⟩ (.slice A5 N c5)) := by
  obtain ⟨h1, h2, h3, h4⟩ := hO.rw_
  have hs2 := hC2.size
  have hq5 := hB.lt
  refine .inr (.inr ⟨hd, hng, rfl, j, A5, N, c5, ⟨hB.set 0 _, ?_, ?_, h3, fun e => by have := h4 q e; omega⟩, by rw [hT]; exact hb, by rw [hT]; exact hnb, ?_, fun b hb' => Nat.le_trans hs2 (h4 b hb')⟩)
  · rw [hT, show T.take j ++ (k, a) :: T.drop j = T.take j ++ [(k, a)] ++ T.drop j by simp]
    refine Rw.more (B := W5.heap.size) ?_ (Nat.le_of_eq (size_setCell _ _ _).symm)
    exact Rw.grownNe h1 (grownBy_setCell (World.grownBy.refl W5 (some q)) (.inl rfl) _) (Nat.le_refl _) (fun e => by have := h4 q e; omega)
  · rw [hT, show T.take j ++ (k, a) :: T.drop j = T.take j ++ [(k, a)] ++ T.drop j by simp]; exact h2
  · exact Chg.setCell (hC2.trans hC5 (fun x hx => .inr (Nat.le_trans hs2 hx))) (.inl rfl) _
set_option maxHeartbeats 4000000 in
set_option maxRecDepth 100000 in
theorem rset_any (q : Nat) (A : Option Addr) (n c : Nat) (S : Mt) (k a : Int) (w : World) (h : RfAt w q A n c S) (hn : n ≤ 256) (hk : (S.map (·.1)).Nodup) :
    Calls Try.prog 23 #[.pointer (some ⟨q, 0, none⟩), .int .i64 k, .int .i64 a] w (RsetPost q A S k a w) := by
  have HH := Lib.hid h
  have HK := Lib.hid hk
  have hlen := h.2.2.1
  have HL := Lib.hid hlen
  have hcl := h.cellL
  rcases (by omega : a < 0 ∨ (0 ≤ a ∧ 1099511627776 < a) ∨ (0 ≤ a ∧ a ≤ 1099511627776)) with d | ⟨d, d2⟩ | ⟨d, d2⟩
  · have HF : Hid (∀ e, e = .returned (.int .i64 1) → RsetPost q A S k a w e w) := Lib.hid (fun e he => .inl ⟨.inl d, he, ⟨n, c, h⟩, Chg.refl _ _⟩)
    have b1 : decide (a < 0) = true := decide_eq_true d
    clear h hk hlen
    go_enter Try.func23, Try.ntmps23
    go_wp2
    go_ret
    exact HF.out _ rfl
  · have HF : Hid (∀ e, e = .returned (.int .i64 1) → RsetPost q A S k a w e w) := Lib.hid (fun e he => .inl ⟨.inr ⟨d2, d⟩, he, ⟨n, c, h⟩, Chg.refl _ _⟩)
    have b1 : decide (a < 0) = false := decide_eq_false (by omega)
    have b2 : decide (1099511627776 < a) = true := decide_eq_true d2
    clear h hk hlen
    go_enter Try.func23, Try.ntmps23
    go_wp2
    go_ret
    exact HF.out _ rfl
  have b1 : decide (a < 0) = false := decide_eq_false (by omega)
  have b2 : decide (1099511627776 < a) = false := decide_eq_false (by omega)
  have hsp := spot_any q A n c S k w h (by omega)
  have HSP : Hid (Calls Try.prog 32 #[.pointer (some ⟨q, 0, none⟩), .int .i64 k] w fun e w' => ∃ z, e = .returned (.int .i64 z) ∧ ((z = -1 ∧ getM S k = none) ∨ (0 ≤ z ∧ ∃ b, getM S k = some b)) ∧ ∃ j, w' = w.drewN j) :=
    Lib.hid (hsp.mono fun e w' ⟨z, h1, h2, h3⟩ => ⟨z, h1, by
      rcases spotIs_at h2 hk with ⟨rfl, h4⟩ | ⟨i, b, rfl, _, h4⟩
      · exact .inl ⟨rfl, h4⟩
      · exact .inr ⟨by omega, b, h4⟩, h3⟩)
  clear hsp h hk hlen
  go_enter Try.func23, Try.ntmps23
  go_wp2_with fail
  refine HSP.out.mono ?_
  rintro e w1 ⟨z, rfl, hz, jj, rfl⟩
  have hcl1 : (w.drewN jj).cell? ⟨q, 0, none⟩ = some (.slice A n c) := hcl
  rcases (show ((z = -1 ∧ getM S k = none) ∧ 256 ≤ n) ∨ ((z = -1 ∧ getM S k = none) ∧ n < 256) ∨ (0 ≤ z ∧ ∃ b, getM S k = some b) from by
    rcases hz with hz | hz
    · rcases Nat.lt_or_ge n 256 with d | d
      · exact .inr (.inl ⟨hz, d⟩)
      · exact .inl ⟨hz, d⟩
    · exact .inr (.inr hz)) with ⟨⟨rfl, hg⟩, hf⟩ | hok
  · have HF : Hid (∀ e, e = .returned (.int .i64 6) → RsetPost q A S k a w e (w.drewN jj)) := Lib.hid (fun e he => .inr (.inl ⟨⟨d, d2⟩, hg, by rw [HL.out]; exact hf, he, ⟨n, c, HH.out.drewN jj⟩, (Chg.refl _ w).drewN jj⟩))
    have b3 : decide ((256 : Int) ≤ (n : Int)) = true := decide_eq_true (by omega)
    have b3' : decide (256 ≤ n) = true := decide_eq_true hf
    clear hg hz
    go_wp2
    go_ret
    exact HF.out _ rfl
  · have HNG : Hid (¬ (getM S k = none ∧ 256 ≤ S.length)) := Lib.hid (fun ⟨h1, h2⟩ => by
      rcases hok with ⟨_, h3⟩ | ⟨_, b, h3⟩
      · rw [HL.out] at h2; omega
      · rw [h1] at h3; cases h3)
    have HRC := Lib.hid (rcan_any q A n c S k (w.drewN jj) (HH.out.drewN jj) (by omega) HK.out)
    have HCL1 : Hid (w.heap.size = (w.drewN jj).heap.size) := Lib.hid rfl
    obtain ⟨T, hT⟩ : ∃ T, delM S k = T := ⟨_, rfl⟩
    unfold RcanPost at HRC
    rw [hT] at HRC
    have HT := Lib.hid hT
    have hT256 : T.length ≤ 256 := by rw [← hT]; have := List.length_filter_le (fun t : Int × Int => decide (t.1 ≠ k)) S; unfold delM; have h3 := HL.out; omega
    clear hT hz
    rcases hok with ⟨⟨rfl, _⟩, hn2⟩ | ⟨hz0, _⟩
    case' inl =>
      have b3 : decide ((256 : Int) ≤ (n : Int)) = false := decide_eq_false (by omega)
      have b3' : decide (256 ≤ n) = false := decide_eq_false (by omega)
    case' inr =>
      have b4 : decide (z < 0) = false := decide_eq_false (by omega)
    all_goals
      go_wp2_with fail
      refine HRC.out.mono ?_
      rintro e w2 ⟨rfl, A2, n2, c2, hr2, hc2, hb2⟩
      have HR2 := Lib.hid hr2
      have HC2 := Lib.hid hc2
      have HB2 := Lib.hid hb2
      have hn2 : n2 ≤ 256 := by rw [← hr2.2.2.1]; exact hT256
      have hcl2 := hr2.cellL
      have HX0 : Hid (∀ t ∈ T.take 0, bef t k a) := Lib.hid (fun t ht => by simp at ht)
      clear hr2 hc2 hb2
      go_wp2
      go_loopw [7] (fun v7 wr => ∃ j m : Nat, j ≤ n2 ∧ v7 = .int .i64 j ∧ wr = w2.drewN m ∧ Hid (∀ t ∈ T.take j, bef t k a)) (fun v7 _ => n2 - (intOf v7).toNat)
      case atStart => exact ⟨0, 0, Nat.zero_le _, rfl, rfl, HX0⟩
      case round =>
        obtain ⟨j, m, hj, rfl, rfl, HX⟩ := hrel
        rcases Nat.lt_or_ge j n2 with y | y
        · obtain ⟨t, ht⟩ : ∃ t, T[j]? = some t := ⟨_, List.getElem?_eq_getElem (by rw [HR2.out.2.2.1]; exact y)⟩
          obtain ⟨g, off, hA, hg, d0, d1⟩ := HR2.out.at_ ht
          subst hA
          have y' : (j : Int) < n2 := by omega
          have y1 : decide ((j : Int) < n2) = true := decide_eq_true y'
          have y2 : decide (j < n2) = true := decide_eq_true y
          obtain ⟨t1, t2⟩ := t
          simp only at d0 d1
          have HNX : bef (t1, t2) k a → Hid (∀ t ∈ T.take (j + 1), bef t k a) := fun hb u hu => by
            rw [List.take_add_one, ht] at hu
            rcases List.mem_append.1 hu with hu | hu
            · exact HX.out u hu
            · simp at hu; subst hu; exact hb
          have HTJ := Lib.hid ht
          clear ht
          rcases (by omega : t2 < a ∨ (t2 = a ∧ t1 < k) ∨ (t2 = a ∧ ¬ t1 < k) ∨ (¬ t2 < a ∧ ¬ t2 = a)) with z1 | ⟨z1, z2⟩ | ⟨z1, z2⟩ | ⟨z1, z2⟩
          · have f1 : decide (t2 < a) = true := decide_eq_true z1
            have HN := HNX (.inl z1)
            clear HNX
            go_wp2
            go_roundw
            case rel => exact ⟨j + 1, _, by omega, by go_num, rfl, HN⟩
            case measure => simp [intOf]; omega
          · have f1 : decide (t2 < a) = false := decide_eq_false (by omega)
            have f2 : (t2 == a) = true := beq_iff_eq.2 z1
            have f3 : decide (t1 < k) = true := decide_eq_true z2
            have HN := HNX (.inr ⟨z1, z2⟩)
            clear HNX z1
            go_wp2
            go_roundw
            case rel => exact ⟨j + 1, _, by omega, by go_num, rfl, HN⟩
            case measure => simp [intOf]; omega
          · have f1 : decide (t2 < a) = false := decide_eq_false (by omega)
            have f2 : (t2 == a) = true := beq_iff_eq.2 z1
            have f3 : decide (t1 < k) = false := decide_eq_false z2
            have HNB : Hid (∀ t, T[j]? = some t → ¬ bef t k a) := Lib.hid (fun t ht => by rw [HTJ.out] at ht; injection ht with ht; subst ht; unfold bef; omega)
            clear HNX z1
            have hqlt : q < (w2.drewN m).heap.size := HR2.out.lt
            have hjc : j ≤ c2 := by have := HR2.out.2.2.2.1; omega
            have hcx : ((w2.drewN m).alloc (.cells #[] 60)).cell? ⟨q, 0, none⟩ = some (.slice (some ⟨g, off, none⟩) n2 c2) := (World.cell?_alloc_lt _ _ _ hqlt).trans hcl2
            have HO1 : Hid (Rt ((w2.drewN m).alloc (.cells #[] 60)) w2.heap.size (.slice (some ⟨w2.heap.size, 0, none⟩) 0 0) 0 []) := Lib.hid ⟨rfl, .inr ⟨w2.heap.size, 0, #[], rfl, Nat.le_refl _, heap_alloc_new (w2.drewN m) _, Nat.le_refl _, Nat.zero_le _, rfl, rfl⟩⟩
            have hsr1 : Rw ((w2.drewN m).alloc (.cells #[] 60)) w2.heap.size (some ⟨g, off, none⟩) (tmsC (T.take j)) := by
              rw [tmsC_take]
              exact Rw.alloc (Rw.drewN (Rw.take HR2.out.2.1 (j * 2)) m) (Nat.le_refl _) _
            have hm1 : (T.take j).length = j := by rw [List.length_take, HR2.out.2.2.1]; omega
            have hb1 : 0 + j ≤ 100000 := by omega
            have hs1 : w2.heap.size ≤ ((w2.drewN m).alloc (.cells #[] 60)).heap.size := by rw [World.size_alloc]; exact Nat.le_succ _
            have hchA : ∀ (W3 W4 : World) (b3 b4 : Option Nat) (ob : Obj), ((w2.drewN m).alloc (.cells #[] 60)).grownBy W3 b3 → (∀ b, b3 = some b → w2.heap.size ≤ b) → (W3.alloc ob).grownBy W4 b4 → (∀ b, b4 = some b → w2.heap.size ≤ b) → Chg (fun b => w2.heap.size ≤ b) w2 W4 := fun W3 W4 b3 b4 ob g3 h3 g4 h4 =>
              ((((Chg.refl _ w2).drewN m).alloc _).trans (Chg.of_grown (F := fun b => w2.heap.size ≤ b) g3 h3) (fun x hx => .inl hx)).alloc ob |>.trans (Chg.of_grown (F := fun b => w2.heap.size ≤ b) g4 h4) (fun x hx => .inl hx)
            have hb2 : j + 1 ≤ 100000 := by omega
            have hcj : ¬ c2 = j := by have := HR2.out.2.2.2.1; omega
            have hm5 : (T.drop j).length = n2 - j := by rw [List.length_drop, HR2.out.2.2.1]
            have hb5 : j + 1 + (n2 - j) ≤ 100000 := by omega
            have hsr4 : ∀ X, Chg (fun b => w2.heap.size ≤ b) w2 X → Rw X w2.heap.size (some ⟨g, off + j * 2, none⟩) (tmsC (T.drop j)) := fun X hX hn => by
              obtain ⟨b0, o0, e0, hb0, hcs⟩ := HR2.out.2.1 (by rw [tmsC_len, HR2.out.2.2.1]; omega)
              injection e0 with e0
              injection e0 with e1 e2
              subst e1; subst e2
              refine ⟨g, off + j * 2, rfl, hb0, fun i u hu => ?_⟩
              rw [tmsC_drop, List.getElem?_drop] at hu
              rw [Nat.add_assoc]
              exact (hX.cell (p := ⟨g, off + (j * 2 + i), none⟩) hb0 (Nat.not_le.2 hb0)).trans (hcs _ u hu)
            have hlit : ∀ W3 : World, Rw (W3.alloc (.cells #[.int .i64 k, .int .i64 a] 60)) (W3.heap.size + 1) (some ⟨W3.heap.size, 0, none⟩) (tmsC [(k, a)]) := fun W3 => rw_lit W3 60 [.int .i64 k, .int .i64 a]
            have hsa : ∀ W3 : World, ∀ ob, W3.heap.size ≤ (W3.alloc ob).heap.size := fun W3 ob => by rw [World.size_alloc]; exact Nat.le_succ _
            have hqb : ∀ b, w2.heap.size ≤ b → some q ≠ some b := fun b hb e => by injection e with e; have := HR2.out.lt; omega
            go_wp2_with (first
              | (at_builtin; refine ap_rt rfl (.tmp 75) (.tmp 81) rfl w2.heap.size rfl HO1.out rfl hsr1 hm1 hb1 hs1 ?_; intro A3 c3 W3 hO3 hG3; rw [Nat.zero_add, List.nil_append] at hO3)
              | (at_builtin; refine ap_rt rfl (.tmp 83) (.tmp 87) rfl w2.heap.size rfl (World.ownsRow.alloc hO3 _) rfl (hlit W3) rfl hb2 (Nat.le_trans (Nat.le_trans hs1 hG3.size) (hsa _ _)) ?_; intro A4 c4 W4 hO4 hG4; have hB4 := Bk.grown (Bk.alloc (Bk.grown (Bk.alloc (Bk.drewN HR2.out.1 m) _) hG3 (hqb _ (Nat.le_refl _))) _) hG4 (fun e => absurd (hO3.rw_.2.2.2 q e.symm) (by have := HR2.out.lt; omega)); have hcq4 : W4.cell? ⟨q, 0, none⟩ = some (.slice (some ⟨g, off, none⟩) n2 c2) := (hB4.cell 0).trans rfl; have hfq4 := hB4.frozen 0; have hC4 := hchA W3 W4 _ _ _ hG3 (fun b e => Nat.le_of_eq (Option.some.inj e)) hG4 (fun b e => hO3.rw_.2.2.2 b e); have hsr5 := hsr4 W4 hC4; have hs5 : w2.heap.size ≤ W4.heap.size := Nat.le_trans (Nat.le_trans (Nat.le_trans hs1 hG3.size) (hsa _ _)) hG4.size)
              | (at_builtin; refine ap_rt rfl (.tmp 90) (.tmp 96) rfl w2.heap.size rfl hO4 rfl hsr5 hm5 hb5 hs5 ?_; intro A5 c5 W5 hO5 hG5; have hB5 := Bk.grown hB4 hG5 (fun e => absurd (hO4.rw_.2.2.2 q e.symm) (by have := HR2.out.lt; omega)); have hC5 := hC4.trans (Chg.of_grown (F := fun b => w2.heap.size ≤ b) hG5 (fun b e => hO4.rw_.2.2.2 b e)) (fun x hx => .inl hx); have hfq5 := hB5.frozen 0; have hcq5 : W5.cell? ⟨q, 0, none⟩ = some (.slice (some ⟨g, off, none⟩) n2 c2) := (hB5.cell 0).trans rfl))
            go_ret
            exact rset_fin ⟨d, d2⟩ HNG.out HT.out hO5 hB5 HR2.out.lt HX.out HNB.out (((Chg.refl _ w).drewN jj).trans HC2.out (fun x hx => .inl hx)) hC5
          · have f1 : decide (t2 < a) = false := decide_eq_false z1
            have f2 : (t2 == a) = false := beq_eq_false_iff_ne.2 z2
            have HNB : Hid (∀ t, T[j]? = some t → ¬ bef t k a) := Lib.hid (fun t ht => by rw [HTJ.out] at ht; injection ht with ht; subst ht; unfold bef; omega)
            clear HNX
            have hqlt : q < (w2.drewN m).heap.size := HR2.out.lt
            have hjc : j ≤ c2 := by have := HR2.out.2.2.2.1; omega
            have hcx : ((w2.drewN m).alloc (.cells #[] 60)).cell? ⟨q, 0, none⟩ = some (.slice (some ⟨g, off, none⟩) n2 c2) := (World.cell?_alloc_lt _ _ _ hqlt).trans hcl2
            have HO1 : Hid (Rt ((w2.drewN m).alloc (.cells #[] 60)) w2.heap.size (.slice (some ⟨w2.heap.size, 0, none⟩) 0 0) 0 []) := Lib.hid ⟨rfl, .inr ⟨w2.heap.size, 0, #[], rfl, Nat.le_refl _, heap_alloc_new (w2.drewN m) _, Nat.le_refl _, Nat.zero_le _, rfl, rfl⟩⟩
            have hsr1 : Rw ((w2.drewN m).alloc (.cells #[] 60)) w2.heap.size (some ⟨g, off, none⟩) (tmsC (T.take j)) := by
              rw [tmsC_take]
              exact Rw.alloc (Rw.drewN (Rw.take HR2.out.2.1 (j * 2)) m) (Nat.le_refl _) _
            have hm1 : (T.take j).length = j := by rw [List.length_take, HR2.out.2.2.1]; omega
            have hb1 : 0 + j ≤ 100000 := by omega
            have hs1 : w2.heap.size ≤ ((w2.drewN m).alloc (.cells #[] 60)).heap.size := by rw [World.size_alloc]; exact Nat.le_succ _
            have hchA : ∀ (W3 W4 : World) (b3 b4 : Option Nat) (ob : Obj), ((w2.drewN m).alloc (.cells #[] 60)).grownBy W3 b3 → (∀ b, b3 = some b → w2.heap.size ≤ b) → (W3.alloc ob).grownBy W4 b4 → (∀ b, b4 = some b → w2.heap.size ≤ b) → Chg (fun b => w2.heap.size ≤ b) w2 W4 := fun W3 W4 b3 b4 ob g3 h3 g4 h4 =>
              ((((Chg.refl _ w2).drewN m).alloc _).trans (Chg.of_grown (F := fun b => w2.heap.size ≤ b) g3 h3) (fun x hx => .inl hx)).alloc ob |>.trans (Chg.of_grown (F := fun b => w2.heap.size ≤ b) g4 h4) (fun x hx => .inl hx)
            have hb2 : j + 1 ≤ 100000 := by omega
            have hcj : ¬ c2 = j := by have := HR2.out.2.2.2.1; omega
            have hm5 : (T.drop j).length = n2 - j := by rw [List.length_drop, HR2.out.2.2.1]
            have hb5 : j + 1 + (n2 - j) ≤ 100000 := by omega
            have hsr4 : ∀ X, Chg (fun b => w2.heap.size ≤ b) w2 X → Rw X w2.heap.size (some ⟨g, off + j * 2, none⟩) (tmsC (T.drop j)) := fun X hX hn => by
              obtain ⟨b0, o0, e0, hb0, hcs⟩ := HR2.out.2.1 (by rw [tmsC_len, HR2.out.2.2.1]; omega)
              injection e0 with e0
              injection e0 with e1 e2
              subst e1; subst e2
              refine ⟨g, off + j * 2, rfl, hb0, fun i u hu => ?_⟩
              rw [tmsC_drop, List.getElem?_drop] at hu
              rw [Nat.add_assoc]
              exact (hX.cell (p := ⟨g, off + (j * 2 + i), none⟩) hb0 (Nat.not_le.2 hb0)).trans (hcs _ u hu)
            have hlit : ∀ W3 : World, Rw (W3.alloc (.cells #[.int .i64 k, .int .i64 a] 60)) (W3.heap.size + 1) (some ⟨W3.heap.size, 0, none⟩) (tmsC [(k, a)]) := fun W3 => rw_lit W3 60 [.int .i64 k, .int .i64 a]
            have hsa : ∀ W3 : World, ∀ ob, W3.heap.size ≤ (W3.alloc ob).heap.size := fun W3 ob => by rw [World.size_alloc]; exact Nat.le_succ _
            have hqb : ∀ b, w2.heap.size ≤ b → some q ≠ some b := fun b hb e => by injection e with e; have := HR2.out.lt; omega
            go_wp2_with (first
              | (at_builtin; refine ap_rt rfl (.tmp 75) (.tmp 81) rfl w2.heap.size rfl HO1.out rfl hsr1 hm1 hb1 hs1 ?_; intro A3 c3 W3 hO3 hG3; rw [Nat.zero_add, List.nil_append] at hO3)
              | (at_builtin; refine ap_rt rfl (.tmp 83) (.tmp 87) rfl w2.heap.size rfl (World.ownsRow.alloc hO3 _) rfl (hlit W3) rfl hb2 (Nat.le_trans (Nat.le_trans hs1 hG3.size) (hsa _ _)) ?_; intro A4 c4 W4 hO4 hG4; have hB4 := Bk.grown (Bk.alloc (Bk.grown (Bk.alloc (Bk.drewN HR2.out.1 m) _) hG3 (hqb _ (Nat.le_refl _))) _) hG4 (fun e => absurd (hO3.rw_.2.2.2 q e.symm) (by have := HR2.out.lt; omega)); have hcq4 : W4.cell? ⟨q, 0, none⟩ = some (.slice (some ⟨g, off, none⟩) n2 c2) := (hB4.cell 0).trans rfl; have hfq4 := hB4.frozen 0; have hC4 := hchA W3 W4 _ _ _ hG3 (fun b e => Nat.le_of_eq (Option.some.inj e)) hG4 (fun b e => hO3.rw_.2.2.2 b e); have hsr5 := hsr4 W4 hC4; have hs5 : w2.heap.size ≤ W4.heap.size := Nat.le_trans (Nat.le_trans (Nat.le_trans hs1 hG3.size) (hsa _ _)) hG4.size)
              | (at_builtin; refine ap_rt rfl (.tmp 90) (.tmp 96) rfl w2.heap.size rfl hO4 rfl hsr5 hm5 hb5 hs5 ?_; intro A5 c5 W5 hO5 hG5; have hB5 := Bk.grown hB4 hG5 (fun e => absurd (hO4.rw_.2.2.2 q e.symm) (by have := HR2.out.lt; omega)); have hC5 := hC4.trans (Chg.of_grown (F := fun b => w2.heap.size ≤ b) hG5 (fun b e => hO4.rw_.2.2.2 b e)) (fun x hx => .inl hx); have hfq5 := hB5.frozen 0; have hcq5 : W5.cell? ⟨q, 0, none⟩ = some (.slice (some ⟨g, off, none⟩) n2 c2) := (hB5.cell 0).trans rfl))
            go_ret
            exact rset_fin ⟨d, d2⟩ HNG.out HT.out hO5 hB5 HR2.out.lt HX.out HNB.out (((Chg.refl _ w).drewN jj).trans HC2.out (fun x hx => .inl hx)) hC5
        · have hjn : n2 = j := by omega
          subst hjn
          have y1 : decide ((n2 : Int) < n2) = false := decide_eq_false (by omega)
          have y2 : decide (n2 < n2) = false := decide_eq_false (by omega)
          rcases A2 with _ | p
          · have hqlt : q < (w2.drewN m).heap.size := HR2.out.lt
            have hjc : n2 ≤ c2 := by have := HR2.out.2.2.2.1; omega
            have hcx : ((w2.drewN m).alloc (.cells #[] 60)).cell? ⟨q, 0, none⟩ = some (.slice (none) n2 c2) := (World.cell?_alloc_lt _ _ _ hqlt).trans hcl2
            have HO1 : Hid (Rt ((w2.drewN m).alloc (.cells #[] 60)) w2.heap.size (.slice (some ⟨w2.heap.size, 0, none⟩) 0 0) 0 []) := Lib.hid ⟨rfl, .inr ⟨w2.heap.size, 0, #[], rfl, Nat.le_refl _, heap_alloc_new (w2.drewN m) _, Nat.le_refl _, Nat.zero_le _, rfl, rfl⟩⟩
            have hsr1 : Rw ((w2.drewN m).alloc (.cells #[] 60)) w2.heap.size (none) (tmsC (T.take n2)) := by
              rw [tmsC_take]
              exact Rw.alloc (Rw.drewN (Rw.take HR2.out.2.1 (n2 * 2)) m) (Nat.le_refl _) _
            have hm1 : (T.take n2).length = n2 := by rw [List.length_take, HR2.out.2.2.1]; omega
            have hb1 : 0 + n2 ≤ 100000 := by omega
            have hs1 : w2.heap.size ≤ ((w2.drewN m).alloc (.cells #[] 60)).heap.size := by rw [World.size_alloc]; exact Nat.le_succ _
            have hchA : ∀ (W3 W4 : World) (b3 b4 : Option Nat) (ob : Obj), ((w2.drewN m).alloc (.cells #[] 60)).grownBy W3 b3 → (∀ b, b3 = some b → w2.heap.size ≤ b) → (W3.alloc ob).grownBy W4 b4 → (∀ b, b4 = some b → w2.heap.size ≤ b) → Chg (fun b => w2.heap.size ≤ b) w2 W4 := fun W3 W4 b3 b4 ob g3 h3 g4 h4 =>
              ((((Chg.refl _ w2).drewN m).alloc _).trans (Chg.of_grown (F := fun b => w2.heap.size ≤ b) g3 h3) (fun x hx => .inl hx)).alloc ob |>.trans (Chg.of_grown (F := fun b => w2.heap.size ≤ b) g4 h4) (fun x hx => .inl hx)
            have hb2 : n2 + 1 ≤ 100000 := by omega
            have hnil : ∀ (X : World) (A' : Option Addr), Rw X w2.heap.size A' (tmsC ([] : Mt)) := fun X A' hn => absurd hn (by simp [tmsC])
            have hdr : T.drop n2 = [] := List.drop_eq_nil_of_le (Nat.le_of_eq HR2.out.2.2.1)
            have hlit : ∀ W3 : World, Rw (W3.alloc (.cells #[.int .i64 k, .int .i64 a] 60)) (W3.heap.size + 1) (some ⟨W3.heap.size, 0, none⟩) (tmsC [(k, a)]) := fun W3 => rw_lit W3 60 [.int .i64 k, .int .i64 a]
            have hsa : ∀ W3 : World, ∀ ob, W3.heap.size ≤ (W3.alloc ob).heap.size := fun W3 ob => by rw [World.size_alloc]; exact Nat.le_succ _
            have hqb : ∀ b, w2.heap.size ≤ b → some q ≠ some b := fun b hb e => by injection e with e; have := HR2.out.lt; omega
            go_wp2_with (first
              | (at_builtin; refine ap_rt rfl (.tmp 75) (.tmp 81) rfl w2.heap.size rfl HO1.out rfl hsr1 hm1 hb1 hs1 ?_; intro A3 c3 W3 hO3 hG3; rw [Nat.zero_add, List.nil_append] at hO3)
              | (at_builtin; refine ap_rt rfl (.tmp 83) (.tmp 87) rfl w2.heap.size rfl (World.ownsRow.alloc hO3 _) rfl (hlit W3) rfl hb2 (Nat.le_trans (Nat.le_trans hs1 hG3.size) (hsa _ _)) ?_; intro A4 c4 W4 hO4 hG4; have hB4 := Bk.grown (Bk.alloc (Bk.grown (Bk.alloc (Bk.drewN HR2.out.1 m) _) hG3 (hqb _ (Nat.le_refl _))) _) hG4 (fun e => absurd (hO3.rw_.2.2.2 q e.symm) (by have := HR2.out.lt; omega)); have hcq4 : W4.cell? ⟨q, 0, none⟩ = some (.slice (none) n2 c2) := (hB4.cell 0).trans rfl; have hfq4 := hB4.frozen 0; have hC4 := hchA W3 W4 _ _ _ hG3 (fun b e => Nat.le_of_eq (Option.some.inj e)) hG4 (fun b e => hO3.rw_.2.2.2 b e); have hsr5 := hnil W4; have hs5 : w2.heap.size ≤ W4.heap.size := Nat.le_trans (Nat.le_trans (Nat.le_trans hs1 hG3.size) (hsa _ _)) hG4.size)
              | (at_builtin; refine ap_rt rfl (.tmp 90) (.tmp 96) rfl w2.heap.size rfl hO4 rfl (hsr5 _) (m := 0) rfl hb2 hs5 ?_; intro A5 c5 W5 hO5 hG5; have hB5 := Bk.grown hB4 hG5 (fun e => absurd (hO4.rw_.2.2.2 q e.symm) (by have := HR2.out.lt; omega)); have hC5 := hC4.trans (Chg.of_grown (F := fun b => w2.heap.size ≤ b) hG5 (fun b e => hO4.rw_.2.2.2 b e)) (fun x hx => .inl hx); have hfq5 := hB5.frozen 0; have hcq5 : W5.cell? ⟨q, 0, none⟩ = some (.slice (none) n2 c2) := (hB5.cell 0).trans rfl))
            all_goals go_ret
            all_goals exact rset_fin (j := n2) ⟨d, d2⟩ HNG.out HT.out (by rw [hdr]; exact hO5) hB5 HR2.out.lt HX.out (fun t ht => by rw [List.getElem?_eq_none (Nat.le_of_eq HR2.out.2.2.1)] at ht; cases ht) (((Chg.refl _ w).drewN jj).trans HC2.out (fun x hx => .inl hx)) hC5
          · have hqlt : q < (w2.drewN m).heap.size := HR2.out.lt
            have hjc : n2 ≤ c2 := by have := HR2.out.2.2.2.1; omega
            have hcx : ((w2.drewN m).alloc (.cells #[] 60)).cell? ⟨q, 0, none⟩ = some (.slice (some p) n2 c2) := (World.cell?_alloc_lt _ _ _ hqlt).trans hcl2
            have HO1 : Hid (Rt ((w2.drewN m).alloc (.cells #[] 60)) w2.heap.size (.slice (some ⟨w2.heap.size, 0, none⟩) 0 0) 0 []) := Lib.hid ⟨rfl, .inr ⟨w2.heap.size, 0, #[], rfl, Nat.le_refl _, heap_alloc_new (w2.drewN m) _, Nat.le_refl _, Nat.zero_le _, rfl, rfl⟩⟩
            have hsr1 : Rw ((w2.drewN m).alloc (.cells #[] 60)) w2.heap.size (some p) (tmsC (T.take n2)) := by
              rw [tmsC_take]
              exact Rw.alloc (Rw.drewN (Rw.take HR2.out.2.1 (n2 * 2)) m) (Nat.le_refl _) _
            have hm1 : (T.take n2).length = n2 := by rw [List.length_take, HR2.out.2.2.1]; omega
            have hb1 : 0 + n2 ≤ 100000 := by omega
            have hs1 : w2.heap.size ≤ ((w2.drewN m).alloc (.cells #[] 60)).heap.size := by rw [World.size_alloc]; exact Nat.le_succ _
            have hchA : ∀ (W3 W4 : World) (b3 b4 : Option Nat) (ob : Obj), ((w2.drewN m).alloc (.cells #[] 60)).grownBy W3 b3 → (∀ b, b3 = some b → w2.heap.size ≤ b) → (W3.alloc ob).grownBy W4 b4 → (∀ b, b4 = some b → w2.heap.size ≤ b) → Chg (fun b => w2.heap.size ≤ b) w2 W4 := fun W3 W4 b3 b4 ob g3 h3 g4 h4 =>
              ((((Chg.refl _ w2).drewN m).alloc _).trans (Chg.of_grown (F := fun b => w2.heap.size ≤ b) g3 h3) (fun x hx => .inl hx)).alloc ob |>.trans (Chg.of_grown (F := fun b => w2.heap.size ≤ b) g4 h4) (fun x hx => .inl hx)
            have hb2 : n2 + 1 ≤ 100000 := by omega
            have hnil : ∀ (X : World) (A' : Option Addr), Rw X w2.heap.size A' (tmsC ([] : Mt)) := fun X A' hn => absurd hn (by simp [tmsC])
            have hdr : T.drop n2 = [] := List.drop_eq_nil_of_le (Nat.le_of_eq HR2.out.2.2.1)
            have hlit : ∀ W3 : World, Rw (W3.alloc (.cells #[.int .i64 k, .int .i64 a] 60)) (W3.heap.size + 1) (some ⟨W3.heap.size, 0, none⟩) (tmsC [(k, a)]) := fun W3 => rw_lit W3 60 [.int .i64 k, .int .i64 a]
            have hsa : ∀ W3 : World, ∀ ob, W3.heap.size ≤ (W3.alloc ob).heap.size := fun W3 ob => by rw [World.size_alloc]; exact Nat.le_succ _
            have hqb : ∀ b, w2.heap.size ≤ b → some q ≠ some b := fun b hb e => by injection e with e; have := HR2.out.lt; omega
            go_wp2_with (first
              | (at_builtin; refine ap_rt rfl (.tmp 75) (.tmp 81) rfl w2.heap.size rfl HO1.out rfl hsr1 hm1 hb1 hs1 ?_; intro A3 c3 W3 hO3 hG3; rw [Nat.zero_add, List.nil_append] at hO3)
              | (at_builtin; refine ap_rt rfl (.tmp 83) (.tmp 87) rfl w2.heap.size rfl (World.ownsRow.alloc hO3 _) rfl (hlit W3) rfl hb2 (Nat.le_trans (Nat.le_trans hs1 hG3.size) (hsa _ _)) ?_; intro A4 c4 W4 hO4 hG4; have hB4 := Bk.grown (Bk.alloc (Bk.grown (Bk.alloc (Bk.drewN HR2.out.1 m) _) hG3 (hqb _ (Nat.le_refl _))) _) hG4 (fun e => absurd (hO3.rw_.2.2.2 q e.symm) (by have := HR2.out.lt; omega)); have hcq4 : W4.cell? ⟨q, 0, none⟩ = some (.slice (some p) n2 c2) := (hB4.cell 0).trans rfl; have hfq4 := hB4.frozen 0; have hC4 := hchA W3 W4 _ _ _ hG3 (fun b e => Nat.le_of_eq (Option.some.inj e)) hG4 (fun b e => hO3.rw_.2.2.2 b e); have hsr5 := hnil W4; have hs5 : w2.heap.size ≤ W4.heap.size := Nat.le_trans (Nat.le_trans (Nat.le_trans hs1 hG3.size) (hsa _ _)) hG4.size)
              | (at_builtin; refine ap_rt rfl (.tmp 90) (.tmp 96) rfl w2.heap.size rfl hO4 rfl (hsr5 _) (m := 0) rfl hb2 hs5 ?_; intro A5 c5 W5 hO5 hG5; have hB5 := Bk.grown hB4 hG5 (fun e => absurd (hO4.rw_.2.2.2 q e.symm) (by have := HR2.out.lt; omega)); have hC5 := hC4.trans (Chg.of_grown (F := fun b => w2.heap.size ≤ b) hG5 (fun b e => hO4.rw_.2.2.2 b e)) (fun x hx => .inl hx); have hfq5 := hB5.frozen 0; have hcq5 : W5.cell? ⟨q, 0, none⟩ = some (.slice (some p) n2 c2) := (hB5.cell 0).trans rfl))
            all_goals go_ret
            all_goals exact rset_fin (j := n2) ⟨d, d2⟩ HNG.out HT.out (by rw [hdr]; exact hO5) hB5 HR2.out.lt HX.out (fun t ht => by rw [List.getElem?_eq_none (Nat.le_of_eq HR2.out.2.2.1)] at ht; cases ht) (((Chg.refl _ w).drewN jj).trans HC2.out (fun x hx => .inl hx)) hC5
end Go.Proofs.Ytnnblakjaiccfaa
