/- Proved: what the reference's Encode hands out: the same bytes as icmp.Encode. Conditions: the message is one that came in. -/
import Derived.Test.YtlnodkfngomlmaaEnc
import Derived.Deep.RegionHeld3
import Derived.Deep.RegionLaw
set_option linter.unusedVariables false
namespace Go.Proofs.Ytlnodkfngomlmaa
open Go.RowKit

theorem bel_cell {B b o : Nat} {u : Value} {w w2 : World} (h : Below B w w2) (hb : b < B) (hc : w.cell? ⟨b, o, none⟩ = some u) : w2.cell? ⟨b, o, none⟩ = some u := (h.cell (p := ⟨b, o, none⟩) hb).trans hc

theorem rfour_ob (v : Int) (h0 : 0 ≤ v) (h1 : v ≤ 4294967295) (w : World) :
    Calls Try.prog 38 #[.int .u32 v] w fun e w' => e = .returned (.slice (some ⟨w.heap.size, 0, none⟩) 4 4) ∧ RB w' w'.heap.size (some ⟨w.heap.size, 0, none⟩) (be 4 v) ∧ Below w.heap.size w w' :=
  (rfour_any v h0 h1 w).mono fun e w' ⟨he, hw⟩ => by
    subst hw
    have := rw_lit w 5 (by8 (be 4 v))
    exact ⟨he, Rw.more this (by simp), (Below.refl _ _).alloc (Nat.le_refl _) _⟩

set_option maxHeartbeats 1000000 in
theorem rencode_ok (t c r : Int) (A : Option Addr) (n cap : Nat) (l : List Int) (ht0 : 0 ≤ t) (ht1 : t ≤ 255) (hc0 : 0 ≤ c) (hc1 : c ≤ 255) (hn : l.length = n) (hmax : n ≤ 65507) (hr0 : 0 ≤ r) (hr1 : r ≤ 4294967295) (hb : Bs l) (w : World)
    (hd : RB w w.heap.size A l) :
    Calls Try.prog 13 #[.agg #[.int .i64 t, .int .i64 c, .int .u32 r, .slice A n cap]] w fun e w' => ∃ A' n' c', e = .returned (.tuple #[.slice A' n' c', .int .i64 0]) ∧
      OB 5 w' w.heap.size A' n' c' (icmpB t c (icmpSum t c r l) r l) ∧ Below w.heap.size w w' := by
  obtain ⟨W, hW⟩ : ∃ W, (w.alloc (.cells #[.int .i64 t, .int .i64 c, .int .u32 r, .slice A n cap] 25)).alloc (.cells #[.int .u8 t, .int .u8 c, .int .u8 0, .int .u8 0] 5) = W := ⟨_, rfl⟩
  have hzW : W.heap.size = w.heap.size + 2 := by rw [← hW]; simp
  have hBW : Below w.heap.size w W := by rw [← hW]; exact ((Below.refl _ _).alloc (Nat.le_refl _) _).alloc (by simp) _
  have hm : Bk W w.heap.size 25 #[.int .i64 t, .int .i64 c, .int .u32 r, .slice A n cap] := by rw [← hW]; exact (Bk.new w _ _).alloc _
  have k2 : W.cell? ⟨w.heap.size, 2, none⟩ = some (.int .u32 r) := hm.cell 2
  have k3 : W.cell? ⟨w.heap.size, 3, none⟩ = some (.slice A n cap) := hm.cell 3
  have hO0 : OB 5 W (w.heap.size + 1) (some ⟨w.heap.size + 1, 0, none⟩) 4 4 [t, c, 0, 0] := by
    rw [← hW]
    have := ob_lit (w.alloc (.cells #[.int .i64 t, .int .i64 c, .int .u32 r, .slice A n cap] 25)) (w.heap.size + 1) [t, c, 0, 0] (by simp) (by simp)
    simpa [by8] using this
  have hd0 : RB W W.heap.size A l := Rw.more (Rw.below hd hBW) hBW.size
  have hs : icmpSum t c r l = 65535 - partC ([t, c, 0, 0] ++ be 4 r ++ l) := by
    unfold icmpSum icmpB
    rw [be_1, be_1, show t % 256 = t from by omega, show c % 256 = c from by omega]
    rfl
  have hpb := partC_bd ([t, c, 0, 0] ++ be 4 r ++ l) ((Bs.append (Bs.append (by intro x hx; simp at hx; omega) (be_bs _ _)) hb))
  obtain ⟨pc, hpc⟩ : ∃ pc, partC ([t, c, 0, 0] ++ be 4 r ++ l) = pc := ⟨_, rfl⟩
  rw [hpc] at hs hpb
  have HPB : Hid (Bs ([t, c, 0, 0] ++ be 4 r ++ l)) := Lib.hid (Bs.append (Bs.append (by intro x hx; simp at hx; omega) (be_bs _ _)) hb)
  have HPC := Lib.hid hpc
  have HS := Lib.hid hs
  have HN := Lib.hid hn
  have HW := Lib.hid hW
  have HZ := Lib.hid hzW
  have hzW1 : w.heap.size + 1 < W.heap.size := by omega
  clear hpc hs hn hm hW hzW
  go_enter Try.func13, Try.ntmps13
  go_wp2
  rw [HW.out]
  go_region_held3 (fun w' => w'.cell? ⟨w.heap.size, 2, none⟩ = some (.int .u32 r) ∧ w'.cell? ⟨w.heap.size, 3, none⟩ = some (.slice A n cap))
    (first | (exact ⟨by assumption, by assumption⟩) | go_keep)
    (first
      | (go_at_call 38; refine (rfour_ob r hr0 hr1 _).mono ?_; rintro e w2 ⟨rfl, hr2, hB2⟩; have hB2 : Below W.heap.size W w2 := (Below.drew (Below.refl _ _)).trans hB2; have z2 := hB2.size; have k22 := bel_cell hB2 (by omega) k2; have k23 := bel_cell hB2 (by omega) k3)
      | (refine st8 rfl (.tmp 35) (.tmp 38) rfl (w.heap.size + 1) rfl (Ow.stays hO0 hB2) rfl hr2 rfl (by omega) (by omega) ?_; intro A4 c4 w4 hO4 hB4 hg4 hA4 hz4 hc4; have k42 := bel_cell hB4 (by omega) k22; have k43 := bel_cell hB4 (by omega) k23)
      | (refine st8 rfl (.tmp 39) (.tmp 41) rfl (w.heap.size + 1) rfl hO4 rfl (Rw.below (Rw.below hd (hBW.trans (hB2.mono (by omega)))) (hB4.mono (by omega))) HN.out (by omega) (by omega) ?_; intro A5 c5 w5 hO5 hB5 hg5 hA5 hz5 hc5; have k52 := bel_cell hB5 (by omega) k42; have k53 := bel_cell hB5 (by omega) k43))
  have hO5 : OB 5 w5 (w.heap.size + 1) A5 (8 + n) c5 ([t, c, 0, 0] ++ be 4 r ++ l) := hO5
  have hB5 : Below w.heap.size w w5 := hBW.trans ((hB2.mono (by omega)).trans ((hB4.mono (by omega)).trans (hB5.mono (by omega))))
  obtain ⟨g, rfl, hg, e2, f2⟩ := hO5.lit_at (k := 2) (by omega)
  have hO6 := hO5.store (k := 2) (by omega) ((65535 - pc) / 256)
  obtain ⟨g', eg, _, e3, f3⟩ := hO6.lit_at (k := 3) (by omega)
  obtain rfl : g = g' := by injection eg with eg; injection eg with eg; 
  have hO7 := hO6.store (k := 3) (by omega) ((65535 - pc) % 256)
  go_wp2_with fail
  refine (rsum_any _ (8 + n) c5 _ _ hO5.length (by omega) HPB.out _ (by exact hO5.rb)).mono ?_
  rintro e w' ⟨rfl, rfl⟩
  rw [HPC.out]
  go_wp2
  go_ret2
  refine ⟨some ⟨g, 0, none⟩, 8 + n, c5, rfl, ?_, ?_⟩
  · have e : icmpB t c (icmpSum t c r l) r l = (([t, c, 0, 0] ++ be 4 r ++ l).set 2 ((65535 - pc) / 256)).set 3 ((65535 - pc) % 256) := by
      rw [HS.out]
      unfold icmpB
      rw [be_1, be_1, be_2, be_1, show t % 256 = t from by omega, show c % 256 = c from by omega, show (65535 - pc) / 256 % 256 = (65535 - pc) / 256 from by omega]
      simp [be]
    rw [e]
    exact Ow.mono hO7 (by omega)
  · exact (hB5.setCell (by show w.heap.size ≤ g; omega) _).setCell (by show w.heap.size ≤ g; omega) _

/-! ### both, whatever the message -/
def encErr (t c : Int) (n : Nat) : Int := if t < 0 ∨ 255 < t ∨ c < 0 ∨ 255 < c then 1 else if 65507 < n then 5 else 0
def encOut (t c r : Int) (l : List Int) : List Int := if encErr t c l.length = 0 then icmpB t c (icmpSum t c r l) r l else []
theorem encErr_arg {t c : Int} {n : Nat} (h : t < 0 ∨ 255 < t ∨ c < 0 ∨ 255 < c) : encErr t c n = 1 := if_pos h
theorem encErr_long {t c : Int} {n : Nat} (h : ¬ (t < 0 ∨ 255 < t ∨ c < 0 ∨ 255 < c)) (h2 : 65507 < n) : encErr t c n = 5 := by unfold encErr; rw [if_neg h, if_pos h2]
theorem encErr_ok {t c : Int} {n : Nat} (h : ¬ (t < 0 ∨ 255 < t ∨ c < 0 ∨ 255 < c)) (h2 : ¬ 65507 < n) : encErr t c n = 0 := by unfold encErr; rw [if_neg h, if_neg h2]
theorem encOut_bs {t c r : Int} {l : List Int} (hb : Bs l) : Bs (encOut t c r l) := by
  unfold encOut; split
  · exact icmpB_bs _ _ _ _ hb
  · exact Bs.nil
theorem encOut_len {t c r : Int} {l : List Int} : (encOut t c r l).length ≤ 8 + l.length := by
  unfold encOut; split
  · rw [icmpB_len]; omega
  · simp

theorem encode_any (t c r : Int) (A : Option Addr) (n cap : Nat) (l : List Int) (hn : l.length = n) (hr0 : 0 ≤ r) (hr1 : r ≤ 4294967295) (hb : Bs l) (w : World)
    (hd : RB w w.heap.size A l) :
    Calls Try.prog 12 #[.agg #[.int .i64 t, .int .i64 c, .int .u32 r, .slice A n cap]] w fun e w' => ∃ A' n' c', e = .returned (.tuple #[.slice A' n' c', .int .i64 (encErr t c n)]) ∧
      OB 5 w' w.heap.size A' n' c' (encOut t c r l) ∧ Below w.heap.size w w' := by
  unfold encOut
  rw [hn]
  by_cases h : t < 0 ∨ 255 < t ∨ c < 0 ∨ 255 < c
  · rw [encErr_arg h, if_neg (by omega)]
    exact (encode_arg t c r A n cap h w).mono fun e w' ⟨h1, h2⟩ => ⟨none, 0, 0, h1, Ow.none_ _ _ _, h2⟩
  · by_cases h2 : 65507 < n
    · rw [encErr_long h h2, if_neg (by omega)]
      exact (encode_long t c r A n cap (by omega) (by omega) (by omega) (by omega) h2 w).mono fun e w' ⟨h1, h2⟩ => ⟨none, 0, 0, h1, Ow.none_ _ _ _, h2⟩
    · rw [encErr_ok h h2, if_pos rfl]
      exact encode_ok t c r A n cap l (by omega) (by omega) (by omega) (by omega) hn (by omega) hr0 hr1 hb w hd
theorem rencode_any (t c r : Int) (A : Option Addr) (n cap : Nat) (l : List Int) (hn : l.length = n) (hr0 : 0 ≤ r) (hr1 : r ≤ 4294967295) (hb : Bs l) (w : World)
    (hd : RB w w.heap.size A l) :
    Calls Try.prog 13 #[.agg #[.int .i64 t, .int .i64 c, .int .u32 r, .slice A n cap]] w fun e w' => ∃ A' n' c', e = .returned (.tuple #[.slice A' n' c', .int .i64 (encErr t c n)]) ∧
      OB 5 w' w.heap.size A' n' c' (encOut t c r l) ∧ Below w.heap.size w w' := by
  unfold encOut
  rw [hn]
  by_cases h : t < 0 ∨ 255 < t ∨ c < 0 ∨ 255 < c
  · rw [encErr_arg h, if_neg (by omega)]
    exact (rencode_arg t c r A n cap h w).mono fun e w' ⟨h1, h2⟩ => ⟨none, 0, 0, h1, Ow.none_ _ _ _, h2⟩
  · by_cases h2 : 65507 < n
    · rw [encErr_long h h2, if_neg (by omega)]
      exact (rencode_long t c r A n cap (by omega) (by omega) (by omega) (by omega) h2 w).mono fun e w' ⟨h1, h2⟩ => ⟨none, 0, 0, h1, Ow.none_ _ _ _, h2⟩
    · rw [encErr_ok h h2, if_pos rfl]
      exact rencode_ok t c r A n cap l (by omega) (by omega) (by omega) (by omega) hn (by omega) hr0 hr1 hb w hd

theorem wsum_icmp (t c s r : Int) (h0 : 0 ≤ s) (h1 : s ≤ 65535) (d : List Int) : wsum (icmpB t c s r d) = wsum (icmpB t c 0 r d) + s := by
  have e : ∀ x : Int, icmpB t c x r d = [t % 256, c % 256, x / 256 % 256, x % 256] ++ (be 4 r ++ d) := fun x => by simp [icmpB, be]
  rw [e, e, wsum_append _ _ (by simp), wsum_append [t % 256, c % 256, 0 / 256 % 256, 0 % 256] _ (by simp)]
  simp [wsum]
  omega
theorem encOut_sum (t c r : Int) (l : List Int) (hb : Bs l) (h : encErr t c l.length = 0) : partC (encOut t c r l) = 65535 := by
  unfold encOut
  rw [if_pos h]
  have h0 := wsum_bd _ (icmpB_bs t c 0 r hb)
  have h2 := partC_bd _ (icmpB_bs t c 0 r hb)
  unfold icmpSum
  unfold partC at h2 ⊢
  rw [wsum_icmp _ _ _ _ (by omega) (by omega)]
  exact foldC_zero _ h0.1

theorem known_any (w : World) :
    Calls Try.prog 17 #[] w fun e w' => e = .returned (.bool true) ∧ Below w.heap.size w w' := by
  have e0 : encOut 8 0 65538 [171] = [8, 0, 76, 252, 0, 1, 0, 2, 171] := by decide +kernel
  have e1 : encErr 8 0 1 = 0 := by decide +kernel
  have hr := rw_lit w 5 (by8 [171])
  have hB0 : Below w.heap.size w (w.alloc (.cells (by8 [171]).toArray 5)) := (Below.refl _ _).alloc (Nat.le_refl _) _
  have he := encode_any 8 0 65538 (some ⟨w.heap.size, 0, none⟩) 1 1 [171] rfl (by omega) (by omega) (by intro x hx; simp at hx; omega) (w.alloc (.cells (by8 [171]).toArray 5)) (Rw.more hr (by simp))
  rw [e0, e1] at he
  clear e0 e1 hr
  go_enter Try.func17, Try.ntmps17
  go_wp2_with fail
  refine he.mono ?_
  rintro e w1 ⟨A, n, c, rfl, hO, hB⟩
  have hB1 := hB0.trans (hB.mono (by simp))
  obtain rfl : 9 = n := hO.length
  obtain ⟨g, rfl, hg, c2, f2⟩ := hO.lit_at (k := 2) (by omega)
  obtain ⟨g', eg, _, c3, f3⟩ := hO.lit_at (k := 3) (by omega)
  obtain rfl : g = g' := by injection eg with eg; injection eg with eg
  simp only [List.getElem?_cons_succ, List.getElem?_cons_zero, Option.getD_some] at c2 c3
  clear eg
  go_wp2
  go_ret
  exact ⟨rfl, hB1⟩
end Go.Proofs.Ytlnodkfngomlmaa
