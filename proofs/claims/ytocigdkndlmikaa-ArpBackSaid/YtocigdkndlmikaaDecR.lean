/- Proved: the packet of neighbours that the reference's Decode reads. Conditions: the bytes lie in memory. -/
import Derived.Test.YtocigdkndlmikaaDecP
import Derived.LoopTactic
set_option linter.unusedVariables false
set_option linter.unusedSimpArgs false
namespace Go.Proofs.Ytocigdkndlmikaa
open Go.RowKit

theorem Below.set1_ {B : Nat} {w w' : World} (h : Below B w w') (g o : Nat) (hg : B ≤ g) (u : Value) : Below B w (w'.setCell ⟨g, o, none⟩ u) := h.setCell (p := ⟨g, o, none⟩) hg u
theorem RB.from_ {w : World} {B b off : Nat} {l : List Int} (h : RB w B (some ⟨b, off, none⟩) l) (k : Nat) : RB w B (some ⟨b, off + k, none⟩) (l.drop k) := by
  have := Rw.drop h (k := k) (A' := some ⟨b, off + k, none⟩) (fun _ => by rw [Option.map_some, add_eq])
  unfold RB by8
  rw [List.map_drop]; exact this
def head7 : List Int := [0, 1, 8, 0, 6, 4, 0]
theorem head7_at (k : Nat) (h : k < 7) : 0 ≤ head7[k]?.getD 0 ∧ head7[k]?.getD 0 < 256 := by
  rcases k with _ | _ | _ | _ | _ | _ | _ | k <;> first | decide | omega
theorem take_next (l m : List Int) (k : Nat) (hl : k < l.length) (hm : k < m.length) (h : l.take k = m.take k) (e : l[k]?.getD 0 = m[k]?.getD 0) : l.take (k + 1) = m.take (k + 1) := by
  rw [List.take_add_one, List.take_add_one, h, List.getElem?_eq_getElem hl, List.getElem?_eq_getElem hm]
  rw [List.getElem?_eq_getElem hl, List.getElem?_eq_getElem hm] at e
  simp at e
  simp [e]
theorem goodA_iff (l : List Int) (h : 28 ≤ l.length) (hb : Bs l) : goodA l ↔ l.take 7 = head7 ∧ (at8 l 7 = 1 ∨ at8 l 7 = 2) := by
  have h7 : l.take 7 = l.take 6 ++ [at8 l 6] := by
    rw [show 7 = 6 + 1 from rfl, List.take_add_one, List.getElem?_eq_getElem (by omega)]
    unfold at8; rw [List.getElem?_eq_getElem (by omega)]; rfl
  have b6 := at8_bd hb 6
  have b7 := at8_bd hb 7
  unfold goodA
  have hi : l.take 6 ++ [at8 l 6] = headA ++ [0] ↔ l.take 6 = headA ∧ at8 l 6 = 0 := by
    constructor
    · intro e
      have := List.append_inj e (by simp [headA]; omega)
      exact ⟨this.1, by simpa using this.2⟩
    · rintro ⟨e1, e2⟩; rw [e1, e2]
  rw [h7, show head7 = headA ++ [0] from rfl, hi]
  rw [show rd2 l 6 = at8 l 6 * 256 + at8 l 7 from rfl]
  constructor
  · rintro ⟨e1, e2⟩; exact ⟨⟨e1, by omega⟩, by rcases e2 with e | e; left; omega; right; omega⟩
  · rintro ⟨⟨e1, e2⟩, e3⟩; exact ⟨e1, by rw [e2]; omega⟩
set_option maxRecDepth 100000 in
theorem rdec_short (A : Option Addr) (n c : Nat) (h8 : n < 28) (w : World) :
    Calls Try.prog 22 #[.slice A n c] w fun e w' => e = .returned (.tuple #[.agg zeroC, .int .i64 2]) ∧ Below w.heap.size w w' := by
  go_enter Try.func22, Try.ntmps22
  go_wp2
  refine bodyPost_ret (v := .tuple #[.agg #[.int .i64 0, .int .u8 0, .int .u8 0, .int .u8 0, .int .u8 0, .int .u8 0, .int .u8 0, .int .u32 0, .int .u8 0, .int .u8 0, .int .u8 0, .int .u8 0, .int .u8 0, .int .u8 0, .int .u32 0], .int .i64 2]) (by simp [results, Try.results22, go_sem]) rfl ⟨rfl, ?_⟩
  exact ((Below.refl _ _).alloc (Nat.le_refl _) _).alloc (by simp) _
set_option maxHeartbeats 4000000 in
set_option maxRecDepth 100000 in
theorem rdec_bad (A : Option Addr) (n c B : Nat) (l : List Int) (hn : l.length = n) (h8 : 28 ≤ n) (hc : n ≤ c) (hmax : n ≤ 1000000) (hb : Bs l) (hv7 : at8 l 7 ≠ 1 ∧ at8 l 7 ≠ 2) (w : World) (hr : RB w B A l) (hB : B ≤ w.heap.size) :
    Calls Try.prog 22 #[.slice A n c] w fun e w' => ((goodA l ∧ e = .returned (.tuple #[.agg (arpC l), .int .i64 0])) ∨ (¬ goodA l ∧ e = .returned (.tuple #[.agg zeroC, .int .i64 3]))) ∧ Below w.heap.size w w' := by
  have HN := Lib.hid hn
  obtain ⟨b, off, rfl, hbB, _⟩ := hr.at_ (k := 0) (by omega)
  obtain ⟨gp, hgp⟩ : ∃ gp, w.heap.size + 1 = gp := ⟨_, rfl⟩
  obtain ⟨W, hW⟩ : ∃ W, ((w.alloc (.cells #[.int .i64 0, .int .u8 0, .int .u8 0, .int .u8 0, .int .u8 0, .int .u8 0, .int .u8 0, .int .u32 0, .int .u8 0, .int .u8 0, .int .u8 0, .int .u8 0, .int .u8 0, .int .u8 0, .int .u32 0] 43)).alloc (.cells #[.int .i64 0, .int .u8 0, .int .u8 0, .int .u8 0, .int .u8 0, .int .u8 0, .int .u8 0, .int .u32 0, .int .u8 0, .int .u8 0, .int .u8 0, .int .u8 0, .int .u8 0, .int .u8 0, .int .u32 0] 43)).alloc (.cells #[.int .u8 0, .int .u8 1, .int .u8 8, .int .u8 0, .int .u8 6, .int .u8 4, .int .u8 0] 5) = W := ⟨_, rfl⟩
  have hBW : Below w.heap.size w W := by rw [← hW]; exact (((Below.refl _ _).alloc (Nat.le_refl _) _).alloc (by simp) _).alloc (by simp; omega) _
  have hz : W.heap.size = gp + 1 + 1 := by rw [← hW, ← hgp]; simp
  have hg : Bk W w.heap.size 43 #[.int .i64 0, .int .u8 0, .int .u8 0, .int .u8 0, .int .u8 0, .int .u8 0, .int .u8 0, .int .u32 0, .int .u8 0, .int .u8 0, .int .u8 0, .int .u8 0, .int .u8 0, .int .u8 0, .int .u32 0] := by rw [← hW]; exact ((Bk.new w _ _).alloc _).alloc _
  have hm : Bk W gp 43 #[.int .i64 0, .int .u8 0, .int .u8 0, .int .u8 0, .int .u8 0, .int .u8 0, .int .u8 0, .int .u32 0, .int .u8 0, .int .u8 0, .int .u8 0, .int .u8 0, .int .u8 0, .int .u8 0, .int .u32 0] := by
    have := Bk.new (w.alloc (.cells #[.int .i64 0, .int .u8 0, .int .u8 0, .int .u8 0, .int .u8 0, .int .u8 0, .int .u8 0, .int .u32 0, .int .u8 0, .int .u8 0, .int .u8 0, .int .u8 0, .int .u8 0, .int .u8 0, .int .u32 0] 43)) 43 #[.int .i64 0, .int .u8 0, .int .u8 0, .int .u8 0, .int .u8 0, .int .u8 0, .int .u8 0, .int .u32 0, .int .u8 0, .int .u8 0, .int .u8 0, .int .u8 0, .int .u8 0, .int .u8 0, .int .u32 0]
    rw [World.size_alloc, hgp] at this
    rw [← hW]; exact this.alloc _
  have hh : Bk W (gp + 1) 5 #[.int .u8 0, .int .u8 1, .int .u8 8, .int .u8 0, .int .u8 6, .int .u8 4, .int .u8 0] := by
    have := Bk.new ((w.alloc (.cells #[.int .i64 0, .int .u8 0, .int .u8 0, .int .u8 0, .int .u8 0, .int .u8 0, .int .u8 0, .int .u32 0, .int .u8 0, .int .u8 0, .int .u8 0, .int .u8 0, .int .u8 0, .int .u8 0, .int .u32 0] 43)).alloc (.cells #[.int .i64 0, .int .u8 0, .int .u8 0, .int .u8 0, .int .u8 0, .int .u8 0, .int .u8 0, .int .u32 0, .int .u8 0, .int .u8 0, .int .u8 0, .int .u8 0, .int .u8 0, .int .u8 0, .int .u32 0] 43)) 5 #[.int .u8 0, .int .u8 1, .int .u8 8, .int .u8 0, .int .u8 6, .int .u8 4, .int .u8 0]
    rw [World.size_alloc, World.size_alloc, hgp] at this
    rw [← hW]; exact this
  have hrh : RB W (gp + 1 + 1) (some ⟨gp + 1, 0, none⟩) head7 := hh.rb_ 0 _ (by intro j hj; simp only [head7, List.length_cons, List.length_nil] at hj; rcases j with _ | _ | _ | _ | _ | _ | _ | j <;> first | rfl | omega)
  have hrW : RB W B (some ⟨b, off, none⟩) l := Rw.below hr (hBW.mono hB)
  have HW := Lib.hid hW
  have HBW := Lib.hid hBW
  have HZ := Lib.hid hz
  have HG := Lib.hid hg
  have HM := Lib.hid hm
  have HRH := Lib.hid hrh
  have HRW := Lib.hid hrW
  have HGP := Lib.hid hgp
  have HGI := Lib.hid (goodA_iff l (by rw [hn]; exact h8) hb)
  clear hn hW hBW hz hg hm hh hrh hrW hgp hr
  go_enter Try.func22, Try.ntmps22
  go_wp2
  rw [HW.out, HGP.out]
  go_loopw [6] (fun i wr => ∃ (k q : Nat), k ≤ 7 ∧ i = .int .i64 k ∧ Hid (l.take k = head7.take k) ∧ Hid (wr = W.drewN q)) (fun i _ => 7 - (intOf i).toNat)
  case atStart => exact ⟨0, 0, Nat.zero_le _, rfl, Lib.hid rfl, Lib.hid rfl⟩
  case round =>
    obtain ⟨k, q, hk, rfl, HT, HQ⟩ := hrel
    rcases Nat.lt_or_ge k 7 with c0 | c0
    · obtain ⟨b', off', e', _, hx⟩ := HRW.out.at_ (k := k) (by rw [HN.out]; omega)
      injection e' with e'; injection e' with ea eb; subst ea; subst eb
      obtain ⟨b', off', e', _, hy⟩ := HRH.out.at_ (k := k) (by simpa [head7] using c0)
      injection e' with e'; injection e' with ea eb; subst ea; subst eb
      rw [Nat.zero_add] at hy
      have hx' : wr.cell? ⟨b, off + k, none⟩ = some (.int .u8 (l[k]?.getD 0)) := by rw [HQ.out]; exact hx
      have hy' : wr.cell? ⟨gp + 1, k, none⟩ = some (.int .u8 (head7[k]?.getD 0)) := by rw [HQ.out]; exact hy
      have HTN := Lib.hid (take_next l head7 k (by rw [HN.out]; omega) (by simpa [head7] using c0) HT.out)
      have HNE : Hid (l[k]?.getD 0 ≠ head7[k]?.getD 0 → ¬ goodA l) := Lib.hid (by
        intro hne hgd
        have h7 := (HGI.out.1 hgd).1
        apply hne
        have := congrArg (fun m : List Int => m[k]?) h7
        simp only [List.getElem?_take, if_pos c0] at this
        rw [this])
      obtain ⟨x, hxx⟩ : ∃ x, l[k]?.getD 0 = x := ⟨_, rfl⟩
      obtain ⟨y, hyy⟩ : ∃ y, head7[k]?.getD 0 = y := ⟨_, rfl⟩
      rw [hxx] at hx' HTN HNE
      rw [hyy] at hy' HTN HNE
      have c1 : (k : Int) < 7 := by omega
      clear hx hy hxx hyy
      rcases Decidable.em (x = y) with rfl | hne
      · have HTM := Lib.hid (HTN.out rfl)
        clear HTN HNE
        go_wp2
        go_quiet (fail)
        go_wp2
        go_roundw
        case rel => exact ⟨k + 1, q + nq, by omega, by go_num, HTM, Lib.hid (by rw [HQ.out, World.drewN_drewN])⟩
        case measure => simp [intOf]; omega
      · have hne' : (x != y) = true := by simpa using hne
        go_wp2
        go_quiet (fail)
        have hgX : Bk (wr.drewN nq) w.heap.size 43 #[.int .i64 0, .int .u8 0, .int .u8 0, .int .u8 0, .int .u8 0, .int .u8 0, .int .u8 0, .int .u32 0, .int .u8 0, .int .u8 0, .int .u8 0, .int .u8 0, .int .u8 0, .int .u8 0, .int .u32 0] := by rw [HQ.out]; exact HG.out
        have hmX : Bk (wr.drewN nq) gp 43 #[.int .i64 0, .int .u8 0, .int .u8 0, .int .u8 0, .int .u8 0, .int .u8 0, .int .u8 0, .int .u32 0, .int .u8 0, .int .u8 0, .int .u8 0, .int .u8 0, .int .u8 0, .int .u8 0, .int .u32 0] := by rw [HQ.out]; exact HM.out
        have BB : Hid (Below w.heap.size w (wr.drewN nq)) := Lib.hid (by rw [HQ.out]; exact bel_drewN (bel_drewN HBW.out _) _)
        have d0 := hmX.cell 0
        have d1 := hmX.cell 1
        have d2 := hmX.cell 2
        have d3 := hmX.cell 3
        have d4 := hmX.cell 4
        have d5 := hmX.cell 5
        have d6 := hmX.cell 6
        have d7 := hmX.cell 7
        have d8 := hmX.cell 8
        have d9 := hmX.cell 9
        have d10 := hmX.cell 10
        have d11 := hmX.cell 11
        have d12 := hmX.cell 12
        have d13 := hmX.cell 13
        have d14 := hmX.cell 14
        have y0 := hgX.cell 0
        have y1 := hgX.cell 1
        have y2 := hgX.cell 2
        have y3 := hgX.cell 3
        have y4 := hgX.cell 4
        have y5 := hgX.cell 5
        have y6 := hgX.cell 6
        have y7 := hgX.cell 7
        have y8 := hgX.cell 8
        have y9 := hgX.cell 9
        have y10 := hgX.cell 10
        have y11 := hgX.cell 11
        have y12 := hgX.cell 12
        have y13 := hgX.cell 13
        have y14 := hgX.cell 14
        have x0 := hgX.frozen 0
        have x1 := hgX.frozen 1
        have x2 := hgX.frozen 2
        have x3 := hgX.frozen 3
        have x4 := hgX.frozen 4
        have x5 := hgX.frozen 5
        have x6 := hgX.frozen 6
        have x7 := hgX.frozen 7
        have x8 := hgX.frozen 8
        have x9 := hgX.frozen 9
        have x10 := hgX.frozen 10
        have x11 := hgX.frozen 11
        have x12 := hgX.frozen 12
        have x13 := hgX.frozen 13
        have x14 := hgX.frozen 14
        simp only [List.setIfInBounds_toArray, List.set_cons_succ, List.set_cons_zero, List.getElem?_toArray, List.getElem?_cons_zero, List.getElem?_cons_succ] at d0 y0 d1 y1 d2 y2 d3 y3 d4 y4 d5 y5 d6 y6 d7 y7 d8 y8 d9 y9 d10 y10 d11 y11 d12 y12 d13 y13 d14 y14
        clear hgX hmX
        go_wp2
        refine bodyPost_ret (v := .tuple #[.agg #[.int .i64 0, .int .u8 0, .int .u8 0, .int .u8 0, .int .u8 0, .int .u8 0, .int .u8 0, .int .u32 0, .int .u8 0, .int .u8 0, .int .u8 0, .int .u8 0, .int .u8 0, .int .u8 0, .int .u32 0], .int .i64 3]) (by simp [results, Try.results22, go_sem, *]) rfl ⟨.inr ⟨HNE.out hne, rfl⟩, ?_⟩
        iterate 15 refine Below.set1 ?_ (Nat.le_refl _) _
        exact BB.out
    · obtain rfl : k = 7 := by omega
      obtain ⟨b', off', e', _, hx⟩ := HRW.out.at_ (k := 7) (by rw [HN.out]; omega)
      injection e' with e'; injection e' with ea eb; subst ea; subst eb
      have hx' : wr.cell? ⟨b, off + 7, none⟩ = some (.int .u8 (at8 l 7)) := by rw [HQ.out]; exact hx
      have T7 : Hid (l.take 7 = head7) := Lib.hid (by rw [HT.out]; rfl)
      have hv0 := at8_bd hb 7
      obtain ⟨v, hv⟩ : ∃ v, at8 l 7 = v := ⟨_, rfl⟩
      rw [hv] at hx' hv0
      have HV := Lib.hid hv
      clear hx hv
      have e1 : v ≠ 1 := by rw [← HV.out]; exact hv7.1
      have e2 : v ≠ 2 := by rw [← HV.out]; exact hv7.2
      · have e3 : (v != 1) = true := by simpa using e1
        have e4 : (v != 2) = true := by simpa using e2
        have hgX : Bk wr w.heap.size 43 #[.int .i64 0, .int .u8 0, .int .u8 0, .int .u8 0, .int .u8 0, .int .u8 0, .int .u8 0, .int .u32 0, .int .u8 0, .int .u8 0, .int .u8 0, .int .u8 0, .int .u8 0, .int .u8 0, .int .u32 0] := by rw [HQ.out]; exact HG.out
        have hmX : Bk wr gp 43 #[.int .i64 0, .int .u8 0, .int .u8 0, .int .u8 0, .int .u8 0, .int .u8 0, .int .u8 0, .int .u32 0, .int .u8 0, .int .u8 0, .int .u8 0, .int .u8 0, .int .u8 0, .int .u8 0, .int .u32 0] := by rw [HQ.out]; exact HM.out
        have BB : Hid (Below w.heap.size w wr) := Lib.hid (by rw [HQ.out]; exact bel_drewN HBW.out _)
        have d0 := hmX.cell 0
        have d1 := hmX.cell 1
        have d2 := hmX.cell 2
        have d3 := hmX.cell 3
        have d4 := hmX.cell 4
        have d5 := hmX.cell 5
        have d6 := hmX.cell 6
        have d7 := hmX.cell 7
        have d8 := hmX.cell 8
        have d9 := hmX.cell 9
        have d10 := hmX.cell 10
        have d11 := hmX.cell 11
        have d12 := hmX.cell 12
        have d13 := hmX.cell 13
        have d14 := hmX.cell 14
        have y0 := hgX.cell 0
        have y1 := hgX.cell 1
        have y2 := hgX.cell 2
        have y3 := hgX.cell 3
        have y4 := hgX.cell 4
        have y5 := hgX.cell 5
        have y6 := hgX.cell 6
        have y7 := hgX.cell 7
        have y8 := hgX.cell 8
        have y9 := hgX.cell 9
        have y10 := hgX.cell 10
        have y11 := hgX.cell 11
        have y12 := hgX.cell 12
        have y13 := hgX.cell 13
        have y14 := hgX.cell 14
        have x0 := hgX.frozen 0
        have x1 := hgX.frozen 1
        have x2 := hgX.frozen 2
        have x3 := hgX.frozen 3
        have x4 := hgX.frozen 4
        have x5 := hgX.frozen 5
        have x6 := hgX.frozen 6
        have x7 := hgX.frozen 7
        have x8 := hgX.frozen 8
        have x9 := hgX.frozen 9
        have x10 := hgX.frozen 10
        have x11 := hgX.frozen 11
        have x12 := hgX.frozen 12
        have x13 := hgX.frozen 13
        have x14 := hgX.frozen 14
        simp only [List.setIfInBounds_toArray, List.set_cons_succ, List.set_cons_zero, List.getElem?_toArray, List.getElem?_cons_zero, List.getElem?_cons_succ] at d0 y0 d1 y1 d2 y2 d3 y3 d4 y4 d5 y5 d6 y6 d7 y7 d8 y8 d9 y9 d10 y10 d11 y11 d12 y12 d13 y13 d14 y14
        clear hgX hmX
        go_wp2
        refine bodyPost_ret (v := .tuple #[.agg #[.int .i64 0, .int .u8 0, .int .u8 0, .int .u8 0, .int .u8 0, .int .u8 0, .int .u8 0, .int .u32 0, .int .u8 0, .int .u8 0, .int .u8 0, .int .u8 0, .int .u8 0, .int .u8 0, .int .u32 0], .int .i64 3]) (by simp [results, Try.results22, go_sem, *]) rfl ⟨.inr ⟨fun h => by have h2 := (HGI.out.1 h).2; rw [HV.out] at h2; omega, rfl⟩, ?_⟩
        iterate 15 refine Below.set1 ?_ (Nat.le_refl _) _
        exact BB.out
set_option maxHeartbeats 4000000 in
set_option maxRecDepth 100000 in
theorem rdec_v1 (A : Option Addr) (n c B : Nat) (l : List Int) (hn : l.length = n) (h8 : 28 ≤ n) (hc : n ≤ c) (hmax : n ≤ 1000000) (hb : Bs l) (hv7 : at8 l 7 = 1) (w : World) (hr : RB w B A l) (hB : B ≤ w.heap.size) :
    Calls Try.prog 22 #[.slice A n c] w fun e w' => ((goodA l ∧ e = .returned (.tuple #[.agg (arpC l), .int .i64 0])) ∨ (¬ goodA l ∧ e = .returned (.tuple #[.agg zeroC, .int .i64 3]))) ∧ Below w.heap.size w w' := by
  have HN := Lib.hid hn
  obtain ⟨b, off, rfl, hbB, _⟩ := hr.at_ (k := 0) (by omega)
  obtain ⟨gp, hgp⟩ : ∃ gp, w.heap.size + 1 = gp := ⟨_, rfl⟩
  obtain ⟨W, hW⟩ : ∃ W, ((w.alloc (.cells #[.int .i64 0, .int .u8 0, .int .u8 0, .int .u8 0, .int .u8 0, .int .u8 0, .int .u8 0, .int .u32 0, .int .u8 0, .int .u8 0, .int .u8 0, .int .u8 0, .int .u8 0, .int .u8 0, .int .u32 0] 43)).alloc (.cells #[.int .i64 0, .int .u8 0, .int .u8 0, .int .u8 0, .int .u8 0, .int .u8 0, .int .u8 0, .int .u32 0, .int .u8 0, .int .u8 0, .int .u8 0, .int .u8 0, .int .u8 0, .int .u8 0, .int .u32 0] 43)).alloc (.cells #[.int .u8 0, .int .u8 1, .int .u8 8, .int .u8 0, .int .u8 6, .int .u8 4, .int .u8 0] 5) = W := ⟨_, rfl⟩
  have hBW : Below w.heap.size w W := by rw [← hW]; exact (((Below.refl _ _).alloc (Nat.le_refl _) _).alloc (by simp) _).alloc (by simp; omega) _
  have hz : W.heap.size = gp + 1 + 1 := by rw [← hW, ← hgp]; simp
  have hg : Bk W w.heap.size 43 #[.int .i64 0, .int .u8 0, .int .u8 0, .int .u8 0, .int .u8 0, .int .u8 0, .int .u8 0, .int .u32 0, .int .u8 0, .int .u8 0, .int .u8 0, .int .u8 0, .int .u8 0, .int .u8 0, .int .u32 0] := by rw [← hW]; exact ((Bk.new w _ _).alloc _).alloc _
  have hm : Bk W gp 43 #[.int .i64 0, .int .u8 0, .int .u8 0, .int .u8 0, .int .u8 0, .int .u8 0, .int .u8 0, .int .u32 0, .int .u8 0, .int .u8 0, .int .u8 0, .int .u8 0, .int .u8 0, .int .u8 0, .int .u32 0] := by
    have := Bk.new (w.alloc (.cells #[.int .i64 0, .int .u8 0, .int .u8 0, .int .u8 0, .int .u8 0, .int .u8 0, .int .u8 0, .int .u32 0, .int .u8 0, .int .u8 0, .int .u8 0, .int .u8 0, .int .u8 0, .int .u8 0, .int .u32 0] 43)) 43 #[.int .i64 0, .int .u8 0, .int .u8 0, .int .u8 0, .int .u8 0, .int .u8 0, .int .u8 0, .int .u32 0, .int .u8 0, .int .u8 0, .int .u8 0, .int .u8 0, .int .u8 0, .int .u8 0, .int .u32 0]
    rw [World.size_alloc, hgp] at this
    rw [← hW]; exact this.alloc _
  have hh : Bk W (gp + 1) 5 #[.int .u8 0, .int .u8 1, .int .u8 8, .int .u8 0, .int .u8 6, .int .u8 4, .int .u8 0] := by
    have := Bk.new ((w.alloc (.cells #[.int .i64 0, .int .u8 0, .int .u8 0, .int .u8 0, .int .u8 0, .int .u8 0, .int .u8 0, .int .u32 0, .int .u8 0, .int .u8 0, .int .u8 0, .int .u8 0, .int .u8 0, .int .u8 0, .int .u32 0] 43)).alloc (.cells #[.int .i64 0, .int .u8 0, .int .u8 0, .int .u8 0, .int .u8 0, .int .u8 0, .int .u8 0, .int .u32 0, .int .u8 0, .int .u8 0, .int .u8 0, .int .u8 0, .int .u8 0, .int .u8 0, .int .u32 0] 43)) 5 #[.int .u8 0, .int .u8 1, .int .u8 8, .int .u8 0, .int .u8 6, .int .u8 4, .int .u8 0]
    rw [World.size_alloc, World.size_alloc, hgp] at this
    rw [← hW]; exact this
  have hrh : RB W (gp + 1 + 1) (some ⟨gp + 1, 0, none⟩) head7 := hh.rb_ 0 _ (by intro j hj; simp only [head7, List.length_cons, List.length_nil] at hj; rcases j with _ | _ | _ | _ | _ | _ | _ | j <;> first | rfl | omega)
  have hrW : RB W B (some ⟨b, off, none⟩) l := Rw.below hr (hBW.mono hB)
  have HW := Lib.hid hW
  have HBW := Lib.hid hBW
  have HZ := Lib.hid hz
  have HG := Lib.hid hg
  have HM := Lib.hid hm
  have HRH := Lib.hid hrh
  have HRW := Lib.hid hrW
  have HGP := Lib.hid hgp
  have HGI := Lib.hid (goodA_iff l (by rw [hn]; exact h8) hb)
  clear hn hW hBW hz hg hm hh hrh hrW hgp hr
  go_enter Try.func22, Try.ntmps22
  go_wp2
  rw [HW.out, HGP.out]
  go_loopw [6] (fun i wr => ∃ (k q : Nat), k ≤ 7 ∧ i = .int .i64 k ∧ Hid (l.take k = head7.take k) ∧ Hid (wr = W.drewN q)) (fun i _ => 7 - (intOf i).toNat)
  case atStart => exact ⟨0, 0, Nat.zero_le _, rfl, Lib.hid rfl, Lib.hid rfl⟩
  case round =>
    obtain ⟨k, q, hk, rfl, HT, HQ⟩ := hrel
    rcases Nat.lt_or_ge k 7 with c0 | c0
    · obtain ⟨b', off', e', _, hx⟩ := HRW.out.at_ (k := k) (by rw [HN.out]; omega)
      injection e' with e'; injection e' with ea eb; subst ea; subst eb
      obtain ⟨b', off', e', _, hy⟩ := HRH.out.at_ (k := k) (by simpa [head7] using c0)
      injection e' with e'; injection e' with ea eb; subst ea; subst eb
      rw [Nat.zero_add] at hy
      have hx' : wr.cell? ⟨b, off + k, none⟩ = some (.int .u8 (l[k]?.getD 0)) := by rw [HQ.out]; exact hx
      have hy' : wr.cell? ⟨gp + 1, k, none⟩ = some (.int .u8 (head7[k]?.getD 0)) := by rw [HQ.out]; exact hy
      have HTN := Lib.hid (take_next l head7 k (by rw [HN.out]; omega) (by simpa [head7] using c0) HT.out)
      have HNE : Hid (l[k]?.getD 0 ≠ head7[k]?.getD 0 → ¬ goodA l) := Lib.hid (by
        intro hne hgd
        have h7 := (HGI.out.1 hgd).1
        apply hne
        have := congrArg (fun m : List Int => m[k]?) h7
        simp only [List.getElem?_take, if_pos c0] at this
        rw [this])
      obtain ⟨x, hxx⟩ : ∃ x, l[k]?.getD 0 = x := ⟨_, rfl⟩
      obtain ⟨y, hyy⟩ : ∃ y, head7[k]?.getD 0 = y := ⟨_, rfl⟩
      rw [hxx] at hx' HTN HNE
      rw [hyy] at hy' HTN HNE
      have c1 : (k : Int) < 7 := by omega
      clear hx hy hxx hyy
      rcases Decidable.em (x = y) with rfl | hne
      · have HTM := Lib.hid (HTN.out rfl)
        clear HTN HNE
        go_wp2
        go_quiet (fail)
        go_wp2
        go_roundw
        case rel => exact ⟨k + 1, q + nq, by omega, by go_num, HTM, Lib.hid (by rw [HQ.out, World.drewN_drewN])⟩
        case measure => simp [intOf]; omega
      · have hne' : (x != y) = true := by simpa using hne
        go_wp2
        go_quiet (fail)
        have hgX : Bk (wr.drewN nq) w.heap.size 43 #[.int .i64 0, .int .u8 0, .int .u8 0, .int .u8 0, .int .u8 0, .int .u8 0, .int .u8 0, .int .u32 0, .int .u8 0, .int .u8 0, .int .u8 0, .int .u8 0, .int .u8 0, .int .u8 0, .int .u32 0] := by rw [HQ.out]; exact HG.out
        have hmX : Bk (wr.drewN nq) gp 43 #[.int .i64 0, .int .u8 0, .int .u8 0, .int .u8 0, .int .u8 0, .int .u8 0, .int .u8 0, .int .u32 0, .int .u8 0, .int .u8 0, .int .u8 0, .int .u8 0, .int .u8 0, .int .u8 0, .int .u32 0] := by rw [HQ.out]; exact HM.out
        have BB : Hid (Below w.heap.size w (wr.drewN nq)) := Lib.hid (by rw [HQ.out]; exact bel_drewN (bel_drewN HBW.out _) _)
        have d0 := hmX.cell 0
        have d1 := hmX.cell 1
        have d2 := hmX.cell 2
        have d3 := hmX.cell 3
        have d4 := hmX.cell 4
        have d5 := hmX.cell 5
        have d6 := hmX.cell 6
        have d7 := hmX.cell 7
        have d8 := hmX.cell 8
        have d9 := hmX.cell 9
        have d10 := hmX.cell 10
        have d11 := hmX.cell 11
        have d12 := hmX.cell 12
        have d13 := hmX.cell 13
        have d14 := hmX.cell 14
        have y0 := hgX.cell 0
        have y1 := hgX.cell 1
        have y2 := hgX.cell 2
        have y3 := hgX.cell 3
        have y4 := hgX.cell 4
        have y5 := hgX.cell 5
        have y6 := hgX.cell 6
        have y7 := hgX.cell 7
        have y8 := hgX.cell 8
        have y9 := hgX.cell 9
        have y10 := hgX.cell 10
        have y11 := hgX.cell 11
        have y12 := hgX.cell 12
        have y13 := hgX.cell 13
        have y14 := hgX.cell 14
        have x0 := hgX.frozen 0
        have x1 := hgX.frozen 1
        have x2 := hgX.frozen 2
        have x3 := hgX.frozen 3
        have x4 := hgX.frozen 4
        have x5 := hgX.frozen 5
        have x6 := hgX.frozen 6
        have x7 := hgX.frozen 7
        have x8 := hgX.frozen 8
        have x9 := hgX.frozen 9
        have x10 := hgX.frozen 10
        have x11 := hgX.frozen 11
        have x12 := hgX.frozen 12
        have x13 := hgX.frozen 13
        have x14 := hgX.frozen 14
        simp only [List.setIfInBounds_toArray, List.set_cons_succ, List.set_cons_zero, List.getElem?_toArray, List.getElem?_cons_zero, List.getElem?_cons_succ] at d0 y0 d1 y1 d2 y2 d3 y3 d4 y4 d5 y5 d6 y6 d7 y7 d8 y8 d9 y9 d10 y10 d11 y11 d12 y12 d13 y13 d14 y14
        clear hgX hmX
        go_wp2
        refine bodyPost_ret (v := .tuple #[.agg #[.int .i64 0, .int .u8 0, .int .u8 0, .int .u8 0, .int .u8 0, .int .u8 0, .int .u8 0, .int .u32 0, .int .u8 0, .int .u8 0, .int .u8 0, .int .u8 0, .int .u8 0, .int .u8 0, .int .u32 0], .int .i64 3]) (by simp [results, Try.results22, go_sem, *]) rfl ⟨.inr ⟨HNE.out hne, rfl⟩, ?_⟩
        iterate 15 refine Below.set1 ?_ (Nat.le_refl _) _
        exact BB.out
    · obtain rfl : k = 7 := by omega
      obtain ⟨b', off', e', _, hx⟩ := HRW.out.at_ (k := 7) (by rw [HN.out]; omega)
      injection e' with e'; injection e' with ea eb; subst ea; subst eb
      have hx' : wr.cell? ⟨b, off + 7, none⟩ = some (.int .u8 (at8 l 7)) := by rw [HQ.out]; exact hx
      have T7 : Hid (l.take 7 = head7) := Lib.hid (by rw [HT.out]; rfl)
      have hv0 := at8_bd hb 7
      obtain ⟨v, hv⟩ : ∃ v, at8 l 7 = v := ⟨_, rfl⟩
      rw [hv] at hx' hv0
      have HV := Lib.hid hv
      clear hx hv
      obtain rfl : v = 1 := by rw [← HV.out]; exact hv7
      have e1 : (1 : Int) = 1 ∨ (1 : Int) = 2 := by omega
      · have hgd : Hid (goodA l) := Lib.hid (HGI.out.2 ⟨T7.out, by rw [HV.out]; exact e1⟩)
        have hgX : Bk wr w.heap.size 43 #[.int .i64 0, .int .u8 0, .int .u8 0, .int .u8 0, .int .u8 0, .int .u8 0, .int .u8 0, .int .u32 0, .int .u8 0, .int .u8 0, .int .u8 0, .int .u8 0, .int .u8 0, .int .u8 0, .int .u32 0] := by rw [HQ.out]; exact HG.out
        have hmX : Bk wr gp 43 #[.int .i64 0, .int .u8 0, .int .u8 0, .int .u8 0, .int .u8 0, .int .u8 0, .int .u8 0, .int .u32 0, .int .u8 0, .int .u8 0, .int .u8 0, .int .u8 0, .int .u8 0, .int .u8 0, .int .u32 0] := by rw [HQ.out]; exact HM.out
        have BB : Hid (Below w.heap.size w wr) := Lib.hid (by rw [HQ.out]; exact bel_drewN HBW.out _)
        have HRX : Hid (RB wr B (some ⟨b, off, none⟩) l) := Lib.hid (by rw [HQ.out]; exact Rw.drewN HRW.out q)
        have hne : w.heap.size ≠ gp := by have := HGP.out; omega
        have hne2 : gp ≠ w.heap.size := by have := HGP.out; omega
        have hge : w.heap.size ≤ gp := by have := HGP.out; omega
        have hBg : B ≤ gp := by omega
        have HL8 : Hid (((l.drop 8).take 6).length = 6) := Lib.hid (by simp; rw [HN.out]; omega)
        have HL18 : Hid (((l.drop 18).take 6).length = 6) := Lib.hid (by simp; rw [HN.out]; omega)
        have P3 : 0 < 6 := by decide
        have c14 : (14 : Int) ≤ n := by omega
        have c8n : ¬ c = 8 := by omega
        have c18n : ¬ c = 18 := by omega
        have c14c : (14 : Int) ≤ c := by omega
        have c24c : (24 : Int) ≤ c := by omega
        have H6 : Hid (at8 l 6 = 0) := Lib.hid (by
          have := congrArg (fun m : List Int => m[6]?.getD 0) T7.out
          simp only [List.getElem?_take, if_pos (show 6 < 7 by decide)] at this
          exact this)
        have c24 : (24 : Int) ≤ n := by omega
        have f0 := hmX.frozen 0
        have d0 := hmX.cell 0
        simp only [List.setIfInBounds_toArray, List.set_cons_succ, List.set_cons_zero, List.getElem?_toArray, List.getElem?_cons_zero, List.getElem?_cons_succ] at d0
        obtain ⟨w1, hw1⟩ : ∃ w1, wr.setCell ⟨gp, 0, none⟩ (.int .i64 1) = w1 := ⟨_, rfl⟩
        have HM1 : Hid (Bk w1 gp 43 #[.int .i64 1, .int .u8 0, .int .u8 0, .int .u8 0, .int .u8 0, .int .u8 0, .int .u8 0, .int .u32 0, .int .u8 0, .int .u8 0, .int .u8 0, .int .u8 0, .int .u8 0, .int .u8 0, .int .u32 0]) := Lib.hid (by rw [← hw1]; exact hmX.set 0 (.int .i64 1))
        have HY1 := Lib.hid (hgX.far (p := ⟨gp, 0, none⟩) hne (.int .i64 1))
        rw [hw1] at HY1
        have HB1 := Lib.hid (Below.set1_ BB.out gp 0 hge (.int .i64 1))
        rw [hw1] at HB1
        have HR1 : Hid (RB w1 B (some ⟨b, off, none⟩) l) := Lib.hid (by rw [← hw1]; exact HRX.out.setCell (p := ⟨gp, 0, none⟩) hBg (.int .i64 1))
        have hr1 : RB w1.drew B (some ⟨b, off + 8, none⟩) ((l.drop 8).take 6) := Rw.drew ((HR1.out.from_ 8).take 6)
        have hn1 : 1 + 6 ≤ (#[.int .i64 1, .int .u8 0, .int .u8 0, .int .u8 0, .int .u8 0, .int .u8 0, .int .u8 0, .int .u32 0, .int .u8 0, .int .u8 0, .int .u8 0, .int .u8 0, .int .u8 0, .int .u8 0, .int .u32 0] : Array Value).size := by simp
        have HW1 := Lib.hid hw1
        clear hmX hgX hw1
        go_wp2_with fail
        rw [HW1.out]
        go_region_held3 (fun _ => True) (trivial)
          (first
            | (refine cp8 rfl (.tmp 43) (.tmp 45) 27 Try.underlying27 rfl rfl (HM1.out.drew) rfl hr1 HL8.out rfl P3 hn1 ?_; intro w9 hm9 k9))
        have hm9' : Bk w9 gp 43 #[.int .i64 1, .int .u8 (at8 l 8), .int .u8 (at8 l 9), .int .u8 (at8 l 10), .int .u8 (at8 l 11), .int .u8 (at8 l 12), .int .u8 (at8 l 13), .int .u32 0, .int .u8 0, .int .u8 0, .int .u8 0, .int .u8 0, .int .u8 0, .int .u8 0, .int .u32 0] := by
          rw [six_at l 8 (by rw [HN.out]; omega)] at hm9
          exact hm9
        have HM9 := Lib.hid hm9'
        have HY9 := Lib.hid ((HY1.out.drew).grown k9 (by intro e; injection e with e; exact hne e))
        have HB9 : Hid (Below w.heap.size w w9) := Lib.hid ((HB1.out.drew).grown k9 HB1.out.size (by intro i e; injection e with e; omega))
        have HR9 : Hid (RB w9 B (some ⟨b, off, none⟩) l) := Lib.hid ((Rw.drew HR1.out).grown k9 (by have h := HB1.out.size; show B ≤ w1.heap.size; omega) (by intro i e; injection e with e; omega))
        clear hm9 hm9' k9 hr1 f0 d0
        go_wp2_with fail
        refine (get4_any (some ⟨b, off, none⟩) n c B l 14 HN.out (by omega) (by omega) hb _ HR9.out).mono ?_
        rintro e w10 ⟨rfl, q10, rfl⟩
        have hm10 := HM9.out.drewN q10
        have f7 := hm10.frozen 7
        have c7 := hm10.cell 7
        simp only [List.setIfInBounds_toArray, List.set_cons_succ, List.set_cons_zero, List.getElem?_toArray, List.getElem?_cons_zero, List.getElem?_cons_succ] at c7
        obtain ⟨w11, hw11⟩ : ∃ w11, (w9.drewN q10).setCell ⟨gp, 7, none⟩ (.int .u32 (rd4 l 14)) = w11 := ⟨_, rfl⟩
        have HM11 : Hid (Bk w11 gp 43 #[.int .i64 1, .int .u8 (at8 l 8), .int .u8 (at8 l 9), .int .u8 (at8 l 10), .int .u8 (at8 l 11), .int .u8 (at8 l 12), .int .u8 (at8 l 13), .int .u32 (rd4 l 14), .int .u8 0, .int .u8 0, .int .u8 0, .int .u8 0, .int .u8 0, .int .u8 0, .int .u32 0]) := Lib.hid (by rw [← hw11]; exact hm10.set 7 (.int .u32 (rd4 l 14)))
        have HY11 := Lib.hid ((HY9.out.drewN q10).far (p := ⟨gp, 7, none⟩) hne (.int .u32 (rd4 l 14)))
        rw [hw11] at HY11
        have HB11 := Lib.hid (Below.set1_ (bel_drewN HB9.out q10) gp 7 hge (.int .u32 (rd4 l 14)))
        rw [hw11] at HB11
        have HR11 : Hid (RB w11 B (some ⟨b, off, none⟩) l) := Lib.hid (by rw [← hw11]; exact (Rw.drewN HR9.out q10).setCell (p := ⟨gp, 7, none⟩) hBg (.int .u32 (rd4 l 14)))
        have hr11 : RB w11.drew B (some ⟨b, off + 18, none⟩) ((l.drop 18).take 6) := Rw.drew ((HR11.out.from_ 18).take 6)
        have hn11 : 8 + 6 ≤ (#[.int .i64 1, .int .u8 (at8 l 8), .int .u8 (at8 l 9), .int .u8 (at8 l 10), .int .u8 (at8 l 11), .int .u8 (at8 l 12), .int .u8 (at8 l 13), .int .u32 (rd4 l 14), .int .u8 0, .int .u8 0, .int .u8 0, .int .u8 0, .int .u8 0, .int .u8 0, .int .u32 0] : Array Value).size := by simp
        have HW11 := Lib.hid hw11
        clear hm10 hw11
        go_wp2_with fail
        rw [HW11.out]
        go_region_held3 (fun _ => True) (trivial)
          (first
            | (refine cp8 rfl (.tmp 51) (.tmp 53) 27 Try.underlying27 rfl rfl (HM11.out.drew) rfl hr11 HL18.out rfl P3 hn11 ?_; intro w13 hm13 k13))
        have hm13' : Bk w13 gp 43 #[.int .i64 1, .int .u8 (at8 l 8), .int .u8 (at8 l 9), .int .u8 (at8 l 10), .int .u8 (at8 l 11), .int .u8 (at8 l 12), .int .u8 (at8 l 13), .int .u32 (rd4 l 14), .int .u8 (at8 l 18), .int .u8 (at8 l 19), .int .u8 (at8 l 20), .int .u8 (at8 l 21), .int .u8 (at8 l 22), .int .u8 (at8 l 23), .int .u32 0] := by
          rw [six_at l 18 (by rw [HN.out]; omega)] at hm13
          exact hm13
        have HM13 := Lib.hid hm13'
        have HY13 := Lib.hid ((HY11.out.drew).grown k13 (by intro e; injection e with e; exact hne e))
        have HB13 : Hid (Below w.heap.size w w13) := Lib.hid ((HB11.out.drew).grown k13 HB11.out.size (by intro i e; injection e with e; omega))
        have HR13 : Hid (RB w13 B (some ⟨b, off, none⟩) l) := Lib.hid ((Rw.drew HR11.out).grown k13 (by have h := HB11.out.size; show B ≤ w11.heap.size; omega) (by intro i e; injection e with e; omega))
        clear hm13 hm13' k13 hr11 f7 c7
        go_wp2_with fail
        refine (get4_any (some ⟨b, off, none⟩) n c B l 24 HN.out (by omega) (by omega) hb _ HR13.out).mono ?_
        rintro e w14 ⟨rfl, q14, rfl⟩
        have hm14 := HM13.out.drewN q14
        have hy14 := HY13.out.drewN q14
        have f14 := hm14.frozen 14
        have d0 := hm14.cell 0
        have d1 := hm14.cell 1
        have d2 := hm14.cell 2
        have d3 := hm14.cell 3
        have d4 := hm14.cell 4
        have d5 := hm14.cell 5
        have d6 := hm14.cell 6
        have d7 := hm14.cell 7
        have d8 := hm14.cell 8
        have d9 := hm14.cell 9
        have d10 := hm14.cell 10
        have d11 := hm14.cell 11
        have d12 := hm14.cell 12
        have d13 := hm14.cell 13
        have d14 := hm14.cell 14
        have y0 := hy14.cell 0
        have y1 := hy14.cell 1
        have y2 := hy14.cell 2
        have y3 := hy14.cell 3
        have y4 := hy14.cell 4
        have y5 := hy14.cell 5
        have y6 := hy14.cell 6
        have y7 := hy14.cell 7
        have y8 := hy14.cell 8
        have y9 := hy14.cell 9
        have y10 := hy14.cell 10
        have y11 := hy14.cell 11
        have y12 := hy14.cell 12
        have y13 := hy14.cell 13
        have y14 := hy14.cell 14
        have x0 := hy14.frozen 0
        have x1 := hy14.frozen 1
        have x2 := hy14.frozen 2
        have x3 := hy14.frozen 3
        have x4 := hy14.frozen 4
        have x5 := hy14.frozen 5
        have x6 := hy14.frozen 6
        have x7 := hy14.frozen 7
        have x8 := hy14.frozen 8
        have x9 := hy14.frozen 9
        have x10 := hy14.frozen 10
        have x11 := hy14.frozen 11
        have x12 := hy14.frozen 12
        have x13 := hy14.frozen 13
        have x14 := hy14.frozen 14
        simp only [List.setIfInBounds_toArray, List.set_cons_succ, List.set_cons_zero, List.getElem?_toArray, List.getElem?_cons_zero, List.getElem?_cons_succ] at d0 y0 d1 y1 d2 y2 d3 y3 d4 y4 d5 y5 d6 y6 d7 y7 d8 y8 d9 y9 d10 y10 d11 y11 d12 y12 d13 y13 d14 y14
        clear hm14 hy14 hx'
        go_wp2
        refine bodyPost_ret (v := .tuple #[.agg #[.int .i64 1, .int .u8 (at8 l 8), .int .u8 (at8 l 9), .int .u8 (at8 l 10), .int .u8 (at8 l 11), .int .u8 (at8 l 12), .int .u8 (at8 l 13), .int .u32 (rd4 l 14), .int .u8 (at8 l 18), .int .u8 (at8 l 19), .int .u8 (at8 l 20), .int .u8 (at8 l 21), .int .u8 (at8 l 22), .int .u8 (at8 l 23), .int .u32 (rd4 l 24)], .int .i64 0]) (by simp [results, Try.results22, go_sem, *]) rfl ⟨.inl ⟨hgd.out, ?_⟩, ?_⟩
        · unfold arpC rd2
          rw [HV.out, H6.out]
          rfl
        · iterate 15 refine Below.set1 ?_ (Nat.le_refl _) _
          exact Below.set1_ (bel_drewN HB13.out q14) gp 14 hge _
set_option maxHeartbeats 4000000 in
set_option maxRecDepth 100000 in
theorem rdec_v2 (A : Option Addr) (n c B : Nat) (l : List Int) (hn : l.length = n) (h8 : 28 ≤ n) (hc : n ≤ c) (hmax : n ≤ 1000000) (hb : Bs l) (hv7 : at8 l 7 = 2) (w : World) (hr : RB w B A l) (hB : B ≤ w.heap.size) :
    Calls Try.prog 22 #[.slice A n c] w fun e w' => ((goodA l ∧ e = .returned (.tuple #[.agg (arpC l), .int .i64 0])) ∨ (¬ goodA l ∧ e = .returned (.tuple #[.agg zeroC, .int .i64 3]))) ∧ Below w.heap.size w w' := by
  have HN := Lib.hid hn
  obtain ⟨b, off, rfl, hbB, _⟩ := hr.at_ (k := 0) (by omega)
  obtain ⟨gp, hgp⟩ : ∃ gp, w.heap.size + 1 = gp := ⟨_, rfl⟩
  obtain ⟨W, hW⟩ : ∃ W, ((w.alloc (.cells #[.int .i64 0, .int .u8 0, .int .u8 0, .int .u8 0, .int .u8 0, .int .u8 0, .int .u8 0, .int .u32 0, .int .u8 0, .int .u8 0, .int .u8 0, .int .u8 0, .int .u8 0, .int .u8 0, .int .u32 0] 43)).alloc (.cells #[.int .i64 0, .int .u8 0, .int .u8 0, .int .u8 0, .int .u8 0, .int .u8 0, .int .u8 0, .int .u32 0, .int .u8 0, .int .u8 0, .int .u8 0, .int .u8 0, .int .u8 0, .int .u8 0, .int .u32 0] 43)).alloc (.cells #[.int .u8 0, .int .u8 1, .int .u8 8, .int .u8 0, .int .u8 6, .int .u8 4, .int .u8 0] 5) = W := ⟨_, rfl⟩
  have hBW : Below w.heap.size w W := by rw [← hW]; exact (((Below.refl _ _).alloc (Nat.le_refl _) _).alloc (by simp) _).alloc (by simp; omega) _
  have hz : W.heap.size = gp + 1 + 1 := by rw [← hW, ← hgp]; simp
  have hg : Bk W w.heap.size 43 #[.int .i64 0, .int .u8 0, .int .u8 0, .int .u8 0, .int .u8 0, .int .u8 0, .int .u8 0, .int .u32 0, .int .u8 0, .int .u8 0, .int .u8 0, .int .u8 0, .int .u8 0, .int .u8 0, .int .u32 0] := by rw [← hW]; exact ((Bk.new w _ _).alloc _).alloc _
  have hm : Bk W gp 43 #[.int .i64 0, .int .u8 0, .int .u8 0, .int .u8 0, .int .u8 0, .int .u8 0, .int .u8 0, .int .u32 0, .int .u8 0, .int .u8 0, .int .u8 0, .int .u8 0, .int .u8 0, .int .u8 0, .int .u32 0] := by
    have := Bk.new (w.alloc (.cells #[.int .i64 0, .int .u8 0, .int .u8 0, .int .u8 0, .int .u8 0, .int .u8 0, .int .u8 0, .int .u32 0, .int .u8 0, .int .u8 0, .int .u8 0, .int .u8 0, .int .u8 0, .int .u8 0, .int .u32 0] 43)) 43 #[.int .i64 0, .int .u8 0, .int .u8 0, .int .u8 0, .int .u8 0, .int .u8 0, .int .u8 0, .int .u32 0, .int .u8 0, .int .u8 0, .int .u8 0, .int .u8 0, .int .u8 0, .int .u8 0, .int .u32 0]
    rw [World.size_alloc, hgp] at this
    rw [← hW]; exact this.alloc _
  have hh : Bk W (gp + 1) 5 #[.int .u8 0, .int .u8 1, .int .u8 8, .int .u8 0, .int .u8 6, .int .u8 4, .int .u8 0] := by
    have := Bk.new ((w.alloc (.cells #[.int .i64 0, .int .u8 0, .int .u8 0, .int .u8 0, .int .u8 0, .int .u8 0, .int .u8 0, .int .u32 0, .int .u8 0, .int .u8 0, .int .u8 0, .int .u8 0, .int .u8 0, .int .u8 0, .int .u32 0] 43)).alloc (.cells #[.int .i64 0, .int .u8 0, .int .u8 0, .int .u8 0, .int .u8 0, .int .u8 0, .int .u8 0, .int .u32 0, .int .u8 0, .int .u8 0, .int .u8 0, .int .u8 0, .int .u8 0, .int .u8 0, .int .u32 0] 43)) 5 #[.int .u8 0, .int .u8 1, .int .u8 8, .int .u8 0, .int .u8 6, .int .u8 4, .int .u8 0]
    rw [World.size_alloc, World.size_alloc, hgp] at this
    rw [← hW]; exact this
  have hrh : RB W (gp + 1 + 1) (some ⟨gp + 1, 0, none⟩) head7 := hh.rb_ 0 _ (by intro j hj; simp only [head7, List.length_cons, List.length_nil] at hj; rcases j with _ | _ | _ | _ | _ | _ | _ | j <;> first | rfl | omega)
  have hrW : RB W B (some ⟨b, off, none⟩) l := Rw.below hr (hBW.mono hB)
  have HW := Lib.hid hW
  have HBW := Lib.hid hBW
  have HZ := Lib.hid hz
  have HG := Lib.hid hg
  have HM := Lib.hid hm
  have HRH := Lib.hid hrh
  have HRW := Lib.hid hrW
  have HGP := Lib.hid hgp
  have HGI := Lib.hid (goodA_iff l (by rw [hn]; exact h8) hb)
  clear hn hW hBW hz hg hm hh hrh hrW hgp hr
  go_enter Try.func22, Try.ntmps22
  go_wp2
  rw [HW.out, HGP.out]
  go_loopw [6] (fun i wr => ∃ (k q : Nat), k ≤ 7 ∧ i = .int .i64 k ∧ Hid (l.take k = head7.take k) ∧ Hid (wr = W.drewN q)) (fun i _ => 7 - (intOf i).toNat)
  case atStart => exact ⟨0, 0, Nat.zero_le _, rfl, Lib.hid rfl, Lib.hid rfl⟩
  case round =>
    obtain ⟨k, q, hk, rfl, HT, HQ⟩ := hrel
    rcases Nat.lt_or_ge k 7 with c0 | c0
    · obtain ⟨b', off', e', _, hx⟩ := HRW.out.at_ (k := k) (by rw [HN.out]; omega)
      injection e' with e'; injection e' with ea eb; subst ea; subst eb
      obtain ⟨b', off', e', _, hy⟩ := HRH.out.at_ (k := k) (by simpa [head7] using c0)
      injection e' with e'; injection e' with ea eb; subst ea; subst eb
      rw [Nat.zero_add] at hy
      have hx' : wr.cell? ⟨b, off + k, none⟩ = some (.int .u8 (l[k]?.getD 0)) := by rw [HQ.out]; exact hx
      have hy' : wr.cell? ⟨gp + 1, k, none⟩ = some (.int .u8 (head7[k]?.getD 0)) := by rw [HQ.out]; exact hy
      have HTN := Lib.hid (take_next l head7 k (by rw [HN.out]; omega) (by simpa [head7] using c0) HT.out)
      have HNE : Hid (l[k]?.getD 0 ≠ head7[k]?.getD 0 → ¬ goodA l) := Lib.hid (by
        intro hne hgd
        have h7 := (HGI.out.1 hgd).1
        apply hne
        have := congrArg (fun m : List Int => m[k]?) h7
        simp only [List.getElem?_take, if_pos c0] at this
        rw [this])
      obtain ⟨x, hxx⟩ : ∃ x, l[k]?.getD 0 = x := ⟨_, rfl⟩
      obtain ⟨y, hyy⟩ : ∃ y, head7[k]?.getD 0 = y := ⟨_, rfl⟩
      rw [hxx] at hx' HTN HNE
      rw [hyy] at hy' HTN HNE
      have c1 : (k : Int) < 7 := by omega
      clear hx hy hxx hyy
      rcases Decidable.em (x = y) with rfl | hne
      · have HTM := Lib.hid (HTN.out rfl)
        clear HTN HNE
        go_wp2
        go_quiet (fail)
        go_wp2
        go_roundw
        case rel => exact ⟨k + 1, q + nq, by omega, by go_num, HTM, Lib.hid (by rw [HQ.out, World.drewN_drewN])⟩
        case measure => simp [intOf]; omega
      · have hne' : (x != y) = true := by simpa using hne
        go_wp2
        go_quiet (fail)
        have hgX : Bk (wr.drewN nq) w.heap.size 43 #[.int .i64 0, .int .u8 0, .int .u8 0, .int .u8 0, .int .u8 0, .int .u8 0, .int .u8 0, .int .u32 0, .int .u8 0, .int .u8 0, .int .u8 0, .int .u8 0, .int .u8 0, .int .u8 0, .int .u32 0] := by rw [HQ.out]; exact HG.out
        have hmX : Bk (wr.drewN nq) gp 43 #[.int .i64 0, .int .u8 0, .int .u8 0, .int .u8 0, .int .u8 0, .int .u8 0, .int .u8 0, .int .u32 0, .int .u8 0, .int .u8 0, .int .u8 0, .int .u8 0, .int .u8 0, .int .u8 0, .int .u32 0] := by rw [HQ.out]; exact HM.out
        have BB : Hid (Below w.heap.size w (wr.drewN nq)) := Lib.hid (by rw [HQ.out]; exact bel_drewN (bel_drewN HBW.out _) _)
        have d0 := hmX.cell 0
        have d1 := hmX.cell 1
        have d2 := hmX.cell 2
        have d3 := hmX.cell 3
        have d4 := hmX.cell 4
        have d5 := hmX.cell 5
        have d6 := hmX.cell 6
        have d7 := hmX.cell 7
        have d8 := hmX.cell 8
        have d9 := hmX.cell 9
        have d10 := hmX.cell 10
        have d11 := hmX.cell 11
        have d12 := hmX.cell 12
        have d13 := hmX.cell 13
        have d14 := hmX.cell 14
        have y0 := hgX.cell 0
        have y1 := hgX.cell 1
        have y2 := hgX.cell 2
        have y3 := hgX.cell 3
        have y4 := hgX.cell 4
        have y5 := hgX.cell 5
        have y6 := hgX.cell 6
        have y7 := hgX.cell 7
        have y8 := hgX.cell 8
        have y9 := hgX.cell 9
        have y10 := hgX.cell 10
        have y11 := hgX.cell 11
        have y12 := hgX.cell 12
        have y13 := hgX.cell 13
        have y14 := hgX.cell 14
        have x0 := hgX.frozen 0
        have x1 := hgX.frozen 1
        have x2 := hgX.frozen 2
        have x3 := hgX.frozen 3
        have x4 := hgX.frozen 4
        have x5 := hgX.frozen 5
        have x6 := hgX.frozen 6
        have x7 := hgX.frozen 7
        have x8 := hgX.frozen 8
        have x9 := hgX.frozen 9
        have x10 := hgX.frozen 10
        have x11 := hgX.frozen 11
        have x12 := hgX.frozen 12
        have x13 := hgX.frozen 13
        have x14 := hgX.frozen 14
        simp only [List.setIfInBounds_toArray, List.set_cons_succ, List.set_cons_zero, List.getElem?_toArray, List.getElem?_cons_zero, List.getElem?_cons_succ] at d0 y0 d1 y1 d2 y2 d3 y3 d4 y4 d5 y5 d6 y6 d7 y7 d8 y8 d9 y9 d10 y10 d11 y11 d12 y12 d13 y13 d14 y14
        clear hgX hmX
        go_wp2
        refine bodyPost_ret (v := .tuple #[.agg #[.int .i64 0, .int .u8 0, .int .u8 0, .int .u8 0, .int .u8 0, .int .u8 0, .int .u8 0, .int .u32 0, .int .u8 0, .int .u8 0, .int .u8 0, .int .u8 0, .int .u8 0, .int .u8 0, .int .u32 0], .int .i64 3]) (by simp [results, Try.results22, go_sem, *]) rfl ⟨.inr ⟨HNE.out hne, rfl⟩, ?_⟩
        iterate 15 refine Below.set1 ?_ (Nat.le_refl _) _
        exact BB.out
    · obtain rfl : k = 7 := by omega
      obtain ⟨b', off', e', _, hx⟩ := HRW.out.at_ (k := 7) (by rw [HN.out]; omega)
      injection e' with e'; injection e' with ea eb; subst ea; subst eb
      have hx' : wr.cell? ⟨b, off + 7, none⟩ = some (.int .u8 (at8 l 7)) := by rw [HQ.out]; exact hx
      have T7 : Hid (l.take 7 = head7) := Lib.hid (by rw [HT.out]; rfl)
      have hv0 := at8_bd hb 7
      obtain ⟨v, hv⟩ : ∃ v, at8 l 7 = v := ⟨_, rfl⟩
      rw [hv] at hx' hv0
      have HV := Lib.hid hv
      clear hx hv
      obtain rfl : v = 2 := by rw [← HV.out]; exact hv7
      have e1 : (2 : Int) = 1 ∨ (2 : Int) = 2 := by omega
      · have hgd : Hid (goodA l) := Lib.hid (HGI.out.2 ⟨T7.out, by rw [HV.out]; exact e1⟩)
        have hgX : Bk wr w.heap.size 43 #[.int .i64 0, .int .u8 0, .int .u8 0, .int .u8 0, .int .u8 0, .int .u8 0, .int .u8 0, .int .u32 0, .int .u8 0, .int .u8 0, .int .u8 0, .int .u8 0, .int .u8 0, .int .u8 0, .int .u32 0] := by rw [HQ.out]; exact HG.out
        have hmX : Bk wr gp 43 #[.int .i64 0, .int .u8 0, .int .u8 0, .int .u8 0, .int .u8 0, .int .u8 0, .int .u8 0, .int .u32 0, .int .u8 0, .int .u8 0, .int .u8 0, .int .u8 0, .int .u8 0, .int .u8 0, .int .u32 0] := by rw [HQ.out]; exact HM.out
        have BB : Hid (Below w.heap.size w wr) := Lib.hid (by rw [HQ.out]; exact bel_drewN HBW.out _)
        have HRX : Hid (RB wr B (some ⟨b, off, none⟩) l) := Lib.hid (by rw [HQ.out]; exact Rw.drewN HRW.out q)
        have hne : w.heap.size ≠ gp := by have := HGP.out; omega
        have hne2 : gp ≠ w.heap.size := by have := HGP.out; omega
        have hge : w.heap.size ≤ gp := by have := HGP.out; omega
        have hBg : B ≤ gp := by omega
        have HL8 : Hid (((l.drop 8).take 6).length = 6) := Lib.hid (by simp; rw [HN.out]; omega)
        have HL18 : Hid (((l.drop 18).take 6).length = 6) := Lib.hid (by simp; rw [HN.out]; omega)
        have P3 : 0 < 6 := by decide
        have c14 : (14 : Int) ≤ n := by omega
        have c8n : ¬ c = 8 := by omega
        have c18n : ¬ c = 18 := by omega
        have c14c : (14 : Int) ≤ c := by omega
        have c24c : (24 : Int) ≤ c := by omega
        have H6 : Hid (at8 l 6 = 0) := Lib.hid (by
          have := congrArg (fun m : List Int => m[6]?.getD 0) T7.out
          simp only [List.getElem?_take, if_pos (show 6 < 7 by decide)] at this
          exact this)
        have c24 : (24 : Int) ≤ n := by omega
        have f0 := hmX.frozen 0
        have d0 := hmX.cell 0
        simp only [List.setIfInBounds_toArray, List.set_cons_succ, List.set_cons_zero, List.getElem?_toArray, List.getElem?_cons_zero, List.getElem?_cons_succ] at d0
        obtain ⟨w1, hw1⟩ : ∃ w1, wr.setCell ⟨gp, 0, none⟩ (.int .i64 2) = w1 := ⟨_, rfl⟩
        have HM1 : Hid (Bk w1 gp 43 #[.int .i64 2, .int .u8 0, .int .u8 0, .int .u8 0, .int .u8 0, .int .u8 0, .int .u8 0, .int .u32 0, .int .u8 0, .int .u8 0, .int .u8 0, .int .u8 0, .int .u8 0, .int .u8 0, .int .u32 0]) := Lib.hid (by rw [← hw1]; exact hmX.set 0 (.int .i64 2))
        have HY1 := Lib.hid (hgX.far (p := ⟨gp, 0, none⟩) hne (.int .i64 2))
        rw [hw1] at HY1
        have HB1 := Lib.hid (Below.set1_ BB.out gp 0 hge (.int .i64 2))
        rw [hw1] at HB1
        have HR1 : Hid (RB w1 B (some ⟨b, off, none⟩) l) := Lib.hid (by rw [← hw1]; exact HRX.out.setCell (p := ⟨gp, 0, none⟩) hBg (.int .i64 2))
        have hr1 : RB w1.drew B (some ⟨b, off + 8, none⟩) ((l.drop 8).take 6) := Rw.drew ((HR1.out.from_ 8).take 6)
        have hn1 : 1 + 6 ≤ (#[.int .i64 2, .int .u8 0, .int .u8 0, .int .u8 0, .int .u8 0, .int .u8 0, .int .u8 0, .int .u32 0, .int .u8 0, .int .u8 0, .int .u8 0, .int .u8 0, .int .u8 0, .int .u8 0, .int .u32 0] : Array Value).size := by simp
        have HW1 := Lib.hid hw1
        clear hmX hgX hw1
        go_wp2_with fail
        rw [HW1.out]
        go_region_held3 (fun _ => True) (trivial)
          (first
            | (refine cp8 rfl (.tmp 43) (.tmp 45) 27 Try.underlying27 rfl rfl (HM1.out.drew) rfl hr1 HL8.out rfl P3 hn1 ?_; intro w9 hm9 k9))
        have hm9' : Bk w9 gp 43 #[.int .i64 2, .int .u8 (at8 l 8), .int .u8 (at8 l 9), .int .u8 (at8 l 10), .int .u8 (at8 l 11), .int .u8 (at8 l 12), .int .u8 (at8 l 13), .int .u32 0, .int .u8 0, .int .u8 0, .int .u8 0, .int .u8 0, .int .u8 0, .int .u8 0, .int .u32 0] := by
          rw [six_at l 8 (by rw [HN.out]; omega)] at hm9
          exact hm9
        have HM9 := Lib.hid hm9'
        have HY9 := Lib.hid ((HY1.out.drew).grown k9 (by intro e; injection e with e; exact hne e))
        have HB9 : Hid (Below w.heap.size w w9) := Lib.hid ((HB1.out.drew).grown k9 HB1.out.size (by intro i e; injection e with e; omega))
        have HR9 : Hid (RB w9 B (some ⟨b, off, none⟩) l) := Lib.hid ((Rw.drew HR1.out).grown k9 (by have h := HB1.out.size; show B ≤ w1.heap.size; omega) (by intro i e; injection e with e; omega))
        clear hm9 hm9' k9 hr1 f0 d0
        go_wp2_with fail
        refine (get4_any (some ⟨b, off, none⟩) n c B l 14 HN.out (by omega) (by omega) hb _ HR9.out).mono ?_
        rintro e w10 ⟨rfl, q10, rfl⟩
        have hm10 := HM9.out.drewN q10
        have f7 := hm10.frozen 7
        have c7 := hm10.cell 7
        simp only [List.setIfInBounds_toArray, List.set_cons_succ, List.set_cons_zero, List.getElem?_toArray, List.getElem?_cons_zero, List.getElem?_cons_succ] at c7
        obtain ⟨w11, hw11⟩ : ∃ w11, (w9.drewN q10).setCell ⟨gp, 7, none⟩ (.int .u32 (rd4 l 14)) = w11 := ⟨_, rfl⟩
        have HM11 : Hid (Bk w11 gp 43 #[.int .i64 2, .int .u8 (at8 l 8), .int .u8 (at8 l 9), .int .u8 (at8 l 10), .int .u8 (at8 l 11), .int .u8 (at8 l 12), .int .u8 (at8 l 13), .int .u32 (rd4 l 14), .int .u8 0, .int .u8 0, .int .u8 0, .int .u8 0, .int .u8 0, .int .u8 0, .int .u32 0]) := Lib.hid (by rw [← hw11]; exact hm10.set 7 (.int .u32 (rd4 l 14)))
        have HY11 := Lib.hid ((HY9.out.drewN q10).far (p := ⟨gp, 7, none⟩) hne (.int .u32 (rd4 l 14)))
        rw [hw11] at HY11
        have HB11 := Lib.hid (Below.set1_ (bel_drewN HB9.out q10) gp 7 hge (.int .u32 (rd4 l 14)))
        rw [hw11] at HB11
        have HR11 : Hid (RB w11 B (some ⟨b, off, none⟩) l) := Lib.hid (by rw [← hw11]; exact (Rw.drewN HR9.out q10).setCell (p := ⟨gp, 7, none⟩) hBg (.int .u32 (rd4 l 14)))
        have hr11 : RB w11.drew B (some ⟨b, off + 18, none⟩) ((l.drop 18).take 6) := Rw.drew ((HR11.out.from_ 18).take 6)
        have hn11 : 8 + 6 ≤ (#[.int .i64 2, .int .u8 (at8 l 8), .int .u8 (at8 l 9), .int .u8 (at8 l 10), .int .u8 (at8 l 11), .int .u8 (at8 l 12), .int .u8 (at8 l 13), .int .u32 (rd4 l 14), .int .u8 0, .int .u8 0, .int .u8 0, .int .u8 0, .int .u8 0, .int .u8 0, .int .u32 0] : Array Value).size := by simp
        have HW11 := Lib.hid hw11
        clear hm10 hw11
        go_wp2_with fail
        rw [HW11.out]
        go_region_held3 (fun _ => True) (trivial)
          (first
            | (refine cp8 rfl (.tmp 51) (.tmp 53) 27 Try.underlying27 rfl rfl (HM11.out.drew) rfl hr11 HL18.out rfl P3 hn11 ?_; intro w13 hm13 k13))
        have hm13' : Bk w13 gp 43 #[.int .i64 2, .int .u8 (at8 l 8), .int .u8 (at8 l 9), .int .u8 (at8 l 10), .int .u8 (at8 l 11), .int .u8 (at8 l 12), .int .u8 (at8 l 13), .int .u32 (rd4 l 14), .int .u8 (at8 l 18), .int .u8 (at8 l 19), .int .u8 (at8 l 20), .int .u8 (at8 l 21), .int .u8 (at8 l 22), .int .u8 (at8 l 23), .int .u32 0] := by
          rw [six_at l 18 (by rw [HN.out]; omega)] at hm13
          exact hm13
        have HM13 := Lib.hid hm13'
        have HY13 := Lib.hid ((HY11.out.drew).grown k13 (by intro e; injection e with e; exact hne e))
        have HB13 : Hid (Below w.heap.size w w13) := Lib.hid ((HB11.out.drew).grown k13 HB11.out.size (by intro i e; injection e with e; omega))
        have HR13 : Hid (RB w13 B (some ⟨b, off, none⟩) l) := Lib.hid ((Rw.drew HR11.out).grown k13 (by have h := HB11.out.size; show B ≤ w11.heap.size; omega) (by intro i e; injection e with e; omega))
        clear hm13 hm13' k13 hr11 f7 c7
        go_wp2_with fail
        refine (get4_any (some ⟨b, off, none⟩) n c B l 24 HN.out (by omega) (by omega) hb _ HR13.out).mono ?_
        rintro e w14 ⟨rfl, q14, rfl⟩
        have hm14 := HM13.out.drewN q14
        have hy14 := HY13.out.drewN q14
        have f14 := hm14.frozen 14
        have d0 := hm14.cell 0
        have d1 := hm14.cell 1
        have d2 := hm14.cell 2
        have d3 := hm14.cell 3
        have d4 := hm14.cell 4
        have d5 := hm14.cell 5
        have d6 := hm14.cell 6
        have d7 := hm14.cell 7
        have d8 := hm14.cell 8
        have d9 := hm14.cell 9
        have d10 := hm14.cell 10
        have d11 := hm14.cell 11
        have d12 := hm14.cell 12
        have d13 := hm14.cell 13
        have d14 := hm14.cell 14
        have y0 := hy14.cell 0
        have y1 := hy14.cell 1
        have y2 := hy14.cell 2
        have y3 := hy14.cell 3
        have y4 := hy14.cell 4
        have y5 := hy14.cell 5
        have y6 := hy14.cell 6
        have y7 := hy14.cell 7
        have y8 := hy14.cell 8
        have y9 := hy14.cell 9
        have y10 := hy14.cell 10
        have y11 := hy14.cell 11
        have y12 := hy14.cell 12
        have y13 := hy14.cell 13
        have y14 := hy14.cell 14
        have x0 := hy14.frozen 0
        have x1 := hy14.frozen 1
        have x2 := hy14.frozen 2
        have x3 := hy14.frozen 3
        have x4 := hy14.frozen 4
        have x5 := hy14.frozen 5
        have x6 := hy14.frozen 6
        have x7 := hy14.frozen 7
        have x8 := hy14.frozen 8
        have x9 := hy14.frozen 9
        have x10 := hy14.frozen 10
        have x11 := hy14.frozen 11
        have x12 := hy14.frozen 12
        have x13 := hy14.frozen 13
        have x14 := hy14.frozen 14
        simp only [List.setIfInBounds_toArray, List.set_cons_succ, List.set_cons_zero, List.getElem?_toArray, List.getElem?_cons_zero, List.getElem?_cons_succ] at d0 y0 d1 y1 d2 y2 d3 y3 d4 y4 d5 y5 d6 y6 d7 y7 d8 y8 d9 y9 d10 y10 d11 y11 d12 y12 d13 y13 d14 y14
        clear hm14 hy14 hx'
        go_wp2
        refine bodyPost_ret (v := .tuple #[.agg #[.int .i64 2, .int .u8 (at8 l 8), .int .u8 (at8 l 9), .int .u8 (at8 l 10), .int .u8 (at8 l 11), .int .u8 (at8 l 12), .int .u8 (at8 l 13), .int .u32 (rd4 l 14), .int .u8 (at8 l 18), .int .u8 (at8 l 19), .int .u8 (at8 l 20), .int .u8 (at8 l 21), .int .u8 (at8 l 22), .int .u8 (at8 l 23), .int .u32 (rd4 l 24)], .int .i64 0]) (by simp [results, Try.results22, go_sem, *]) rfl ⟨.inl ⟨hgd.out, ?_⟩, ?_⟩
        · unfold arpC rd2
          rw [HV.out, H6.out]
          rfl
        · iterate 15 refine Below.set1 ?_ (Nat.le_refl _) _
          exact Below.set1_ (bel_drewN HB13.out q14) gp 14 hge _
theorem rdec_long (A : Option Addr) (n c B : Nat) (l : List Int) (hn : l.length = n) (h8 : 28 ≤ n) (hc : n ≤ c) (hmax : n ≤ 1000000) (hb : Bs l) (w : World) (hr : RB w B A l) (hB : B ≤ w.heap.size) :
    Calls Try.prog 22 #[.slice A n c] w fun e w' => ((goodA l ∧ e = .returned (.tuple #[.agg (arpC l), .int .i64 0])) ∨ (¬ goodA l ∧ e = .returned (.tuple #[.agg zeroC, .int .i64 3]))) ∧ Below w.heap.size w w' := by
  rcases (by omega : (at8 l 7 ≠ 1 ∧ at8 l 7 ≠ 2) ∨ at8 l 7 = 1 ∨ at8 l 7 = 2) with h | h | h
  · exact rdec_bad A n c B l hn h8 hc hmax hb h w hr hB
  · exact rdec_v1 A n c B l hn h8 hc hmax hb h w hr hB
  · exact rdec_v2 A n c B l hn h8 hc hmax hb h w hr hB
end Go.Proofs.Ytocigdkndlmikaa
