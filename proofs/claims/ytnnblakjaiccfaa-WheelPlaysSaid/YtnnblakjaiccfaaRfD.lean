/- Proved: Due of the reference's wheel: those at the front go out. Conditions: the wheel lies in memory. -/
import Derived.Test.YtnnblakjaiccfaaRfA
set_option linter.unusedVariables false
set_option linter.unusedSimpArgs false
namespace Go.Proofs.Ytnnblakjaiccfaa
open Go.RowKit
theorem drop_cons_of {S : Mt} {i : Nat} {t : Int × Int} (h : S[i]? = some t) : S.drop i = t :: S.drop (i + 1) := by
  obtain ⟨h1, rfl⟩ := List.getElem?_eq_some_iff.1 h
  exact List.drop_eq_getElem_cons h1
/-- What the loop of Due knows. -/
def RDuR (w0 : World) (q : Nat) (A0 : Option Addr) (S : Mt) (now : Int) (g2 i m : Nat) (v5 : Value) (w : World) : Prop :=
  ∃ (AO : Option Addr) (cO : Nat) (A : Option Addr) (c : Nat), v5 = .slice AO i cO ∧ Ow 3 w g2 AO i cO (int64s ((S.take i).map (·.1))) ∧ Bk w q 43 #[.slice A m c] ∧ Rw w g2 A (tmsC (S.drop i)) ∧ m ≤ c ∧
    (blk A = blk A0 ∨ blk A = none) ∧ Chg (fun b => b = q) w0 w ∧ ∀ t ∈ S.take i, t.2 ≤ now
theorem rdu_step {w wr W4 : World} {q : Nat} {A AO A' : Option Addr} {S : Mt} {now : Int} {g2 i m1 cO c' c1 g off : Nat} {t1 t2 : Int}
    (hO : Ow 3 wr g2 AO i cO (int64s ((S.take i).map (·.1)))) (hO4 : Ow 3 W4 g2 A' (i + 1) c' (int64s ((S.take i).map (·.1) ++ [t1]))) (hg4 : wr.grownBy W4 (blk AO)) (hqg : q < g2)
    (hB : Bk wr q 43 #[.slice (some ⟨g, off, none⟩) (m1 + 1) c1]) (hB4 : Bk W4 q 43 #[.slice (some ⟨g, off, none⟩) (m1 + 1) c1])
    (hRw : Rw wr g2 (some ⟨g, off, none⟩) (tmsC ((t1, t2) :: S.drop (i + 1)))) (hmc : m1 + 1 ≤ c1) (hL : S.length = i + (m1 + 1)) (ht : S[i]? = some (t1, t2)) (hdr : S.drop i = (t1, t2) :: S.drop (i + 1)) (hz : t2 ≤ now)
    (hle : ∀ t ∈ S.take i, t.2 ≤ now) (hbA : blk (some (⟨g, off, none⟩ : Addr)) = blk A ∨ blk (some (⟨g, off, none⟩ : Addr)) = none) (hnq : blk A ≠ some q) (hC : Chg (fun b => b = q) w wr) (hg2 : w.heap.size = g2) :
    RDuR w q A S now g2 (i + 1) m1 (.slice A' (i + 1) c') (W4.setCell ⟨q, 0, none⟩ (.slice (if c1 = 1 then some ⟨g, off, none⟩ else some ⟨g, off + 2, none⟩) m1 (c1 - 1))) := by
  have hgA : blk A = some g := by
    rcases hbA with e | e
    · exact e.symm
    · cases e
  have hgq : g ≠ q := fun e => hnq (by rw [hgA, e])
  have hgs : ∀ v, W4.grownBy (W4.setCell ⟨q, 0, none⟩ v) (some q) := fun v => grownBy_setCell (World.grownBy.refl W4 (some q)) (.inl rfl) v
  have hsz : g2 ≤ wr.heap.size := by have := hC.size; omega
  have hs4 : wr.heap.size ≤ W4.heap.size := hg4.size
  obtain ⟨b0, o0, e0, hb0, hcs⟩ := hRw (by rw [tmsC_cons]; simp)
  injection e0 with e0
  injection e0 with e1 e2
  subst e1; subst e2
  have hrow : ∀ v, Rw (W4.setCell ⟨q, 0, none⟩ v) g2 (some ⟨g, off + 2, none⟩) (tmsC (S.drop (i + 1))) := fun v hn => by
    refine ⟨g, off + 2, rfl, hb0, fun j u hu => ?_⟩
    have h1 := hcs (j + 2) u hu
    rw [show off + 2 + j = off + (j + 2) by omega]
    have h2 : (W4.setCell ⟨q, 0, none⟩ v).heap[g]? = W4.heap[g]? := (hgs v).block g (by omega) (by simpa using hgq)
    have h3 : W4.heap[g]? = wr.heap[g]? := hg4.block g (by omega) (fun e => by have := (Ow.lt hO g e.symm).1; omega)
    exact (World.cell?_of_block (a := ⟨g, off + (j + 2), none⟩) (h2.trans h3)).trans h1
  refine ⟨A', c', (if c1 = 1 then some ⟨g, off, none⟩ else some ⟨g, off + 2, none⟩), c1 - 1, rfl, ?_, ?_, ?_, (by omega), ?_, ?_, ?_⟩
  · rw [List.take_add_one, ht, List.map_append]
    exact Ow.kept hO4 (hgs _) (.inr fun e => by have := (Ow.lt hO4 q e).1; omega)
  · exact hB4.set 0 _
  · split
    · have h0 : S.drop (i + 1) = [] := List.drop_of_length_le (by omega)
      rw [h0]
      exact fun hn => absurd hn (by simp [tmsC])
    · exact hrow _
  · left; rw [hgA]; split <;> rfl
  · exact Chg.setCell (hC.trans (Chg.of_grown (F := fun b => blk AO = some b) hg4 (fun b e => e)) (fun x hx => .inr (by rw [hg2]; exact (Ow.lt hO x hx).1))) (.inl rfl) _
  · intro t hts
    rw [List.take_add_one, ht] at hts
    rcases List.mem_append.1 hts with h | h
    · exact hle t h
    · simp at h; subst h; exact hz
set_option maxHeartbeats 2000000 in
set_option maxRecDepth 100000 in
theorem rdue_any (q : Nat) (A : Option Addr) (n c : Nat) (S : Mt) (now : Int) (w : World) (h : RfAt w q A n c S) (hn : n ≤ 100000) :
    Calls Try.prog 26 #[.pointer (some ⟨q, 0, none⟩), .int .i64 now] w fun e w' => ∃ (i m : Nat) (AO : Option Addr) (cO : Nat) (A' : Option Addr) (c' : Nat),
      e = .returned (.slice AO i cO) ∧ i + m = n ∧ (∀ t ∈ S.take i, t.2 ≤ now) ∧ (∀ t, S[i]? = some t → now < t.2) ∧
      Ow 3 w' w.heap.size AO i cO (int64s ((S.take i).map (·.1))) ∧ RfAt w' q A' m c' (S.drop i) ∧ (blk A' = blk A ∨ blk A' = none) ∧ Chg (fun b => b = q) w w' := by
  obtain ⟨g2, hg2⟩ : ∃ g2, w.heap.size = g2 := ⟨_, rfl⟩
  have HNQ := Lib.hid h.2.2.2.2
  have hqg : q < g2 := by rw [← hg2]; exact h.lt
  have HL : Hid (S.length = n) := Lib.hid h.2.2.1
  have HR0 : Hid (RDuR w q A S now g2 0 n (.slice none 0 0) w) := Lib.hid ⟨none, 0, A, c, rfl, Ow.none_ _ _ _, h.1, by rw [← hg2]; exact h.2.1, h.2.2.2.1, .inl rfl, Chg.refl _ _, fun t ht => by simp at ht⟩
  have HG := Lib.hid hg2
  rw [hg2]
  clear h hg2
  go_enter Try.func26, Try.ntmps26
  go_wp2
  go_loopw [5] (fun v5 wr => ∃ i m : Nat, i + m = n ∧ Hid (RDuR w q A S now g2 i m v5 wr) ∧ ∃ AO cO, v5 = .slice AO i cO) (fun v5 _ => n - (match v5 with | .slice _ i _ => i | _ => 0))
  case atStart => exact ⟨0, n, Nat.zero_add n, HR0, none, 0, rfl⟩
  case round =>
    obtain ⟨i, m, him, HR, AO, cO, rfl⟩ := hrel
    obtain ⟨AO', cO', A1, c1, hv, hO, hB, hRw, hmc, hbA, hC, hle⟩ := HR.out
    injection hv with hv1 hv2 hv3
    subst hv1; subst hv3
    have hcq : wr.cell? ⟨q, 0, none⟩ = some (.slice A1 m c1) := by have := hB.cell 0; rw [this]; rfl
    have hfq : wr.frozen? ⟨q, 0, none⟩ = false := hB.frozen 0
    have hsz : g2 ≤ wr.heap.size := by have := hC.size; rw [HG.out] at this; exact this
    rcases Nat.eq_zero_or_pos m with hm | hm
    · subst hm
      have f1 : decide ((0 : Int) < ((0 : Nat) : Int)) = false := rfl
      have HFI : Hid (∃ (i' m' : Nat) (AO' : Option Addr) (cO'' : Nat) (A' : Option Addr) (c' : Nat), Ending.returned (.slice AO i cO) = Ending.returned (.slice AO' i' cO'') ∧ i' + m' = n ∧ (∀ t ∈ S.take i', t.2 ≤ now) ∧ (∀ t, S[i']? = some t → now < t.2) ∧
          Ow 3 wr g2 AO' i' cO'' (int64s ((S.take i').map (·.1))) ∧ RfAt wr q A' m' c' (S.drop i') ∧ (blk A' = blk A ∨ blk A' = none) ∧ Chg (fun b => b = q) w wr) :=
        Lib.hid ⟨i, 0, AO, cO, A1, c1, rfl, him, hle, (fun t ht => by have := (List.getElem?_eq_some_iff.1 ht).1; rw [HL.out] at this; omega), hO, ⟨hB, hRw.more hsz, by rw [List.length_drop, HL.out]; omega, Nat.zero_le _, by rcases hbA with e | e <;> rw [e] <;> first | exact HNQ.out | exact fun h => by cases h⟩, hbA, hC⟩
      clear hO hB hRw hbA hC hle HR hv2
      go_wp2
      go_ret
      exact HFI.out
    · obtain ⟨m1, rfl⟩ : ∃ m1, m = m1 + 1 := ⟨m - 1, by omega⟩
      obtain ⟨t, ht⟩ : ∃ t, S[i]? = some t := ⟨_, List.getElem?_eq_getElem (by rw [HL.out]; omega)⟩
      have hdr := drop_cons_of ht
      rw [hdr] at hRw
      obtain ⟨g, off, hA, hgl, hcs⟩ := hRw (by rw [tmsC_cons]; simp)
      subst hA
      have d0 : wr.cell? ⟨g, off, none⟩ = some (.int .i64 t.1) := hcs 0 _ rfl
      have d1 : wr.cell? ⟨g, off + 1, none⟩ = some (.int .i64 t.2) := hcs 1 _ rfl
      have f1 : decide ((0 : Int) < ((m1 + 1 : Nat) : Int)) = true := decide_eq_true (by omega)
      have f2 : decide (0 < m1 + 1) = true := decide_eq_true (by omega)
      have f3 : (0 : Int) < ((m1 + 1 : Nat) : Int) := by omega
      have HT := Lib.hid ht
      obtain ⟨t1, t2⟩ := t
      simp only at d0 d1
      rcases (by omega : now < t2 ∨ t2 ≤ now) with z | z
      · have f4 : decide (t2 ≤ now) = false := decide_eq_false (by omega)
        have HFI : Hid (∃ (i' m' : Nat) (AO' : Option Addr) (cO'' : Nat) (A' : Option Addr) (c' : Nat), Ending.returned (.slice AO i cO) = Ending.returned (.slice AO' i' cO'') ∧ i' + m' = n ∧ (∀ t ∈ S.take i', t.2 ≤ now) ∧ (∀ t, S[i']? = some t → now < t.2) ∧
            Ow 3 wr g2 AO' i' cO'' (int64s ((S.take i').map (·.1))) ∧ RfAt wr q A' m' c' (S.drop i') ∧ (blk A' = blk A ∨ blk A' = none) ∧ Chg (fun b => b = q) w wr) :=
          Lib.hid ⟨i, m1 + 1, AO, cO, _, c1, rfl, him, hle, (fun u hu => by rw [ht] at hu; injection hu with hu; rw [← hu]; exact z), hO, ⟨hB, by rw [hdr]; exact hRw.more hsz, by rw [List.length_drop, HL.out]; omega, hmc, by rcases hbA with e | e <;> rw [e] <;> first | exact HNQ.out | exact fun h => by cases h⟩, hbA, hC⟩
        clear hO hB hRw hbA hC hle HR hv2 ht hdr hcs
        go_wp2
        go_ret
        exact HFI.out
      · have f4 : decide (t2 ≤ now) = true := decide_eq_true (by omega)
        have HO := Lib.hid hO
        have HB := Lib.hid hB
        have HRW := Lib.hid hRw
        have HC := Lib.hid hC
        have HLE := Lib.hid hle
        have HBA := Lib.hid hbA
        clear hO hB hRw hbA hC hle HR hv2 ht hcs
        have hi5 : i ≤ 100000 := by omega
        have hnq : some q ≠ blk AO := fun e => absurd (Ow.lt HO.out q e.symm).1 (by omega)
        go_wp2_with (at_builtin; refine ap_int rfl (.tmp 23) (.tmp 31) rfl g2 rfl HO.out t1 rfl hi5 hsz ?_; intro A' c' W4 hO4 hg4 hn4; have hB4 := Bk.grown HB.out hg4 hnq; have hcq4 : W4.cell? ⟨q, 0, none⟩ = some (.slice (some ⟨g, off, none⟩) (m1 + 1) c1) := (hB4.cell 0).trans rfl; have hfq4 := hB4.frozen 0)
        have HN : Hid (RDuR w q A S now g2 (i + 1) m1 (.slice A' (i + 1) c') (W4.setCell ⟨q, 0, none⟩ (.slice (if c1 = 1 then some ⟨g, off, none⟩ else some ⟨g, off + 2, none⟩) m1 (c1 - 1)))) :=
          Lib.hid (rdu_step HO.out hO4 hg4 hqg HB.out hB4 HRW.out hmc (HL.out.trans him.symm) HT.out hdr z HLE.out HBA.out HNQ.out HC.out HG.out)
        clear hO4 hg4 hn4 hB4 hcq4 hfq4
        go_roundw
        case rel => exact ⟨i + 1, m1, by omega, HN, _, _, rfl⟩
        case measure => simp; omega
end Go.Proofs.Ytnnblakjaiccfaa
