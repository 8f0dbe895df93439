/- Proved: the reference's wheel in memory: what it is, and where a key's timer stands. Conditions: the wheel lies in memory. -/
import Derived.Test.YtnnblakjaiccfaaOnceL
set_option linter.unusedVariables false
set_option linter.unusedSimpArgs false
namespace Go.Proofs.Ytnnblakjaiccfaa
open Go.RowKit

/-- The reference's wheel at q: its row lies anywhere in another block. -/
def RfAt (w : World) (q : Nat) (A : Option Addr) (n c : Nat) (S : Mt) : Prop :=
  Bk w q 43 #[.slice A n c] ∧ Rw w w.heap.size A (tmsC S) ∧ S.length = n ∧ n ≤ c ∧ blk A ≠ some q
section
variable {w w' : World} {q : Nat} {A : Option Addr} {n c : Nat} {S : Mt}
theorem RfAt.drewN (h : RfAt w q A n c S) (k : Nat) : RfAt (w.drewN k) q A n c S := h
theorem RfAt.lt (h : RfAt w q A n c S) : q < w.heap.size := Bk.lt h.1
theorem RfAt.cellL (h : RfAt w q A n c S) : w.cell? ⟨q, 0, none⟩ = some (.slice A n c) := by
  have := h.1.cell 0
  rw [this]; rfl
theorem RfAt.at_ (h : RfAt w q A n c S) {k : Nat} {t : Int × Int} (ht : S[k]? = some t) :
    ∃ g off, A = some ⟨g, off, none⟩ ∧ g < w.heap.size ∧ w.cell? ⟨g, off + k * 2, none⟩ = some (.int .i64 t.1) ∧ w.cell? ⟨g, off + k * 2 + 1, none⟩ = some (.int .i64 t.2) := by
  obtain ⟨e1, e2⟩ := tmsC_get S k t ht
  obtain ⟨g, off, hA, hg, hc⟩ := h.2.1.at_ e1
  obtain ⟨g', off', hA', _, hc'⟩ := h.2.1.at_ e2
  rw [hA] at hA'
  injection hA' with hA'
  injection hA' with h1 h2
  subst h1; subst h2
  exact ⟨g, off, hA, hg, hc, hc'⟩
end
/-- Where a key stands. -/
def SpotIs (S : Mt) (k z : Int) : Prop := (z = -1 ∧ ∀ t ∈ S, t.1 ≠ k) ∨ ∃ (i : Nat) (t : Int × Int), z = i ∧ S[i]? = some t ∧ t.1 = k
set_option maxHeartbeats 2000000 in
set_option maxRecDepth 100000 in
theorem spot_any (q : Nat) (A : Option Addr) (n c : Nat) (S : Mt) (k : Int) (w : World) (h : RfAt w q A n c S) (hn : n ≤ 100000) :
    Calls Try.prog 32 #[.pointer (some ⟨q, 0, none⟩), .int .i64 k] w fun e w' => ∃ z, e = .returned (.int .i64 z) ∧ SpotIs S k z ∧ ∃ j, w' = w.drewN j := by
  have HH := Lib.hid h
  have HL : Hid (S.length = n) := Lib.hid h.2.2.1
  have hcl := h.cellL
  clear h
  have HX0 : Hid (∀ t ∈ S.take 0, t.1 ≠ k) := Lib.hid (fun t ht => by simp at ht)
  go_enter Try.func32, Try.ntmps32
  go_wp2
  go_loopw [5] (fun v5 wr => ∃ i j : Nat, i ≤ n ∧ v5 = .int .i64 i ∧ Hid (∀ t ∈ S.take i, t.1 ≠ k) ∧ wr = w.drewN j) (fun v5 _ => n - (intOf v5).toNat)
  case atStart => exact ⟨0, 0, Nat.zero_le _, rfl, HX0, rfl⟩
  case round =>
    obtain ⟨i, j, hi, rfl, HX, rfl⟩ := hrel
    rcases Nat.lt_or_ge i n with y | y
    · obtain ⟨t, ht⟩ : ∃ t, S[i]? = some t := ⟨_, List.getElem?_eq_getElem (by rw [HL.out]; exact y)⟩
      obtain ⟨g, off, hA, hg, c0, c1⟩ := HH.out.at_ ht
      subst hA
      have y' : (i : Int) < n := by omega
      obtain ⟨t1, t2⟩ := t
      simp only at c0 c1
      have HT := Lib.hid ht
      clear ht
      rcases Classical.em (t1 = k) with e | e
      · have e1 : (t1 == k) = true := beq_iff_eq.2 e
        have HE := Lib.hid e
        clear e
        go_wp2
        go_ret
        exact ⟨i, rfl, .inr ⟨i, _, rfl, HT.out, HE.out⟩, _, rfl⟩
      · have e1 : (t1 == k) = false := beq_eq_false_iff_ne.2 e
        have HN : Hid (∀ t ∈ S.take (i + 1), t.1 ≠ k) := Lib.hid (fun u hu => by
          rw [List.take_add_one, HT.out] at hu
          rcases List.mem_append.1 hu with hu | hu
          · exact HX.out u hu
          · simp at hu; subst hu; exact e)
        clear e
        go_wp2
        go_roundw
        case rel => exact ⟨i + 1, _, by omega, by go_num, HN, rfl⟩
        case measure => simp [intOf]; omega
    · obtain rfl : i = n := by omega
      have y' : ¬ (i : Int) < i := by omega
      go_wp2
      go_ret
      exact ⟨-1, rfl, .inl ⟨rfl, fun t ht => HX.out t (by rw [List.take_of_length_le (by rw [HL.out]; exact Nat.le_refl _)]; exact ht)⟩, _, rfl⟩
end Go.Proofs.Ytnnblakjaiccfaa
