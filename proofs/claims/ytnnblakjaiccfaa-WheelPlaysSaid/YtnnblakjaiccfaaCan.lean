/- Proved: a key's timer is taken away: Cancel of a wheel, by its walk. Conditions: the wheel lies in memory. -/
import Derived.Test.YtnnblakjaiccfaaDel
import Derived.Deep.RegionLaw
set_option linter.unusedVariables false
set_option linter.unusedSimpArgs false
namespace Go.Proofs.Ytnnblakjaiccfaa
open Go.RowKit

def CanPost (F : Nat → Prop) (p : Nat) (mv : Option Nat) (M : Mt) (k : Int) (w : World) (e : Ending) (w' : World) : Prop :=
  e = .returned (.bool (getM M k).isSome) ∧ ∃ L', WhAt w' F p L' mv (delM M k) ∧ Chg F w w'
set_option maxHeartbeats 4000000 in
set_option maxRecDepth 100000 in
theorem cancel_any (p : Nat) (L : List Sl) (mv : Option Nat) (M : Mt) (F : Nat → Prop) (k : Int) (hk : okI k) (w : World) (h : WhAt w F p L mv M) :
    Calls Try.prog 17 #[.pointer (some ⟨p, 0, none⟩), .int .i64 k] w (CanPost F p mv M k w) := by
  obtain ⟨gk, hgk⟩ : ∃ gk, w.heap.size = gk := ⟨_, rfl⟩
  obtain ⟨W, hW⟩ : ∃ W, w.alloc (.cells #[.int .i64 k] 3) = W := ⟨_, rfl⟩
  have hm : Bk W gk 3 #[.int .i64 k] := by rw [← hW, ← hgk]; exact Bk.new w _ _
  have hB : Below w.heap.size w W := by rw [← hW]; exact (Below.refl _ _).alloc (Nat.le_refl _) _
  have h1 := h.below hB
  have c0 : W.cell? ⟨gk, 0, none⟩ = some (.int .i64 k) := hm.cell 0
  have hpl := h.bk.lt
  have hpg : p ≠ gk := by omega
  have HW := Lib.hid hW
  have HGK := Lib.hid hgk
  have HM := Lib.hid hm
  have HB := Lib.hid hB
  have HH := Lib.hid h1
  have hgl := hm.lt
  have HAT := Lib.hid (at_any p L mv M F k hk W h1)
  have HK := Lib.hid hk
  clear hW hgk hm hB h h1 hk
  go_enter Try.func17, Try.ntmps17
  cases hg : getM M k with
  | none =>
    have HGN := Lib.hid hg
    rw [hg] at HAT
    clear hg
    go_wp2_with fail
    rw [HW.out, HGK.out]
    refine HAT.out.mono ?_
    rintro e w1 ⟨rfl, rfl⟩
    go_wp2
    go_ret
    exact ⟨by rw [HGN.out]; rfl, L, by rw [delM_none HGN.out]; exact HH.out, Chg.of_below HB.out⟩
  | some a =>
    have hmem := getM_some hg
    obtain ⟨_, ha0, ha1⟩ := HH.out.ok.bd _ hmem
    obtain ⟨i, hi⟩ : ∃ i : Nat, a % 64 = i := ⟨(a % 64).toNat, by omega⟩
    obtain ⟨s, hs, hts⟩ := HH.out.ok.inL _ hmem
    simp only [hi, Int.toNat_natCast] at hs
    obtain ⟨S1, S2, hS⟩ := List.append_of_mem hts
    have hnd := HH.out.ok.nd s (List.mem_of_getElem? hs)
    rw [hS, List.map_append, List.map_cons, List.nodup_append, List.nodup_cons] at hnd
    have hne1 : ∀ t ∈ S1, t.1 ≠ k := fun t ht e => hnd.2.2 t.1 (List.mem_map.2 ⟨t, ht, rfl⟩) k (by simp) e
    have hne2 : ∀ t ∈ S2, t.1 ≠ k := fun t ht e => hnd.2.1.1 (by rw [← e]; exact List.mem_map.2 ⟨t, ht, rfl⟩)
    obtain ⟨sA, sn, sc, sS⟩ := s
    simp only at hS
    have hrow := HH.out.sl _ (List.mem_of_getElem? hs)
    obtain ⟨hT, hF⟩ := hrow
    simp only at hT hF
    have hci : W.cell? ⟨p, i, none⟩ = some (.slice sA sn sc) := HH.out.cell hs
    have hfz := HH.out.bk.frozen i
    have hrn : ∀ b, blk sA = some b → b ≠ p ∧ mv ≠ some b := fun b hb => HH.out.row_ne hs hb
    simp only at ha0 ha1
    have hsn : sn ≤ 100000 := by
      have h1 := hT.len
      have h2 : sS.length ≤ M.length := by
        have h3 := HH.out.ok.nd _ (List.mem_of_getElem? hs)
        simp only at h3
        have h4 : (sS.map (·.1)).Sublist (M.map (·.1)) ∨ True := .inr trivial
        have h5 : (sS.map (·.1)) ⊆ (M.map (·.1)) := fun x hx => by
          obtain ⟨t, ht, rfl⟩ := List.mem_map.1 hx
          exact List.mem_map.2 ⟨t, (HH.out.ok.inM i _ hs t ht).1, rfl⟩
        have := List.Nodup.length_le_of_subset h3 h5
        simpa using this
      have := HH.out.ok.room
      omega
    have hblkg : blk sA ≠ some gk := fun e => by
      obtain ⟨cur, hc⟩ := hT.blk_cells e
      have := HM.out
      unfold Bk at this
      rw [this] at hc
      injection hc with hc
      injection hc with _ hc
      exact absurd hc (by decide)
    rw [hS] at hT
    have HDEL := Lib.hid (delete_any sA sn sc 0 S1 S2 (k, a) k gk hne1 hne2 rfl hsn W hT hgl c0 hblkg)
    have HSL := Lib.hid (slot_any p a ha0 ha1 i hi W)
    have HS := Lib.hid hS
    have HI := Lib.hid hi
    have HLI := Lib.hid hs
    have HMEM := Lib.hid hmem
    have HF := Lib.hid hF
    have HRN := Lib.hid hrn
    have hi64 : i < 64 := by omega
    rw [hg] at HAT
    have HG := Lib.hid hg
    clear hg hmem hs hts hnd hne1 hne2 hT hF hrn hS hi
    go_wp2_with fail
    rw [HW.out, HGK.out]
    refine HAT.out.mono ?_
    rintro e w1 ⟨rfl, rfl⟩
    go_wp2_with fail
    refine HSL.out.mono ?_
    rintro e w1 ⟨rfl, rfl⟩
    go_wp2_with fail
    refine HDEL.out.mono ?_
    rintro e W2 ⟨rfl, hT2, hg2⟩
    have hz2 := hg2.size
    have hp2 : Bk W2 p 27 (L.map slV ++ [Value.map mv]).toArray := (hg2.block p HH.out.bk.lt (fun e => (HRN.out p e.symm).1 rfl)).trans HH.out.bk
    have fz2 := hp2.frozen i
    have ci2 : W2.cell? ⟨p, i, none⟩ = some (.slice sA sn sc) := by
      have := hp2.cell i
      rw [this, List.getElem?_toArray, List.getElem?_append_left (by rw [List.length_map, HH.out.len]; exact hi64), List.getElem?_map, HLI.out]
      rfl
    obtain ⟨W3, hW3⟩ : ∃ W3, W2.setCell ⟨p, i, none⟩ (.slice sA (sn - 1) sc) = W3 := ⟨_, rfl⟩
    have hp3 : Bk W3 p 27 ((L.set i ⟨sA, sn - 1, sc, S1 ++ S2⟩).map slV ++ [Value.map mv]).toArray := by rw [← hW3]; exact whBk_set hp2 (by rw [HH.out.len]; exact hi64) ⟨sA, sn - 1, sc, S1 ++ S2⟩
    obtain ⟨b, hb⟩ : ∃ b, mv = some b := by
      cases hmv : mv with
      | some b => exact ⟨b, rfl⟩
      | none => have := HMEM.out; rw [HH.out.nomap hmv] at this; cases this
    obtain ⟨hFb, hIb⟩ := HH.out.map b hb
    have hbp := HH.out.map_ne hb
    have hI2 : IM mkI okI W2 b (M.map mEnt) := hIb.kept hg2 (fun e => (HRN.out b e.symm).2 hb)
    have hI3 : IM mkI okI W3 b (M.map mEnt) := by rw [← hW3]; exact hI2.setCell hbp _
    have hT3 : Tm 54 W3 0 sA (sn - 1) sc (S1 ++ S2) := by
      refine hT2.of_block fun g hg => ?_
      rw [← hW3]
      exact Below.heap_setCell W2 ⟨p, i, none⟩ _ g (HRN.out g hg).1
    have hk3 : W3.drew.cell? ⟨gk, 0, none⟩ = some (.int .i64 k) := by
      show W3.cell? _ = _
      have hm2 : Bk W2 gk 3 #[.int .i64 k] := (hg2.block gk HM.out.lt (fun e => hblkg e.symm)).trans HM.out
      have hm3 : Bk W3 gk 3 #[.int .i64 k] := by rw [← hW3]; exact (Below.heap_setCell W2 ⟨p, i, none⟩ _ gk (fun e => hpg e.symm)).trans hm2
      exact hm3.cell 0
    have hm3 : W3.drew.cell? ⟨p, 64, none⟩ = some (.map mv) := by
      have := hp3.cell 64
      show W3.cell? _ = _
      rw [this, List.getElem?_toArray, List.getElem?_append_right (by rw [List.length_map, List.length_set, HH.out.len]; exact Nat.le_refl _), List.length_map, List.length_set, HH.out.len]
      rfl
    rw [hb] at hm3
    obtain ⟨W4, hdel, hI4, hg4, hz4⟩ := (hI3.drew).drop keyI mapU HK.out (0)
    have hdel' : (Builtin.delete_ #[25, 3] (0) #[.map (some b), .int .i64 k]).run Try.prog W3.drew = .ok (.tuple #[]) W4 := hdel
    have HP3 := Lib.hid hp3
    have HT3 := Lib.hid hT3
    have HI4 := Lib.hid hI4
    have HG4 := Lib.hid hg4
    have HG2 := Lib.hid hg2
    have HW3 := Lib.hid hW3
    have HMV := Lib.hid hb
    have HBP := Lib.hid hbp
    clear hp3 hT3 hI4 hg4 hg2 hW3 hp2 hI2 hI3 hT2 hIb hb hbp hdel hz4
    go_wp2_with fail
    rw [HW3.out]
    go_region
    have hkeep : ∀ b', b' ≠ p → blk sA ≠ some b' → mv ≠ some b' → b' < W.heap.size → W4.heap[b']? = W.heap[b']? := fun b' n1 n2 n3 hl => by
      have hl3 : b' < W3.drew.heap.size := by
        show b' < W3.heap.size
        rw [← HW3.out, size_setCell]
        omega
      rw [HG4.out.block b' hl3 (fun e => n3 (by rw [HMV.out]; exact e.symm))]
      show W3.heap[b']? = _
      rw [← HW3.out, Below.heap_setCell W2 ⟨p, i, none⟩ _ b' n1]
      exact HG2.out.block b' hl (fun e => n2 e.symm)
    have hpl3 : p < W3.drew.heap.size := HP3.out.lt
    have hfin : WhAt W4 F p (L.set i ⟨sA, sn - 1, sc, S1 ++ S2⟩) mv (delM M k) := by
      refine HH.out.upd HLI.out (fun b' _ n1 n2 n3 hl => hkeep b' n1 n2 n3 hl) ((HG4.out.block p hpl3 (fun e => HBP.out (by injection e with e; exact e.symm))).trans HP3.out) ⟨?_, fun b' hb' => HF.out b' hb'⟩ (.inl rfl) (fun b' hb' => ?_) (fun e => by rw [HMV.out] at e; cases e) (fun _ h => h) (WhOk.del HH.out.ok HMEM.out HLI.out HI.out HS.out)
      · refine (Tm.drew HT3.out).kept HG4.out ?_
        cases hA : blk sA with
        | none => exact .inl rfl
        | some b' => exact .inr (fun e => (HRN.out b' hA).2 (by rw [HMV.out]; exact e.symm))
      · rw [HMV.out] at hb'
        injection hb' with hb'
        subst hb'
        refine ⟨hFb, ?_⟩
        rw [← delL_mEnt (HH.out.map b HMV.out).2.nodup]
        exact HI4.out
    have hchg : Chg F w W4 := by
      refine ⟨?_, ?_, ?_, ?_, fun b' hl hnF => ?_⟩
      · rw [HG4.out.os]
        show W3.os = _
        rw [← HW3.out]
        exact HG2.out.os.trans HB.out.os
      · rw [HG4.out.tape]
        show W3.tape = _
        rw [← HW3.out]
        exact HG2.out.tape.trans HB.out.tape
      · rw [HG4.out.output]
        show W3.output = _
        rw [← HW3.out]
        exact HG2.out.output.trans HB.out.output
      · have h4 := HG4.out.size
        have h3 : W3.drew.heap.size = W2.heap.size := by
          show W3.heap.size = _
          rw [← HW3.out, size_setCell]
        have hb := HB.out.size
        omega
      · rw [hkeep b' (fun e => hnF (e ▸ HH.out.own)) (fun e => hnF (HF.out b' e)) (fun e => hnF (HH.out.map b' e).1) (Nat.lt_of_lt_of_le hl HB.out.size)]
        exact HB.out.block b' hl
    have HFIN := Lib.hid hfin
    have HCHG := Lib.hid hchg
    clear hfin hchg hkeep
    go_wp2
    go_ret
    exact ⟨by rw [HG.out]; rfl, _, HFIN.out, HCHG.out⟩
end Go.Proofs.Ytnnblakjaiccfaa
