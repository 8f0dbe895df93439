/- Proved: the message that the reference's Decode reads, of eight bytes. Conditions: the bytes lie in memory. -/
import Derived.Test.YtlnodkfngomlmaaDec
import Derived.Deep.RegionHeld3
import Derived.Deep.RegionLaw
set_option linter.unusedVariables false
namespace Go.Proofs.Ytlnodkfngomlmaa
open Go.RowKit
set_option maxHeartbeats 1500000 in
theorem rdecode_just (A : Option Addr) (B : Nat) (l : List Int) (hn : l.length = 8) (hb : Bs l) (hs : partC l = 65535) (w : World) (hr : RB w B A l) (hB : B ≤ w.heap.size) :
    Calls Try.prog 25 #[.slice A 8 8] w fun e w' => ∃ A' n' c', e = .returned (.tuple #[.agg #[.int .i64 (at8 l 0), .int .i64 (at8 l 1), .int .u32 (rd4 l 4), .slice A' n' c'], .int .i64 0]) ∧
      OB 5 w' w.heap.size A' n' c' (l.drop 8) ∧ Below w.heap.size w w' := by
  have HN := Lib.hid hn
  have HS := Lib.hid hs
  obtain ⟨w0, hw0⟩ : ∃ w0, w.alloc (.cells #[.int .i64 0, .int .i64 0, .int .u32 0, .slice none 0 0] 25) = w0 := ⟨_, rfl⟩
  have hB0 : Below w.heap.size w w0 := by rw [← hw0]; exact (Below.refl _ _).alloc (Nat.le_refl _) _
  have hg0 : Bk w0 w.heap.size 25 #[.int .i64 0, .int .i64 0, .int .u32 0, .slice none 0 0] := by rw [← hw0]; exact Bk.new w _ _
  have hr0 : RB w0 B A l := Rw.below hr (hB0.mono hB)
  have HW0 := Lib.hid hw0
  have z0 := hg0.lt
  have hO0 : OB 5 (w0.alloc (.cells #[] 5)) w0.heap.size (some ⟨w0.heap.size, 0, none⟩) 0 0 [] := ob_empty w0 _ (Nat.le_refl _)
  have hr0a : RB (w0.alloc (.cells #[] 5)) B A l := Rw.alloc hr0 (by omega) _
  have hga := hg0.alloc (.cells #[] 5)
  have hlen : Hid ((l.drop 8).length = 0) := Lib.hid (by rw [List.length_drop, hn])
  obtain ⟨b, off, rfl, hbB, c0⟩ := hr0.at_ (k := 0) (by omega)
  obtain ⟨b', off', e', _, c1⟩ := hr0.at_ (k := 1) (by omega)
  injection e' with e'; injection e' with e1 e2; subst e1; subst e2
  have a0 := hb.at_ 0
  have a1 := hb.at_ 1
  change w0.cell? ⟨b, off, none⟩ = some (.int .u8 (at8 l 0)) at c0
  change w0.cell? ⟨b, off + 1, none⟩ = some (.int .u8 (at8 l 1)) at c1
  change 0 ≤ at8 l 0 ∧ at8 l 0 < 256 at a0
  change 0 ≤ at8 l 1 ∧ at8 l 1 < 256 at a1
  have hb0 : b < w0.heap.size := by omega
  have c0a := (World.cell?_alloc_lt w0 (.cells #[] 5) ⟨b, off, none⟩ hb0).trans c0
  have c1a := (World.cell?_alloc_lt w0 (.cells #[] 5) ⟨b, off + 1, none⟩ hb0).trans c1
  have hbn : b ≠ w.heap.size := by omega
  have hbn2 : w.heap.size ≠ b := by omega
  have v0 : IntKind.i64.wrap (at8 l 0) = at8 l 0 := IntWalk.i64_in _ (by omega)
  have v1 : IntKind.i64.wrap (at8 l 1) = at8 l 1 := IntWalk.i64_in _ (by omega)
  have hcut := RB.cut hr0a 8 8 (by rw [hn]; exact Nat.le_refl _)
  have g4 := fun (w' : World) (h : RB w' B (some ⟨b, off, none⟩) l) => get4_any _ 8 8 B l 4 hn (by omega) (by omega) hb w' h
  have G4 := Lib.hid g4
  clear hn hs hw0 g4
  rw [if_pos rfl] at hcut
  go_enter Try.func25, Try.ntmps25
  go_wp2_with fail
  rw [HW0.out]
  refine (rsum_any _ 8 _ B l HN.out (by omega) hb _ hr0).mono ?_
  rintro e w' ⟨rfl, rfl⟩
  rw [HS.out]
  go_wp2_with fail
  go_region_held3 (fun w' => w'.cell? ⟨b, off, none⟩ = some (.int .u8 (at8 l 0)) ∧ w'.cell? ⟨b, off + 1, none⟩ = some (.int .u8 (at8 l 1)))
    (first | (exact ⟨by assumption, by assumption⟩) | go_keep)
    (first
      | (go_at_call 49; refine (G4.out _ (by first | with_reducible exact RB.drew hr0 | with_reducible exact RB.drew hr0a)).mono ?_; rintro e w2 ⟨rfl, j, rfl⟩)
      | (refine st8 (l := []) (l2 := List.drop 8 l) (B := B) rfl (.tmp 22) (.tmp 24) rfl w0.heap.size rfl (by exact hO0) rfl (by exact hcut) hlen.out (by omega) (by simp) ?_; intro A5 c5 w5 hO5 hB5 hg5 hA5 hz5 hc5; have k50 := bel_cell (u := .int .u8 (at8 l 0)) (b := b) (o := off) hB5 (by omega) (by exact c0a); have k51 := bel_cell (u := .int .u8 (at8 l 1)) (b := b) (o := off + 1) hB5 (by omega) (by exact c1a); have hg6 : Bk w5 w.heap.size 25 #[.int .i64 0, .int .i64 0, .int .u32 0, .slice none 0 0] := Bk.below (by exact hga) hB5 (by omega); have d0 := hg6.cell 0; have d1 := hg6.cell 1; have d2 := hg6.cell 2; have d3 := hg6.cell 3; have e0 := hg6.frozen 0; have e1 := hg6.frozen 1; have e2 := hg6.frozen 2; have e3 := hg6.frozen 3; simp only [List.getElem?_toArray, List.getElem?_cons_zero, List.getElem?_cons_succ] at d0 d1 d2 d3; have k60 : ((((w5.setCell ⟨w.heap.size, 0, none⟩ (.int .i64 (at8 l 0))).setCell ⟨w.heap.size, 1, none⟩ (.int .i64 (at8 l 1))).setCell ⟨w.heap.size, 2, none⟩ (.int .u32 (rd4 l 4))).setCell ⟨w.heap.size, 3, none⟩ (.slice A5 0 c5)).cell? ⟨b, off, none⟩ = some (.int .u8 (at8 l 0)) := (cell4 hbn _ _ _ _).trans k50; have k61 : ((((w5.setCell ⟨w.heap.size, 0, none⟩ (.int .i64 (at8 l 0))).setCell ⟨w.heap.size, 1, none⟩ (.int .i64 (at8 l 1))).setCell ⟨w.heap.size, 2, none⟩ (.int .u32 (rd4 l 4))).setCell ⟨w.heap.size, 3, none⟩ (.slice A5 0 c5)).cell? ⟨b, off + 1, none⟩ = some (.int .u8 (at8 l 1)) := (cell4 hbn _ _ _ _).trans k51))
  all_goals
    have hO6 : OB 5 w5 w0.heap.size A5 0 c5 (l.drop 8) := by simpa using hO5
    have hBw : Below w.heap.size w w5 := hB0.trans ((((Below.refl _ w0).alloc (Nat.le_refl _) _).trans (show Below w0.heap.size (w0.alloc (.cells #[] 5)) w5 from ⟨hB5.os, hB5.tape, hB5.output, hB5.size, hB5.block⟩)).mono (by omega))
    have hBW := Lib.hid hBw
    clear hBw
    go_wp2_with fail
    refine bodyPost_ret (v := .tuple #[.agg #[.int .i64 (at8 l 0), .int .i64 (at8 l 1), .int .u32 (rd4 l 4), .slice A5 0 c5], .int .i64 0]) (by simp [results, Try.results25, go_sem, d0, d1, d2, d3]) rfl ⟨A5, 0, c5, rfl, ?_, ?_⟩
    · exact Ow.mono (Ow.setLow (Ow.setLow (Ow.setLow (Ow.setLow hO6 z0 _) z0 _) z0 _) z0 _) (Nat.le_of_lt z0)
    · exact (((hBW.out.setCell (Nat.le_refl _) _).setCell (Nat.le_refl _) _).setCell (Nat.le_refl _) _).setCell (Nat.le_refl _) _
end Go.Proofs.Ytlnodkfngomlmaa
