/- Proved: a copy of bytes; a packet in memory of its own. Conditions: the packet lies in memory. -/
import Derived.Test.YtcjkhonapafndaaIpN
import Derived.Deep.RegionWith
set_option linter.unusedVariables false
set_option linter.unusedSimpArgs false
namespace Go.Proofs.Ytcjkhonapafndaa
open Go.RowKit

/-- A copy of bytes, nil of nil. -/
theorem clone_any (A : Option Addr) (n c B : Nat) (l : List Int) (hn : l.length = n) (hmax : n ≤ 140737488355328) (w : World) (hr : RB w B A l) (hB : B ≤ w.heap.size) :
    Calls Try.prog 54 #[.slice A n c] w fun e w' => ∃ A' c', e = .returned (.slice A' n c') ∧ OB 5 w' w.heap.size A' n c' l ∧ Below w.heap.size w w' := by
  have HN := Lib.hid hn
  clear hn
  have qs : ∀ (w : World) (a : Option Addr) (n c n' c' : Nat), (binOp .eql 24 (.slice a n c) (.slice none n' c')).run Try.prog w = .ok (.bool a.isNone) w := fun w a n c n' c' => Lib.run_eql_slice_nil w _ _ a n c n' c' Try.underlying24
  rcases A with _ | a
  · have hl : n = 0 := by
      rcases Nat.eq_zero_or_pos l.length with h0 | h0
      · rw [← HN.out]; exact h0
      · obtain ⟨_, _, h, _⟩ := hr (by rw [by8_length]; exact h0); cases h
    subst hl
    have hl0 := Lib.hid (List.eq_nil_of_length_eq_zero HN.out)
    go_enter Try.func54, Try.ntmps54
    go_wp2
    go_ret
    exact ⟨none, 0, rfl, by rw [hl0.out]; exact Ow.none_ _ _ _, Below.refl _ _⟩
  · go_enter Try.func54, Try.ntmps54
    go_wp2_with (at_builtin; refine ap8_new rfl (.tmp 5) (.tmp 6) rfl rfl rfl hr hB HN.out (by omega) ?_; intro A1 c1 w1 hO1 hB1 hz1 hc1)
    go_ret
    exact ⟨A1, c1, rfl, hO1, hB1⟩
theorem Below.set1 {B g o : Nat} {w w' : World} (h : Below B w w') (hg : B ≤ g) (u : Value) : Below B w (w'.setCell ⟨g, o, none⟩ u) := h.setCell (p := ⟨g, o, none⟩) hg u
theorem OB.set1 {E : TypeId} {w : World} {base g o : Nat} {A : Option Addr} {n c : Nat} {l : List Int} (h : OB E w base A n c l) (hne : blk A ≠ some g) (u : Value) : OB E (w.setCell ⟨g, o, none⟩ u) base A n c l := Ow.setCell (p := ⟨g, o, none⟩) h hne u
/-- A packet that is in memory of its own. -/
def OwnAt (w : World) (base : Nat) (A1 : Option Addr) (n1 c1 : Nat) (ol : List Int) (A2 : Option Addr) (n2 c2 : Nat) (dl : List Int) : Prop :=
  OB 5 w base A1 n1 c1 ol ∧ OB 5 w base A2 n2 c2 dl ∧ (blk A1 = none ∨ blk A1 ≠ blk A2)
set_option maxHeartbeats 4000000 in
set_option maxRecDepth 100000 in
theorem own_any (p : PkV) (oA dA : Option Addr) (on oc dn dc B : Nat) (ol dl : List Int) (hn : ol.length = on) (hmo : on ≤ 140737488355328) (hdn : dl.length = dn) (hmd : dn ≤ 140737488355328) (w : World) (hr : RB w B oA ol) (hrd : RB w B dA dl) (hB : B ≤ w.heap.size) :
    Calls Try.prog 29 #[.agg (pkC p (.slice oA on oc) (.slice dA dn dc))] w fun e w' => ∃ A1 c1 A2 c2, e = .returned (.agg (pkC p (.slice A1 on c1) (.slice A2 dn c2))) ∧ OwnAt w' w.heap.size A1 on c1 ol A2 dn c2 dl ∧ Below w.heap.size w w' := by
  obtain ⟨gp, hgp⟩ : ∃ gp, w.heap.size = gp := ⟨_, rfl⟩
  obtain ⟨W0, hW0⟩ : ∃ W0, w.alloc (.cells (pkC p (.slice oA on oc) (.slice dA dn dc)) 26) = W0 := ⟨_, rfl⟩
  obtain ⟨W, hW⟩ : ∃ W, W0.alloc (.cells #[.int .i64 0, .int .i64 0, .bool false, .bool false, .int .i64 0, .int .i64 0, .int .i64 0, .int .u32 0, .int .u32 0, .slice none 0 0, .slice none 0 0] 26) = W := ⟨_, rfl⟩
  have hz0 : W0.heap.size = gp + 1 := by rw [← hW0, ← hgp]; simp
  have hz : W.heap.size = gp + 1 + 1 := by rw [← hW, World.size_alloc, hz0]
  have hm : Bk W gp 26 (pkC p (.slice oA on oc) (.slice dA dn dc)) := by rw [← hW]; refine Bk.alloc ?_ _; rw [← hW0, ← hgp]; exact Bk.new w _ _
  have hq : Bk W (gp + 1) 26 #[.int .i64 0, .int .i64 0, .bool false, .bool false, .int .i64 0, .int .i64 0, .int .i64 0, .int .u32 0, .int .u32 0, .slice none 0 0, .slice none 0 0] := by rw [← hW, ← hz0]; exact Bk.new W0 _ _
  have hBW : Below gp w W := by rw [← hW, ← hW0, ← hgp]; exact ((Below.refl _ _).alloc (Nat.le_refl _) _).alloc (by simp) _
  have HW : Hid ((w.alloc (.cells #[.int .i64 p.svc, .int .i64 p.id, .bool p.whole, .bool p.more, .int .i64 p.off, .int .i64 p.life, .int .i64 p.proto, .int .u32 p.src, .int .u32 p.dst, .slice oA on oc, .slice dA dn dc] 26)).alloc (.cells #[.int .i64 0, .int .i64 0, .bool false, .bool false, .int .i64 0, .int .i64 0, .int .i64 0, .int .u32 0, .int .u32 0, .slice none 0 0, .slice none 0 0] 26) = W) := Lib.hid (by rw [← hW, ← hW0]; rfl)
  have hr0 : RB W.drew B oA ol := Rw.drew (Rw.below hr (hBW.mono (by omega)))
  have hrd0 : RB W.drew B dA dl := Rw.drew (Rw.below hrd (hBW.mono (by omega)))
  have hBz : B ≤ W.drew.heap.size := by show B ≤ W.heap.size; omega
  have y9 := (hm.drew).cell 9
  have y10 := (hm.drew).cell 10
  simp only [pkC, List.getElem?_toArray, List.getElem?_cons_zero, List.getElem?_cons_succ] at y9 y10
  have HN := Lib.hid hn
  have HDN := Lib.hid hdn
  have HGP := Lib.hid hgp
  have HM := Lib.hid hm.drew
  have HQ := Lib.hid hq.drew
  have HBW := Lib.hid hBW
  have HZ := Lib.hid hz
  have hlt : gp < W.drew.heap.size := hm.lt
  have HR := Lib.hid hr0
  have HRD : Hid (∀ W3, Below W.drew.heap.size W.drew W3 → RB W3 B dA dl) := Lib.hid (fun W3 h3 => Rw.below hrd0 (h3.mono hBz))
  clear hW hW0 hz0 hz hm hq hBW hn hdn hgp hr hrd hr0 hrd0
  unfold pkC
  go_enter Try.func29, Try.ntmps29
  go_wp2
  rw [HW.out, HGP.out]
  go_region_with (first
    | (go_at_call 54; with_reducible refine (clone_any oA on oc B ol HN.out hmo _ HR.out hBz).mono ?_; rintro e W3 ⟨A3, c3, rfl, hO3, hB3⟩; have x10 := bcell hB3 hlt y10)
    | (go_at_call 54; (with_reducible refine (clone_any dA dn dc B dl HDN.out hmd _ (HRD.out _ hB3) (Nat.le_trans hBz hB3.size)).mono ?_; rintro e W4 ⟨A4, c4, rfl, hO4, hB4⟩; have hm4 := (HM.out.below hB3 hlt).below hB4 (Nat.lt_of_lt_of_le hlt hB3.size); have v9 := hm4.cell 9; have v10 := hm4.cell 10; have f9 := hm4.frozen 9; have f10 := hm4.frozen 10; simp only [pkC, List.getElem?_toArray, List.getElem?_cons_zero, List.getElem?_cons_succ] at v9 v10)))
  all_goals
    have hq4 := (HQ.out.below hB3 (show gp + 1 < W.heap.size by have := HZ.out; omega)).below hB4 (Nat.lt_of_lt_of_le (show gp + 1 < W.drew.heap.size by show gp + 1 < W.heap.size; have := HZ.out; omega) hB3.size)
    obtain ⟨W5, hW5⟩ : ∃ W5, (W4.setCell ⟨gp, 9, none⟩ (.slice A3 on c3)).setCell ⟨gp, 10, none⟩ (.slice A4 dn c4) = W5 := ⟨_, rfl⟩
    have hm5 : Bk W5 gp 26 (pkC p (.slice A3 on c3) (.slice A4 dn c4)) := by rw [← hW5]; exact (hm4.set 9 _).set 10 _
    have hq5 : Bk W5 (gp + 1) 26 #[.int .i64 0, .int .i64 0, .bool false, .bool false, .int .i64 0, .int .i64 0, .int .i64 0, .int .u32 0, .int .u32 0, .slice none 0 0, .slice none 0 0] := by
      rw [← hW5]; exact (hq4.far (p := ⟨gp, 9, none⟩) (show gp + 1 ≠ gp by omega) _).far (p := ⟨gp, 10, none⟩) (show gp + 1 ≠ gp by omega) _
    have hz3 : W.heap.size ≤ W3.heap.size := hB3.size
    have hz4 := hB4.size
    have hO3' : OB 5 W5 (gp + 2) A3 on c3 ol := by
      rw [← hW5]
      have h4 := Ow.stays hO3 hB4
      have hne : blk A3 ≠ some gp := fun e => by have h5 := (Ow.lt h4 gp e).1; have h6 : W.heap.size ≤ gp := h5; have := HZ.out; omega
      exact Ow.mono (Ow.setCell (p := ⟨gp, 10, none⟩) (Ow.setCell (p := ⟨gp, 9, none⟩) h4 hne _) hne _) (by show gp + 2 ≤ W.heap.size; have := HZ.out; omega)
    have hO4' : OB 5 W5 (gp + 2) A4 dn c4 dl := by
      rw [← hW5]
      have hne : blk A4 ≠ some gp := fun e => by have h5 := (Ow.lt hO4 gp e).1; have := HZ.out; omega
      exact Ow.mono (Ow.setCell (p := ⟨gp, 10, none⟩) (Ow.setCell (p := ⟨gp, 9, none⟩) hO4 hne _) hne _) (by have := HZ.out; omega)
    have hne : blk A3 = none ∨ blk A3 ≠ blk A4 := by
      cases h3 : blk A3 with
      | none => exact .inl rfl
      | some y => exact .inr fun e => by have h4 := (Ow.lt hO3 y h3).2; have h5 := (Ow.lt hO4 y e.symm).1; omega
    have HOW : Hid (OwnAt W5 (gp + 2) A3 on c3 ol A4 dn c4 dl) := Lib.hid ⟨hO3', hO4', hne⟩
    have HB5 : Hid (Below gp w W5) := Lib.hid (by
      rw [← hW5]
      have q : Below gp w W4 := (HBW.out.drew.trans (hB3.mono (by show gp ≤ W.heap.size; have := HZ.out; omega))).trans (hB4.mono (by have := HZ.out; omega))
      exact (q.setCell (p := ⟨gp, 9, none⟩) (Nat.le_refl _) _).setCell (p := ⟨gp, 10, none⟩) (Nat.le_refl _) _)
    have HW5 := Lib.hid hW5
    have a0 := hm5.cell 0
    have b0 := hq5.cell 0
    have f0 := hq5.frozen 0
    have a1 := hm5.cell 1
    have b1 := hq5.cell 1
    have f1 := hq5.frozen 1
    have a2 := hm5.cell 2
    have b2 := hq5.cell 2
    have f2 := hq5.frozen 2
    have a3 := hm5.cell 3
    have b3 := hq5.cell 3
    have f3 := hq5.frozen 3
    have a4 := hm5.cell 4
    have b4 := hq5.cell 4
    have f4 := hq5.frozen 4
    have a5 := hm5.cell 5
    have b5 := hq5.cell 5
    have f5 := hq5.frozen 5
    have a6 := hm5.cell 6
    have b6 := hq5.cell 6
    have f6 := hq5.frozen 6
    have a7 := hm5.cell 7
    have b7 := hq5.cell 7
    have f7 := hq5.frozen 7
    have a8 := hm5.cell 8
    have b8 := hq5.cell 8
    have f8 := hq5.frozen 8
    have a9 := hm5.cell 9
    have b9 := hq5.cell 9
    have f9 := hq5.frozen 9
    have a10 := hm5.cell 10
    have b10 := hq5.cell 10
    have f10 := hq5.frozen 10
    simp only [pkC, List.getElem?_toArray, List.getElem?_cons_zero, List.getElem?_cons_succ] at a0 b0 a1 b1 a2 b2 a3 b3 a4 b4 a5 b5 a6 b6 a7 b7 a8 b8 a9 b9 a10 b10
    rw [HW5.out]
    have hne1 : gp ≠ gp + 1 := by omega
    have hne2 : gp + 1 ≠ gp := by omega
    clear hW5 hm5 hq5 hq4 hm4 hO3 hO4 hO3' hO4' hne hB3 hB4 y9 y10 x10 v9 v10
    go_wp2
    refine bodyPost_ret (v := .agg #[.int .i64 p.svc, .int .i64 p.id, .bool p.whole, .bool p.more, .int .i64 p.off, .int .i64 p.life, .int .i64 p.proto, .int .u32 p.src, .int .u32 p.dst, .slice A3 on c3, .slice A4 dn c4]) (by simp [results, Try.results29, go_sem, *]) rfl ⟨A3, c3, A4, c4, rfl, ?_, ?_⟩
    · rw [HGP.out]
      obtain ⟨q1, q2, q3⟩ := HOW.out
      have n1 : blk A3 ≠ some (gp + 1) := fun e => by have := (Ow.lt q1 _ e).1; omega
      have n2 : blk A4 ≠ some (gp + 1) := fun e => by have := (Ow.lt q2 _ e).1; omega
      refine ⟨?_, ?_, q3⟩
      · iterate 11 refine OB.set1 ?_ n1 _
        exact Ow.mono q1 (by omega)
      · iterate 11 refine OB.set1 ?_ n2 _
        exact Ow.mono q2 (by omega)
    · rw [HGP.out]
      iterate 11 refine Below.set1 ?_ (Nat.le_succ _) _
      exact HB5.out
end Go.Proofs.Ytcjkhonapafndaa
