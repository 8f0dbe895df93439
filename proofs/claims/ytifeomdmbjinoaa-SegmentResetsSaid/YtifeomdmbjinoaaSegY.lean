/- Proved: the law of segments that are nobody's, in each of its cases. Conditions: as each says. -/
import Derived.Test.YtifeomdmbjinoaaSegQ
import Derived.Test.YtifeomdmbjinoaaSegX
import Derived.Deep.RegionHeld3
set_option linter.unusedVariables false
set_option linter.unusedSimpArgs false
namespace Go.Proofs.Ytifeomdmbjinoaa
open Go.RowKit
set_option maxHeartbeats 8000000 in
set_option maxRecDepth 100000 in
theorem resets_rst (s : Sg) (hwf : s.wf) (A : Option Addr) (n cap : Nat) (hn : n ≤ 70000) (w W : World) (hW : w.alloc (.cells #[.int .u32 s.fr, .int .i64 s.fp, .int .u32 s.to, .int .i64 s.tp, .int .u32 s.seq, .int .u32 s.ack, .int .i64 s.fl, .int .i64 s.win, .int .i64 s.mss, .int .i64 s.sc, .slice A n cap] 26) = W) (hm : Bk W w.heap.size 26 #[.int .u32 s.fr, .int .i64 s.fp, .int .u32 s.to, .int .i64 s.tp, .int .u32 s.seq, .int .u32 s.ack, .int .i64 s.fl, .int .i64 s.win, .int .i64 s.mss, .int .i64 s.sc, .slice A n cap]) (hB : Below w.heap.size w W)
    (hkey : ∀ w', Below W.heap.size W w' → (w'.cell? ⟨w.heap.size, 0, none⟩ = some (.int .u32 s.fr) ∧ w'.cell? ⟨w.heap.size, 1, none⟩ = some (.int .i64 s.fp) ∧ w'.cell? ⟨w.heap.size, 2, none⟩ = some (.int .u32 s.to) ∧ w'.cell? ⟨w.heap.size, 3, none⟩ = some (.int .i64 s.tp) ∧ w'.cell? ⟨w.heap.size, 4, none⟩ = some (.int .u32 s.seq) ∧ w'.cell? ⟨w.heap.size, 5, none⟩ = some (.int .u32 s.ack) ∧ w'.cell? ⟨w.heap.size, 6, none⟩ = some (.int .i64 s.fl) ∧ w'.cell? ⟨w.heap.size, 7, none⟩ = some (.int .i64 s.win) ∧ w'.cell? ⟨w.heap.size, 8, none⟩ = some (.int .i64 s.mss) ∧ w'.cell? ⟨w.heap.size, 9, none⟩ = some (.int .i64 s.sc) ∧ w'.cell? ⟨w.heap.size, 10, none⟩ = some (.slice A n cap))) (h4 : (bits .and .i64 s.fl 4 != 0) = true) :
    Calls Try.prog 5 #[.agg #[.int .u32 s.fr, .int .i64 s.fp, .int .u32 s.to, .int .i64 s.tp, .int .u32 s.seq, .int .u32 s.ack, .int .i64 s.fl, .int .i64 s.win, .int .i64 s.mss, .int .i64 s.sc, .slice A n cap]] w fun e w' => e = .returned (.bool true) ∧ Below w.heap.size w w' := by
  have zS := hm.lt
  have HW := Lib.hid hW
  have HM := Lib.hid hm
  have HB := Lib.hid hB
  have key := Lib.hid hkey
  have HSEQ : Hid (U32 s.seq) := Lib.hid hwf.2.2.2.2.1
  clear hW hm hB hkey hwf
  obtain ⟨k0, k1, k2, k3, k4, k5, k6, k7, k8, k9, k10⟩ := key.out W (Below.refl _ _)
  go_enter Try.func5, Try.ntmps5
  go_wp2_with fail
  rw [HW.out]
  refine (reset_rst s A n cap h4 _).mono ?_
  rintro e w3 ⟨rfl, hB3⟩
  clear k0 k1 k2 k3 k4 k5 k6 k7 k8 k9 k10
  obtain ⟨k0, k1, k2, k3, k4, k5, k6, k7, k8, k9, k10⟩ := key.out w3 hB3
  have z3 := hB3.size
  obtain ⟨W4, hW4⟩ : ∃ W4, w3.alloc (.cells #[.int .u32 0, .int .i64 0, .int .u32 0, .int .i64 0, .int .u32 0, .int .u32 0, .int .i64 0, .int .i64 0, .int .i64 0, .int .i64 0, .slice none 0 0] 26) = W4 := ⟨_, rfl⟩
  have kR : Bk W4 w3.heap.size 26 #[.int .u32 0, .int .i64 0, .int .u32 0, .int .i64 0, .int .u32 0, .int .u32 0, .int .i64 0, .int .i64 0, .int .i64 0, .int .i64 0, .slice none 0 0] := by rw [← hW4]; exact Bk.new _ _ _
  have hB4 : Below w3.heap.size w3 W4 := by rw [← hW4]; exact (Below.refl _ _).alloc (Nat.le_refl _) _
  have hB04 : Below W.heap.size W W4 := hB3.trans (hB4.mono hB3.size)
  have al := fun i (hc : ∃ u, w3.cell? ⟨w.heap.size, i, none⟩ = some u) => World.cell?_alloc_lt w3 (.cells #[.int .u32 0, .int .i64 0, .int .u32 0, .int .i64 0, .int .u32 0, .int .u32 0, .int .i64 0, .int .i64 0, .int .i64 0, .int .i64 0, .slice none 0 0] 26) ⟨w.heap.size, i, none⟩ (by show w.heap.size < w3.heap.size; omega)
  have n0 := (al 0 ⟨_, k0⟩).trans k0
  have n1 := (al 1 ⟨_, k1⟩).trans k1
  have n2 := (al 2 ⟨_, k2⟩).trans k2
  have n3 := (al 3 ⟨_, k3⟩).trans k3
  have n4 := (al 4 ⟨_, k4⟩).trans k4
  have n5 := (al 5 ⟨_, k5⟩).trans k5
  have n6 := (al 6 ⟨_, k6⟩).trans k6
  have n7 := (al 7 ⟨_, k7⟩).trans k7
  have n8 := (al 8 ⟨_, k8⟩).trans k8
  have n9 := (al 9 ⟨_, k9⟩).trans k9
  have n10 := (al 10 ⟨_, k10⟩).trans k10
  have zR := kR.lt
  have HW4 := Lib.hid hW4
  have KR := Lib.hid kR
  have HB04 := Lib.hid hB04
  clear hW4 kR hB4 hB04 al
  obtain ⟨gr, hgr⟩ : ∃ gr, w3.heap.size = gr := ⟨_, rfl⟩
  have HGR := Lib.hid hgr
  rw [hgr] at zR KR z3
  have hgw : w.heap.size < gr := by omega
  clear hgr
  go_wp2_with fail
  rw [HW4.out, HGR.out]
  clear k0 k1 k2 k3 k4 k5 k6 k7 k8 k9 k10 n0 n1 n2 n3 n4 n5 n6 n7 n8 n9 n10
  refine (rreset_rst s A n cap h4 _).mono ?_
  rintro e w5 ⟨rfl, hB5⟩
  have hB05 : Below W.heap.size W w5 := HB04.out.trans (hB5.mono HB04.out.size)
  have z5 := hB5.size
  obtain ⟨W6, hW6⟩ : ∃ W6, w5.alloc (.cells #[.int .u32 0, .int .i64 0, .int .u32 0, .int .i64 0, .int .u32 0, .int .u32 0, .int .i64 0, .int .i64 0, .int .i64 0, .int .i64 0, .slice none 0 0] 26) = W6 := ⟨_, rfl⟩
  have kX : Bk W6 w5.heap.size 26 #[.int .u32 0, .int .i64 0, .int .u32 0, .int .i64 0, .int .u32 0, .int .u32 0, .int .i64 0, .int .i64 0, .int .i64 0, .int .i64 0, .slice none 0 0] := by rw [← hW6]; exact Bk.new _ _ _
  have hB6 : Below w5.heap.size w5 W6 := by rw [← hW6]; exact (Below.refl _ _).alloc (Nat.le_refl _) _
  have hB06 : Below W.heap.size W W6 := hB05.trans (hB6.mono hB05.size)
  have kR6 : Bk W6 gr 26 #[.int .u32 0, .int .i64 0, .int .u32 0, .int .i64 0, .int .u32 0, .int .u32 0, .int .i64 0, .int .i64 0, .int .i64 0, .int .i64 0, .slice none 0 0] := (KR.out.below hB5 zR).below hB6 (by omega)
  have zX := kX.lt
  have zz6 := hB06.size
  have HW6 := Lib.hid hW6
  have KX := Lib.hid kX
  have KR6 := Lib.hid kR6
  have HB06 := Lib.hid hB06
  clear hW6 kX hB6 hB06 kR6
  obtain ⟨gx, hgx⟩ : ∃ gx, w5.heap.size = gx := ⟨_, rfl⟩
  have HGX := Lib.hid hgx
  rw [hgx] at zX KX z5
  have hgx2 : gr < gx := by omega
  clear hgx
  have key6 : Hid (∀ w', Below W6.heap.size W6 w' → (w'.cell? ⟨w.heap.size, 0, none⟩ = some (.int .u32 s.fr) ∧ w'.cell? ⟨w.heap.size, 1, none⟩ = some (.int .i64 s.fp) ∧ w'.cell? ⟨w.heap.size, 2, none⟩ = some (.int .u32 s.to) ∧ w'.cell? ⟨w.heap.size, 3, none⟩ = some (.int .i64 s.tp) ∧ w'.cell? ⟨w.heap.size, 4, none⟩ = some (.int .u32 s.seq) ∧ w'.cell? ⟨w.heap.size, 5, none⟩ = some (.int .u32 s.ack) ∧ w'.cell? ⟨w.heap.size, 6, none⟩ = some (.int .i64 s.fl) ∧ w'.cell? ⟨w.heap.size, 7, none⟩ = some (.int .i64 s.win) ∧ w'.cell? ⟨w.heap.size, 8, none⟩ = some (.int .i64 s.mss) ∧ w'.cell? ⟨w.heap.size, 9, none⟩ = some (.int .i64 s.sc) ∧ w'.cell? ⟨w.heap.size, 10, none⟩ = some (.slice A n cap) ∧ w'.cell? ⟨gr, 0, none⟩ = some (.int .u32 0) ∧ w'.cell? ⟨gr, 1, none⟩ = some (.int .i64 0) ∧ w'.cell? ⟨gr, 2, none⟩ = some (.int .u32 0) ∧ w'.cell? ⟨gr, 3, none⟩ = some (.int .i64 0) ∧ w'.cell? ⟨gr, 4, none⟩ = some (.int .u32 0) ∧ w'.cell? ⟨gr, 5, none⟩ = some (.int .u32 0) ∧ w'.cell? ⟨gr, 6, none⟩ = some (.int .i64 0) ∧ w'.cell? ⟨gr, 7, none⟩ = some (.int .i64 0) ∧ w'.cell? ⟨gr, 8, none⟩ = some (.int .i64 0) ∧ w'.cell? ⟨gr, 9, none⟩ = some (.int .i64 0) ∧ w'.cell? ⟨gr, 10, none⟩ = some (.slice none 0 0) ∧ w'.cell? ⟨gx, 0, none⟩ = some (.int .u32 0) ∧ w'.cell? ⟨gx, 1, none⟩ = some (.int .i64 0) ∧ w'.cell? ⟨gx, 2, none⟩ = some (.int .u32 0) ∧ w'.cell? ⟨gx, 3, none⟩ = some (.int .i64 0) ∧ w'.cell? ⟨gx, 4, none⟩ = some (.int .u32 0) ∧ w'.cell? ⟨gx, 5, none⟩ = some (.int .u32 0) ∧ w'.cell? ⟨gx, 6, none⟩ = some (.int .i64 0) ∧ w'.cell? ⟨gx, 7, none⟩ = some (.int .i64 0) ∧ w'.cell? ⟨gx, 8, none⟩ = some (.int .i64 0) ∧ w'.cell? ⟨gx, 9, none⟩ = some (.int .i64 0) ∧ w'.cell? ⟨gx, 10, none⟩ = some (.slice none 0 0))) := Lib.hid fun w' h => by
    have q := key.out w' (HB06.out.trans (h.mono HB06.out.size))
    obtain ⟨a0, a1, a2, a3, a4, a5, a6, a7, a8, a9, a10⟩ := q
    have r := KR6.out.below h (by omega)
    have x := KX.out.below h zX
    exact ⟨a0, a1, a2, a3, a4, a5, a6, a7, a8, a9, a10, r.cell 0, r.cell 1, r.cell 2, r.cell 3, r.cell 4, r.cell 5, r.cell 6, r.cell 7, r.cell 8, r.cell 9, r.cell 10, x.cell 0, x.cell 1, x.cell 2, x.cell 3, x.cell 4, x.cell 5, x.cell 6, x.cell 7, x.cell 8, x.cell 9, x.cell 10⟩
  obtain ⟨a0, a1, a2, a3, a4, a5, a6, a7, a8, a9, a10, b0, b1, b2, b3, b4, b5, b6, b7, b8, b9, b10, c0, c1, c2, c3, c4, c5, c6, c7, c8, c9, c10⟩ := key6.out W6 (Below.refl _ _)
  have hBC : Below W6.heap.size W6 W6 := Below.refl _ _
  go_wp2_with fail
  rw [HW6.out, HGX.out]
  go_region_held3 (fun w' => w'.cell? ⟨w.heap.size, 0, none⟩ = some (.int .u32 s.fr) ∧ w'.cell? ⟨w.heap.size, 1, none⟩ = some (.int .i64 s.fp) ∧ w'.cell? ⟨w.heap.size, 2, none⟩ = some (.int .u32 s.to) ∧ w'.cell? ⟨w.heap.size, 3, none⟩ = some (.int .i64 s.tp) ∧ w'.cell? ⟨w.heap.size, 4, none⟩ = some (.int .u32 s.seq) ∧ w'.cell? ⟨w.heap.size, 5, none⟩ = some (.int .u32 s.ack) ∧ w'.cell? ⟨w.heap.size, 6, none⟩ = some (.int .i64 s.fl) ∧ w'.cell? ⟨w.heap.size, 7, none⟩ = some (.int .i64 s.win) ∧ w'.cell? ⟨w.heap.size, 8, none⟩ = some (.int .i64 s.mss) ∧ w'.cell? ⟨w.heap.size, 9, none⟩ = some (.int .i64 s.sc) ∧ w'.cell? ⟨w.heap.size, 10, none⟩ = some (.slice A n cap) ∧ w'.cell? ⟨gr, 0, none⟩ = some (.int .u32 0) ∧ w'.cell? ⟨gr, 1, none⟩ = some (.int .i64 0) ∧ w'.cell? ⟨gr, 2, none⟩ = some (.int .u32 0) ∧ w'.cell? ⟨gr, 3, none⟩ = some (.int .i64 0) ∧ w'.cell? ⟨gr, 4, none⟩ = some (.int .u32 0) ∧ w'.cell? ⟨gr, 5, none⟩ = some (.int .u32 0) ∧ w'.cell? ⟨gr, 6, none⟩ = some (.int .i64 0) ∧ w'.cell? ⟨gr, 7, none⟩ = some (.int .i64 0) ∧ w'.cell? ⟨gr, 8, none⟩ = some (.int .i64 0) ∧ w'.cell? ⟨gr, 9, none⟩ = some (.int .i64 0) ∧ w'.cell? ⟨gr, 10, none⟩ = some (.slice none 0 0) ∧ w'.cell? ⟨gx, 0, none⟩ = some (.int .u32 0) ∧ w'.cell? ⟨gx, 1, none⟩ = some (.int .i64 0) ∧ w'.cell? ⟨gx, 2, none⟩ = some (.int .u32 0) ∧ w'.cell? ⟨gx, 3, none⟩ = some (.int .i64 0) ∧ w'.cell? ⟨gx, 4, none⟩ = some (.int .u32 0) ∧ w'.cell? ⟨gx, 5, none⟩ = some (.int .u32 0) ∧ w'.cell? ⟨gx, 6, none⟩ = some (.int .i64 0) ∧ w'.cell? ⟨gx, 7, none⟩ = some (.int .i64 0) ∧ w'.cell? ⟨gx, 8, none⟩ = some (.int .i64 0) ∧ w'.cell? ⟨gx, 9, none⟩ = some (.int .i64 0) ∧ w'.cell? ⟨gx, 10, none⟩ = some (.slice none 0 0))
    (first | (with_reducible exact ⟨by assumption, by assumption, by assumption, by assumption, by assumption, by assumption, by assumption, by assumption, by assumption, by assumption, by assumption, by assumption, by assumption, by assumption, by assumption, by assumption, by assumption, by assumption, by assumption, by assumption, by assumption, by assumption, by assumption, by assumption, by assumption, by assumption, by assumption, by assumption, by assumption, by assumption, by assumption, by assumption, by assumption⟩) | go_keep)
    (first
      | (go_at_call 20; refine (segments_any ⟨0, 0, 0, 0, 0, 0, 0, 0, 0, 0⟩ none none 0 0 0 0 0 [] rfl rfl (by omega) Bs.nil _ (Rw.nil _ _ _) (Rw.nil _ _ _) (Nat.zero_le _)).mono ?_; rintro e w7 ⟨rfl, hBn, -⟩; (try have hBn := bel_undr hBn); have hBC := hBC.trans (hBn.mono hBC.size); obtain ⟨d0, d1, d2, d3, d4, d5, d6, d7, d8, d9, d10, e0, e1, e2, e3, e4, e5, e6, e7, e8, e9, e10, f0, f1, f2, f3, f4, f5, f6, f7, f8, f9, f10⟩ := key6.out _ hBC)
      | (go_at_call 21; refine (length_any s A n cap (by omega) _).mono ?_; rintro e w8 ⟨rfl, hBn⟩; (try have hBn := bel_undr hBn); have hBC := hBC.trans (hBn.mono hBC.size); obtain ⟨g0, g1, g2, g3, g4, g5, g6, g7, g8, g9, g10, h0, h1, h2, h3, h4, h5, h6, h7, h8, h9, h10, i0, i1, i2, i3, i4, i5, i6, i7, i8, i9, i10⟩ := key6.out _ hBC)
      | (go_at_call 22; refine (rlength_any s A n cap (by omega) _).mono ?_; rintro e w9 ⟨rfl, hBn⟩; (try have hBn := bel_undr hBn); have hBC := hBC.trans (hBn.mono hBC.size); obtain ⟨j0, j1, j2, j3, j4, j5, j6, j7, j8, j9, j10, k0, k1, k2, k3, k4, k5, k6, k7, k8, k9, k10, l0, l1, l2, l3, l4, l5, l6, l7, l8, l9, l10⟩ := key6.out _ hBC))
  all_goals
    have hBw : Below w.heap.size w _ := (HB.out.trans (HB06.out.mono HB.out.size)).trans (hBC.mono (by have := HB.out.size; omega))
    have HBW := Lib.hid hBw
    clear hBw
    go_wp2_with fail
    refine (known_any _).mono ?_
    rintro e w10 ⟨rfl, hB10⟩
    go_wp2
    go_ret
    exact ⟨rfl, HBW.out.trans (hB10.mono HBW.out.size)⟩
set_option maxHeartbeats 8000000 in
set_option maxRecDepth 100000 in
theorem resets_ack (s : Sg) (hwf : s.wf) (A : Option Addr) (n cap : Nat) (hn : n ≤ 70000) (w W : World) (hW : w.alloc (.cells #[.int .u32 s.fr, .int .i64 s.fp, .int .u32 s.to, .int .i64 s.tp, .int .u32 s.seq, .int .u32 s.ack, .int .i64 s.fl, .int .i64 s.win, .int .i64 s.mss, .int .i64 s.sc, .slice A n cap] 26) = W) (hm : Bk W w.heap.size 26 #[.int .u32 s.fr, .int .i64 s.fp, .int .u32 s.to, .int .i64 s.tp, .int .u32 s.seq, .int .u32 s.ack, .int .i64 s.fl, .int .i64 s.win, .int .i64 s.mss, .int .i64 s.sc, .slice A n cap]) (hB : Below w.heap.size w W)
    (hkey : ∀ w', Below W.heap.size W w' → (w'.cell? ⟨w.heap.size, 0, none⟩ = some (.int .u32 s.fr) ∧ w'.cell? ⟨w.heap.size, 1, none⟩ = some (.int .i64 s.fp) ∧ w'.cell? ⟨w.heap.size, 2, none⟩ = some (.int .u32 s.to) ∧ w'.cell? ⟨w.heap.size, 3, none⟩ = some (.int .i64 s.tp) ∧ w'.cell? ⟨w.heap.size, 4, none⟩ = some (.int .u32 s.seq) ∧ w'.cell? ⟨w.heap.size, 5, none⟩ = some (.int .u32 s.ack) ∧ w'.cell? ⟨w.heap.size, 6, none⟩ = some (.int .i64 s.fl) ∧ w'.cell? ⟨w.heap.size, 7, none⟩ = some (.int .i64 s.win) ∧ w'.cell? ⟨w.heap.size, 8, none⟩ = some (.int .i64 s.mss) ∧ w'.cell? ⟨w.heap.size, 9, none⟩ = some (.int .i64 s.sc) ∧ w'.cell? ⟨w.heap.size, 10, none⟩ = some (.slice A n cap))) (h4 : (bits .and .i64 s.fl 4 != 0) = false) (h16 : (bits .and .i64 s.fl 16 != 0) = true) :
    Calls Try.prog 5 #[.agg #[.int .u32 s.fr, .int .i64 s.fp, .int .u32 s.to, .int .i64 s.tp, .int .u32 s.seq, .int .u32 s.ack, .int .i64 s.fl, .int .i64 s.win, .int .i64 s.mss, .int .i64 s.sc, .slice A n cap]] w fun e w' => e = .returned (.bool true) ∧ Below w.heap.size w w' := by
  have zS := hm.lt
  have HW := Lib.hid hW
  have HM := Lib.hid hm
  have HB := Lib.hid hB
  have key := Lib.hid hkey
  have HSEQ : Hid (U32 s.seq) := Lib.hid hwf.2.2.2.2.1
  clear hW hm hB hkey hwf
  obtain ⟨k0, k1, k2, k3, k4, k5, k6, k7, k8, k9, k10⟩ := key.out W (Below.refl _ _)
  go_enter Try.func5, Try.ntmps5
  go_wp2_with fail
  rw [HW.out]
  refine (reset_ack s HSEQ.out A n cap hn h4 h16 _).mono ?_
  rintro e w3 ⟨rfl, hB3⟩
  clear k0 k1 k2 k3 k4 k5 k6 k7 k8 k9 k10
  obtain ⟨k0, k1, k2, k3, k4, k5, k6, k7, k8, k9, k10⟩ := key.out w3 hB3
  have z3 := hB3.size
  obtain ⟨W4, hW4⟩ : ∃ W4, w3.alloc (.cells #[.int .u32 s.to, .int .i64 s.tp, .int .u32 s.fr, .int .i64 s.fp, .int .u32 s.ack, .int .u32 0, .int .i64 4, .int .i64 0, .int .i64 0, .int .i64 (-1), .slice none 0 0] 26) = W4 := ⟨_, rfl⟩
  have kR : Bk W4 w3.heap.size 26 #[.int .u32 s.to, .int .i64 s.tp, .int .u32 s.fr, .int .i64 s.fp, .int .u32 s.ack, .int .u32 0, .int .i64 4, .int .i64 0, .int .i64 0, .int .i64 (-1), .slice none 0 0] := by rw [← hW4]; exact Bk.new _ _ _
  have hB4 : Below w3.heap.size w3 W4 := by rw [← hW4]; exact (Below.refl _ _).alloc (Nat.le_refl _) _
  have hB04 : Below W.heap.size W W4 := hB3.trans (hB4.mono hB3.size)
  have al := fun i (hc : ∃ u, w3.cell? ⟨w.heap.size, i, none⟩ = some u) => World.cell?_alloc_lt w3 (.cells #[.int .u32 s.to, .int .i64 s.tp, .int .u32 s.fr, .int .i64 s.fp, .int .u32 s.ack, .int .u32 0, .int .i64 4, .int .i64 0, .int .i64 0, .int .i64 (-1), .slice none 0 0] 26) ⟨w.heap.size, i, none⟩ (by show w.heap.size < w3.heap.size; omega)
  have n0 := (al 0 ⟨_, k0⟩).trans k0
  have n1 := (al 1 ⟨_, k1⟩).trans k1
  have n2 := (al 2 ⟨_, k2⟩).trans k2
  have n3 := (al 3 ⟨_, k3⟩).trans k3
  have n4 := (al 4 ⟨_, k4⟩).trans k4
  have n5 := (al 5 ⟨_, k5⟩).trans k5
  have n6 := (al 6 ⟨_, k6⟩).trans k6
  have n7 := (al 7 ⟨_, k7⟩).trans k7
  have n8 := (al 8 ⟨_, k8⟩).trans k8
  have n9 := (al 9 ⟨_, k9⟩).trans k9
  have n10 := (al 10 ⟨_, k10⟩).trans k10
  have zR := kR.lt
  have HW4 := Lib.hid hW4
  have KR := Lib.hid kR
  have HB04 := Lib.hid hB04
  clear hW4 kR hB4 hB04 al
  obtain ⟨gr, hgr⟩ : ∃ gr, w3.heap.size = gr := ⟨_, rfl⟩
  have HGR := Lib.hid hgr
  rw [hgr] at zR KR z3
  have hgw : w.heap.size < gr := by omega
  clear hgr
  go_wp2_with fail
  rw [HW4.out, HGR.out]
  clear k0 k1 k2 k3 k4 k5 k6 k7 k8 k9 k10 n0 n1 n2 n3 n4 n5 n6 n7 n8 n9 n10
  refine (rreset_ack s HSEQ.out A n cap hn h4 h16 _).mono ?_
  rintro e w5 ⟨rfl, hB5⟩
  have hB05 : Below W.heap.size W w5 := HB04.out.trans (hB5.mono HB04.out.size)
  have z5 := hB5.size
  obtain ⟨W6, hW6⟩ : ∃ W6, w5.alloc (.cells #[.int .u32 s.to, .int .i64 s.tp, .int .u32 s.fr, .int .i64 s.fp, .int .u32 s.ack, .int .u32 0, .int .i64 4, .int .i64 0, .int .i64 0, .int .i64 (-1), .slice none 0 0] 26) = W6 := ⟨_, rfl⟩
  have kX : Bk W6 w5.heap.size 26 #[.int .u32 s.to, .int .i64 s.tp, .int .u32 s.fr, .int .i64 s.fp, .int .u32 s.ack, .int .u32 0, .int .i64 4, .int .i64 0, .int .i64 0, .int .i64 (-1), .slice none 0 0] := by rw [← hW6]; exact Bk.new _ _ _
  have hB6 : Below w5.heap.size w5 W6 := by rw [← hW6]; exact (Below.refl _ _).alloc (Nat.le_refl _) _
  have hB06 : Below W.heap.size W W6 := hB05.trans (hB6.mono hB05.size)
  have kR6 : Bk W6 gr 26 #[.int .u32 s.to, .int .i64 s.tp, .int .u32 s.fr, .int .i64 s.fp, .int .u32 s.ack, .int .u32 0, .int .i64 4, .int .i64 0, .int .i64 0, .int .i64 (-1), .slice none 0 0] := (KR.out.below hB5 zR).below hB6 (by omega)
  have zX := kX.lt
  have zz6 := hB06.size
  have HW6 := Lib.hid hW6
  have KX := Lib.hid kX
  have KR6 := Lib.hid kR6
  have HB06 := Lib.hid hB06
  clear hW6 kX hB6 hB06 kR6
  obtain ⟨gx, hgx⟩ : ∃ gx, w5.heap.size = gx := ⟨_, rfl⟩
  have HGX := Lib.hid hgx
  rw [hgx] at zX KX z5
  have hgx2 : gr < gx := by omega
  clear hgx
  have key6 : Hid (∀ w', Below W6.heap.size W6 w' → (w'.cell? ⟨w.heap.size, 0, none⟩ = some (.int .u32 s.fr) ∧ w'.cell? ⟨w.heap.size, 1, none⟩ = some (.int .i64 s.fp) ∧ w'.cell? ⟨w.heap.size, 2, none⟩ = some (.int .u32 s.to) ∧ w'.cell? ⟨w.heap.size, 3, none⟩ = some (.int .i64 s.tp) ∧ w'.cell? ⟨w.heap.size, 4, none⟩ = some (.int .u32 s.seq) ∧ w'.cell? ⟨w.heap.size, 5, none⟩ = some (.int .u32 s.ack) ∧ w'.cell? ⟨w.heap.size, 6, none⟩ = some (.int .i64 s.fl) ∧ w'.cell? ⟨w.heap.size, 7, none⟩ = some (.int .i64 s.win) ∧ w'.cell? ⟨w.heap.size, 8, none⟩ = some (.int .i64 s.mss) ∧ w'.cell? ⟨w.heap.size, 9, none⟩ = some (.int .i64 s.sc) ∧ w'.cell? ⟨w.heap.size, 10, none⟩ = some (.slice A n cap) ∧ w'.cell? ⟨gr, 0, none⟩ = some (.int .u32 s.to) ∧ w'.cell? ⟨gr, 1, none⟩ = some (.int .i64 s.tp) ∧ w'.cell? ⟨gr, 2, none⟩ = some (.int .u32 s.fr) ∧ w'.cell? ⟨gr, 3, none⟩ = some (.int .i64 s.fp) ∧ w'.cell? ⟨gr, 4, none⟩ = some (.int .u32 s.ack) ∧ w'.cell? ⟨gr, 5, none⟩ = some (.int .u32 0) ∧ w'.cell? ⟨gr, 6, none⟩ = some (.int .i64 4) ∧ w'.cell? ⟨gr, 7, none⟩ = some (.int .i64 0) ∧ w'.cell? ⟨gr, 8, none⟩ = some (.int .i64 0) ∧ w'.cell? ⟨gr, 9, none⟩ = some (.int .i64 (-1)) ∧ w'.cell? ⟨gr, 10, none⟩ = some (.slice none 0 0) ∧ w'.cell? ⟨gx, 0, none⟩ = some (.int .u32 s.to) ∧ w'.cell? ⟨gx, 1, none⟩ = some (.int .i64 s.tp) ∧ w'.cell? ⟨gx, 2, none⟩ = some (.int .u32 s.fr) ∧ w'.cell? ⟨gx, 3, none⟩ = some (.int .i64 s.fp) ∧ w'.cell? ⟨gx, 4, none⟩ = some (.int .u32 s.ack) ∧ w'.cell? ⟨gx, 5, none⟩ = some (.int .u32 0) ∧ w'.cell? ⟨gx, 6, none⟩ = some (.int .i64 4) ∧ w'.cell? ⟨gx, 7, none⟩ = some (.int .i64 0) ∧ w'.cell? ⟨gx, 8, none⟩ = some (.int .i64 0) ∧ w'.cell? ⟨gx, 9, none⟩ = some (.int .i64 (-1)) ∧ w'.cell? ⟨gx, 10, none⟩ = some (.slice none 0 0))) := Lib.hid fun w' h => by
    have q := key.out w' (HB06.out.trans (h.mono HB06.out.size))
    obtain ⟨a0, a1, a2, a3, a4, a5, a6, a7, a8, a9, a10⟩ := q
    have r := KR6.out.below h (by omega)
    have x := KX.out.below h zX
    exact ⟨a0, a1, a2, a3, a4, a5, a6, a7, a8, a9, a10, r.cell 0, r.cell 1, r.cell 2, r.cell 3, r.cell 4, r.cell 5, r.cell 6, r.cell 7, r.cell 8, r.cell 9, r.cell 10, x.cell 0, x.cell 1, x.cell 2, x.cell 3, x.cell 4, x.cell 5, x.cell 6, x.cell 7, x.cell 8, x.cell 9, x.cell 10⟩
  obtain ⟨a0, a1, a2, a3, a4, a5, a6, a7, a8, a9, a10, b0, b1, b2, b3, b4, b5, b6, b7, b8, b9, b10, c0, c1, c2, c3, c4, c5, c6, c7, c8, c9, c10⟩ := key6.out W6 (Below.refl _ _)
  have hBC : Below W6.heap.size W6 W6 := Below.refl _ _
  go_wp2_with fail
  rw [HW6.out, HGX.out]
  go_region_held3 (fun w' => w'.cell? ⟨w.heap.size, 0, none⟩ = some (.int .u32 s.fr) ∧ w'.cell? ⟨w.heap.size, 1, none⟩ = some (.int .i64 s.fp) ∧ w'.cell? ⟨w.heap.size, 2, none⟩ = some (.int .u32 s.to) ∧ w'.cell? ⟨w.heap.size, 3, none⟩ = some (.int .i64 s.tp) ∧ w'.cell? ⟨w.heap.size, 4, none⟩ = some (.int .u32 s.seq) ∧ w'.cell? ⟨w.heap.size, 5, none⟩ = some (.int .u32 s.ack) ∧ w'.cell? ⟨w.heap.size, 6, none⟩ = some (.int .i64 s.fl) ∧ w'.cell? ⟨w.heap.size, 7, none⟩ = some (.int .i64 s.win) ∧ w'.cell? ⟨w.heap.size, 8, none⟩ = some (.int .i64 s.mss) ∧ w'.cell? ⟨w.heap.size, 9, none⟩ = some (.int .i64 s.sc) ∧ w'.cell? ⟨w.heap.size, 10, none⟩ = some (.slice A n cap) ∧ w'.cell? ⟨gr, 0, none⟩ = some (.int .u32 s.to) ∧ w'.cell? ⟨gr, 1, none⟩ = some (.int .i64 s.tp) ∧ w'.cell? ⟨gr, 2, none⟩ = some (.int .u32 s.fr) ∧ w'.cell? ⟨gr, 3, none⟩ = some (.int .i64 s.fp) ∧ w'.cell? ⟨gr, 4, none⟩ = some (.int .u32 s.ack) ∧ w'.cell? ⟨gr, 5, none⟩ = some (.int .u32 0) ∧ w'.cell? ⟨gr, 6, none⟩ = some (.int .i64 4) ∧ w'.cell? ⟨gr, 7, none⟩ = some (.int .i64 0) ∧ w'.cell? ⟨gr, 8, none⟩ = some (.int .i64 0) ∧ w'.cell? ⟨gr, 9, none⟩ = some (.int .i64 (-1)) ∧ w'.cell? ⟨gr, 10, none⟩ = some (.slice none 0 0) ∧ w'.cell? ⟨gx, 0, none⟩ = some (.int .u32 s.to) ∧ w'.cell? ⟨gx, 1, none⟩ = some (.int .i64 s.tp) ∧ w'.cell? ⟨gx, 2, none⟩ = some (.int .u32 s.fr) ∧ w'.cell? ⟨gx, 3, none⟩ = some (.int .i64 s.fp) ∧ w'.cell? ⟨gx, 4, none⟩ = some (.int .u32 s.ack) ∧ w'.cell? ⟨gx, 5, none⟩ = some (.int .u32 0) ∧ w'.cell? ⟨gx, 6, none⟩ = some (.int .i64 4) ∧ w'.cell? ⟨gx, 7, none⟩ = some (.int .i64 0) ∧ w'.cell? ⟨gx, 8, none⟩ = some (.int .i64 0) ∧ w'.cell? ⟨gx, 9, none⟩ = some (.int .i64 (-1)) ∧ w'.cell? ⟨gx, 10, none⟩ = some (.slice none 0 0))
    (first | (with_reducible exact ⟨by assumption, by assumption, by assumption, by assumption, by assumption, by assumption, by assumption, by assumption, by assumption, by assumption, by assumption, by assumption, by assumption, by assumption, by assumption, by assumption, by assumption, by assumption, by assumption, by assumption, by assumption, by assumption, by assumption, by assumption, by assumption, by assumption, by assumption, by assumption, by assumption, by assumption, by assumption, by assumption, by assumption⟩) | go_keep)
    (first
      | (go_at_call 20; refine (segments_any ⟨s.to, s.tp, s.fr, s.fp, s.ack, 0, 4, 0, 0, (-1)⟩ none none 0 0 0 0 0 [] rfl rfl (by omega) Bs.nil _ (Rw.nil _ _ _) (Rw.nil _ _ _) (Nat.zero_le _)).mono ?_; rintro e w7 ⟨rfl, hBn, -⟩; (try have hBn := bel_undr hBn); have hBC := hBC.trans (hBn.mono hBC.size); obtain ⟨d0, d1, d2, d3, d4, d5, d6, d7, d8, d9, d10, e0, e1, e2, e3, e4, e5, e6, e7, e8, e9, e10, f0, f1, f2, f3, f4, f5, f6, f7, f8, f9, f10⟩ := key6.out _ hBC)
      | (go_at_call 21; refine (length_any s A n cap (by omega) _).mono ?_; rintro e w8 ⟨rfl, hBn⟩; (try have hBn := bel_undr hBn); have hBC := hBC.trans (hBn.mono hBC.size); obtain ⟨g0, g1, g2, g3, g4, g5, g6, g7, g8, g9, g10, h0, h1, h2, h3, h4, h5, h6, h7, h8, h9, h10, i0, i1, i2, i3, i4, i5, i6, i7, i8, i9, i10⟩ := key6.out _ hBC)
      | (go_at_call 22; refine (rlength_any s A n cap (by omega) _).mono ?_; rintro e w9 ⟨rfl, hBn⟩; (try have hBn := bel_undr hBn); have hBC := hBC.trans (hBn.mono hBC.size); obtain ⟨j0, j1, j2, j3, j4, j5, j6, j7, j8, j9, j10, k0, k1, k2, k3, k4, k5, k6, k7, k8, k9, k10, l0, l1, l2, l3, l4, l5, l6, l7, l8, l9, l10⟩ := key6.out _ hBC))
  all_goals
    have hBw : Below w.heap.size w _ := (HB.out.trans (HB06.out.mono HB.out.size)).trans (hBC.mono (by have := HB.out.size; omega))
    have HBW := Lib.hid hBw
    clear hBw
    go_wp2_with fail
    refine (reset_rst ⟨s.to, s.tp, s.fr, s.fp, s.ack, 0, 4, 0, 0, (-1)⟩ none 0 0 (show (bits .and .i64 4 4 != 0) = true by decide) _).mono ?_
    rintro e w10 ⟨rfl, hB10⟩
    have zw10 : w.heap.size < w10.heap.size := by have := hB10.size; have := hBC.size; omega
    have zr10 : gr < w10.heap.size := by have := hB10.size; have := hBC.size; omega
    have t0 := (World.cell?_alloc_lt w10 (.cells #[.int .u32 0, .int .i64 0, .int .u32 0, .int .i64 0, .int .u32 0, .int .u32 0, .int .i64 0, .int .i64 0, .int .i64 0, .int .i64 0, .slice none 0 0] 26) ⟨w.heap.size, 0, none⟩ zw10).trans (key6.out w10 (hBC.trans (hB10.mono hBC.size))).1
    have t2 := (World.cell?_alloc_lt w10 (.cells #[.int .u32 0, .int .i64 0, .int .u32 0, .int .i64 0, .int .u32 0, .int .u32 0, .int .i64 0, .int .i64 0, .int .i64 0, .int .i64 0, .slice none 0 0] 26) ⟨w.heap.size, 2, none⟩ zw10).trans (key6.out w10 (hBC.trans (hB10.mono hBC.size))).2.2.1
    have r10 := KR6.out.below (hBC.trans (hB10.mono hBC.size)) (by omega)
    have t6 : (w10.alloc (.cells #[.int .u32 0, .int .i64 0, .int .u32 0, .int .i64 0, .int .u32 0, .int .u32 0, .int .i64 0, .int .i64 0, .int .i64 0, .int .i64 0, .slice none 0 0] 26)).cell? ⟨gr, 6, none⟩ = some (.int .i64 4) := (World.cell?_alloc_lt w10 _ ⟨gr, 6, none⟩ zr10).trans (r10.cell 6)
    have t7 : (w10.alloc (.cells #[.int .u32 0, .int .i64 0, .int .u32 0, .int .i64 0, .int .u32 0, .int .u32 0, .int .i64 0, .int .i64 0, .int .i64 0, .int .i64 0, .slice none 0 0] 26)).cell? ⟨gr, 0, none⟩ = some (.int .u32 s.to) := (World.cell?_alloc_lt w10 _ ⟨gr, 0, none⟩ zr10).trans (r10.cell 0)
    have t8 : (w10.alloc (.cells #[.int .u32 0, .int .i64 0, .int .u32 0, .int .i64 0, .int .u32 0, .int .u32 0, .int .i64 0, .int .i64 0, .int .i64 0, .int .i64 0, .slice none 0 0] 26)).cell? ⟨gr, 2, none⟩ = some (.int .u32 s.fr) := (World.cell?_alloc_lt w10 _ ⟨gr, 2, none⟩ zr10).trans (r10.cell 2)
    have hand : bits .and .i64 4 4 = 4 := by decide
    have HBW2 := Lib.hid ((HBW.out.trans (hB10.mono HBW.out.size)).alloc (by have := HBW.out.size; have := hB10.size; omega) (.cells #[.int .u32 0, .int .i64 0, .int .u32 0, .int .i64 0, .int .u32 0, .int .u32 0, .int .i64 0, .int .i64 0, .int .i64 0, .int .i64 0, .slice none 0 0] 26))
    go_wp2_with fail
    refine (known_any _).mono ?_
    rintro e w11 ⟨rfl, hB11⟩
    go_wp2
    go_ret
    exact ⟨rfl, HBW2.out.trans (hB11.mono HBW2.out.size)⟩
set_option maxHeartbeats 8000000 in
set_option maxRecDepth 100000 in
theorem resets_syn (s : Sg) (hwf : s.wf) (A : Option Addr) (n cap : Nat) (hn : n ≤ 70000) (w W : World) (hW : w.alloc (.cells #[.int .u32 s.fr, .int .i64 s.fp, .int .u32 s.to, .int .i64 s.tp, .int .u32 s.seq, .int .u32 s.ack, .int .i64 s.fl, .int .i64 s.win, .int .i64 s.mss, .int .i64 s.sc, .slice A n cap] 26) = W) (hm : Bk W w.heap.size 26 #[.int .u32 s.fr, .int .i64 s.fp, .int .u32 s.to, .int .i64 s.tp, .int .u32 s.seq, .int .u32 s.ack, .int .i64 s.fl, .int .i64 s.win, .int .i64 s.mss, .int .i64 s.sc, .slice A n cap]) (hB : Below w.heap.size w W)
    (hkey : ∀ w', Below W.heap.size W w' → (w'.cell? ⟨w.heap.size, 0, none⟩ = some (.int .u32 s.fr) ∧ w'.cell? ⟨w.heap.size, 1, none⟩ = some (.int .i64 s.fp) ∧ w'.cell? ⟨w.heap.size, 2, none⟩ = some (.int .u32 s.to) ∧ w'.cell? ⟨w.heap.size, 3, none⟩ = some (.int .i64 s.tp) ∧ w'.cell? ⟨w.heap.size, 4, none⟩ = some (.int .u32 s.seq) ∧ w'.cell? ⟨w.heap.size, 5, none⟩ = some (.int .u32 s.ack) ∧ w'.cell? ⟨w.heap.size, 6, none⟩ = some (.int .i64 s.fl) ∧ w'.cell? ⟨w.heap.size, 7, none⟩ = some (.int .i64 s.win) ∧ w'.cell? ⟨w.heap.size, 8, none⟩ = some (.int .i64 s.mss) ∧ w'.cell? ⟨w.heap.size, 9, none⟩ = some (.int .i64 s.sc) ∧ w'.cell? ⟨w.heap.size, 10, none⟩ = some (.slice A n cap))) (h4 : (bits .and .i64 s.fl 4 != 0) = false) (h16 : (bits .and .i64 s.fl 16 != 0) = false) :
    Calls Try.prog 5 #[.agg #[.int .u32 s.fr, .int .i64 s.fp, .int .u32 s.to, .int .i64 s.tp, .int .u32 s.seq, .int .u32 s.ack, .int .i64 s.fl, .int .i64 s.win, .int .i64 s.mss, .int .i64 s.sc, .slice A n cap]] w fun e w' => e = .returned (.bool true) ∧ Below w.heap.size w w' := by
  have zS := hm.lt
  have HW := Lib.hid hW
  have HM := Lib.hid hm
  have HB := Lib.hid hB
  have key := Lib.hid hkey
  have HSEQ : Hid (U32 s.seq) := Lib.hid hwf.2.2.2.2.1
  clear hW hm hB hkey hwf
  obtain ⟨k0, k1, k2, k3, k4, k5, k6, k7, k8, k9, k10⟩ := key.out W (Below.refl _ _)
  go_enter Try.func5, Try.ntmps5
  go_wp2_with fail
  rw [HW.out]
  refine (reset_syn s HSEQ.out A n cap hn h4 h16 _).mono ?_
  rintro e w3 ⟨rfl, hB3⟩
  clear k0 k1 k2 k3 k4 k5 k6 k7 k8 k9 k10
  obtain ⟨k0, k1, k2, k3, k4, k5, k6, k7, k8, k9, k10⟩ := key.out w3 hB3
  have z3 := hB3.size
  obtain ⟨W4, hW4⟩ : ∃ W4, w3.alloc (.cells #[.int .u32 s.to, .int .i64 s.tp, .int .u32 s.fr, .int .i64 s.fp, .int .u32 0, .int .u32 ((s.seq + lenV s.fl n) % 4294967296), .int .i64 20, .int .i64 0, .int .i64 0, .int .i64 (-1), .slice none 0 0] 26) = W4 := ⟨_, rfl⟩
  have kR : Bk W4 w3.heap.size 26 #[.int .u32 s.to, .int .i64 s.tp, .int .u32 s.fr, .int .i64 s.fp, .int .u32 0, .int .u32 ((s.seq + lenV s.fl n) % 4294967296), .int .i64 20, .int .i64 0, .int .i64 0, .int .i64 (-1), .slice none 0 0] := by rw [← hW4]; exact Bk.new _ _ _
  have hB4 : Below w3.heap.size w3 W4 := by rw [← hW4]; exact (Below.refl _ _).alloc (Nat.le_refl _) _
  have hB04 : Below W.heap.size W W4 := hB3.trans (hB4.mono hB3.size)
  have al := fun i (hc : ∃ u, w3.cell? ⟨w.heap.size, i, none⟩ = some u) => World.cell?_alloc_lt w3 (.cells #[.int .u32 s.to, .int .i64 s.tp, .int .u32 s.fr, .int .i64 s.fp, .int .u32 0, .int .u32 ((s.seq + lenV s.fl n) % 4294967296), .int .i64 20, .int .i64 0, .int .i64 0, .int .i64 (-1), .slice none 0 0] 26) ⟨w.heap.size, i, none⟩ (by show w.heap.size < w3.heap.size; omega)
  have n0 := (al 0 ⟨_, k0⟩).trans k0
  have n1 := (al 1 ⟨_, k1⟩).trans k1
  have n2 := (al 2 ⟨_, k2⟩).trans k2
  have n3 := (al 3 ⟨_, k3⟩).trans k3
  have n4 := (al 4 ⟨_, k4⟩).trans k4
  have n5 := (al 5 ⟨_, k5⟩).trans k5
  have n6 := (al 6 ⟨_, k6⟩).trans k6
  have n7 := (al 7 ⟨_, k7⟩).trans k7
  have n8 := (al 8 ⟨_, k8⟩).trans k8
  have n9 := (al 9 ⟨_, k9⟩).trans k9
  have n10 := (al 10 ⟨_, k10⟩).trans k10
  have zR := kR.lt
  have HW4 := Lib.hid hW4
  have KR := Lib.hid kR
  have HB04 := Lib.hid hB04
  clear hW4 kR hB4 hB04 al
  obtain ⟨gr, hgr⟩ : ∃ gr, w3.heap.size = gr := ⟨_, rfl⟩
  have HGR := Lib.hid hgr
  rw [hgr] at zR KR z3
  have hgw : w.heap.size < gr := by omega
  clear hgr
  go_wp2_with fail
  rw [HW4.out, HGR.out]
  clear k0 k1 k2 k3 k4 k5 k6 k7 k8 k9 k10 n0 n1 n2 n3 n4 n5 n6 n7 n8 n9 n10
  refine (rreset_syn s HSEQ.out A n cap hn h4 h16 _).mono ?_
  rintro e w5 ⟨rfl, hB5⟩
  have hB05 : Below W.heap.size W w5 := HB04.out.trans (hB5.mono HB04.out.size)
  have z5 := hB5.size
  obtain ⟨W6, hW6⟩ : ∃ W6, w5.alloc (.cells #[.int .u32 s.to, .int .i64 s.tp, .int .u32 s.fr, .int .i64 s.fp, .int .u32 0, .int .u32 ((s.seq + lenV s.fl n) % 4294967296), .int .i64 20, .int .i64 0, .int .i64 0, .int .i64 (-1), .slice none 0 0] 26) = W6 := ⟨_, rfl⟩
  have kX : Bk W6 w5.heap.size 26 #[.int .u32 s.to, .int .i64 s.tp, .int .u32 s.fr, .int .i64 s.fp, .int .u32 0, .int .u32 ((s.seq + lenV s.fl n) % 4294967296), .int .i64 20, .int .i64 0, .int .i64 0, .int .i64 (-1), .slice none 0 0] := by rw [← hW6]; exact Bk.new _ _ _
  have hB6 : Below w5.heap.size w5 W6 := by rw [← hW6]; exact (Below.refl _ _).alloc (Nat.le_refl _) _
  have hB06 : Below W.heap.size W W6 := hB05.trans (hB6.mono hB05.size)
  have kR6 : Bk W6 gr 26 #[.int .u32 s.to, .int .i64 s.tp, .int .u32 s.fr, .int .i64 s.fp, .int .u32 0, .int .u32 ((s.seq + lenV s.fl n) % 4294967296), .int .i64 20, .int .i64 0, .int .i64 0, .int .i64 (-1), .slice none 0 0] := (KR.out.below hB5 zR).below hB6 (by omega)
  have zX := kX.lt
  have zz6 := hB06.size
  have HW6 := Lib.hid hW6
  have KX := Lib.hid kX
  have KR6 := Lib.hid kR6
  have HB06 := Lib.hid hB06
  clear hW6 kX hB6 hB06 kR6
  obtain ⟨gx, hgx⟩ : ∃ gx, w5.heap.size = gx := ⟨_, rfl⟩
  have HGX := Lib.hid hgx
  rw [hgx] at zX KX z5
  have hgx2 : gr < gx := by omega
  clear hgx
  have key6 : Hid (∀ w', Below W6.heap.size W6 w' → (w'.cell? ⟨w.heap.size, 0, none⟩ = some (.int .u32 s.fr) ∧ w'.cell? ⟨w.heap.size, 1, none⟩ = some (.int .i64 s.fp) ∧ w'.cell? ⟨w.heap.size, 2, none⟩ = some (.int .u32 s.to) ∧ w'.cell? ⟨w.heap.size, 3, none⟩ = some (.int .i64 s.tp) ∧ w'.cell? ⟨w.heap.size, 4, none⟩ = some (.int .u32 s.seq) ∧ w'.cell? ⟨w.heap.size, 5, none⟩ = some (.int .u32 s.ack) ∧ w'.cell? ⟨w.heap.size, 6, none⟩ = some (.int .i64 s.fl) ∧ w'.cell? ⟨w.heap.size, 7, none⟩ = some (.int .i64 s.win) ∧ w'.cell? ⟨w.heap.size, 8, none⟩ = some (.int .i64 s.mss) ∧ w'.cell? ⟨w.heap.size, 9, none⟩ = some (.int .i64 s.sc) ∧ w'.cell? ⟨w.heap.size, 10, none⟩ = some (.slice A n cap) ∧ w'.cell? ⟨gr, 0, none⟩ = some (.int .u32 s.to) ∧ w'.cell? ⟨gr, 1, none⟩ = some (.int .i64 s.tp) ∧ w'.cell? ⟨gr, 2, none⟩ = some (.int .u32 s.fr) ∧ w'.cell? ⟨gr, 3, none⟩ = some (.int .i64 s.fp) ∧ w'.cell? ⟨gr, 4, none⟩ = some (.int .u32 0) ∧ w'.cell? ⟨gr, 5, none⟩ = some (.int .u32 ((s.seq + lenV s.fl n) % 4294967296)) ∧ w'.cell? ⟨gr, 6, none⟩ = some (.int .i64 20) ∧ w'.cell? ⟨gr, 7, none⟩ = some (.int .i64 0) ∧ w'.cell? ⟨gr, 8, none⟩ = some (.int .i64 0) ∧ w'.cell? ⟨gr, 9, none⟩ = some (.int .i64 (-1)) ∧ w'.cell? ⟨gr, 10, none⟩ = some (.slice none 0 0) ∧ w'.cell? ⟨gx, 0, none⟩ = some (.int .u32 s.to) ∧ w'.cell? ⟨gx, 1, none⟩ = some (.int .i64 s.tp) ∧ w'.cell? ⟨gx, 2, none⟩ = some (.int .u32 s.fr) ∧ w'.cell? ⟨gx, 3, none⟩ = some (.int .i64 s.fp) ∧ w'.cell? ⟨gx, 4, none⟩ = some (.int .u32 0) ∧ w'.cell? ⟨gx, 5, none⟩ = some (.int .u32 ((s.seq + lenV s.fl n) % 4294967296)) ∧ w'.cell? ⟨gx, 6, none⟩ = some (.int .i64 20) ∧ w'.cell? ⟨gx, 7, none⟩ = some (.int .i64 0) ∧ w'.cell? ⟨gx, 8, none⟩ = some (.int .i64 0) ∧ w'.cell? ⟨gx, 9, none⟩ = some (.int .i64 (-1)) ∧ w'.cell? ⟨gx, 10, none⟩ = some (.slice none 0 0))) := Lib.hid fun w' h => by
    have q := key.out w' (HB06.out.trans (h.mono HB06.out.size))
    obtain ⟨a0, a1, a2, a3, a4, a5, a6, a7, a8, a9, a10⟩ := q
    have r := KR6.out.below h (by omega)
    have x := KX.out.below h zX
    exact ⟨a0, a1, a2, a3, a4, a5, a6, a7, a8, a9, a10, r.cell 0, r.cell 1, r.cell 2, r.cell 3, r.cell 4, r.cell 5, r.cell 6, r.cell 7, r.cell 8, r.cell 9, r.cell 10, x.cell 0, x.cell 1, x.cell 2, x.cell 3, x.cell 4, x.cell 5, x.cell 6, x.cell 7, x.cell 8, x.cell 9, x.cell 10⟩
  obtain ⟨a0, a1, a2, a3, a4, a5, a6, a7, a8, a9, a10, b0, b1, b2, b3, b4, b5, b6, b7, b8, b9, b10, c0, c1, c2, c3, c4, c5, c6, c7, c8, c9, c10⟩ := key6.out W6 (Below.refl _ _)
  have hBC : Below W6.heap.size W6 W6 := Below.refl _ _
  go_wp2_with fail
  rw [HW6.out, HGX.out]
  go_region_held3 (fun w' => w'.cell? ⟨w.heap.size, 0, none⟩ = some (.int .u32 s.fr) ∧ w'.cell? ⟨w.heap.size, 1, none⟩ = some (.int .i64 s.fp) ∧ w'.cell? ⟨w.heap.size, 2, none⟩ = some (.int .u32 s.to) ∧ w'.cell? ⟨w.heap.size, 3, none⟩ = some (.int .i64 s.tp) ∧ w'.cell? ⟨w.heap.size, 4, none⟩ = some (.int .u32 s.seq) ∧ w'.cell? ⟨w.heap.size, 5, none⟩ = some (.int .u32 s.ack) ∧ w'.cell? ⟨w.heap.size, 6, none⟩ = some (.int .i64 s.fl) ∧ w'.cell? ⟨w.heap.size, 7, none⟩ = some (.int .i64 s.win) ∧ w'.cell? ⟨w.heap.size, 8, none⟩ = some (.int .i64 s.mss) ∧ w'.cell? ⟨w.heap.size, 9, none⟩ = some (.int .i64 s.sc) ∧ w'.cell? ⟨w.heap.size, 10, none⟩ = some (.slice A n cap) ∧ w'.cell? ⟨gr, 0, none⟩ = some (.int .u32 s.to) ∧ w'.cell? ⟨gr, 1, none⟩ = some (.int .i64 s.tp) ∧ w'.cell? ⟨gr, 2, none⟩ = some (.int .u32 s.fr) ∧ w'.cell? ⟨gr, 3, none⟩ = some (.int .i64 s.fp) ∧ w'.cell? ⟨gr, 4, none⟩ = some (.int .u32 0) ∧ w'.cell? ⟨gr, 5, none⟩ = some (.int .u32 ((s.seq + lenV s.fl n) % 4294967296)) ∧ w'.cell? ⟨gr, 6, none⟩ = some (.int .i64 20) ∧ w'.cell? ⟨gr, 7, none⟩ = some (.int .i64 0) ∧ w'.cell? ⟨gr, 8, none⟩ = some (.int .i64 0) ∧ w'.cell? ⟨gr, 9, none⟩ = some (.int .i64 (-1)) ∧ w'.cell? ⟨gr, 10, none⟩ = some (.slice none 0 0) ∧ w'.cell? ⟨gx, 0, none⟩ = some (.int .u32 s.to) ∧ w'.cell? ⟨gx, 1, none⟩ = some (.int .i64 s.tp) ∧ w'.cell? ⟨gx, 2, none⟩ = some (.int .u32 s.fr) ∧ w'.cell? ⟨gx, 3, none⟩ = some (.int .i64 s.fp) ∧ w'.cell? ⟨gx, 4, none⟩ = some (.int .u32 0) ∧ w'.cell? ⟨gx, 5, none⟩ = some (.int .u32 ((s.seq + lenV s.fl n) % 4294967296)) ∧ w'.cell? ⟨gx, 6, none⟩ = some (.int .i64 20) ∧ w'.cell? ⟨gx, 7, none⟩ = some (.int .i64 0) ∧ w'.cell? ⟨gx, 8, none⟩ = some (.int .i64 0) ∧ w'.cell? ⟨gx, 9, none⟩ = some (.int .i64 (-1)) ∧ w'.cell? ⟨gx, 10, none⟩ = some (.slice none 0 0))
    (first | (with_reducible exact ⟨by assumption, by assumption, by assumption, by assumption, by assumption, by assumption, by assumption, by assumption, by assumption, by assumption, by assumption, by assumption, by assumption, by assumption, by assumption, by assumption, by assumption, by assumption, by assumption, by assumption, by assumption, by assumption, by assumption, by assumption, by assumption, by assumption, by assumption, by assumption, by assumption, by assumption, by assumption, by assumption, by assumption⟩) | go_keep)
    (first
      | (go_at_call 20; refine (segments_any ⟨s.to, s.tp, s.fr, s.fp, 0, ((s.seq + lenV s.fl n) % 4294967296), 20, 0, 0, (-1)⟩ none none 0 0 0 0 0 [] rfl rfl (by omega) Bs.nil _ (Rw.nil _ _ _) (Rw.nil _ _ _) (Nat.zero_le _)).mono ?_; rintro e w7 ⟨rfl, hBn, -⟩; (try have hBn := bel_undr hBn); have hBC := hBC.trans (hBn.mono hBC.size); obtain ⟨d0, d1, d2, d3, d4, d5, d6, d7, d8, d9, d10, e0, e1, e2, e3, e4, e5, e6, e7, e8, e9, e10, f0, f1, f2, f3, f4, f5, f6, f7, f8, f9, f10⟩ := key6.out _ hBC)
      | (go_at_call 21; refine (length_any s A n cap (by omega) _).mono ?_; rintro e w8 ⟨rfl, hBn⟩; (try have hBn := bel_undr hBn); have hBC := hBC.trans (hBn.mono hBC.size); obtain ⟨g0, g1, g2, g3, g4, g5, g6, g7, g8, g9, g10, h0, h1, h2, h3, h4, h5, h6, h7, h8, h9, h10, i0, i1, i2, i3, i4, i5, i6, i7, i8, i9, i10⟩ := key6.out _ hBC)
      | (go_at_call 22; refine (rlength_any s A n cap (by omega) _).mono ?_; rintro e w9 ⟨rfl, hBn⟩; (try have hBn := bel_undr hBn); have hBC := hBC.trans (hBn.mono hBC.size); obtain ⟨j0, j1, j2, j3, j4, j5, j6, j7, j8, j9, j10, k0, k1, k2, k3, k4, k5, k6, k7, k8, k9, k10, l0, l1, l2, l3, l4, l5, l6, l7, l8, l9, l10⟩ := key6.out _ hBC))
  all_goals
    have hBw : Below w.heap.size w _ := (HB.out.trans (HB06.out.mono HB.out.size)).trans (hBC.mono (by have := HB.out.size; omega))
    have HBW := Lib.hid hBw
    clear hBw
    go_wp2_with fail
    refine (reset_rst ⟨s.to, s.tp, s.fr, s.fp, 0, ((s.seq + lenV s.fl n) % 4294967296), 20, 0, 0, (-1)⟩ none 0 0 (show (bits .and .i64 20 4 != 0) = true by decide) _).mono ?_
    rintro e w10 ⟨rfl, hB10⟩
    have zw10 : w.heap.size < w10.heap.size := by have := hB10.size; have := hBC.size; omega
    have zr10 : gr < w10.heap.size := by have := hB10.size; have := hBC.size; omega
    have t0 := (World.cell?_alloc_lt w10 (.cells #[.int .u32 0, .int .i64 0, .int .u32 0, .int .i64 0, .int .u32 0, .int .u32 0, .int .i64 0, .int .i64 0, .int .i64 0, .int .i64 0, .slice none 0 0] 26) ⟨w.heap.size, 0, none⟩ zw10).trans (key6.out w10 (hBC.trans (hB10.mono hBC.size))).1
    have t2 := (World.cell?_alloc_lt w10 (.cells #[.int .u32 0, .int .i64 0, .int .u32 0, .int .i64 0, .int .u32 0, .int .u32 0, .int .i64 0, .int .i64 0, .int .i64 0, .int .i64 0, .slice none 0 0] 26) ⟨w.heap.size, 2, none⟩ zw10).trans (key6.out w10 (hBC.trans (hB10.mono hBC.size))).2.2.1
    have r10 := KR6.out.below (hBC.trans (hB10.mono hBC.size)) (by omega)
    have t6 : (w10.alloc (.cells #[.int .u32 0, .int .i64 0, .int .u32 0, .int .i64 0, .int .u32 0, .int .u32 0, .int .i64 0, .int .i64 0, .int .i64 0, .int .i64 0, .slice none 0 0] 26)).cell? ⟨gr, 6, none⟩ = some (.int .i64 20) := (World.cell?_alloc_lt w10 _ ⟨gr, 6, none⟩ zr10).trans (r10.cell 6)
    have t7 : (w10.alloc (.cells #[.int .u32 0, .int .i64 0, .int .u32 0, .int .i64 0, .int .u32 0, .int .u32 0, .int .i64 0, .int .i64 0, .int .i64 0, .int .i64 0, .slice none 0 0] 26)).cell? ⟨gr, 0, none⟩ = some (.int .u32 s.to) := (World.cell?_alloc_lt w10 _ ⟨gr, 0, none⟩ zr10).trans (r10.cell 0)
    have t8 : (w10.alloc (.cells #[.int .u32 0, .int .i64 0, .int .u32 0, .int .i64 0, .int .u32 0, .int .u32 0, .int .i64 0, .int .i64 0, .int .i64 0, .int .i64 0, .slice none 0 0] 26)).cell? ⟨gr, 2, none⟩ = some (.int .u32 s.fr) := (World.cell?_alloc_lt w10 _ ⟨gr, 2, none⟩ zr10).trans (r10.cell 2)
    have hand : bits .and .i64 20 4 = 4 := by decide
    have HBW2 := Lib.hid ((HBW.out.trans (hB10.mono HBW.out.size)).alloc (by have := HBW.out.size; have := hB10.size; omega) (.cells #[.int .u32 0, .int .i64 0, .int .u32 0, .int .i64 0, .int .u32 0, .int .u32 0, .int .i64 0, .int .i64 0, .int .i64 0, .int .i64 0, .slice none 0 0] 26))
    go_wp2_with fail
    refine (known_any _).mono ?_
    rintro e w11 ⟨rfl, hB11⟩
    go_wp2
    go_ret
    exact ⟨rfl, HBW2.out.trans (hB11.mono HBW2.out.size)⟩
end Go.Proofs.Ytifeomdmbjinoaa
