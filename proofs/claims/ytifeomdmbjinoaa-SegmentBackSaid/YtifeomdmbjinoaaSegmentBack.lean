/- Proved: what a segment is written as is read as it; with another address it is refused. Conditions: none, for every input. -/
import Derived.Test.YtifeomdmbjinoaaRows
import Derived.WalkKit
import Derived.ProofKit
import Derived.OpenShut
import Derived.ShutString
import Derived.ChangeOld
import Derived.Below
import Derived.SizedLaws
import Derived.Test.YtifeomdmbjinoaaSegC
import Derived.Test.YtifeomdmbjinoaaSegX
import Derived.Test.YtifeomdmbjinoaaSegV
namespace Go.Proofs.Ytifeomdmbjinoaa.segmentBack
open Go.ChangeShapes Go.WideShapes Go.ChangeAt Go.RowKit
open Go.ChangeMaps (open_string shut_string)
set_option linter.unusedVariables false

theorem own : ownKnob Try.prog.godebug = none := by kernel_rfl
theorem laidOut : laidOutB Try.prog = true := by kernel_rfl

/-! ### the walk -/
set_option maxRecDepth 100000 in
set_option maxHeartbeats 4000000 in
theorem walk (v0 : Value) (a1 : Int) (w : World) (w0 : ViewSeg w v0) (w1 : (Lit.int .u8 a1).wf = true) :
    Calls Try.prog 8 #[v0, .int .u8 a1] w fun e w' => e = .returned (.bool true) ∧ Below w.heap.size w w' := by
  obtain ⟨s, A, n, cap, l, rfl, hwf, hd, hb, hn, hcap, hmax⟩ := w0
  have HN := Lib.hid hn
  have HWF := Lib.hid hwf
  clear hn hwf
  obtain ⟨W, hW⟩ : ∃ W, w.alloc (.cells #[.int .u32 s.fr, .int .i64 s.fp, .int .u32 s.to, .int .i64 s.tp, .int .u32 s.seq, .int .u32 s.ack, .int .i64 s.fl, .int .i64 s.win, .int .i64 s.mss, .int .i64 s.sc, .slice A n cap] 26) = W := ⟨_, rfl⟩
  have hm : Bk W w.heap.size 26 #[.int .u32 s.fr, .int .i64 s.fp, .int .u32 s.to, .int .i64 s.tp, .int .u32 s.seq, .int .u32 s.ack, .int .i64 s.fl, .int .i64 s.win, .int .i64 s.mss, .int .i64 s.sc, .slice A n cap] := by rw [← hW]; exact Bk.new w _ _
  have hB : Below w.heap.size w W := by rw [← hW]; exact (Below.refl _ _).alloc (Nat.le_refl _) _
  have hz : W.heap.size = w.heap.size + 1 := by rw [← hW]; simp
  have hd0 : RB W W.heap.size A l := Rw.more (Rw.below hd hB) hB.size
  have k0 : W.cell? ⟨w.heap.size, 0, none⟩ = some (.int .u32 s.fr) := hm.cell 0
  have k1 : W.cell? ⟨w.heap.size, 1, none⟩ = some (.int .i64 s.fp) := hm.cell 1
  have k2 : W.cell? ⟨w.heap.size, 2, none⟩ = some (.int .u32 s.to) := hm.cell 2
  have k3 : W.cell? ⟨w.heap.size, 3, none⟩ = some (.int .i64 s.tp) := hm.cell 3
  have k4 : W.cell? ⟨w.heap.size, 4, none⟩ = some (.int .u32 s.seq) := hm.cell 4
  have k5 : W.cell? ⟨w.heap.size, 5, none⟩ = some (.int .u32 s.ack) := hm.cell 5
  have k6 : W.cell? ⟨w.heap.size, 6, none⟩ = some (.int .i64 s.fl) := hm.cell 6
  have k7 : W.cell? ⟨w.heap.size, 7, none⟩ = some (.int .i64 s.win) := hm.cell 7
  have k8 : W.cell? ⟨w.heap.size, 8, none⟩ = some (.int .i64 s.mss) := hm.cell 8
  have k9 : W.cell? ⟨w.heap.size, 9, none⟩ = some (.int .i64 s.sc) := hm.cell 9
  have k10 : W.cell? ⟨w.heap.size, 10, none⟩ = some (.slice A n cap) := hm.cell 10
  have HW := Lib.hid hW
  have HZ := Lib.hid hz
  clear hW hz
  have hy := bounds_u8 w1
  rcases (by omega : 70000 < n ∨ n ≤ 70000) with d0 | d0
  · go_enter Try.func8, Try.ntmps8
    go_wp2_with fail
    go_ret
    exact ⟨rfl, (Below.refl _ _).alloc (Nat.le_refl _) _⟩
  have hbnd : w.heap.size < W.heap.size := by have := HZ.out; omega
  have HG : Hid (segErr s n = 0 → s.good ∧ 20 + (optB s.mss s.sc).length + n ≤ 65515) := Lib.hid segErr_zero
  obtain ⟨er, her⟩ : ∃ er, segErr s n = er := ⟨_, rfl⟩
  have HER := Lib.hid her
  have hfr : U32 s.fr := HWF.out.1
  have hto : U32 s.to := HWF.out.2.2.1
  clear her
  go_enter Try.func8, Try.ntmps8
  go_wp2_with fail
  rw [HW.out]
  refine (encode_any s HWF.out A n cap l HN.out (by omega) hb _ hd0).mono ?_
  rintro e w4 ⟨A4, n4, c4, rfl, hO4, hB4⟩
  rw [HER.out]
  have hz4 := hB4.size
  have hBw4 : Below w.heap.size w w4 := hB.trans (hB4.mono (by omega))
  have HBW4 := Lib.hid hBw4
  have m0 : w4.cell? ⟨w.heap.size, 0, none⟩ = some (.int .u32 s.fr) := bel_cell hB4 hbnd k0
  have m1 : w4.cell? ⟨w.heap.size, 1, none⟩ = some (.int .i64 s.fp) := bel_cell hB4 hbnd k1
  have m2 : w4.cell? ⟨w.heap.size, 2, none⟩ = some (.int .u32 s.to) := bel_cell hB4 hbnd k2
  have m3 : w4.cell? ⟨w.heap.size, 3, none⟩ = some (.int .i64 s.tp) := bel_cell hB4 hbnd k3
  have m4 : w4.cell? ⟨w.heap.size, 4, none⟩ = some (.int .u32 s.seq) := bel_cell hB4 hbnd k4
  have m5 : w4.cell? ⟨w.heap.size, 5, none⟩ = some (.int .u32 s.ack) := bel_cell hB4 hbnd k5
  have m6 : w4.cell? ⟨w.heap.size, 6, none⟩ = some (.int .i64 s.fl) := bel_cell hB4 hbnd k6
  have m7 : w4.cell? ⟨w.heap.size, 7, none⟩ = some (.int .i64 s.win) := bel_cell hB4 hbnd k7
  have m8 : w4.cell? ⟨w.heap.size, 8, none⟩ = some (.int .i64 s.mss) := bel_cell hB4 hbnd k8
  have m9 : w4.cell? ⟨w.heap.size, 9, none⟩ = some (.int .i64 s.sc) := bel_cell hB4 hbnd k9
  have m10 : w4.cell? ⟨w.heap.size, 10, none⟩ = some (.slice A n cap) := bel_cell hB4 hbnd k10
  clear k0 k1 k2 k3 k4 k5 k6 k7 k8 k9 k10
  clear hBw4 hm
  by_cases h0 : er = 0
  · have hz0 := HG.out (by rw [HER.out]; exact h0)
    subst h0
    obtain ⟨hg, hlen⟩ := hz0
    have hal : segOut s l = segAll s l := by unfold segOut; rw [HN.out, HER.out, if_pos rfl]
    rw [hal] at hO4
    have hbs : Hid (Bs (segAll s l)) := Lib.hid (segAll_bs hb)
    have hL4 := Lib.hid hO4.length
    have hb4 : RB w4 w4.heap.size A4 (segAll s l) := hO4.rb
    have hDec := segAll_dec s HWF.out hg l hb (by rw [HN.out]; exact hlen)
    have hErr := segAll_dErr s hg l hb (by rw [HN.out]; exact hlen)
    have HDEC := Lib.hid hDec
    have HERR := Lib.hid hErr
    clear hal hDec hErr
    go_wp2_with fail
    refine (decode_any s.fr s.to hfr hto A4 n4 c4 _ _ hL4.out hbs.out w4 hb4 (Nat.le_refl _)).mono ?_
    rintro e w5 ⟨A5, n5, c5, rfl, hO5, hB5⟩
    rw [HERR.out, HDEC.out.1]
    rw [HDEC.out.2] at hO5
    have hw4 : w.heap.size < w4.heap.size := by omega
    have zw5 : w.heap.size < w5.heap.size := by have := hB5.size; omega
    have p0 : w5.cell? ⟨w.heap.size, 0, none⟩ = some (.int .u32 s.fr) := bel_cell hB5 hw4 m0
    have p1 : w5.cell? ⟨w.heap.size, 1, none⟩ = some (.int .i64 s.fp) := bel_cell hB5 hw4 m1
    have p2 : w5.cell? ⟨w.heap.size, 2, none⟩ = some (.int .u32 s.to) := bel_cell hB5 hw4 m2
    have p3 : w5.cell? ⟨w.heap.size, 3, none⟩ = some (.int .i64 s.tp) := bel_cell hB5 hw4 m3
    have p4 : w5.cell? ⟨w.heap.size, 4, none⟩ = some (.int .u32 s.seq) := bel_cell hB5 hw4 m4
    have p5 : w5.cell? ⟨w.heap.size, 5, none⟩ = some (.int .u32 s.ack) := bel_cell hB5 hw4 m5
    have p6 : w5.cell? ⟨w.heap.size, 6, none⟩ = some (.int .i64 s.fl) := bel_cell hB5 hw4 m6
    have p7 : w5.cell? ⟨w.heap.size, 7, none⟩ = some (.int .i64 s.win) := bel_cell hB5 hw4 m7
    have p8 : w5.cell? ⟨w.heap.size, 8, none⟩ = some (.int .i64 s.mss) := bel_cell hB5 hw4 m8
    have p9 : w5.cell? ⟨w.heap.size, 9, none⟩ = some (.int .i64 s.sc) := bel_cell hB5 hw4 m9
    have p10 : w5.cell? ⟨w.heap.size, 10, none⟩ = some (.slice A n cap) := bel_cell hB5 hw4 m10
    have q0 := (World.cell?_alloc_lt w5 (.cells #[.int .u32 s.fr, .int .i64 s.fp, .int .u32 s.to, .int .i64 s.tp, .int .u32 s.seq, .int .u32 s.ack, .int .i64 s.fl, .int .i64 s.win, .int .i64 s.mss, .int .i64 s.sc, .slice A5 n5 c5] 26) ⟨w.heap.size, 0, none⟩ zw5).trans p0
    have q1 := (World.cell?_alloc_lt w5 (.cells #[.int .u32 s.fr, .int .i64 s.fp, .int .u32 s.to, .int .i64 s.tp, .int .u32 s.seq, .int .u32 s.ack, .int .i64 s.fl, .int .i64 s.win, .int .i64 s.mss, .int .i64 s.sc, .slice A5 n5 c5] 26) ⟨w.heap.size, 1, none⟩ zw5).trans p1
    have q2 := (World.cell?_alloc_lt w5 (.cells #[.int .u32 s.fr, .int .i64 s.fp, .int .u32 s.to, .int .i64 s.tp, .int .u32 s.seq, .int .u32 s.ack, .int .i64 s.fl, .int .i64 s.win, .int .i64 s.mss, .int .i64 s.sc, .slice A5 n5 c5] 26) ⟨w.heap.size, 2, none⟩ zw5).trans p2
    have q3 := (World.cell?_alloc_lt w5 (.cells #[.int .u32 s.fr, .int .i64 s.fp, .int .u32 s.to, .int .i64 s.tp, .int .u32 s.seq, .int .u32 s.ack, .int .i64 s.fl, .int .i64 s.win, .int .i64 s.mss, .int .i64 s.sc, .slice A5 n5 c5] 26) ⟨w.heap.size, 3, none⟩ zw5).trans p3
    have q4 := (World.cell?_alloc_lt w5 (.cells #[.int .u32 s.fr, .int .i64 s.fp, .int .u32 s.to, .int .i64 s.tp, .int .u32 s.seq, .int .u32 s.ack, .int .i64 s.fl, .int .i64 s.win, .int .i64 s.mss, .int .i64 s.sc, .slice A5 n5 c5] 26) ⟨w.heap.size, 4, none⟩ zw5).trans p4
    have q5 := (World.cell?_alloc_lt w5 (.cells #[.int .u32 s.fr, .int .i64 s.fp, .int .u32 s.to, .int .i64 s.tp, .int .u32 s.seq, .int .u32 s.ack, .int .i64 s.fl, .int .i64 s.win, .int .i64 s.mss, .int .i64 s.sc, .slice A5 n5 c5] 26) ⟨w.heap.size, 5, none⟩ zw5).trans p5
    have q6 := (World.cell?_alloc_lt w5 (.cells #[.int .u32 s.fr, .int .i64 s.fp, .int .u32 s.to, .int .i64 s.tp, .int .u32 s.seq, .int .u32 s.ack, .int .i64 s.fl, .int .i64 s.win, .int .i64 s.mss, .int .i64 s.sc, .slice A5 n5 c5] 26) ⟨w.heap.size, 6, none⟩ zw5).trans p6
    have q7 := (World.cell?_alloc_lt w5 (.cells #[.int .u32 s.fr, .int .i64 s.fp, .int .u32 s.to, .int .i64 s.tp, .int .u32 s.seq, .int .u32 s.ack, .int .i64 s.fl, .int .i64 s.win, .int .i64 s.mss, .int .i64 s.sc, .slice A5 n5 c5] 26) ⟨w.heap.size, 7, none⟩ zw5).trans p7
    have q8 := (World.cell?_alloc_lt w5 (.cells #[.int .u32 s.fr, .int .i64 s.fp, .int .u32 s.to, .int .i64 s.tp, .int .u32 s.seq, .int .u32 s.ack, .int .i64 s.fl, .int .i64 s.win, .int .i64 s.mss, .int .i64 s.sc, .slice A5 n5 c5] 26) ⟨w.heap.size, 8, none⟩ zw5).trans p8
    have q9 := (World.cell?_alloc_lt w5 (.cells #[.int .u32 s.fr, .int .i64 s.fp, .int .u32 s.to, .int .i64 s.tp, .int .u32 s.seq, .int .u32 s.ack, .int .i64 s.fl, .int .i64 s.win, .int .i64 s.mss, .int .i64 s.sc, .slice A5 n5 c5] 26) ⟨w.heap.size, 9, none⟩ zw5).trans p9
    have q10 := (World.cell?_alloc_lt w5 (.cells #[.int .u32 s.fr, .int .i64 s.fp, .int .u32 s.to, .int .i64 s.tp, .int .u32 s.seq, .int .u32 s.ack, .int .i64 s.fl, .int .i64 s.win, .int .i64 s.mss, .int .i64 s.sc, .slice A5 n5 c5] 26) ⟨w.heap.size, 10, none⟩ zw5).trans p10
    obtain ⟨W6, hW6⟩ : ∃ W6, w5.alloc (.cells #[.int .u32 s.fr, .int .i64 s.fp, .int .u32 s.to, .int .i64 s.tp, .int .u32 s.seq, .int .u32 s.ack, .int .i64 s.fl, .int .i64 s.win, .int .i64 s.mss, .int .i64 s.sc, .slice A5 n5 c5] 26) = W6 := ⟨_, rfl⟩
    have hB6 : Below w5.heap.size w5 W6 := by rw [← hW6]; exact (Below.refl _ _).alloc (Nat.le_refl _) _
    have HW6 := Lib.hid hW6
    have hBw6 : Below w.heap.size w W6 := (HBW4.out.trans (hB5.mono (by omega))).trans (hB6.mono (by omega))
    have HBW6 := Lib.hid hBw6
    have hl5 := hO5.length
    have HL5 := Lib.hid hl5
    have hr6 : RB W6 W6.heap.size A l := Rw.more (Rw.below hd hBw6) hBw6.size
    have hr5 : RB W6 W6.heap.size A5 l := Rw.more (Rw.below hO5.rb hB6) hB6.size
    clear hW6 hBw6 hl5
    go_wp2_with fail
    rw [HW6.out]
    refine (segments_any s A A5 n n5 cap c5 _ l HN.out HL5.out (by omega) hb _ hr6 hr5 (Nat.le_refl _)).mono ?_
    rintro e w7 ⟨rfl, hB7, -⟩
    have hw6 : w.heap.size < W6.heap.size := by have := hB6.size; omega
    have t0 := bel_cell hB7 hw6 (bel_cell hB6 zw5 p0)
    have t2 := bel_cell hB7 hw6 (bel_cell hB6 zw5 p2)
    have hb7 : RB w7 w7.heap.size A4 (segAll s l) := Rw.more (Rw.below hb4 ((hB5.trans (hB6.mono hB5.size)).trans (hB7.mono (Nat.le_trans hB5.size hB6.size)))) (Nat.le_trans (Nat.le_trans hB5.size hB6.size) hB7.size)
    have HBW7 := Lib.hid (HBW6.out.trans (hB7.mono HBW6.out.size))
    clear m0 m1 m2 m3 m4 m5 m6 m7 m8 m9 m10
    clear p0 p1 p2 p3 p4 p5 p6 p7 p8 p9 p10
    clear q0 q1 q2 q3 q4 q5 q6 q7 q8 q9 q10
    rcases (by omega : a1 = 0 ∨ 1 ≤ a1) with rfl | hy1
    · go_wp2_with fail
      refine (decode_any s.fr (bits .xor .u32 s.to 1) hfr (xor_u32_low s.to 1 hto (by omega)).1 A4 n4 c4 _ _ hL4.out hbs.out w7 (by exact hb7) (Nat.le_refl _)).mono ?_
      rintro e w8 ⟨A8, n8, c8, rfl, hO8, hB8⟩
      have hx := xor_u32_low s.to 1 hto (by omega)
      rw [other_dErr s hg l hb (by rw [HN.out]; exact hlen) _ hto hx.1 hx.2.1 hx.2.2]
      obtain ⟨S8, hS8⟩ : ∃ S8, decOf s.fr (bits .xor .u32 s.to 1) (segAll s l) = S8 := ⟨_, rfl⟩
      rw [hS8]
      have HB8 := Lib.hid ((HBW7.out.trans (hB8.mono HBW7.out.size)).alloc (by have := HBW7.out.size; have := hB8.size; omega) (.cells #[.int .u32 S8.fr, .int .i64 S8.fp, .int .u32 S8.to, .int .i64 S8.tp, .int .u32 S8.seq, .int .u32 S8.ack, .int .i64 S8.fl, .int .i64 S8.win, .int .i64 S8.mss, .int .i64 S8.sc, .slice A8 n8 c8] 26))
      clear hx hS8
      go_wp2_with fail
      refine (known_any _).mono ?_
      rintro e w9 ⟨rfl, hB9⟩
      go_wp2
      go_ret
      exact ⟨rfl, HB8.out.trans (hB9.mono HB8.out.size)⟩
    · have ty : (a1 == 0) = false := by simp; omega
      go_wp2_with fail
      refine (decode_any s.fr (bits .xor .u32 s.to a1) hfr (xor_u32_low s.to a1 hto (by omega)).1 A4 n4 c4 _ _ hL4.out hbs.out w7 (by exact hb7) (Nat.le_refl _)).mono ?_
      rintro e w8 ⟨A8, n8, c8, rfl, hO8, hB8⟩
      have hx := xor_u32_low s.to a1 hto (by omega)
      rw [other_dErr s hg l hb (by rw [HN.out]; exact hlen) _ hto hx.1 hx.2.1 hx.2.2]
      obtain ⟨S8, hS8⟩ : ∃ S8, decOf s.fr (bits .xor .u32 s.to a1) (segAll s l) = S8 := ⟨_, rfl⟩
      rw [hS8]
      have HB8 := Lib.hid ((HBW7.out.trans (hB8.mono HBW7.out.size)).alloc (by have := HBW7.out.size; have := hB8.size; omega) (.cells #[.int .u32 S8.fr, .int .i64 S8.fp, .int .u32 S8.to, .int .i64 S8.tp, .int .u32 S8.seq, .int .u32 S8.ack, .int .i64 S8.fl, .int .i64 S8.win, .int .i64 S8.mss, .int .i64 S8.sc, .slice A8 n8 c8] 26))
      clear hx hS8
      go_wp2_with fail
      refine (known_any _).mono ?_
      rintro e w9 ⟨rfl, hB9⟩
      go_wp2
      go_ret
      exact ⟨rfl, HB8.out.trans (hB9.mono HB8.out.size)⟩
  · have h1 : (er != 0) = true := by simpa using h0
    have hout : segOut s l = [] := by unfold segOut; rw [HN.out, HER.out, if_neg h0]
    rw [hout] at hO4
    obtain rfl : 0 = n4 := hO4.length
    clear hout
    go_wp2_with fail
    refine (known_any _).mono ?_
    rintro e w6 ⟨rfl, hB6⟩
    go_wp2
    go_ret
    exact ⟨rfl, HBW4.out.trans (hB6.mono HBW4.out.size)⟩

/-! ### the row -/
set_option maxRecDepth 100000 in
theorem lifted (os : Os) (started : os.Started) (H : Type) (enc : TypeId × Value → H) :
    ReturnsInHanded {} Try.checked os 8 .any (Rows.segmentBackSpec.pre6 enc Try.prog Try.f8 Rows.segmentBackRow.domain false) (Rows.segmentBackSpec.post enc Try.prog Try.f8 false true false false) := by
  refine returnsInHanded_of_change_sized (C := Try.checked) own started (by kernel_rfl) Try.func8
    (ChangeSpec.witness6 (enc := enc) (C := Try.checked) false ⟨#[], #[.agg #[.int .u32 0, .int .i64 0, .int .u32 0, .int .i64 0, .int .u32 0, .int .u32 0, .int .i64 0, .int .i64 0, .int .i64 0, .int .i64 0, .slice none 0 0], .int .u8 0], []⟩ 8 (by kernel_rfl) (by kernel_rfl) (by kernel_rfl) (by kernel_rfl)) ?_
  intro W base args ds gs before hval0 hW hcnd hsz0 _
  have hval : ∀ (j : Nat) t v, Try.f8.params[j]? = some t → args[j]? = some v → Value.okWide Try.prog W .any base t v := hval0
  have hsz : (DataW.weightsEach Try.prog (Try.f8.params.toList ++ Rows.segmentBackSpec.plain.varTypes Try.prog) (ds ++ gs)).all (· ≤ reachBytes) = true := hsz0
  clear hsz0
  have hW' := hW
  obtain ⟨p, q, hA0, hV, rfl, hfz, hnd⟩ := hW
  have hA : DataW.TrodAll enc Try.prog W 0 (fun _ => true) true Try.f8.params.toList args.toList ds p := hA0
  rw [Try.params8] at hA hval hsz
  obtain ⟨v0, vs0, d0, ds0, p0, q0, hargs, rfl, rfl, h0, r0⟩ := trodAll_cons hA
  obtain ⟨v1, vs1, d1, ds1, p1, q1, rfl, rfl, rfl, h1, r1⟩ := trodAll_cons r0
  obtain ⟨rfl, rfl, rfl⟩ := trodAll_nil r1
  obtain rfl : args = #[v0, v1] := by cases args; simp_all
  obtain ⟨rfl, rfl⟩ := trodVars_none hV
  have k0 := h0
  have lt0 : ∀ x ∈ p0, x.block < W.heap.size := by obtain ⟨m, hm⟩ := k0; exact DataW.trod_lt m _ _ _ hm
  have w0 : ViewSeg W v0 := open_seg (hval 0 26 v0 rfl rfl) h0 (fun k hk => by have := List.all_eq_true.1 hsz k (DataW.weights_mem_each (j := 0) rfl rfl k hk); simpa using this)
  obtain ⟨a1, rfl, rfl, rfl, w1⟩ := open_int Try.underlying5 (hval 1 5 v1 rfl rfl) h1
  clear hA0 hval0
  refine (walk v0 a1 W w0 w1).mono fun e W' ⟨he, bel⟩ => ?_
  subst he
  exact ⟨_, rfl, _, _, _, [], _, [], hW', trodAll_mk1 (shut_bool Try.underlying4 _), (trodAll_cons_mk (Below.trod laidOut (by kernel_rfl) (of_decide_eq_true (by kernel_rfl)) k0 bel lt0) (trodAll_cons_mk (shut_int Try.underlying5 w1) trodAll_mk0)), rfl, bel.frame _, fun h => by cases h⟩

theorem over : Rows.segmentBackRow.holds Try.pinned (OpenSpec.ofChange Rows.segmentBackSpec) :=
  OpenClaim.holds_of_wide 8 Try.f8 rfl rfl rfl rfl rfl rfl rfl ⟨rfl, rfl, rfl, rfl, rfl⟩ rfl rfl rfl rfl rfl (by kernel_rfl) Try.func8 (by kernel_rfl)
    (of_decide_eq_true (by kernel_rfl)) (by unfold Func.isWrapper; first | (rw [if_pos (by decide +kernel)]; kernel_rfl) | (rw [if_neg (by decide +kernel)]; exact ⟨rfl, rfl⟩))
    (fun os started H enc _ => lifted os started H enc)

theorem proved : Rows.SegmentBackSaid := over
#print axioms proved
end Go.Proofs.Ytifeomdmbjinoaa.segmentBack
