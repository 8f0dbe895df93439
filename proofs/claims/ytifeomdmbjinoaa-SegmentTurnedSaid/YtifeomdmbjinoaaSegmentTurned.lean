/- Proved: one byte of a segment turned into another is refused. Conditions: none, for every input. -/
import Derived.Test.YtifeomdmbjinoaaRows
import Derived.WalkKit
import Derived.ProofKit
import Derived.OpenShut
import Derived.ShutString
import Derived.ChangeOld
import Derived.Below
import Derived.SizedLaws
import Derived.Test.YtifeomdmbjinoaaSegC
import Derived.Test.YtifeomdmbjinoaaSegV
namespace Go.Proofs.Ytifeomdmbjinoaa.segmentTurned
open Go.ChangeShapes Go.WideShapes Go.ChangeAt Go.RowKit
open Go.ChangeMaps (open_string shut_string)
set_option linter.unusedVariables false

theorem own : ownKnob Try.prog.godebug = none := by kernel_rfl
theorem laidOut : laidOutB Try.prog = true := by kernel_rfl

/-! ### the walk -/
set_option maxRecDepth 100000 in
set_option maxHeartbeats 40000000 in
theorem walk (v0 : Value) (a1 : Int) (a2 : Int) (w : World) (w0 : ViewSeg w v0) (w1 : (Lit.int .i64 a1).wf = true) (w2 : (Lit.int .u8 a2).wf = true) :
    Calls Try.prog 9 #[v0, .int .i64 a1, .int .u8 a2] w fun e w' => e = .returned (.bool true) ∧ Below w.heap.size w w' := by
  obtain ⟨s, A, n, cap, l, rfl, hwf, hd, hb, hn, hcap, hmax⟩ := w0
  have HN := Lib.hid hn
  have HWF := Lib.hid hwf
  clear hn hwf
  obtain ⟨W, hW⟩ : ∃ W, w.alloc (.cells #[.int .u32 s.fr, .int .i64 s.fp, .int .u32 s.to, .int .i64 s.tp, .int .u32 s.seq, .int .u32 s.ack, .int .i64 s.fl, .int .i64 s.win, .int .i64 s.mss, .int .i64 s.sc, .slice A n cap] 26) = W := ⟨_, rfl⟩
  have hm : Bk W w.heap.size 26 #[.int .u32 s.fr, .int .i64 s.fp, .int .u32 s.to, .int .i64 s.tp, .int .u32 s.seq, .int .u32 s.ack, .int .i64 s.fl, .int .i64 s.win, .int .i64 s.mss, .int .i64 s.sc, .slice A n cap] := by rw [← hW]; exact Bk.new w _ _
  have hB : Below w.heap.size w W := by rw [← hW]; exact (Below.refl _ _).alloc (Nat.le_refl _) _
  have hz : W.heap.size = w.heap.size + 1 := by rw [← hW]; simp
  have hd0 : RB W W.heap.size A l := Rw.more (Rw.below hd hB) hB.size
  have k0 : W.cell? ⟨w.heap.size, 0, none⟩ = some (.int .u32 s.fr) := hm.cell 0
  have k1 : W.cell? ⟨w.heap.size, 1, none⟩ = some (.int .i64 s.fp) := hm.cell 1
  have k2 : W.cell? ⟨w.heap.size, 2, none⟩ = some (.int .u32 s.to) := hm.cell 2
  have k3 : W.cell? ⟨w.heap.size, 3, none⟩ = some (.int .i64 s.tp) := hm.cell 3
  have k4 : W.cell? ⟨w.heap.size, 4, none⟩ = some (.int .u32 s.seq) := hm.cell 4
  have k5 : W.cell? ⟨w.heap.size, 5, none⟩ = some (.int .u32 s.ack) := hm.cell 5
  have k6 : W.cell? ⟨w.heap.size, 6, none⟩ = some (.int .i64 s.fl) := hm.cell 6
  have k7 : W.cell? ⟨w.heap.size, 7, none⟩ = some (.int .i64 s.win) := hm.cell 7
  have k8 : W.cell? ⟨w.heap.size, 8, none⟩ = some (.int .i64 s.mss) := hm.cell 8
  have k9 : W.cell? ⟨w.heap.size, 9, none⟩ = some (.int .i64 s.sc) := hm.cell 9
  have k10 : W.cell? ⟨w.heap.size, 10, none⟩ = some (.slice A n cap) := hm.cell 10
  have HW := Lib.hid hW
  have HZ := Lib.hid hz
  clear hW hz
  have hy := bounds_u8 w2
  have hat := bounds_i64 w1
  rcases (by omega : 2000 < n ∨ n ≤ 2000) with d0 | d0
  · go_enter Try.func9, Try.ntmps9
    go_wp2_with fail
    go_ret
    exact ⟨rfl, (Below.refl _ _).alloc (Nat.le_refl _) _⟩
  have hbnd : w.heap.size < W.heap.size := by have := HZ.out; omega
  have HG : Hid (segErr s n = 0 → s.good ∧ 20 + (optB s.mss s.sc).length + n ≤ 65515) := Lib.hid segErr_zero
  obtain ⟨er, her⟩ : ∃ er, segErr s n = er := ⟨_, rfl⟩
  have HER := Lib.hid her
  have hfr : U32 s.fr := HWF.out.1
  have hto : U32 s.to := HWF.out.2.2.1
  clear her
  go_enter Try.func9, Try.ntmps9
  go_wp2_with fail
  rw [HW.out]
  refine (encode_any s HWF.out A n cap l HN.out (by omega) hb _ hd0).mono ?_
  rintro e w4 ⟨A4, n4, c4, rfl, hO4, hB4⟩
  rw [HER.out]
  have hz4 := hB4.size
  have hBw4 : Below w.heap.size w w4 := hB.trans (hB4.mono (by omega))
  have HBW4 := Lib.hid hBw4
  have m0 : w4.cell? ⟨w.heap.size, 0, none⟩ = some (.int .u32 s.fr) := bel_cell hB4 hbnd k0
  have m2 : w4.cell? ⟨w.heap.size, 2, none⟩ = some (.int .u32 s.to) := bel_cell hB4 hbnd k2
  clear k0 k1 k2 k3 k4 k5 k6 k7 k8 k9 k10
  clear hBw4 hm
  by_cases h0 : er = 0
  · have hz0 := HG.out (by rw [HER.out]; exact h0)
    subst h0
    obtain ⟨hg, hlen⟩ := hz0
    have hal : segOut s l = segAll s l := by unfold segOut; rw [HN.out, HER.out, if_pos rfl]
    rw [hal] at hO4
    have hbs : Hid (Bs (segAll s l)) := Lib.hid (segAll_bs hb)
    have hL4 := Lib.hid hO4.length
    have hn4 : n4 = 20 + (optB s.mss s.sc).length + n := by rw [← hL4.out, segAll_len, HN.out]
    have hn20 : 20 ≤ n4 := by omega
    have hn4b : n4 ≤ 65515 := by omega
    clear hal hn4 hlen
    rcases (by omega : a2 = 0 ∨ 1 ≤ a2) with rfl | hy1
    · skip
      obtain ⟨q, hq⟩ : ∃ q, a1.tmod (n4 : Int) = q := ⟨_, rfl⟩
      have hq1 : q < (n4 : Int) := by rw [← hq]; exact Int.tmod_lt_of_pos a1 (by omega)
      have hq2 : -(n4 : Int) < q := by rw [← hq]; exact Int.lt_tmod_of_pos a1 (by omega)
      rcases (by omega : 0 ≤ q ∨ q < 0) with hq0 | hq0
      · obtain ⟨kn, rfl⟩ : ∃ kn : Nat, q = (kn : Int) := ⟨q.toNat, by omega⟩
        have hkn : kn < n4 := by omega
        obtain ⟨g, rfl, hgg, cg, fg⟩ := hO4.lit_at (k := kn) hkn
        have hx0 := hbs.out.at_ kn
        obtain ⟨x, hx⟩ : ∃ x, (segAll s l)[kn]?.getD 0 = x := ⟨_, rfl⟩
        rw [hx] at hx0 cg
        have hxor := xor_u8 x 1 hx0.1 hx0.2 (by omega) (by omega)
        have hxne := hxor.2.2 (by omega)
        obtain ⟨v, hv⟩ : ∃ v, bits .xor .u8 x 1 = v := ⟨_, rfl⟩
        rw [hv] at hxor hxne
        have HT := Lib.hid (turned_dErr s l hb kn v (by rw [hL4.out]; exact hkn) hxor.1 hxor.2.1 (by rw [hx]; exact hxne))
        have HO5 := Lib.hid (hO4.store hkn v)
        have hbs5 := Lib.hid (hbs.out.set kn hxor.1 hxor.2.1)
        have HBW5 := Lib.hid (HBW4.out.setCell (p := ⟨g, kn, none⟩) (show w.heap.size ≤ g by omega) (.int .u8 v))
        have hne1 : w.heap.size ≠ g := by omega
        have hne2 : g ≠ w.heap.size := by omega
        have hL5 := Lib.hid (show ((segAll s l).set kn v).length = n4 by rw [List.length_set]; exact hL4.out)
        clear hx hxne hxor hO4
        obtain ⟨W5, hW5⟩ : ∃ W5, w4.setCell ⟨g, kn, none⟩ (.int .u8 v) = W5 := ⟨_, rfl⟩
        have HW5 := Lib.hid hW5
        have hO5 : OB 5 W5 W.heap.size (some ⟨g, 0, none⟩) n4 c4 ((segAll s l).set kn v) := by rw [← hW5]; exact HO5.out
        have hb5 : RB W5 W5.heap.size (some ⟨g, 0, none⟩) ((segAll s l).set kn v) := hO5.rb
        have hBw5 : Below w.heap.size w W5 := by rw [← hW5]; exact HBW5.out
        have HB5 := Lib.hid hBw5
        have HR5 := Lib.hid hb5
        clear hW5 hO5 hb5 hBw5
        obtain ⟨e2, he2⟩ : ∃ e2, dErr s.fr s.to ((segAll s l).set kn v) = e2 := ⟨_, rfl⟩
        have HE2 := Lib.hid he2
        have te2 : (e2 != 0) = true := by have := HT.out; rw [he2] at this; simpa using this
        clear he2
        go_wp2_with fail
        rw [HW5.out]
        refine (decode_any s.fr s.to hfr hto _ n4 c4 _ _ hL5.out hbs5.out W5 HR5.out (Nat.le_refl _)).mono ?_
        rintro e w8 ⟨A8, n8, c8, rfl, hO8, hB8⟩
        rw [HE2.out]
        obtain ⟨S8, hS8⟩ : ∃ S8, decOf s.fr s.to ((segAll s l).set kn v) = S8 := ⟨_, rfl⟩
        rw [hS8]
        have HB8 := Lib.hid ((HB5.out.trans (hB8.mono HB5.out.size)).alloc (by have := HB5.out.size; have := hB8.size; omega) (.cells #[.int .u32 S8.fr, .int .i64 S8.fp, .int .u32 S8.to, .int .i64 S8.tp, .int .u32 S8.seq, .int .u32 S8.ack, .int .i64 S8.fl, .int .i64 S8.win, .int .i64 S8.mss, .int .i64 S8.sc, .slice A8 n8 c8] 26))
        clear hS8
        go_wp2_with fail
        refine (known_any _).mono ?_
        rintro e w9 ⟨rfl, hB9⟩
        go_wp2
        go_ret
        exact ⟨rfl, HB8.out.trans (hB9.mono HB8.out.size)⟩
      · obtain ⟨kn, hk⟩ : ∃ kn : Nat, q + (n4 : Int) = (kn : Int) := ⟨(q + (n4 : Int)).toNat, by omega⟩
        have hkn : kn < n4 := by omega
        obtain ⟨g, rfl, hgg, cg, fg⟩ := hO4.lit_at (k := kn) hkn
        have hx0 := hbs.out.at_ kn
        obtain ⟨x, hx⟩ : ∃ x, (segAll s l)[kn]?.getD 0 = x := ⟨_, rfl⟩
        rw [hx] at hx0 cg
        have hxor := xor_u8 x 1 hx0.1 hx0.2 (by omega) (by omega)
        have hxne := hxor.2.2 (by omega)
        obtain ⟨v, hv⟩ : ∃ v, bits .xor .u8 x 1 = v := ⟨_, rfl⟩
        rw [hv] at hxor hxne
        have HT := Lib.hid (turned_dErr s l hb kn v (by rw [hL4.out]; exact hkn) hxor.1 hxor.2.1 (by rw [hx]; exact hxne))
        have HO5 := Lib.hid (hO4.store hkn v)
        have hbs5 := Lib.hid (hbs.out.set kn hxor.1 hxor.2.1)
        have HBW5 := Lib.hid (HBW4.out.setCell (p := ⟨g, kn, none⟩) (show w.heap.size ≤ g by omega) (.int .u8 v))
        have hne1 : w.heap.size ≠ g := by omega
        have hne2 : g ≠ w.heap.size := by omega
        have hL5 := Lib.hid (show ((segAll s l).set kn v).length = n4 by rw [List.length_set]; exact hL4.out)
        clear hx hxne hxor hO4
        obtain ⟨W5, hW5⟩ : ∃ W5, w4.setCell ⟨g, kn, none⟩ (.int .u8 v) = W5 := ⟨_, rfl⟩
        have HW5 := Lib.hid hW5
        have hO5 : OB 5 W5 W.heap.size (some ⟨g, 0, none⟩) n4 c4 ((segAll s l).set kn v) := by rw [← hW5]; exact HO5.out
        have hb5 : RB W5 W5.heap.size (some ⟨g, 0, none⟩) ((segAll s l).set kn v) := hO5.rb
        have hBw5 : Below w.heap.size w W5 := by rw [← hW5]; exact HBW5.out
        have HB5 := Lib.hid hBw5
        have HR5 := Lib.hid hb5
        clear hW5 hO5 hb5 hBw5
        obtain ⟨e2, he2⟩ : ∃ e2, dErr s.fr s.to ((segAll s l).set kn v) = e2 := ⟨_, rfl⟩
        have HE2 := Lib.hid he2
        have te2 : (e2 != 0) = true := by have := HT.out; rw [he2] at this; simpa using this
        clear he2
        go_wp2_with fail
        rw [HW5.out]
        refine (decode_any s.fr s.to hfr hto _ n4 c4 _ _ hL5.out hbs5.out W5 HR5.out (Nat.le_refl _)).mono ?_
        rintro e w8 ⟨A8, n8, c8, rfl, hO8, hB8⟩
        rw [HE2.out]
        obtain ⟨S8, hS8⟩ : ∃ S8, decOf s.fr s.to ((segAll s l).set kn v) = S8 := ⟨_, rfl⟩
        rw [hS8]
        have HB8 := Lib.hid ((HB5.out.trans (hB8.mono HB5.out.size)).alloc (by have := HB5.out.size; have := hB8.size; omega) (.cells #[.int .u32 S8.fr, .int .i64 S8.fp, .int .u32 S8.to, .int .i64 S8.tp, .int .u32 S8.seq, .int .u32 S8.ack, .int .i64 S8.fl, .int .i64 S8.win, .int .i64 S8.mss, .int .i64 S8.sc, .slice A8 n8 c8] 26))
        clear hS8
        go_wp2_with fail
        refine (known_any _).mono ?_
        rintro e w9 ⟨rfl, hB9⟩
        go_wp2
        go_ret
        exact ⟨rfl, HB8.out.trans (hB9.mono HB8.out.size)⟩
    · have ty : (a2 == 0) = false := by simp; omega
      obtain ⟨q, hq⟩ : ∃ q, a1.tmod (n4 : Int) = q := ⟨_, rfl⟩
      have hq1 : q < (n4 : Int) := by rw [← hq]; exact Int.tmod_lt_of_pos a1 (by omega)
      have hq2 : -(n4 : Int) < q := by rw [← hq]; exact Int.lt_tmod_of_pos a1 (by omega)
      rcases (by omega : 0 ≤ q ∨ q < 0) with hq0 | hq0
      · obtain ⟨kn, rfl⟩ : ∃ kn : Nat, q = (kn : Int) := ⟨q.toNat, by omega⟩
        have hkn : kn < n4 := by omega
        obtain ⟨g, rfl, hgg, cg, fg⟩ := hO4.lit_at (k := kn) hkn
        have hx0 := hbs.out.at_ kn
        obtain ⟨x, hx⟩ : ∃ x, (segAll s l)[kn]?.getD 0 = x := ⟨_, rfl⟩
        rw [hx] at hx0 cg
        have hxor := xor_u8 x a2 hx0.1 hx0.2 (by omega) (by omega)
        have hxne := hxor.2.2 (by omega)
        obtain ⟨v, hv⟩ : ∃ v, bits .xor .u8 x a2 = v := ⟨_, rfl⟩
        rw [hv] at hxor hxne
        have HT := Lib.hid (turned_dErr s l hb kn v (by rw [hL4.out]; exact hkn) hxor.1 hxor.2.1 (by rw [hx]; exact hxne))
        have HO5 := Lib.hid (hO4.store hkn v)
        have hbs5 := Lib.hid (hbs.out.set kn hxor.1 hxor.2.1)
        have HBW5 := Lib.hid (HBW4.out.setCell (p := ⟨g, kn, none⟩) (show w.heap.size ≤ g by omega) (.int .u8 v))
        have hne1 : w.heap.size ≠ g := by omega
        have hne2 : g ≠ w.heap.size := by omega
        have hL5 := Lib.hid (show ((segAll s l).set kn v).length = n4 by rw [List.length_set]; exact hL4.out)
        clear hx hxne hxor hO4
        obtain ⟨W5, hW5⟩ : ∃ W5, w4.setCell ⟨g, kn, none⟩ (.int .u8 v) = W5 := ⟨_, rfl⟩
        have HW5 := Lib.hid hW5
        have hO5 : OB 5 W5 W.heap.size (some ⟨g, 0, none⟩) n4 c4 ((segAll s l).set kn v) := by rw [← hW5]; exact HO5.out
        have hb5 : RB W5 W5.heap.size (some ⟨g, 0, none⟩) ((segAll s l).set kn v) := hO5.rb
        have hBw5 : Below w.heap.size w W5 := by rw [← hW5]; exact HBW5.out
        have HB5 := Lib.hid hBw5
        have HR5 := Lib.hid hb5
        clear hW5 hO5 hb5 hBw5
        obtain ⟨e2, he2⟩ : ∃ e2, dErr s.fr s.to ((segAll s l).set kn v) = e2 := ⟨_, rfl⟩
        have HE2 := Lib.hid he2
        have te2 : (e2 != 0) = true := by have := HT.out; rw [he2] at this; simpa using this
        clear he2
        go_wp2_with fail
        rw [HW5.out]
        refine (decode_any s.fr s.to hfr hto _ n4 c4 _ _ hL5.out hbs5.out W5 HR5.out (Nat.le_refl _)).mono ?_
        rintro e w8 ⟨A8, n8, c8, rfl, hO8, hB8⟩
        rw [HE2.out]
        obtain ⟨S8, hS8⟩ : ∃ S8, decOf s.fr s.to ((segAll s l).set kn v) = S8 := ⟨_, rfl⟩
        rw [hS8]
        have HB8 := Lib.hid ((HB5.out.trans (hB8.mono HB5.out.size)).alloc (by have := HB5.out.size; have := hB8.size; omega) (.cells #[.int .u32 S8.fr, .int .i64 S8.fp, .int .u32 S8.to, .int .i64 S8.tp, .int .u32 S8.seq, .int .u32 S8.ack, .int .i64 S8.fl, .int .i64 S8.win, .int .i64 S8.mss, .int .i64 S8.sc, .slice A8 n8 c8] 26))
        clear hS8
        go_wp2_with fail
        refine (known_any _).mono ?_
        rintro e w9 ⟨rfl, hB9⟩
        go_wp2
        go_ret
        exact ⟨rfl, HB8.out.trans (hB9.mono HB8.out.size)⟩
      · obtain ⟨kn, hk⟩ : ∃ kn : Nat, q + (n4 : Int) = (kn : Int) := ⟨(q + (n4 : Int)).toNat, by omega⟩
        have hkn : kn < n4 := by omega
        obtain ⟨g, rfl, hgg, cg, fg⟩ := hO4.lit_at (k := kn) hkn
        have hx0 := hbs.out.at_ kn
        obtain ⟨x, hx⟩ : ∃ x, (segAll s l)[kn]?.getD 0 = x := ⟨_, rfl⟩
        rw [hx] at hx0 cg
        have hxor := xor_u8 x a2 hx0.1 hx0.2 (by omega) (by omega)
        have hxne := hxor.2.2 (by omega)
        obtain ⟨v, hv⟩ : ∃ v, bits .xor .u8 x a2 = v := ⟨_, rfl⟩
        rw [hv] at hxor hxne
        have HT := Lib.hid (turned_dErr s l hb kn v (by rw [hL4.out]; exact hkn) hxor.1 hxor.2.1 (by rw [hx]; exact hxne))
        have HO5 := Lib.hid (hO4.store hkn v)
        have hbs5 := Lib.hid (hbs.out.set kn hxor.1 hxor.2.1)
        have HBW5 := Lib.hid (HBW4.out.setCell (p := ⟨g, kn, none⟩) (show w.heap.size ≤ g by omega) (.int .u8 v))
        have hne1 : w.heap.size ≠ g := by omega
        have hne2 : g ≠ w.heap.size := by omega
        have hL5 := Lib.hid (show ((segAll s l).set kn v).length = n4 by rw [List.length_set]; exact hL4.out)
        clear hx hxne hxor hO4
        obtain ⟨W5, hW5⟩ : ∃ W5, w4.setCell ⟨g, kn, none⟩ (.int .u8 v) = W5 := ⟨_, rfl⟩
        have HW5 := Lib.hid hW5
        have hO5 : OB 5 W5 W.heap.size (some ⟨g, 0, none⟩) n4 c4 ((segAll s l).set kn v) := by rw [← hW5]; exact HO5.out
        have hb5 : RB W5 W5.heap.size (some ⟨g, 0, none⟩) ((segAll s l).set kn v) := hO5.rb
        have hBw5 : Below w.heap.size w W5 := by rw [← hW5]; exact HBW5.out
        have HB5 := Lib.hid hBw5
        have HR5 := Lib.hid hb5
        clear hW5 hO5 hb5 hBw5
        obtain ⟨e2, he2⟩ : ∃ e2, dErr s.fr s.to ((segAll s l).set kn v) = e2 := ⟨_, rfl⟩
        have HE2 := Lib.hid he2
        have te2 : (e2 != 0) = true := by have := HT.out; rw [he2] at this; simpa using this
        clear he2
        go_wp2_with fail
        rw [HW5.out]
        refine (decode_any s.fr s.to hfr hto _ n4 c4 _ _ hL5.out hbs5.out W5 HR5.out (Nat.le_refl _)).mono ?_
        rintro e w8 ⟨A8, n8, c8, rfl, hO8, hB8⟩
        rw [HE2.out]
        obtain ⟨S8, hS8⟩ : ∃ S8, decOf s.fr s.to ((segAll s l).set kn v) = S8 := ⟨_, rfl⟩
        rw [hS8]
        have HB8 := Lib.hid ((HB5.out.trans (hB8.mono HB5.out.size)).alloc (by have := HB5.out.size; have := hB8.size; omega) (.cells #[.int .u32 S8.fr, .int .i64 S8.fp, .int .u32 S8.to, .int .i64 S8.tp, .int .u32 S8.seq, .int .u32 S8.ack, .int .i64 S8.fl, .int .i64 S8.win, .int .i64 S8.mss, .int .i64 S8.sc, .slice A8 n8 c8] 26))
        clear hS8
        go_wp2_with fail
        refine (known_any _).mono ?_
        rintro e w9 ⟨rfl, hB9⟩
        go_wp2
        go_ret
        exact ⟨rfl, HB8.out.trans (hB9.mono HB8.out.size)⟩
  · have h1 : (er != 0) = true := by simpa using h0
    go_wp2_with fail
    refine (known_any _).mono ?_
    rintro e w6 ⟨rfl, hB6⟩
    go_wp2
    go_ret
    exact ⟨rfl, HBW4.out.trans (hB6.mono HBW4.out.size)⟩

/-! ### the row -/
set_option maxRecDepth 100000 in
theorem lifted (os : Os) (started : os.Started) (H : Type) (enc : TypeId × Value → H) :
    ReturnsInHanded {} Try.checked os 9 .any (Rows.segmentTurnedSpec.pre6 enc Try.prog Try.f9 Rows.segmentTurnedRow.domain false) (Rows.segmentTurnedSpec.post enc Try.prog Try.f9 false true false false) := by
  refine returnsInHanded_of_change_sized (C := Try.checked) own started (by kernel_rfl) Try.func9
    (ChangeSpec.witness6 (enc := enc) (C := Try.checked) false ⟨#[], #[.agg #[.int .u32 0, .int .i64 0, .int .u32 0, .int .i64 0, .int .u32 0, .int .u32 0, .int .i64 0, .int .i64 0, .int .i64 0, .int .i64 0, .slice none 0 0], .int .i64 0, .int .u8 0], []⟩ 8 (by kernel_rfl) (by kernel_rfl) (by kernel_rfl) (by kernel_rfl)) ?_
  intro W base args ds gs before hval0 hW hcnd hsz0 _
  have hval : ∀ (j : Nat) t v, Try.f9.params[j]? = some t → args[j]? = some v → Value.okWide Try.prog W .any base t v := hval0
  have hsz : (DataW.weightsEach Try.prog (Try.f9.params.toList ++ Rows.segmentTurnedSpec.plain.varTypes Try.prog) (ds ++ gs)).all (· ≤ reachBytes) = true := hsz0
  clear hsz0
  have hW' := hW
  obtain ⟨p, q, hA0, hV, rfl, hfz, hnd⟩ := hW
  have hA : DataW.TrodAll enc Try.prog W 0 (fun _ => true) true Try.f9.params.toList args.toList ds p := hA0
  rw [Try.params9] at hA hval hsz
  obtain ⟨v0, vs0, d0, ds0, p0, q0, hargs, rfl, rfl, h0, r0⟩ := trodAll_cons hA
  obtain ⟨v1, vs1, d1, ds1, p1, q1, rfl, rfl, rfl, h1, r1⟩ := trodAll_cons r0
  obtain ⟨v2, vs2, d2, ds2, p2, q2, rfl, rfl, rfl, h2, r2⟩ := trodAll_cons r1
  obtain ⟨rfl, rfl, rfl⟩ := trodAll_nil r2
  obtain rfl : args = #[v0, v1, v2] := by cases args; simp_all
  obtain ⟨rfl, rfl⟩ := trodVars_none hV
  have k0 := h0
  have lt0 : ∀ x ∈ p0, x.block < W.heap.size := by obtain ⟨m, hm⟩ := k0; exact DataW.trod_lt m _ _ _ hm
  have w0 : ViewSeg W v0 := open_seg (hval 0 26 v0 rfl rfl) h0 (fun k hk => by have := List.all_eq_true.1 hsz k (DataW.weights_mem_each (j := 0) rfl rfl k hk); simpa using this)
  obtain ⟨a1, rfl, rfl, rfl, w1⟩ := open_int Try.underlying3 (hval 1 3 v1 rfl rfl) h1
  obtain ⟨a2, rfl, rfl, rfl, w2⟩ := open_int Try.underlying5 (hval 2 5 v2 rfl rfl) h2
  clear hA0 hval0
  refine (walk v0 a1 a2 W w0 w1 w2).mono fun e W' ⟨he, bel⟩ => ?_
  subst he
  exact ⟨_, rfl, _, _, _, [], _, [], hW', trodAll_mk1 (shut_bool Try.underlying4 _), (trodAll_cons_mk (Below.trod laidOut (by kernel_rfl) (of_decide_eq_true (by kernel_rfl)) k0 bel lt0) (trodAll_cons_mk (shut_int Try.underlying3 w1) (trodAll_cons_mk (shut_int Try.underlying5 w2) trodAll_mk0))), rfl, bel.frame _, fun h => by cases h⟩

theorem over : Rows.segmentTurnedRow.holds Try.pinned (OpenSpec.ofChange Rows.segmentTurnedSpec) :=
  OpenClaim.holds_of_wide 9 Try.f9 rfl rfl rfl rfl rfl rfl rfl ⟨rfl, rfl, rfl, rfl, rfl⟩ rfl rfl rfl rfl rfl (by kernel_rfl) Try.func9 (by kernel_rfl)
    (of_decide_eq_true (by kernel_rfl)) (by unfold Func.isWrapper; first | (rw [if_pos (by decide +kernel)]; kernel_rfl) | (rw [if_neg (by decide +kernel)]; exact ⟨rfl, rfl⟩))
    (fun os started H enc _ => lifted os started H enc)

theorem proved : Rows.SegmentTurnedSaid := over
#print axioms proved
end Go.Proofs.Ytifeomdmbjinoaa.segmentTurned
