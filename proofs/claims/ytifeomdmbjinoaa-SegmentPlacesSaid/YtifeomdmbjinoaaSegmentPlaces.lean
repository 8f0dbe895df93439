/- Proved: each part of a segment stands at its place among the bytes. Conditions: none, for every input. -/
import Derived.Test.YtifeomdmbjinoaaRows
import Derived.WalkKit
import Derived.ProofKit
import Derived.OpenShut
import Derived.ShutString
import Derived.ChangeOld
import Derived.Below
import Derived.SizedLaws
import Derived.Test.YtifeomdmbjinoaaMem
import Derived.Test.YtifeomdmbjinoaaSegP
import Derived.Test.YtifeomdmbjinoaaSegV
namespace Go.Proofs.Ytifeomdmbjinoaa.segmentPlaces
open Go.ChangeShapes Go.WideShapes Go.ChangeAt Go.RowKit
open Go.ChangeMaps (open_string shut_string)
set_option linter.unusedVariables false

theorem own : ownKnob Try.prog.godebug = none := by kernel_rfl
theorem laidOut : laidOutB Try.prog = true := by kernel_rfl

/-! ### the walk -/
set_option maxRecDepth 100000 in
set_option maxHeartbeats 4000000 in
theorem walk (v0 : Value) (w : World) (w0 : ViewSeg w v0) :
    Calls Try.prog 4 #[v0] w fun e w' => e = .returned (.bool true) ∧ Below w.heap.size w w' := by
  obtain ⟨s, A, n, cap, l, rfl, hwf, hd, hb, hn, hcap, hmax⟩ := w0
  have HN := Lib.hid hn
  have HWF := Lib.hid hwf
  clear hn hwf
  obtain ⟨W, hW⟩ : ∃ W, w.alloc (.cells #[.int .u32 s.fr, .int .i64 s.fp, .int .u32 s.to, .int .i64 s.tp, .int .u32 s.seq, .int .u32 s.ack, .int .i64 s.fl, .int .i64 s.win, .int .i64 s.mss, .int .i64 s.sc, .slice A n cap] 26) = W := ⟨_, rfl⟩
  have hm : Bk W w.heap.size 26 #[.int .u32 s.fr, .int .i64 s.fp, .int .u32 s.to, .int .i64 s.tp, .int .u32 s.seq, .int .u32 s.ack, .int .i64 s.fl, .int .i64 s.win, .int .i64 s.mss, .int .i64 s.sc, .slice A n cap] := by rw [← hW]; exact Bk.new w _ _
  have hB : Below w.heap.size w W := by rw [← hW]; exact (Below.refl _ _).alloc (Nat.le_refl _) _
  have hz : W.heap.size = w.heap.size + 1 := by rw [← hW]; simp
  have hd0 : RB W W.heap.size A l := Rw.more (Rw.below hd hB) hB.size
  have k0 : W.cell? ⟨w.heap.size, 0, none⟩ = some (.int .u32 s.fr) := hm.cell 0
  have k1 : W.cell? ⟨w.heap.size, 1, none⟩ = some (.int .i64 s.fp) := hm.cell 1
  have k2 : W.cell? ⟨w.heap.size, 2, none⟩ = some (.int .u32 s.to) := hm.cell 2
  have k3 : W.cell? ⟨w.heap.size, 3, none⟩ = some (.int .i64 s.tp) := hm.cell 3
  have k4 : W.cell? ⟨w.heap.size, 4, none⟩ = some (.int .u32 s.seq) := hm.cell 4
  have k5 : W.cell? ⟨w.heap.size, 5, none⟩ = some (.int .u32 s.ack) := hm.cell 5
  have k6 : W.cell? ⟨w.heap.size, 6, none⟩ = some (.int .i64 s.fl) := hm.cell 6
  have k7 : W.cell? ⟨w.heap.size, 7, none⟩ = some (.int .i64 s.win) := hm.cell 7
  have k8 : W.cell? ⟨w.heap.size, 8, none⟩ = some (.int .i64 s.mss) := hm.cell 8
  have k9 : W.cell? ⟨w.heap.size, 9, none⟩ = some (.int .i64 s.sc) := hm.cell 9
  have k10 : W.cell? ⟨w.heap.size, 10, none⟩ = some (.slice A n cap) := hm.cell 10
  have HW := Lib.hid hW
  have HZ := Lib.hid hz
  clear hW hz
  rcases (by omega : 70000 < n ∨ n ≤ 70000) with d0 | d0
  · go_enter Try.func4, Try.ntmps4
    go_wp2_with fail
    go_ret
    exact ⟨rfl, (Below.refl _ _).alloc (Nat.le_refl _) _⟩
  have hbnd : w.heap.size < W.heap.size := by have := HZ.out; omega
  have HG : Hid (segErr s n = 0 → s.good ∧ 20 + (optB s.mss s.sc).length + n ≤ 65515) := Lib.hid segErr_zero
  obtain ⟨er, her⟩ : ∃ er, segErr s n = er := ⟨_, rfl⟩
  have HER := Lib.hid her
  clear her
  go_enter Try.func4, Try.ntmps4
  go_wp2_with fail
  rw [HW.out]
  refine (encode_any s HWF.out A n cap l HN.out (by omega) hb _ hd0).mono ?_
  rintro e w4 ⟨A4, n4, c4, rfl, hO4, hB4⟩
  rw [HER.out]
  have hz4 := hB4.size
  obtain ⟨W5, hW5⟩ : ∃ W5, w4.alloc (.cells #[.slice A4 n4 c4] 24) = W5 := ⟨_, rfl⟩
  have kb : Bk W5 w4.heap.size 24 #[.slice A4 n4 c4] := by rw [← hW5]; exact Bk.new _ _ _
  have hB5 : Below w4.heap.size w4 W5 := by rw [← hW5]; exact (Below.refl _ _).alloc (Nat.le_refl _) _
  have hO5 : OB 5 W5 W.heap.size A4 n4 c4 (segOut s l) := Ow.stays hO4 hB5
  have HW5 := Lib.hid hW5
  have hBw5 : Below w.heap.size w W5 := (hB.trans (hB4.mono (by omega))).trans (hB5.mono (by omega))
  have HBW5 := Lib.hid hBw5
  have z5 := kb.lt
  have hm5 : Bk W5 w.heap.size 26 #[.int .u32 s.fr, .int .i64 s.fp, .int .u32 s.to, .int .i64 s.tp, .int .u32 s.seq, .int .u32 s.ack, .int .i64 s.fl, .int .i64 s.win, .int .i64 s.mss, .int .i64 s.sc, .slice A n cap] := (hm.below hB4 hbnd).below hB5 (by omega)
  clear k0 k1 k2 k3 k4 k5 k6 k7 k8 k9 k10
  clear hW5 hBw5 hm
  by_cases h0 : er = 0
  · have hz0 := HG.out (by rw [HER.out]; exact h0)
    subst h0
    obtain ⟨hg, hlen⟩ := hz0
    obtain ⟨m, hm⟩ : ∃ m, (optB s.mss s.sc).length = m := ⟨_, rfl⟩
    have hm4 := optB_len4 s.mss s.sc
    rw [hm] at hm4 hlen
    have hal : segOut s l = segAll s l := by unfold segOut; rw [HN.out, HER.out, if_pos rfl]
    rw [hal] at hO5
    have hL5 := hO5.length
    rw [segAll_len, hm, HN.out] at hL5
    have hbs : Hid (Bs (segAll s l)) := Lib.hid (segAll_bs hb)
    have hhd : segHd s = (20 + (m : Int)) / 4 * 16 := by unfold segHd; rw [hm]
    obtain ⟨q, hq⟩ : ∃ q, segHd s = q := ⟨_, rfl⟩
    have hq0 : 0 ≤ q ∧ q ≤ 255 := by rw [← hq, hhd]; omega
    have hq4 : q / 16 * 4 = 20 + m := by rw [← hq, hhd]; omega
    have e0 : Hid (rd2 (segAll s l) 0 = s.fp) := Lib.hid (segB_0 _ _ _ _ _ hg.fp)
    have e2 : Hid (rd2 (segAll s l) 2 = s.tp) := Lib.hid (segB_2 _ _ _ _ _ hg.tp)
    have e4 : Hid (rd4 (segAll s l) 4 = s.seq) := Lib.hid (segB_4 _ _ _ _ _ HWF.out.2.2.2.2.1)
    have e8 : Hid (rd4 (segAll s l) 8 = s.ack) := Lib.hid (segB_8 _ _ _ _ _ HWF.out.2.2.2.2.2.1)
    have e12 : at8 (segAll s l) 12 = q := by unfold segAll; rw [segB_12 _ _ _ _ _ (by rw [hq]; exact hq0), hq]
    have e13 : at8 (segAll s l) 13 = s.fl := segB_13 _ _ _ _ _ hg.fl
    have e14 : Hid (rd2 (segAll s l) 14 = s.win) := Lib.hid (segB_14 _ _ _ _ _ hg.win)
    have e18 : Hid (rd2 (segAll s l) 18 = 0) := Lib.hid (segB_18 _ _ _ _ _)
    have edr : (segAll s l).drop (20 + m) = l := segB_drop _ _ _ _ _ _ hm
    obtain ⟨g, rfl, hgg, c12, f12⟩ := hO5.lit_at (k := 12) (by omega)
    obtain ⟨g', eg, _, c13, f13⟩ := hO5.lit_at (k := 13) (by omega)
    obtain rfl : g = g' := by injection eg with eg; injection eg with eg
    change W5.cell? ⟨g, 12, none⟩ = some (.int .u8 (at8 (segAll s l) 12)) at c12
    change W5.cell? ⟨g, 13, none⟩ = some (.int .u8 (at8 (segAll s l) 13)) at c13
    rw [e12] at c12
    rw [e13] at c13
    have hfl := hg.fl
    have cb : W5.cell? ⟨w4.heap.size, 0, none⟩ = some (.slice (some ⟨g, 0, none⟩) n4 c4) := kb.cell 0
    have k0 : W5.cell? ⟨w.heap.size, 0, none⟩ = some (.int .u32 s.fr) := hm5.cell 0
    have k1 : W5.cell? ⟨w.heap.size, 1, none⟩ = some (.int .i64 s.fp) := hm5.cell 1
    have k2 : W5.cell? ⟨w.heap.size, 2, none⟩ = some (.int .u32 s.to) := hm5.cell 2
    have k3 : W5.cell? ⟨w.heap.size, 3, none⟩ = some (.int .i64 s.tp) := hm5.cell 3
    have k4 : W5.cell? ⟨w.heap.size, 4, none⟩ = some (.int .u32 s.seq) := hm5.cell 4
    have k5 : W5.cell? ⟨w.heap.size, 5, none⟩ = some (.int .u32 s.ack) := hm5.cell 5
    have k6 : W5.cell? ⟨w.heap.size, 6, none⟩ = some (.int .i64 s.fl) := hm5.cell 6
    have k7 : W5.cell? ⟨w.heap.size, 7, none⟩ = some (.int .i64 s.win) := hm5.cell 7
    have k8 : W5.cell? ⟨w.heap.size, 8, none⟩ = some (.int .i64 s.mss) := hm5.cell 8
    have k9 : W5.cell? ⟨w.heap.size, 9, none⟩ = some (.int .i64 s.sc) := hm5.cell 9
    have k10 : W5.cell? ⟨w.heap.size, 10, none⟩ = some (.slice A n cap) := hm5.cell 10
    have hc4 := Ow.cap hO5
    have hc4m := Ow.capMax hO5
    unfold maxLen at hc4m
    have hl5 := Lib.hid hL5.symm
    have HQ := Lib.hid hq
    have hbig : 20 + m ≤ n4 := by omega
    have hn4 : n4 ≤ 70028 := by omega
    have hdr : RB W5 W5.heap.size _ _ := RB.cut hO5.rb c4 (20 + m) (by rw [hO5.length]; exact hc4)
    rw [edr, Option.map_some, add_eq, Nat.zero_add] at hdr
    obtain ⟨A', hA'⟩ : ∃ A', (if c4 = 20 + m then some (⟨g, 0, none⟩ : Addr) else some ⟨g, 20 + m, none⟩) = A' := ⟨_, rfl⟩
    rw [hA'] at hdr
    have hd5 : RB W5 W5.heap.size A l := Rw.more (Rw.below hd HBW5.out) HBW5.out.size
    have HD5 := Lib.hid hd5
    have HDR := Lib.hid hdr
    have hs4 : n4 - (20 + m) = n := by omega
    clear hal hL5 hhd hq edr eg e12 e13 hg hm hdr hd5
    go_wp2_with fail
    rw [HW5.out]
    have i12 : (12 : Int) < n4 := by omega
    have v3 : IntKind.i64.wrap (IntKind.i64.wrap (IntKind.u8.wrap (q.tdiv 16)) * 4) = 20 + m := by
      have h1 : q.tdiv 16 = q / 16 := Int.tdiv_eq_ediv_of_nonneg hq0.1
      have h2 : IntKind.u8.wrap (q / 16) = q / 16 := by rw [IntKind.wrap_u8]; omega
      have h3 : IntKind.i64.wrap (q / 16) = q / 16 := IntWalk.i64_in _ (by omega)
      rw [h1, h2, h3, hq4]
      exact IntWalk.i64_in _ (by omega)
    have v4 : (if (20 + (m : Int)) < (n4 : Int) then (20 + (m : Int)) else (n4 : Int)) = 20 + m := by
      split <;> omega
    clear hq4 HQ
    go_region_held3 (fun w' => w'.cell? ⟨w4.heap.size, 0, none⟩ = some (.slice (some ⟨g, 0, none⟩) n4 c4) ∧ w'.cell? ⟨g, 12, none⟩ = some (.int .u8 q))
      (first | (with_reducible exact ⟨by assumption, by assumption⟩) | go_keep) (fail)
    clear v3 v4
    have kb6 : Bk W5.drew w4.heap.size 24 #[.slice (some ⟨g, 0, none⟩) n4 c4] := kb
    have ho6 : RB W5.drew W5.heap.size (some ⟨g, 0, none⟩) (segAll s l) := hO5.rb
    have h20 : 20 ≤ n4 := by omega
    have hl6 : Hid ((segAll s l).length = n4) := Lib.hid hO5.length
    have i13 : (13 : Int) < n4 := by omega
    have b1 : ((n4 : Int) == 20 + (m : Int) + (n : Int)) = true := by simp; omega
    have b2 : IntKind.i64.wrap (20 + (m : Int) + (n : Int)) = 20 + (m : Int) + (n : Int) := IntWalk.i64_in _ (by omega)
    have b3 : IntKind.i64.wrap s.fl = s.fl := IntWalk.i64_in _ (by omega)
    have b4 : (0 : Int) ≤ 20 + (m : Int) := by omega
    have b5 : (20 : Int) + (m : Int) ≤ n4 := by omega
    have b6 : (n4 : Int) ≤ c4 := by omega
    have b7 : ((20 : Int) + (m : Int)).toNat = 20 + m := by omega
    have z50 : w.heap.size < W5.heap.size := by omega
    have zg : g < W5.heap.size := (Ow.lt hO5 g rfl).2
    clear hm4 hlen hq0 c12 f12 f13 i12 hfl kb hO5 hO4 hm5
    go_wp2_with fail
    dsimp only [List.append]
    go_region_held3 (fun w' => w'.cell? ⟨w4.heap.size, 0, none⟩ = some (.slice (some ⟨g, 0, none⟩) n4 c4) ∧ w'.cell? ⟨w.heap.size, 1, none⟩ = some (.int .i64 s.fp) ∧ w'.cell? ⟨w.heap.size, 3, none⟩ = some (.int .i64 s.tp) ∧ w'.cell? ⟨w.heap.size, 4, none⟩ = some (.int .u32 s.seq) ∧ w'.cell? ⟨w.heap.size, 5, none⟩ = some (.int .u32 s.ack) ∧ w'.cell? ⟨w.heap.size, 6, none⟩ = some (.int .i64 s.fl) ∧ w'.cell? ⟨w.heap.size, 7, none⟩ = some (.int .i64 s.win) ∧ w'.cell? ⟨w.heap.size, 10, none⟩ = some (.slice A n cap) ∧ w'.cell? ⟨g, 13, none⟩ = some (.int .u8 s.fl))
      (go_keep)
      (first
        | (go_at_call_of 17 (Value.int .i64 0); refine (pl2_any w4.heap.size (some ⟨g, 0, none⟩) n4 c4 _ _ 0 hl6.out (by omega) (by omega) hbs.out _ (by exact kb6) (by exact ho6)).mono ?_; rintro e w' ⟨rfl, j, rfl⟩; rw [e0.out])
        | (go_at_call_of 17 (Value.int .i64 2); refine (pl2_any w4.heap.size (some ⟨g, 0, none⟩) n4 c4 _ _ 2 hl6.out (by omega) (by omega) hbs.out _ (by exact kb6) (by exact ho6)).mono ?_; rintro e w' ⟨rfl, j, rfl⟩; rw [e2.out])
        | (go_at_call_of 17 (Value.int .i64 14); refine (pl2_any w4.heap.size (some ⟨g, 0, none⟩) n4 c4 _ _ 14 hl6.out (by omega) (by omega) hbs.out _ (by exact kb6) (by exact ho6)).mono ?_; rintro e w' ⟨rfl, j, rfl⟩; rw [e14.out])
        | (go_at_call_of 17 (Value.int .i64 18); refine (pl2_any w4.heap.size (some ⟨g, 0, none⟩) n4 c4 _ _ 18 hl6.out (by omega) (by omega) hbs.out _ (by exact kb6) (by exact ho6)).mono ?_; rintro e w' ⟨rfl, j, rfl⟩; rw [e18.out])
        | (go_at_call_of 16 (Value.int .i64 4); refine (pl4_any w4.heap.size (some ⟨g, 0, none⟩) n4 c4 _ _ 4 hl6.out (by omega) (by omega) hbs.out _ (by exact kb6) (by exact ho6)).mono ?_; rintro e w' ⟨rfl, j, rfl⟩; rw [e4.out])
        | (go_at_call_of 16 (Value.int .i64 8); refine (pl4_any w4.heap.size (some ⟨g, 0, none⟩) n4 c4 _ _ 8 hl6.out (by omega) (by omega) hbs.out _ (by exact kb6) (by exact ho6)).mono ?_; rintro e w' ⟨rfl, j, rfl⟩; rw [e8.out])
        | (go_at_call 13; refine (same_any _ A n _ n cap _ _ l l HN.out HN.out (by omega) (by omega) hb hb _ (by exact HDR.out) (by exact HD5.out)).mono ?_; rintro e w' ⟨rfl, j, rfl⟩)
        | (go_at_call 15; refine (known_any _).mono ?_; rintro e w7 ⟨rfl, hB7⟩; have q0 := (hB7.cell (p := ⟨w4.heap.size, 0, none⟩) z5).trans (by exact cb); have q1 := (hB7.cell (p := ⟨w.heap.size, 1, none⟩) z50).trans (by exact k1); have q2 := (hB7.cell (p := ⟨w.heap.size, 3, none⟩) z50).trans (by exact k3); have q3 := (hB7.cell (p := ⟨w.heap.size, 4, none⟩) z50).trans (by exact k4); have q4 := (hB7.cell (p := ⟨w.heap.size, 5, none⟩) z50).trans (by exact k5); have q5 := (hB7.cell (p := ⟨w.heap.size, 6, none⟩) z50).trans (by exact k6); have q6 := (hB7.cell (p := ⟨w.heap.size, 7, none⟩) z50).trans (by exact k7); have q7 := (hB7.cell (p := ⟨w.heap.size, 10, none⟩) z50).trans (by exact k10); have q8 := (hB7.cell (p := ⟨g, 13, none⟩) zg).trans (by exact c13)))
    all_goals
      go_wp2_with fail
      go_ret
      exact ⟨rfl, (bel_drewN HBW5.out _).trans (Below.mono hB7 HBW5.out.size)⟩
  · have h1 : (er != 0) = true := by simpa using h0
    go_wp2_with fail
    rw [HW5.out]
    refine (known_any _).mono ?_
    rintro e w6 ⟨rfl, hB6⟩
    go_wp2
    go_ret
    exact ⟨rfl, HBW5.out.trans (hB6.mono HBW5.out.size)⟩

/-! ### the row -/
set_option maxRecDepth 100000 in
theorem lifted (os : Os) (started : os.Started) (H : Type) (enc : TypeId × Value → H) :
    ReturnsInHanded {} Try.checked os 4 .any (Rows.segmentPlacesSpec.pre6 enc Try.prog Try.f4 Rows.segmentPlacesRow.domain false) (Rows.segmentPlacesSpec.post enc Try.prog Try.f4 false true false false) := by
  refine returnsInHanded_of_change_sized (C := Try.checked) own started (by kernel_rfl) Try.func4
    (ChangeSpec.witness6 (enc := enc) (C := Try.checked) false ⟨#[], #[.agg #[.int .u32 0, .int .i64 0, .int .u32 0, .int .i64 0, .int .u32 0, .int .u32 0, .int .i64 0, .int .i64 0, .int .i64 0, .int .i64 0, .slice none 0 0]], []⟩ 8 (by kernel_rfl) (by kernel_rfl) (by kernel_rfl) (by kernel_rfl)) ?_
  intro W base args ds gs before hval0 hW hcnd hsz0 _
  have hval : ∀ (j : Nat) t v, Try.f4.params[j]? = some t → args[j]? = some v → Value.okWide Try.prog W .any base t v := hval0
  have hsz : (DataW.weightsEach Try.prog (Try.f4.params.toList ++ Rows.segmentPlacesSpec.plain.varTypes Try.prog) (ds ++ gs)).all (· ≤ reachBytes) = true := hsz0
  clear hsz0
  have hW' := hW
  obtain ⟨p, q, hA0, hV, rfl, hfz, hnd⟩ := hW
  have hA : DataW.TrodAll enc Try.prog W 0 (fun _ => true) true Try.f4.params.toList args.toList ds p := hA0
  rw [Try.params4] at hA hval hsz
  obtain ⟨v0, vs0, d0, ds0, p0, q0, hargs, rfl, rfl, h0, r0⟩ := trodAll_cons hA
  obtain ⟨rfl, rfl, rfl⟩ := trodAll_nil r0
  obtain rfl : args = #[v0] := by cases args; simp_all
  obtain ⟨rfl, rfl⟩ := trodVars_none hV
  have k0 := h0
  have lt0 : ∀ x ∈ p0, x.block < W.heap.size := by obtain ⟨m, hm⟩ := k0; exact DataW.trod_lt m _ _ _ hm
  have w0 : ViewSeg W v0 := open_seg (hval 0 26 v0 rfl rfl) h0 (fun k hk => by have := List.all_eq_true.1 hsz k (DataW.weights_mem_each (j := 0) rfl rfl k hk); simpa using this)
  clear hA0 hval0
  refine (walk v0 W w0).mono fun e W' ⟨he, bel⟩ => ?_
  subst he
  exact ⟨_, rfl, _, _, _, [], _, [], hW', trodAll_mk1 (shut_bool Try.underlying4 _), (trodAll_cons_mk (Below.trod laidOut (by kernel_rfl) (of_decide_eq_true (by kernel_rfl)) k0 bel lt0) trodAll_mk0), rfl, bel.frame _, fun h => by cases h⟩

theorem over : Rows.segmentPlacesRow.holds Try.pinned (OpenSpec.ofChange Rows.segmentPlacesSpec) :=
  OpenClaim.holds_of_wide 4 Try.f4 rfl rfl rfl rfl rfl rfl rfl ⟨rfl, rfl, rfl, rfl, rfl⟩ rfl rfl rfl rfl rfl (by kernel_rfl) Try.func4 (by kernel_rfl)
    (of_decide_eq_true (by kernel_rfl)) (by unfold Func.isWrapper; first | (rw [if_pos (by decide +kernel)]; kernel_rfl) | (rw [if_neg (by decide +kernel)]; exact ⟨rfl, rfl⟩))
    (fun os started H enc _ => lifted os started H enc)

theorem proved : Rows.SegmentPlacesSaid := over
#print axioms proved
end Go.Proofs.Ytifeomdmbjinoaa.segmentPlaces
