/- Proved: any bytes are a packet, or refused. Conditions: none, for every input. -/
import Derived.Test.YtocigdkndlmikaaRows
import Derived.WalkKit
import Derived.ProofKit
import Derived.OpenShut
import Derived.ShutString
import Derived.ChangeOld
import Derived.Below
import Derived.SizedLaws
import Derived.Test.YtocigdkndlmikaaDecJ
import Derived.Test.YtocigdkndlmikaaIn
namespace Go.Proofs.Ytocigdkndlmikaa.arpDecodes
open Go.ChangeShapes Go.WideShapes Go.ChangeAt Go.RowKit
open Go.ChangeMaps (open_string shut_string)
set_option linter.unusedVariables false

theorem own : ownKnob Try.prog.godebug = none := by kernel_rfl
theorem laidOut : laidOutB Try.prog = true := by kernel_rfl

/-! ### the walk -/
set_option maxRecDepth 100000 in
set_option maxHeartbeats 4000000 in
theorem walk (a0 : Option Addr) (len0 cap0 : Nat) (z0 : List Int) (w : World) (w0 : IsRow .u8 w a0 len0 cap0 z0 ∧ cap0 ≤ 140737488351232) :
    Calls Try.prog 7 #[.slice a0 len0 cap0] w fun e w' => e = .returned (.bool true) ∧ Below w.heap.size w w' := by
  obtain ⟨hI, hcap⟩ := w0
  obtain ⟨l, hr, hb, hn, hc⟩ := hI.rb
  have HN := Lib.hid hn
  clear hn hI
  rcases (by omega : 4000 < len0 ∨ len0 ≤ 4000) with d0 | d0
  · go_enter Try.func7, Try.ntmps7
    go_wp2_with fail
    go_ret
    exact ⟨rfl, Below.refl _ _⟩
  obtain ⟨x0, x1, x2, x3, x4, x5, x6, x7, x8, x9, x10, x11, x12, x13, x14, er, hdec⟩ := decR_form l
  have hd1 : (decR l).1 = #[.int .i64 x0, .int .u8 x1, .int .u8 x2, .int .u8 x3, .int .u8 x4, .int .u8 x5, .int .u8 x6, .int .u32 x7, .int .u8 x8, .int .u8 x9, .int .u8 x10, .int .u8 x11, .int .u8 x12, .int .u8 x13, .int .u32 x14] := by rw [hdec]
  have hd2 : (decR l).2 = er := by rw [hdec]
  have D1 := Lib.hid hd1
  have D2 := Lib.hid hd2
  clear hdec hd1 hd2
  have hq := eql_arp x0 x1 x2 x3 x4 x5 x6 x7 x8 x9 x10 x11 x12 x13 x14
  go_enter Try.func7, Try.ntmps7
  go_wp2_with fail
  refine (roomy_any a0 len0 cap0 _ l HN.out (by omega) hb _ hr (Nat.le_refl _)).mono ?_
  rintro e w1 ⟨A1, c1, rfl, hO1, hc1, hB1⟩
  have hz1 := hB1.size
  have hr1 : RB w1 w1.heap.size A1 l := by
    have h1 := hO1.takeN (m := len0) (by omega)
    rw [List.take_append_of_le_length (by rw [HN.out]; exact Nat.le_refl _), List.take_of_length_le (by rw [HN.out]; exact Nat.le_refl _)] at h1
    exact h1.rb
  have hq1 : RB w1 w1.heap.size A1 (l ++ [171]) := hO1.rb
  have hp1 : RB w1 w.heap.size a0 l := Rw.below hr hB1
  go_wp2_with fail
  refine (dec_any A1 len0 c1 _ l HN.out (by omega) hb _ hr1 (Nat.le_refl _)).mono ?_
  rintro e w2 ⟨rfl, hB2⟩
  rw [D1.out, D2.out]
  have hz2 := hB2.size
  obtain ⟨w3, hw3⟩ : ∃ w3, w2.alloc (.cells #[.int .i64 x0, .int .u8 x1, .int .u8 x2, .int .u8 x3, .int .u8 x4, .int .u8 x5, .int .u8 x6, .int .u32 x7, .int .u8 x8, .int .u8 x9, .int .u8 x10, .int .u8 x11, .int .u8 x12, .int .u8 x13, .int .u32 x14] 43) = w3 := ⟨_, rfl⟩
  have hm3 : Bk w3 w2.heap.size 43 #[.int .i64 x0, .int .u8 x1, .int .u8 x2, .int .u8 x3, .int .u8 x4, .int .u8 x5, .int .u8 x6, .int .u32 x7, .int .u8 x8, .int .u8 x9, .int .u8 x10, .int .u8 x11, .int .u8 x12, .int .u8 x13, .int .u32 x14] := by rw [← hw3]; exact Bk.new w2 _ _
  have hB3 : Below w2.heap.size w2 w3 := by rw [← hw3]; exact (Below.refl _ _).alloc (Nat.le_refl _) _
  have HW3 := Lib.hid hw3
  have hlt3 := hm3.lt
  clear hw3
  have hp3 : RB w3 w.heap.size a0 l := Rw.below (Rw.below hp1 (hB2.mono hz1)) (hB3.mono (by omega))
  go_wp2_with fail
  rw [HW3.out]
  refine (rdec_any a0 len0 cap0 _ l HN.out hc (by omega) hb _ hp3 (by omega)).mono ?_
  rintro e w4 ⟨rfl, hB4⟩
  rw [D1.out, D2.out]
  have hz4 := hB4.size
  have hm4 := hm3.below hB4 hlt3
  obtain ⟨w5, hw5⟩ : ∃ w5, w4.alloc (.cells #[.int .i64 x0, .int .u8 x1, .int .u8 x2, .int .u8 x3, .int .u8 x4, .int .u8 x5, .int .u8 x6, .int .u32 x7, .int .u8 x8, .int .u8 x9, .int .u8 x10, .int .u8 x11, .int .u8 x12, .int .u8 x13, .int .u32 x14] 43) = w5 := ⟨_, rfl⟩
  have hm5 : Bk w5 w4.heap.size 43 #[.int .i64 x0, .int .u8 x1, .int .u8 x2, .int .u8 x3, .int .u8 x4, .int .u8 x5, .int .u8 x6, .int .u32 x7, .int .u8 x8, .int .u8 x9, .int .u8 x10, .int .u8 x11, .int .u8 x12, .int .u8 x13, .int .u32 x14] := by rw [← hw5]; exact Bk.new w4 _ _
  have hB5 : Below w4.heap.size w4 w5 := by rw [← hw5]; exact (Below.refl _ _).alloc (Nat.le_refl _) _
  have hm5a := hm4.below hB5 (by omega)
  have HW5 := Lib.hid hw5
  have hlt4 : w2.heap.size < w4.heap.size := by omega
  have d0 := (World.cell?_alloc_lt w4 (.cells #[.int .i64 x0, .int .u8 x1, .int .u8 x2, .int .u8 x3, .int .u8 x4, .int .u8 x5, .int .u8 x6, .int .u32 x7, .int .u8 x8, .int .u8 x9, .int .u8 x10, .int .u8 x11, .int .u8 x12, .int .u8 x13, .int .u32 x14] 43) ⟨w2.heap.size, 0, none⟩ hlt4).trans (hm4.cell 0)
  have d1 := (World.cell?_alloc_lt w4 (.cells #[.int .i64 x0, .int .u8 x1, .int .u8 x2, .int .u8 x3, .int .u8 x4, .int .u8 x5, .int .u8 x6, .int .u32 x7, .int .u8 x8, .int .u8 x9, .int .u8 x10, .int .u8 x11, .int .u8 x12, .int .u8 x13, .int .u32 x14] 43) ⟨w2.heap.size, 1, none⟩ hlt4).trans (hm4.cell 1)
  have d2 := (World.cell?_alloc_lt w4 (.cells #[.int .i64 x0, .int .u8 x1, .int .u8 x2, .int .u8 x3, .int .u8 x4, .int .u8 x5, .int .u8 x6, .int .u32 x7, .int .u8 x8, .int .u8 x9, .int .u8 x10, .int .u8 x11, .int .u8 x12, .int .u8 x13, .int .u32 x14] 43) ⟨w2.heap.size, 2, none⟩ hlt4).trans (hm4.cell 2)
  have d3 := (World.cell?_alloc_lt w4 (.cells #[.int .i64 x0, .int .u8 x1, .int .u8 x2, .int .u8 x3, .int .u8 x4, .int .u8 x5, .int .u8 x6, .int .u32 x7, .int .u8 x8, .int .u8 x9, .int .u8 x10, .int .u8 x11, .int .u8 x12, .int .u8 x13, .int .u32 x14] 43) ⟨w2.heap.size, 3, none⟩ hlt4).trans (hm4.cell 3)
  have d4 := (World.cell?_alloc_lt w4 (.cells #[.int .i64 x0, .int .u8 x1, .int .u8 x2, .int .u8 x3, .int .u8 x4, .int .u8 x5, .int .u8 x6, .int .u32 x7, .int .u8 x8, .int .u8 x9, .int .u8 x10, .int .u8 x11, .int .u8 x12, .int .u8 x13, .int .u32 x14] 43) ⟨w2.heap.size, 4, none⟩ hlt4).trans (hm4.cell 4)
  have d5 := (World.cell?_alloc_lt w4 (.cells #[.int .i64 x0, .int .u8 x1, .int .u8 x2, .int .u8 x3, .int .u8 x4, .int .u8 x5, .int .u8 x6, .int .u32 x7, .int .u8 x8, .int .u8 x9, .int .u8 x10, .int .u8 x11, .int .u8 x12, .int .u8 x13, .int .u32 x14] 43) ⟨w2.heap.size, 5, none⟩ hlt4).trans (hm4.cell 5)
  have d6 := (World.cell?_alloc_lt w4 (.cells #[.int .i64 x0, .int .u8 x1, .int .u8 x2, .int .u8 x3, .int .u8 x4, .int .u8 x5, .int .u8 x6, .int .u32 x7, .int .u8 x8, .int .u8 x9, .int .u8 x10, .int .u8 x11, .int .u8 x12, .int .u8 x13, .int .u32 x14] 43) ⟨w2.heap.size, 6, none⟩ hlt4).trans (hm4.cell 6)
  have d7 := (World.cell?_alloc_lt w4 (.cells #[.int .i64 x0, .int .u8 x1, .int .u8 x2, .int .u8 x3, .int .u8 x4, .int .u8 x5, .int .u8 x6, .int .u32 x7, .int .u8 x8, .int .u8 x9, .int .u8 x10, .int .u8 x11, .int .u8 x12, .int .u8 x13, .int .u32 x14] 43) ⟨w2.heap.size, 7, none⟩ hlt4).trans (hm4.cell 7)
  have d8 := (World.cell?_alloc_lt w4 (.cells #[.int .i64 x0, .int .u8 x1, .int .u8 x2, .int .u8 x3, .int .u8 x4, .int .u8 x5, .int .u8 x6, .int .u32 x7, .int .u8 x8, .int .u8 x9, .int .u8 x10, .int .u8 x11, .int .u8 x12, .int .u8 x13, .int .u32 x14] 43) ⟨w2.heap.size, 8, none⟩ hlt4).trans (hm4.cell 8)
  have d9 := (World.cell?_alloc_lt w4 (.cells #[.int .i64 x0, .int .u8 x1, .int .u8 x2, .int .u8 x3, .int .u8 x4, .int .u8 x5, .int .u8 x6, .int .u32 x7, .int .u8 x8, .int .u8 x9, .int .u8 x10, .int .u8 x11, .int .u8 x12, .int .u8 x13, .int .u32 x14] 43) ⟨w2.heap.size, 9, none⟩ hlt4).trans (hm4.cell 9)
  have d10 := (World.cell?_alloc_lt w4 (.cells #[.int .i64 x0, .int .u8 x1, .int .u8 x2, .int .u8 x3, .int .u8 x4, .int .u8 x5, .int .u8 x6, .int .u32 x7, .int .u8 x8, .int .u8 x9, .int .u8 x10, .int .u8 x11, .int .u8 x12, .int .u8 x13, .int .u32 x14] 43) ⟨w2.heap.size, 10, none⟩ hlt4).trans (hm4.cell 10)
  have d11 := (World.cell?_alloc_lt w4 (.cells #[.int .i64 x0, .int .u8 x1, .int .u8 x2, .int .u8 x3, .int .u8 x4, .int .u8 x5, .int .u8 x6, .int .u32 x7, .int .u8 x8, .int .u8 x9, .int .u8 x10, .int .u8 x11, .int .u8 x12, .int .u8 x13, .int .u32 x14] 43) ⟨w2.heap.size, 11, none⟩ hlt4).trans (hm4.cell 11)
  have d12 := (World.cell?_alloc_lt w4 (.cells #[.int .i64 x0, .int .u8 x1, .int .u8 x2, .int .u8 x3, .int .u8 x4, .int .u8 x5, .int .u8 x6, .int .u32 x7, .int .u8 x8, .int .u8 x9, .int .u8 x10, .int .u8 x11, .int .u8 x12, .int .u8 x13, .int .u32 x14] 43) ⟨w2.heap.size, 12, none⟩ hlt4).trans (hm4.cell 12)
  have d13 := (World.cell?_alloc_lt w4 (.cells #[.int .i64 x0, .int .u8 x1, .int .u8 x2, .int .u8 x3, .int .u8 x4, .int .u8 x5, .int .u8 x6, .int .u32 x7, .int .u8 x8, .int .u8 x9, .int .u8 x10, .int .u8 x11, .int .u8 x12, .int .u8 x13, .int .u32 x14] 43) ⟨w2.heap.size, 13, none⟩ hlt4).trans (hm4.cell 13)
  have d14 := (World.cell?_alloc_lt w4 (.cells #[.int .i64 x0, .int .u8 x1, .int .u8 x2, .int .u8 x3, .int .u8 x4, .int .u8 x5, .int .u8 x6, .int .u32 x7, .int .u8 x8, .int .u8 x9, .int .u8 x10, .int .u8 x11, .int .u8 x12, .int .u8 x13, .int .u32 x14] 43) ⟨w2.heap.size, 14, none⟩ hlt4).trans (hm4.cell 14)
  simp only [List.getElem?_toArray, List.getElem?_cons_zero, List.getElem?_cons_succ] at d0 d1 d2 d3 d4 d5 d6 d7 d8 d9 d10 d11 d12 d13 d14
  have hB15 : Below w1.heap.size w1 w5 := ((hB2.trans (hB3.mono hz2)).trans (hB4.mono (by omega))).trans (hB5.mono (by omega))
  have hq5 : RB w5 w1.heap.size A1 (l ++ [171]) := Rw.below hq1 hB15
  have hp5 : RB w5 w.heap.size a0 l := Rw.below hp1 (hB15.mono hz1)
  have HB15 := Lib.hid hB15
  clear hw5 hm3 hm4 hm5 hm5a hB2 hB3 hB4 hB5 hB15
  go_wp2_with fail
  rw [HW5.out]
  refine (stands_any A1 a0 len0 c1 cap0 _ _ l HN.out (by omega) hc1 hb _ hq5 hp5).mono ?_
  rintro e w' ⟨rfl, k2, rfl⟩
  go_wp2_with fail
  refine (known_any _).mono ?_
  rintro e w8 ⟨rfl, hB8⟩
  go_wp2
  go_ret
  exact ⟨rfl, (hB1.trans ((bel_drewN HB15.out k2).mono hz1)).trans (hB8.mono (Nat.le_trans hz1 HB15.out.size))⟩

/-! ### the row -/
set_option maxRecDepth 100000 in
theorem lifted (os : Os) (started : os.Started) (H : Type) (enc : TypeId × Value → H) :
    ReturnsInHanded {} Try.checked os 7 .any (Rows.arpDecodesSpec.pre6 enc Try.prog Try.f7 Rows.arpDecodesRow.domain false) (Rows.arpDecodesSpec.post enc Try.prog Try.f7 false true false false) := by
  refine returnsInHanded_of_change_sized (C := Try.checked) own started (by kernel_rfl) Try.func7
    (ChangeSpec.witness6 (enc := enc) (C := Try.checked) false ⟨#[], #[.slice none 0 0], []⟩ 8 (by kernel_rfl) (by kernel_rfl) (by kernel_rfl) (by kernel_rfl)) ?_
  intro W base args ds gs before hval0 hW hcnd hsz0 _
  have hval : ∀ (j : Nat) t v, Try.f7.params[j]? = some t → args[j]? = some v → Value.okWide Try.prog W .any base t v := hval0
  have hsz : (DataW.weightsEach Try.prog (Try.f7.params.toList ++ Rows.arpDecodesSpec.plain.varTypes Try.prog) (ds ++ gs)).all (· ≤ reachBytes) = true := hsz0
  clear hsz0
  have hW' := hW
  obtain ⟨p, q, hA0, hV, rfl, hfz, hnd⟩ := hW
  have hA : DataW.TrodAll enc Try.prog W 0 (fun _ => true) true Try.f7.params.toList args.toList ds p := hA0
  rw [Try.params7] at hA hval hsz
  obtain ⟨v0, vs0, d0, ds0, p0, q0, hargs, rfl, rfl, h0, r0⟩ := trodAll_cons hA
  obtain ⟨rfl, rfl, rfl⟩ := trodAll_nil r0
  obtain rfl : args = #[v0] := by cases args; simp_all
  obtain ⟨rfl, rfl⟩ := trodVars_none hV
  obtain ⟨a0, len0, cap0, rfl⟩ := okWide_slice Try.underlying27 (hval 0 27 v0 rfl rfl)
  have k0 := h0
  have lt0 : ∀ x ∈ p0, x.block < W.heap.size := by obtain ⟨m, hm⟩ := k0; exact DataW.trod_lt m _ _ _ hm
  obtain ⟨z0, w0⟩ : ∃ zs, IsRow .u8 W a0 len0 cap0 zs ∧ cap0 ≤ 140737488351232 := by
    obtain ⟨fuel, hf⟩ := h0
    rcases open_ints Try.underlying27 Try.underlying5 (by kernel_rfl) hf with ⟨hcs, _⟩ | ⟨x, l, c, zs, hcs, _, hl, hm, hz, hx, hcell, hwz⟩
    · simp [Value.cells] at hcs
      obtain ⟨rfl, rfl, rfl⟩ := hcs
      exact ⟨[], .inl ⟨rfl, rfl, rfl, rfl⟩, by omega⟩
    · simp [Value.cells] at hcs
      obtain ⟨rfl, rfl, rfl⟩ := hcs
      simp only [Prod.mk.injEq] at hx
      obtain ⟨rfl, rfl⟩ := hx
      simp only [if_true] at hz
      have hm2 := sized_slice hsz (j := 0) (t := 27) (e := 5) rfl rfl Try.underlying27
      rw [show Try.prog.bytesOf 5 = 1 from by kernel_rfl] at hm2
      simp only [lits, List.length_map, List.length_take, List.length_drop, reachBytes] at hm2
      exact ⟨zs, .inr ⟨_, rfl, hl, hm, hz, hcell, hwz⟩, by omega⟩
  clear hA0 hval0
  refine (walk a0 len0 cap0 z0 W w0).mono fun e W' ⟨he, bel⟩ => ?_
  subst he
  exact ⟨_, rfl, _, _, _, [], _, [], hW', trodAll_mk1 (shut_bool Try.underlying4 _), (trodAll_cons_mk (Below.trod laidOut (by kernel_rfl) (of_decide_eq_true (by kernel_rfl)) k0 bel lt0) trodAll_mk0), rfl, bel.frame _, fun h => by cases h⟩

theorem over : Rows.arpDecodesRow.holds Try.pinned (OpenSpec.ofChange Rows.arpDecodesSpec) :=
  OpenClaim.holds_of_wide 7 Try.f7 rfl rfl rfl rfl rfl rfl rfl ⟨rfl, rfl, rfl, rfl, rfl⟩ rfl rfl rfl rfl rfl (by kernel_rfl) Try.func7 (by kernel_rfl)
    (of_decide_eq_true (by kernel_rfl)) (by unfold Func.isWrapper; first | (rw [if_pos (by decide +kernel)]; kernel_rfl) | (rw [if_neg (by decide +kernel)]; exact ⟨rfl, rfl⟩))
    (fun os started H enc _ => lifted os started H enc)

theorem proved : Rows.ArpDecodesSaid := over
#print axioms proved
end Go.Proofs.Ytocigdkndlmikaa.arpDecodes
