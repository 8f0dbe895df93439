/- Proved: what a packet is written as is read as it. Conditions: none, for every input. -/
import Derived.Test.YtocigdkndlmikaaRows
import Derived.WalkKit
import Derived.ProofKit
import Derived.OpenShut
import Derived.ShutString
import Derived.ChangeOld
import Derived.Below
import Derived.SizedLaws
import Derived.Test.YtocigdkndlmikaaDecJ
import Derived.Test.YtocigdkndlmikaaIn
namespace Go.Proofs.Ytocigdkndlmikaa.arpBack
open Go.ChangeShapes Go.WideShapes Go.ChangeAt Go.RowKit
open Go.ChangeMaps (open_string shut_string)
set_option linter.unusedVariables false

theorem own : ownKnob Try.prog.godebug = none := by kernel_rfl
theorem laidOut : laidOutB Try.prog = true := by kernel_rfl

/-! ### the walk -/
set_option maxRecDepth 100000 in
set_option maxHeartbeats 4000000 in
theorem walk (v0 : Value) (a1 : Option Addr) (len1 cap1 : Nat) (z1 : List Int) (w : World) (w0 : ViewARP w v0) (w1 : IsRow .u8 w a1 len1 cap1 z1 ∧ cap1 ≤ 140737488351232) :
    Calls Try.prog 8 #[v0, .slice a1 len1 cap1] w fun e w' => e = .returned (.bool true) ∧ Below w.heap.size w w' := by
  obtain ⟨op, m0, m1, m2, m3, m4, m5, fr, t0, t1, t2, t3, t4, t5, to_, rfl, hop, hm, hf, ht, hto⟩ := w0
  obtain ⟨hI, hcap⟩ := w1
  obtain ⟨l, hr, hb, hn, hc⟩ := hI.rb
  have HN := Lib.hid hn
  have HM := Lib.hid hm
  have HT := Lib.hid ht
  clear hm ht hn hI
  obtain ⟨W, hW⟩ : ∃ W, w.alloc (.cells #[.int .i64 op, .int .u8 m0, .int .u8 m1, .int .u8 m2, .int .u8 m3, .int .u8 m4, .int .u8 m5, .int .u32 fr, .int .u8 t0, .int .u8 t1, .int .u8 t2, .int .u8 t3, .int .u8 t4, .int .u8 t5, .int .u32 to_] 43) = W := ⟨_, rfl⟩
  have hk : Bk W w.heap.size 43 #[.int .i64 op, .int .u8 m0, .int .u8 m1, .int .u8 m2, .int .u8 m3, .int .u8 m4, .int .u8 m5, .int .u32 fr, .int .u8 t0, .int .u8 t1, .int .u8 t2, .int .u8 t3, .int .u8 t4, .int .u8 t5, .int .u32 to_] := by rw [← hW]; exact Bk.new w _ _
  have hBW : Below w.heap.size w W := by rw [← hW]; exact (Below.refl _ _).alloc (Nat.le_refl _) _
  have HW := Lib.hid hW
  have HBW := Lib.hid hBW
  have hlt := hk.lt
  clear hW hBW
  rcases (by omega : 4000 < len1 ∨ len1 ≤ 4000) with d0 | d0
  · go_enter Try.func8, Try.ntmps8
    go_wp2_with fail
    go_ret
    exact ⟨rfl, by rw [HW.out]; exact HBW.out⟩
  have y0 := hk.cell 0
  have y1 := hk.cell 1
  have y2 := hk.cell 2
  have y3 := hk.cell 3
  have y4 := hk.cell 4
  have y5 := hk.cell 5
  have y6 := hk.cell 6
  have y7 := hk.cell 7
  have y8 := hk.cell 8
  have y9 := hk.cell 9
  have y10 := hk.cell 10
  have y11 := hk.cell 11
  have y12 := hk.cell 12
  have y13 := hk.cell 13
  have y14 := hk.cell 14
  simp only [List.getElem?_toArray, List.getElem?_cons_zero, List.getElem?_cons_succ] at y0 y1 y2 y3 y4 y5 y6 y7 y8 y9 y10 y11 y12 y13 y14
  by_cases hbad : op ≠ 1 ∧ op ≠ 2
  · have HE' := Lib.hid (fun w => encode_arg op m0 m1 m2 m3 m4 m5 fr t0 t1 t2 t3 t4 t5 to_ hbad.1 hbad.2 w)
    have e1 : (op != 1) = true := by simpa using hbad.1
    have e2 : (op != 2) = true := by simpa using hbad.2
    clear hbad hop
    go_enter Try.func8, Try.ntmps8
    go_wp2_with fail
    rw [HW.out]
    refine (HE'.out _).mono ?_
    rintro e w1 ⟨rfl, hB1⟩
    have hk1 := hk.below hB1 hlt
    clear y0 y1 y2 y3 y4 y5 y6 y7 y8 y9 y10 y11 y12 y13 y14
    have y0 := hk1.cell 0
    simp only [List.getElem?_toArray, List.getElem?_cons_zero] at y0
    clear hk1
    go_wp2_with fail
    refine (known_any _).mono ?_
    rintro e w4 ⟨rfl, hB4⟩
    go_wp2
    go_ret
    exact ⟨rfl, (HBW.out.trans (hB1.mono HBW.out.size)).trans (hB4.mono (Nat.le_trans HBW.out.size hB1.size))⟩
  · have hok : op = 1 ∨ op = 2 := by omega
    have HE' := Lib.hid (fun w => encode_ok op m0 m1 m2 m3 m4 m5 fr t0 t1 t2 t3 t4 t5 to_ hok hf hto w)
    have hbk := arp_back op m0 m1 m2 m3 m4 m5 fr t0 t1 t2 t3 t4 t5 to_ hok hf hto l
    have hd1 := congrArg (fun p : Array Value × Int => p.1) hbk
    have hd2 := congrArg (fun p : Array Value × Int => p.2) hbk
    have hbs : Bs (arpB op [m0, m1, m2, m3, m4, m5] fr [t0, t1, t2, t3, t4, t5] to_) := by
      obtain ⟨⟨q0, q0'⟩, ⟨q1, q1'⟩, ⟨q2, q2'⟩, ⟨q3, q3'⟩, ⟨q4, q4'⟩, ⟨q5, q5'⟩⟩ := HM.out
      obtain ⟨⟨s0, s0'⟩, ⟨s1, s1'⟩, ⟨s2, s2'⟩, ⟨s3, s3'⟩, ⟨s4, s4'⟩, ⟨s5, s5'⟩⟩ := HT.out
      unfold arpB
      refine Bs.append (Bs.append (Bs.append (Bs.append (Bs.append ?_ (be_bs _ _)) ?_) (be_bs _ _)) ?_) (be_bs _ _)
      · intro x hx; simp only [List.mem_cons, List.not_mem_nil, or_false] at hx; omega
      · intro x hx; simp only [List.mem_cons, List.not_mem_nil, or_false] at hx; omega
      · intro x hx; simp only [List.mem_cons, List.not_mem_nil, or_false] at hx; omega
    obtain ⟨L, hL⟩ : ∃ L, arpB op [m0, m1, m2, m3, m4, m5] fr [t0, t1, t2, t3, t4, t5] to_ = L := ⟨_, rfl⟩
    have hl28 : L.length = 28 := by rw [← hL]; rfl
    rw [hL] at hbs hd1 hd2
    have HL := Lib.hid hL
    have HL28 := Lib.hid hl28
    have D1 : Hid ((decR (L ++ l)).1 = #[.int .i64 op, .int .u8 m0, .int .u8 m1, .int .u8 m2, .int .u8 m3, .int .u8 m4, .int .u8 m5, .int .u32 fr, .int .u8 t0, .int .u8 t1, .int .u8 t2, .int .u8 t3, .int .u8 t4, .int .u8 t5, .int .u32 to_]) := Lib.hid hd1
    have D2 : Hid ((decR (L ++ l)).2 = 0) := Lib.hid hd2
    have hq := eql_arp op m0 m1 m2 m3 m4 m5 fr t0 t1 t2 t3 t4 t5 to_
    clear hbad hop hok hL hl28 hbk hd1 hd2
    go_enter Try.func8, Try.ntmps8
    go_wp2_with fail
    rw [HW.out]
    refine (HE'.out _).mono ?_
    rintro e w1 ⟨A1, n1, cc1, rfl, hO1, hB1⟩
    rw [HL.out] at hO1
    have hn1 : n1 = 28 := by rw [← OB.length hO1, HL28.out]
    subst hn1
    have hk1 := hk.below hB1 hlt
    have hz1 := hB1.size
    have hp1 : RB w1 w1.heap.size a1 l := Rw.more (Rw.below (Rw.below hr HBW.out) (hB1.mono HBW.out.size)) (Nat.le_trans HBW.out.size hz1)
    clear y0 y1 y2 y3 y4 y5 y6 y7 y8 y9 y10 y11 y12 y13 y14
    go_wp2_with (at_builtin; refine ap8 rfl (.tmp 36) (.tmp 37) rfl W.heap.size rfl hO1 rfl hp1 HN.out (by omega) (by omega) ?_; intro A3 c3 w3 hO3 hB3 hg3 hA3 hz3 hc3)
    refine (dec_any A3 (28 + len1) c3 _ (L ++ l) (by rw [List.length_append, HL28.out, HN.out]) (by omega) (Bs.append hbs hb) _ hO3.rb (Nat.le_refl _)).mono ?_
    rintro e w4 ⟨rfl, hB4⟩
    rw [D1.out, D2.out]
    have hlt3 : w.heap.size < w3.heap.size := by omega
    have hk4 := (hk1.below hB3 hlt).below hB4 hlt3
    have hlt4 := hk4.lt
    have hBw : Below w.heap.size w w4 := ((HBW.out.trans (hB1.mono HBW.out.size)).trans (hB3.mono HBW.out.size)).trans (hB4.mono (by omega))
    have HBw := Lib.hid hBw
    have y0 := (World.cell?_alloc_lt w4 (.cells #[.int .i64 op, .int .u8 m0, .int .u8 m1, .int .u8 m2, .int .u8 m3, .int .u8 m4, .int .u8 m5, .int .u32 fr, .int .u8 t0, .int .u8 t1, .int .u8 t2, .int .u8 t3, .int .u8 t4, .int .u8 t5, .int .u32 to_] 43) ⟨w.heap.size, 0, none⟩ hlt4).trans (hk4.cell 0)
    have y1 := (World.cell?_alloc_lt w4 (.cells #[.int .i64 op, .int .u8 m0, .int .u8 m1, .int .u8 m2, .int .u8 m3, .int .u8 m4, .int .u8 m5, .int .u32 fr, .int .u8 t0, .int .u8 t1, .int .u8 t2, .int .u8 t3, .int .u8 t4, .int .u8 t5, .int .u32 to_] 43) ⟨w.heap.size, 1, none⟩ hlt4).trans (hk4.cell 1)
    have y2 := (World.cell?_alloc_lt w4 (.cells #[.int .i64 op, .int .u8 m0, .int .u8 m1, .int .u8 m2, .int .u8 m3, .int .u8 m4, .int .u8 m5, .int .u32 fr, .int .u8 t0, .int .u8 t1, .int .u8 t2, .int .u8 t3, .int .u8 t4, .int .u8 t5, .int .u32 to_] 43) ⟨w.heap.size, 2, none⟩ hlt4).trans (hk4.cell 2)
    have y3 := (World.cell?_alloc_lt w4 (.cells #[.int .i64 op, .int .u8 m0, .int .u8 m1, .int .u8 m2, .int .u8 m3, .int .u8 m4, .int .u8 m5, .int .u32 fr, .int .u8 t0, .int .u8 t1, .int .u8 t2, .int .u8 t3, .int .u8 t4, .int .u8 t5, .int .u32 to_] 43) ⟨w.heap.size, 3, none⟩ hlt4).trans (hk4.cell 3)
    have y4 := (World.cell?_alloc_lt w4 (.cells #[.int .i64 op, .int .u8 m0, .int .u8 m1, .int .u8 m2, .int .u8 m3, .int .u8 m4, .int .u8 m5, .int .u32 fr, .int .u8 t0, .int .u8 t1, .int .u8 t2, .int .u8 t3, .int .u8 t4, .int .u8 t5, .int .u32 to_] 43) ⟨w.heap.size, 4, none⟩ hlt4).trans (hk4.cell 4)
    have y5 := (World.cell?_alloc_lt w4 (.cells #[.int .i64 op, .int .u8 m0, .int .u8 m1, .int .u8 m2, .int .u8 m3, .int .u8 m4, .int .u8 m5, .int .u32 fr, .int .u8 t0, .int .u8 t1, .int .u8 t2, .int .u8 t3, .int .u8 t4, .int .u8 t5, .int .u32 to_] 43) ⟨w.heap.size, 5, none⟩ hlt4).trans (hk4.cell 5)
    have y6 := (World.cell?_alloc_lt w4 (.cells #[.int .i64 op, .int .u8 m0, .int .u8 m1, .int .u8 m2, .int .u8 m3, .int .u8 m4, .int .u8 m5, .int .u32 fr, .int .u8 t0, .int .u8 t1, .int .u8 t2, .int .u8 t3, .int .u8 t4, .int .u8 t5, .int .u32 to_] 43) ⟨w.heap.size, 6, none⟩ hlt4).trans (hk4.cell 6)
    have y7 := (World.cell?_alloc_lt w4 (.cells #[.int .i64 op, .int .u8 m0, .int .u8 m1, .int .u8 m2, .int .u8 m3, .int .u8 m4, .int .u8 m5, .int .u32 fr, .int .u8 t0, .int .u8 t1, .int .u8 t2, .int .u8 t3, .int .u8 t4, .int .u8 t5, .int .u32 to_] 43) ⟨w.heap.size, 7, none⟩ hlt4).trans (hk4.cell 7)
    have y8 := (World.cell?_alloc_lt w4 (.cells #[.int .i64 op, .int .u8 m0, .int .u8 m1, .int .u8 m2, .int .u8 m3, .int .u8 m4, .int .u8 m5, .int .u32 fr, .int .u8 t0, .int .u8 t1, .int .u8 t2, .int .u8 t3, .int .u8 t4, .int .u8 t5, .int .u32 to_] 43) ⟨w.heap.size, 8, none⟩ hlt4).trans (hk4.cell 8)
    have y9 := (World.cell?_alloc_lt w4 (.cells #[.int .i64 op, .int .u8 m0, .int .u8 m1, .int .u8 m2, .int .u8 m3, .int .u8 m4, .int .u8 m5, .int .u32 fr, .int .u8 t0, .int .u8 t1, .int .u8 t2, .int .u8 t3, .int .u8 t4, .int .u8 t5, .int .u32 to_] 43) ⟨w.heap.size, 9, none⟩ hlt4).trans (hk4.cell 9)
    have y10 := (World.cell?_alloc_lt w4 (.cells #[.int .i64 op, .int .u8 m0, .int .u8 m1, .int .u8 m2, .int .u8 m3, .int .u8 m4, .int .u8 m5, .int .u32 fr, .int .u8 t0, .int .u8 t1, .int .u8 t2, .int .u8 t3, .int .u8 t4, .int .u8 t5, .int .u32 to_] 43) ⟨w.heap.size, 10, none⟩ hlt4).trans (hk4.cell 10)
    have y11 := (World.cell?_alloc_lt w4 (.cells #[.int .i64 op, .int .u8 m0, .int .u8 m1, .int .u8 m2, .int .u8 m3, .int .u8 m4, .int .u8 m5, .int .u32 fr, .int .u8 t0, .int .u8 t1, .int .u8 t2, .int .u8 t3, .int .u8 t4, .int .u8 t5, .int .u32 to_] 43) ⟨w.heap.size, 11, none⟩ hlt4).trans (hk4.cell 11)
    have y12 := (World.cell?_alloc_lt w4 (.cells #[.int .i64 op, .int .u8 m0, .int .u8 m1, .int .u8 m2, .int .u8 m3, .int .u8 m4, .int .u8 m5, .int .u32 fr, .int .u8 t0, .int .u8 t1, .int .u8 t2, .int .u8 t3, .int .u8 t4, .int .u8 t5, .int .u32 to_] 43) ⟨w.heap.size, 12, none⟩ hlt4).trans (hk4.cell 12)
    have y13 := (World.cell?_alloc_lt w4 (.cells #[.int .i64 op, .int .u8 m0, .int .u8 m1, .int .u8 m2, .int .u8 m3, .int .u8 m4, .int .u8 m5, .int .u32 fr, .int .u8 t0, .int .u8 t1, .int .u8 t2, .int .u8 t3, .int .u8 t4, .int .u8 t5, .int .u32 to_] 43) ⟨w.heap.size, 13, none⟩ hlt4).trans (hk4.cell 13)
    have y14 := (World.cell?_alloc_lt w4 (.cells #[.int .i64 op, .int .u8 m0, .int .u8 m1, .int .u8 m2, .int .u8 m3, .int .u8 m4, .int .u8 m5, .int .u32 fr, .int .u8 t0, .int .u8 t1, .int .u8 t2, .int .u8 t3, .int .u8 t4, .int .u8 t5, .int .u32 to_] 43) ⟨w.heap.size, 14, none⟩ hlt4).trans (hk4.cell 14)
    simp only [List.getElem?_toArray, List.getElem?_cons_zero, List.getElem?_cons_succ] at y0 y1 y2 y3 y4 y5 y6 y7 y8 y9 y10 y11 y12 y13 y14
    clear hO1 hO3 hB1 hB3 hB4 hp1 hk1 hk4 hBw hg3
    go_wp2_with fail
    refine (known_any _).mono ?_
    rintro e w6 ⟨rfl, hB6⟩
    go_wp2
    go_ret
    exact ⟨rfl, (HBw.out.alloc HBw.out.size _).trans (hB6.mono (by simp; have := HBw.out.size; omega))⟩

/-! ### the row -/
set_option maxRecDepth 100000 in
theorem lifted (os : Os) (started : os.Started) (H : Type) (enc : TypeId × Value → H) :
    ReturnsInHanded {} Try.checked os 8 .any (Rows.arpBackSpec.pre6 enc Try.prog Try.f8 Rows.arpBackRow.domain false) (Rows.arpBackSpec.post enc Try.prog Try.f8 false true false false) := by
  refine returnsInHanded_of_change_sized (C := Try.checked) own started (by kernel_rfl) Try.func8
    (ChangeSpec.witness6 (enc := enc) (C := Try.checked) false ⟨#[], #[.agg #[.int .i64 0, .int .u8 0, .int .u8 0, .int .u8 0, .int .u8 0, .int .u8 0, .int .u8 0, .int .u32 0, .int .u8 0, .int .u8 0, .int .u8 0, .int .u8 0, .int .u8 0, .int .u8 0, .int .u32 0], .slice none 0 0], []⟩ 8 (by kernel_rfl) (by kernel_rfl) (by kernel_rfl) (by kernel_rfl)) ?_
  intro W base args ds gs before hval0 hW hcnd hsz0 _
  have hval : ∀ (j : Nat) t v, Try.f8.params[j]? = some t → args[j]? = some v → Value.okWide Try.prog W .any base t v := hval0
  have hsz : (DataW.weightsEach Try.prog (Try.f8.params.toList ++ Rows.arpBackSpec.plain.varTypes Try.prog) (ds ++ gs)).all (· ≤ reachBytes) = true := hsz0
  clear hsz0
  have hW' := hW
  obtain ⟨p, q, hA0, hV, rfl, hfz, hnd⟩ := hW
  have hA : DataW.TrodAll enc Try.prog W 0 (fun _ => true) true Try.f8.params.toList args.toList ds p := hA0
  rw [Try.params8] at hA hval hsz
  obtain ⟨v0, vs0, d0, ds0, p0, q0, hargs, rfl, rfl, h0, r0⟩ := trodAll_cons hA
  obtain ⟨v1, vs1, d1, ds1, p1, q1, rfl, rfl, rfl, h1, r1⟩ := trodAll_cons r0
  obtain ⟨rfl, rfl, rfl⟩ := trodAll_nil r1
  obtain rfl : args = #[v0, v1] := by cases args; simp_all
  obtain ⟨rfl, rfl⟩ := trodVars_none hV
  have k0 := h0
  have lt0 : ∀ x ∈ p0, x.block < W.heap.size := by obtain ⟨m, hm⟩ := k0; exact DataW.trod_lt m _ _ _ hm
  have w0 : ViewARP W v0 := open_arp (hval 0 43 v0 rfl rfl) h0 (fun k hk => by have := List.all_eq_true.1 hsz k (DataW.weights_mem_each (j := 0) rfl rfl k hk); simpa using this)
  obtain ⟨a1, len1, cap1, rfl⟩ := okWide_slice Try.underlying27 (hval 1 27 v1 rfl rfl)
  have k1 := h1
  have lt1 : ∀ x ∈ p1, x.block < W.heap.size := by obtain ⟨m, hm⟩ := k1; exact DataW.trod_lt m _ _ _ hm
  obtain ⟨z1, w1⟩ : ∃ zs, IsRow .u8 W a1 len1 cap1 zs ∧ cap1 ≤ 140737488351232 := by
    obtain ⟨fuel, hf⟩ := h1
    rcases open_ints Try.underlying27 Try.underlying5 (by kernel_rfl) hf with ⟨hcs, _⟩ | ⟨x, l, c, zs, hcs, _, hl, hm, hz, hx, hcell, hwz⟩
    · simp [Value.cells] at hcs
      obtain ⟨rfl, rfl, rfl⟩ := hcs
      exact ⟨[], .inl ⟨rfl, rfl, rfl, rfl⟩, by omega⟩
    · simp [Value.cells] at hcs
      obtain ⟨rfl, rfl, rfl⟩ := hcs
      simp only [Prod.mk.injEq] at hx
      obtain ⟨rfl, rfl⟩ := hx
      simp only [if_true] at hz
      have hm2 := sized_slice hsz (j := 1) (t := 27) (e := 5) rfl rfl Try.underlying27
      rw [show Try.prog.bytesOf 5 = 1 from by kernel_rfl] at hm2
      simp only [lits, List.length_map, List.length_take, List.length_drop, reachBytes] at hm2
      exact ⟨zs, .inr ⟨_, rfl, hl, hm, hz, hcell, hwz⟩, by omega⟩
  clear hA0 hval0
  refine (walk v0 a1 len1 cap1 z1 W w0 w1).mono fun e W' ⟨he, bel⟩ => ?_
  subst he
  exact ⟨_, rfl, _, _, _, [], _, [], hW', trodAll_mk1 (shut_bool Try.underlying4 _), (trodAll_cons_mk (Below.trod laidOut (by kernel_rfl) (of_decide_eq_true (by kernel_rfl)) k0 bel lt0) (trodAll_cons_mk (Below.trod laidOut (by kernel_rfl) (of_decide_eq_true (by kernel_rfl)) k1 bel lt1) trodAll_mk0)), rfl, bel.frame _, fun h => by cases h⟩

theorem over : Rows.arpBackRow.holds Try.pinned (OpenSpec.ofChange Rows.arpBackSpec) :=
  OpenClaim.holds_of_wide 8 Try.f8 rfl rfl rfl rfl rfl rfl rfl ⟨rfl, rfl, rfl, rfl, rfl⟩ rfl rfl rfl rfl rfl (by kernel_rfl) Try.func8 (by kernel_rfl)
    (of_decide_eq_true (by kernel_rfl)) (by unfold Func.isWrapper; first | (rw [if_pos (by decide +kernel)]; kernel_rfl) | (rw [if_neg (by decide +kernel)]; exact ⟨rfl, rfl⟩))
    (fun os started H enc _ => lifted os started H enc)

theorem proved : Rows.ArpBackSaid := over
#print axioms proved
end Go.Proofs.Ytocigdkndlmikaa.arpBack
