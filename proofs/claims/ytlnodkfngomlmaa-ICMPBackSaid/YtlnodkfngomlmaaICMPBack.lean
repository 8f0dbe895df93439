/- Proved: what a message is written as is read as it; one byte turned into another is refused. Conditions: none, for every input. -/
import Derived.Test.YtlnodkfngomlmaaRows
import Derived.WalkKit
import Derived.ProofKit
import Derived.OpenShut
import Derived.ShutString
import Derived.ChangeOld
import Derived.Below
import Derived.SizedLaws
import Derived.Test.YtlnodkfngomlmaaBack
import Derived.Test.YtlnodkfngomlmaaView
namespace Go.Proofs.Ytlnodkfngomlmaa.iCMPBack
open Go.ChangeShapes Go.WideShapes Go.ChangeAt Go.RowKit
open Go.ChangeMaps (open_string shut_string)
set_option linter.unusedVariables false

theorem own : ownKnob Try.prog.godebug = none := by kernel_rfl
theorem laidOut : laidOutB Try.prog = true := by kernel_rfl

/-! ### the walk -/
set_option maxRecDepth 100000 in
set_option maxHeartbeats 4000000 in
theorem walk (v0 : Value) (a1 : Int) (a2 : Int) (w : World) (w0 : ViewICMP w v0) (w1 : (Lit.int .i64 a1).wf = true) (w2 : (Lit.int .u8 a2).wf = true) :
    Calls Try.prog 8 #[v0, .int .i64 a1, .int .u8 a2] w fun e w' => e = .returned (.bool true) ∧ Below w.heap.size w w' := by
  obtain ⟨t, c, r, A, n, cap, l, rfl, ht, hc, hr, hd, hb, hn, hcap, hmax⟩ := w0
  have hby := bounds_u8 w2
  have hat := bounds_i64 w1
  have HN := Lib.hid hn
  clear hn w1 w2
  obtain ⟨W, hW⟩ : ∃ W, w.alloc (.cells #[.int .i64 t, .int .i64 c, .int .u32 r, .slice A n cap] 25) = W := ⟨_, rfl⟩
  have hm : Bk W w.heap.size 25 #[.int .i64 t, .int .i64 c, .int .u32 r, .slice A n cap] := by rw [← hW]; exact Bk.new w _ _
  have hB : Below w.heap.size w W := by rw [← hW]; exact (Below.refl _ _).alloc (Nat.le_refl _) _
  have hd0 : RB W W.heap.size A l := Rw.more (Rw.below hd hB) hB.size
  have hbnd := hm.lt
  have HW := Lib.hid hW
  clear hW
  rcases (by omega : 4000 < n ∨ n ≤ 4000) with d0 | d0
  · go_enter Try.func8, Try.ntmps8
    go_wp2_with fail
    go_ret
    exact ⟨rfl, by rw [HW.out]; exact hB⟩
  by_cases hbad : t < 0 ∨ 255 < t ∨ c < 0 ∨ 255 < c
  · have HBAD := Lib.hid hbad
    clear hbad
    go_enter Try.func8, Try.ntmps8
    go_wp2_with fail
    rw [HW.out]
    refine (encode_arg t c r A n cap HBAD.out _).mono ?_
    rintro e w1 ⟨rfl, hB1⟩
    go_wp2_with (go_at_call 17; refine (known_any _).mono ?_; rintro e w' ⟨rfl, hB5⟩)
    go_ret
    exact ⟨rfl, (hB.trans (hB1.mono (Nat.le_of_lt hbnd))).trans (hB5.mono (Nat.le_trans (Nat.le_of_lt hbnd) hB1.size))⟩
  obtain ⟨t0, t1, c0, c1⟩ : 0 ≤ t ∧ t ≤ 255 ∧ 0 ≤ c ∧ c ≤ 255 := by omega
  clear hbad
  have hbk := back_ok t c r l t0 t1 c0 c1 hr.1 hr.2 hb (by rw [HN.out]; omega)
  have henc := encode_ok t c r A n cap l t0 t1 c0 c1 HN.out (by omega) hr.1 hr.2 hb W hd0
  generalize icmpB t c (icmpSum t c r l) r l = L at hbk henc
  have HBK := Lib.hid hbk
  clear hbk
  go_enter Try.func8, Try.ntmps8
  go_wp2_with fail
  rw [HW.out]
  refine henc.mono ?_
  rintro e w1 ⟨A1, n1, c1', rfl, hO1, hB1⟩
  have hz1 := hB1.size
  have hn1 : n1 = 8 + n := by rw [← hO1.length, HBK.out.len, HN.out]
  obtain ⟨l8, l9⟩ : 8 ≤ n1 ∧ n1 ≤ 4008 := by omega
  have HN1 := Lib.hid hn1
  have hm1 := hm.below hB1 hbnd
  have hd1 : RB w1 W.heap.size A l := Rw.below hd0 hB1
  clear hn1
  go_wp2_with fail
  refine (decode_any A1 n1 c1' _ L hO1.length (by omega) HBK.out.bs _ hO1.rb (Nat.le_refl _)).mono ?_
  rintro e w2 ⟨A2, n2, c2, rfl, hO2, hB2⟩
  rw [HBK.out.err, HBK.out.dt, HBK.out.dc, HBK.out.dr]
  rw [HBK.out.dd] at hO2
  have hz2 := hB2.size
  have hm2 := hm1.below hB2 (by omega)
  have hlt2 : w.heap.size < w2.heap.size := by omega
  have e1 := (World.cell?_alloc_lt w2 (.cells #[.int .i64 t, .int .i64 c, .int .u32 r, .slice A2 n2 c2] 25) ⟨w.heap.size, 0, none⟩ hlt2).trans (hm2.cell 0)
  have e2 := (World.cell?_alloc_lt w2 (.cells #[.int .i64 t, .int .i64 c, .int .u32 r, .slice A2 n2 c2] 25) ⟨w.heap.size, 1, none⟩ hlt2).trans (hm2.cell 1)
  have e3 := (World.cell?_alloc_lt w2 (.cells #[.int .i64 t, .int .i64 c, .int .u32 r, .slice A2 n2 c2] 25) ⟨w.heap.size, 2, none⟩ hlt2).trans (hm2.cell 2)
  have e4 := (World.cell?_alloc_lt w2 (.cells #[.int .i64 t, .int .i64 c, .int .u32 r, .slice A2 n2 c2] 25) ⟨w.heap.size, 3, none⟩ hlt2).trans (hm2.cell 3)
  simp only [List.getElem?_toArray, List.getElem?_cons_zero, List.getElem?_cons_succ] at e1 e2 e3 e4
  obtain ⟨w3, hw3⟩ : ∃ w3, w2.alloc (.cells #[.int .i64 t, .int .i64 c, .int .u32 r, .slice A2 n2 c2] 25) = w3 := ⟨_, rfl⟩
  have hB3 : Below w2.heap.size w2 w3 := by rw [← hw3]; exact (Below.refl _ _).alloc (Nat.le_refl _) _
  have HW3 := Lib.hid hw3
  have hz3 := hB3.size
  have hO2' : OB 5 w3 w1.heap.size A2 n2 c2 l := Ow.stays hO2 hB3
  have hd3 : RB w3 W.heap.size A l := Rw.below (Rw.below hd1 (hB2.mono hz1)) (hB3.mono (by omega))
  have hO13 : OB 5 w3 W.heap.size A1 n1 c1' L := Ow.stays (Ow.stays hO1 hB2) hB3
  have hB03 : Below w.heap.size w w3 := ((hB.trans (hB1.mono (Nat.le_of_lt hbnd))).trans (hB2.mono (by omega))).trans (hB3.mono (by omega))
  clear hw3
  go_wp2_with fail
  rw [HW3.out]
  refine (messages_any t c r A A2 n n2 cap c2 w3.heap.size l HN.out hO2'.length (by omega) hb _ (Rw.more hd3 (by omega)) hO2'.rb (Nat.le_refl _)).mono ?_
  rintro e w4 ⟨rfl, hB4, hz4⟩
  have hO14 : OB 5 w4 W.heap.size A1 n1 c1' L := Ow.stays hO13 hB4
  have hB04 : Below w.heap.size w w4 := hB03.trans (hB4.mono (by omega))
  clear e1 e2 e3 e4
  have p0 : ((n1 : Int) == 0) = false := by rw [beq_eq_false_iff_ne]; omega
  obtain ⟨q, hq⟩ : ∃ q, a1.tmod (n1 : Int) = q := ⟨_, rfl⟩
  have hq1 : -(n1 : Int) < q ∧ q < n1 := by
    rw [← hq]
    exact ⟨by have := Int.lt_tmod_of_pos a1 (b := (n1 : Int)) (by omega); omega, Int.tmod_lt_of_pos a1 (by omega)⟩
  rcases (by omega : a2 = 0 ∨ a2 ≠ 0) with rfl | hne0
  · skip
    rcases (by omega : q < 0 ∨ 0 ≤ q) with c5 | c5
    · obtain ⟨k, hk⟩ : ∃ k : Nat, q + (n1 : Int) = k := ⟨(q + (n1 : Int)).toNat, by omega⟩
      have hkl : k < n1 := by omega
      have hbs := HBK.out.bs
      have hsum := HBK.out.sum
      obtain ⟨g, rfl, hg, hcl, hf⟩ := hO14.lit_at (k := k) (by omega)
      have hx := hbs.at_ k
      have hxor := xor_u8 (L[k]?.getD 0) (1) hx.1 hx.2 (by omega) (by omega)
      have hst := hO14.store (k := k) (by omega) (bits .xor .u8 (L[k]?.getD 0) (1))
      have hbs2 := hbs.set k hxor.1 hxor.2.1
      have hL8 : L.length = n1 := hO14.length
      have hte := turned_err L k (bits .xor .u8 (L[k]?.getD 0) (1)) hbs (by omega) (by omega) hxor.1 hxor.2.1 (hxor.2.2 (by decide)) hsum
      generalize hv : bits .xor .u8 (L[k]?.getD 0) (1) = v at hst hbs2 hte hxor
      have HTE := Lib.hid hte
      have HXB : Hid (0 ≤ v ∧ v < 256) := Lib.hid ⟨hxor.1, hxor.2.1⟩
      clear hsum hx hxor hte hL8
      have hlen2 := Lib.hid hst.length
      obtain ⟨w5, hw5⟩ : ∃ w5, w4.setCell ⟨g, k, none⟩ (.int .u8 v) = w5 := ⟨_, rfl⟩
      rw [hw5] at hst
      have hB05 : Below w.heap.size w w5 := by rw [← hw5]; exact hB04.setCell (show w.heap.size ≤ g by omega) _
      have HW5 := Lib.hid hw5
      clear hw5
      go_wp2_with fail
      rw [HW5.out]
      refine (decode_any _ n1 c1' _ (L.set k v) hlen2.out (by omega) hbs2 _ hst.rb (Nat.le_refl _)).mono ?_
      rintro e w6 ⟨A6, n6, c6, rfl, hO6, hB6⟩
      rw [HTE.out]
      generalize dcT (L.set k v) = x0
      generalize dcC (L.set k v) = x1
      generalize dcR (L.set k v) = x2
      have hB06 := hB05.trans (hB6.mono hB05.size)
      go_wp2_with fail
      refine (known_any _).mono ?_
      rintro e w7 ⟨rfl, hB7⟩
      go_wp2
      go_ret
      exact ⟨rfl, (hB06.alloc hB06.size _).trans (hB7.mono (by simp; have := hB06.size; omega))⟩
    · obtain ⟨k, rfl⟩ := Int.eq_ofNat_of_zero_le c5
      have hkl : k < n1 := by omega
      have hbs := HBK.out.bs
      have hsum := HBK.out.sum
      obtain ⟨g, rfl, hg, hcl, hf⟩ := hO14.lit_at (k := k) (by omega)
      have hx := hbs.at_ k
      have hxor := xor_u8 (L[k]?.getD 0) (1) hx.1 hx.2 (by omega) (by omega)
      have hst := hO14.store (k := k) (by omega) (bits .xor .u8 (L[k]?.getD 0) (1))
      have hbs2 := hbs.set k hxor.1 hxor.2.1
      have hL8 : L.length = n1 := hO14.length
      have hte := turned_err L k (bits .xor .u8 (L[k]?.getD 0) (1)) hbs (by omega) (by omega) hxor.1 hxor.2.1 (hxor.2.2 (by decide)) hsum
      generalize hv : bits .xor .u8 (L[k]?.getD 0) (1) = v at hst hbs2 hte hxor
      have HTE := Lib.hid hte
      have HXB : Hid (0 ≤ v ∧ v < 256) := Lib.hid ⟨hxor.1, hxor.2.1⟩
      clear hsum hx hxor hte hL8
      have hlen2 := Lib.hid hst.length
      obtain ⟨w5, hw5⟩ : ∃ w5, w4.setCell ⟨g, k, none⟩ (.int .u8 v) = w5 := ⟨_, rfl⟩
      rw [hw5] at hst
      have hB05 : Below w.heap.size w w5 := by rw [← hw5]; exact hB04.setCell (show w.heap.size ≤ g by omega) _
      have HW5 := Lib.hid hw5
      clear hw5
      go_wp2_with fail
      rw [HW5.out]
      refine (decode_any _ n1 c1' _ (L.set k v) hlen2.out (by omega) hbs2 _ hst.rb (Nat.le_refl _)).mono ?_
      rintro e w6 ⟨A6, n6, c6, rfl, hO6, hB6⟩
      rw [HTE.out]
      generalize dcT (L.set k v) = x0
      generalize dcC (L.set k v) = x1
      generalize dcR (L.set k v) = x2
      have hB06 := hB05.trans (hB6.mono hB05.size)
      go_wp2_with fail
      refine (known_any _).mono ?_
      rintro e w7 ⟨rfl, hB7⟩
      go_wp2
      go_ret
      exact ⟨rfl, (hB06.alloc hB06.size _).trans (hB7.mono (by simp; have := hB06.size; omega))⟩
  · have hne0b : (a2 == 0) = false := by rw [beq_eq_false_iff_ne]; exact hne0
    have HNE := Lib.hid hne0
    clear hne0
    rcases (by omega : q < 0 ∨ 0 ≤ q) with c5 | c5
    · obtain ⟨k, hk⟩ : ∃ k : Nat, q + (n1 : Int) = k := ⟨(q + (n1 : Int)).toNat, by omega⟩
      have hkl : k < n1 := by omega
      have hbs := HBK.out.bs
      have hsum := HBK.out.sum
      obtain ⟨g, rfl, hg, hcl, hf⟩ := hO14.lit_at (k := k) (by omega)
      have hx := hbs.at_ k
      have hxor := xor_u8 (L[k]?.getD 0) (a2) hx.1 hx.2 (by omega) (by omega)
      have hst := hO14.store (k := k) (by omega) (bits .xor .u8 (L[k]?.getD 0) (a2))
      have hbs2 := hbs.set k hxor.1 hxor.2.1
      have hL8 : L.length = n1 := hO14.length
      have hte := turned_err L k (bits .xor .u8 (L[k]?.getD 0) (a2)) hbs (by omega) (by omega) hxor.1 hxor.2.1 (hxor.2.2 HNE.out) hsum
      generalize hv : bits .xor .u8 (L[k]?.getD 0) (a2) = v at hst hbs2 hte hxor
      have HTE := Lib.hid hte
      have HXB : Hid (0 ≤ v ∧ v < 256) := Lib.hid ⟨hxor.1, hxor.2.1⟩
      clear hsum hx hxor hte hL8
      have hlen2 := Lib.hid hst.length
      obtain ⟨w5, hw5⟩ : ∃ w5, w4.setCell ⟨g, k, none⟩ (.int .u8 v) = w5 := ⟨_, rfl⟩
      rw [hw5] at hst
      have hB05 : Below w.heap.size w w5 := by rw [← hw5]; exact hB04.setCell (show w.heap.size ≤ g by omega) _
      have HW5 := Lib.hid hw5
      clear hw5
      go_wp2_with fail
      rw [HW5.out]
      refine (decode_any _ n1 c1' _ (L.set k v) hlen2.out (by omega) hbs2 _ hst.rb (Nat.le_refl _)).mono ?_
      rintro e w6 ⟨A6, n6, c6, rfl, hO6, hB6⟩
      rw [HTE.out]
      generalize dcT (L.set k v) = x0
      generalize dcC (L.set k v) = x1
      generalize dcR (L.set k v) = x2
      have hB06 := hB05.trans (hB6.mono hB05.size)
      go_wp2_with fail
      refine (known_any _).mono ?_
      rintro e w7 ⟨rfl, hB7⟩
      go_wp2
      go_ret
      exact ⟨rfl, (hB06.alloc hB06.size _).trans (hB7.mono (by simp; have := hB06.size; omega))⟩
    · obtain ⟨k, rfl⟩ := Int.eq_ofNat_of_zero_le c5
      have hkl : k < n1 := by omega
      have hbs := HBK.out.bs
      have hsum := HBK.out.sum
      obtain ⟨g, rfl, hg, hcl, hf⟩ := hO14.lit_at (k := k) (by omega)
      have hx := hbs.at_ k
      have hxor := xor_u8 (L[k]?.getD 0) (a2) hx.1 hx.2 (by omega) (by omega)
      have hst := hO14.store (k := k) (by omega) (bits .xor .u8 (L[k]?.getD 0) (a2))
      have hbs2 := hbs.set k hxor.1 hxor.2.1
      have hL8 : L.length = n1 := hO14.length
      have hte := turned_err L k (bits .xor .u8 (L[k]?.getD 0) (a2)) hbs (by omega) (by omega) hxor.1 hxor.2.1 (hxor.2.2 HNE.out) hsum
      generalize hv : bits .xor .u8 (L[k]?.getD 0) (a2) = v at hst hbs2 hte hxor
      have HTE := Lib.hid hte
      have HXB : Hid (0 ≤ v ∧ v < 256) := Lib.hid ⟨hxor.1, hxor.2.1⟩
      clear hsum hx hxor hte hL8
      have hlen2 := Lib.hid hst.length
      obtain ⟨w5, hw5⟩ : ∃ w5, w4.setCell ⟨g, k, none⟩ (.int .u8 v) = w5 := ⟨_, rfl⟩
      rw [hw5] at hst
      have hB05 : Below w.heap.size w w5 := by rw [← hw5]; exact hB04.setCell (show w.heap.size ≤ g by omega) _
      have HW5 := Lib.hid hw5
      clear hw5
      go_wp2_with fail
      rw [HW5.out]
      refine (decode_any _ n1 c1' _ (L.set k v) hlen2.out (by omega) hbs2 _ hst.rb (Nat.le_refl _)).mono ?_
      rintro e w6 ⟨A6, n6, c6, rfl, hO6, hB6⟩
      rw [HTE.out]
      generalize dcT (L.set k v) = x0
      generalize dcC (L.set k v) = x1
      generalize dcR (L.set k v) = x2
      have hB06 := hB05.trans (hB6.mono hB05.size)
      go_wp2_with fail
      refine (known_any _).mono ?_
      rintro e w7 ⟨rfl, hB7⟩
      go_wp2
      go_ret
      exact ⟨rfl, (hB06.alloc hB06.size _).trans (hB7.mono (by simp; have := hB06.size; omega))⟩

/-! ### the row -/
set_option maxRecDepth 100000 in
theorem lifted (os : Os) (started : os.Started) (H : Type) (enc : TypeId × Value → H) :
    ReturnsInHanded {} Try.checked os 8 .any (Rows.iCMPBackSpec.pre6 enc Try.prog Try.f8 Rows.iCMPBackRow.domain false) (Rows.iCMPBackSpec.post enc Try.prog Try.f8 false true false false) := by
  refine returnsInHanded_of_change_sized (C := Try.checked) own started (by kernel_rfl) Try.func8
    (ChangeSpec.witness6 (enc := enc) (C := Try.checked) false ⟨#[], #[.agg #[.int .i64 0, .int .i64 0, .int .u32 0, .slice none 0 0], .int .i64 0, .int .u8 0], []⟩ 8 (by kernel_rfl) (by kernel_rfl) (by kernel_rfl) (by kernel_rfl)) ?_
  intro W base args ds gs before hval0 hW hcnd hsz0 _
  have hval : ∀ (j : Nat) t v, Try.f8.params[j]? = some t → args[j]? = some v → Value.okWide Try.prog W .any base t v := hval0
  have hsz : (DataW.weightsEach Try.prog (Try.f8.params.toList ++ Rows.iCMPBackSpec.plain.varTypes Try.prog) (ds ++ gs)).all (· ≤ reachBytes) = true := hsz0
  clear hsz0
  have hW' := hW
  obtain ⟨p, q, hA0, hV, rfl, hfz, hnd⟩ := hW
  have hA : DataW.TrodAll enc Try.prog W 0 (fun _ => true) true Try.f8.params.toList args.toList ds p := hA0
  rw [Try.params8] at hA hval hsz
  obtain ⟨v0, vs0, d0, ds0, p0, q0, hargs, rfl, rfl, h0, r0⟩ := trodAll_cons hA
  obtain ⟨v1, vs1, d1, ds1, p1, q1, rfl, rfl, rfl, h1, r1⟩ := trodAll_cons r0
  obtain ⟨v2, vs2, d2, ds2, p2, q2, rfl, rfl, rfl, h2, r2⟩ := trodAll_cons r1
  obtain ⟨rfl, rfl, rfl⟩ := trodAll_nil r2
  obtain rfl : args = #[v0, v1, v2] := by cases args; simp_all
  obtain ⟨rfl, rfl⟩ := trodVars_none hV
  have k0 := h0
  have lt0 : ∀ x ∈ p0, x.block < W.heap.size := by obtain ⟨m, hm⟩ := k0; exact DataW.trod_lt m _ _ _ hm
  have w0 : ViewICMP W v0 := open_icmp (hval 0 25 v0 rfl rfl) h0 (fun k hk => by have := List.all_eq_true.1 hsz k (DataW.weights_mem_each (j := 0) rfl rfl k hk); simpa using this)
  obtain ⟨a1, rfl, rfl, rfl, w1⟩ := open_int Try.underlying3 (hval 1 3 v1 rfl rfl) h1
  obtain ⟨a2, rfl, rfl, rfl, w2⟩ := open_int Try.underlying5 (hval 2 5 v2 rfl rfl) h2
  clear hA0 hval0
  refine (walk v0 a1 a2 W w0 w1 w2).mono fun e W' ⟨he, bel⟩ => ?_
  subst he
  exact ⟨_, rfl, _, _, _, [], _, [], hW', trodAll_mk1 (shut_bool Try.underlying4 _), (trodAll_cons_mk (Below.trod laidOut (by kernel_rfl) (of_decide_eq_true (by kernel_rfl)) k0 bel lt0) (trodAll_cons_mk (shut_int Try.underlying3 w1) (trodAll_cons_mk (shut_int Try.underlying5 w2) trodAll_mk0))), rfl, bel.frame _, fun h => by cases h⟩

theorem over : Rows.iCMPBackRow.holds Try.pinned (OpenSpec.ofChange Rows.iCMPBackSpec) :=
  OpenClaim.holds_of_wide 8 Try.f8 rfl rfl rfl rfl rfl rfl rfl ⟨rfl, rfl, rfl, rfl, rfl⟩ rfl rfl rfl rfl rfl (by kernel_rfl) Try.func8 (by kernel_rfl)
    (of_decide_eq_true (by kernel_rfl)) (by unfold Func.isWrapper; first | (rw [if_pos (by decide +kernel)]; kernel_rfl) | (rw [if_neg (by decide +kernel)]; exact ⟨rfl, rfl⟩))
    (fun os started H enc _ => lifted os started H enc)

theorem proved : Rows.ICMPBackSaid := over
#print axioms proved
end Go.Proofs.Ytlnodkfngomlmaa.iCMPBack
