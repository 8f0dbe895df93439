/- Proved: of every script of ticks a Bucket lets as many by as the document's; and never more than P9.6 has. Conditions: none, for every input. -/
import Derived.Test.YtlnodkfngomlmaaRows
import Derived.WalkKit
import Derived.ProofKit
import Derived.OpenShut
import Derived.ShutString
import Derived.ChangeOld
import Derived.Below
import Derived.SizedLaws
import Derived.Test.YtlnodkfngomlmaaBucket
import Derived.Test.YtlnodkfngomlmaaRef
import Derived.Test.YtlnodkfngomlmaaIn
namespace Go.Proofs.Ytlnodkfngomlmaa.iCMPBuckets
open Go.ChangeShapes Go.WideShapes Go.ChangeAt Go.RowKit
open Go.ChangeMaps (open_string shut_string)
set_option linter.unusedVariables false

theorem own : ownKnob Try.prog.godebug = none := by kernel_rfl
theorem laidOut : laidOutB Try.prog = true := by kernel_rfl

/-! ### the walk -/
set_option maxRecDepth 100000 in
set_option maxHeartbeats 1000000 in
theorem walk (a0 : Int) (a1 : Int) (a2 : Option Addr) (len2 cap2 : Nat) (z2 : List Int) (w : World) (w0 : (Lit.int .i64 a0).wf = true) (w1 : (Lit.int .i64 a1).wf = true) (w2 : IsRow .i64 w a2 len2 cap2 z2 ∧ cap2 * 8 ≤ 140737488351232) :
    Calls Try.prog 6 #[.int .i64 a0, .int .i64 a1, .slice a2 len2 cap2] w fun e w' => e = .returned (.bool true) ∧ Below w.heap.size w w' := by
  obtain ⟨hI, hcap⟩ := w2
  have hr : ∃ l : List Int, (∀ k, k < len2 → ∃ b off, a2 = some ⟨b, off, none⟩ ∧ b < w.heap.size ∧ w.cell? ⟨b, off + k, none⟩ = some (.int .i64 (l[k]?.getD 0)) ∧ -9223372036854775808 ≤ l[k]?.getD 0 ∧ l[k]?.getD 0 ≤ 9223372036854775807) ∧ len2 ≤ cap2 := by
    rcases hI with ⟨rfl, rfl, rfl, rfl⟩ | ⟨x, rfl, hl, _, hz, hcell, hwf⟩
    · exact ⟨[], fun k hk => absurd hk (by omega), Nat.le_refl _⟩
    · refine ⟨z2, fun k hk => ?_, hl⟩
      have h0 := hcell k (by omega)
      obtain ⟨b, off, spot⟩ := x
      have hs : spot = none := by simpa [Addr.add] using World.cell?_spot (hcell 0 (by omega))
      subst hs
      rw [add_eq] at h0
      refine ⟨b, off, rfl, World.block_lt_of_cell? w _ h0, ?_, ?_⟩
      · rw [h0, List.getD_eq_getElem?_getD]
      · have hm : z2[k]?.getD 0 ∈ z2 := by rw [List.getElem?_eq_getElem (by omega)]; exact List.getElem_mem _
        exact bounds_i64 (hwf _ hm)
  obtain ⟨l, hr, hl2⟩ := hr
  have HR := Lib.hid hr
  clear hI hr
  have hc2 : len2 ≤ 140737488351232 := by omega
  rcases (by omega : 400 < len2 ∨ len2 ≤ 400) with d0 | d0
  · go_enter Try.func6, Try.ntmps6
    go_wp2_with (go_at_call 17; refine (known_any _).mono ?_; rintro e w' ⟨rfl, hB⟩)
    go_ret
    exact ⟨rfl, hB⟩
  by_cases hbad : a0 < 1 ∨ 1048576 < a0 ∨ a1 < 1 ∨ 1048576 < a1
  · have HBAD := Lib.hid hbad
    clear hbad
    go_enter Try.func6, Try.ntmps6
    go_wp2_with (first
      | (go_at_call 21; refine (newbucket_no _ _ HBAD.out _).mono ?_; rintro e w' ⟨rfl, rfl⟩)
      | (go_at_call 22; refine (rnewbucket_no _ _ HBAD.out _).mono ?_; rintro e w' ⟨rfl, rfl⟩)
      | (go_at_call 17; refine (known_any _).mono ?_; rintro e w' ⟨rfl, hB⟩))
    go_ret
    exact ⟨rfl, hB⟩
  obtain ⟨m0, m1, v0, v1⟩ : 1 ≤ a0 ∧ a0 ≤ 1048576 ∧ 1 ≤ a1 ∧ a1 ≤ 1048576 := by omega
  clear hbad
  go_enter Try.func6, Try.ntmps6
  go_wp2_with fail
  refine (newbucket_ok a0 a1 m0 m1 v0 v1 _).mono ?_
  rintro e w1 ⟨rfl, hb1, hB1, z1⟩
  go_wp2_with fail
  refine (rnewbucket_ok a0 a1 m0 m1 v0 v1 _).mono ?_
  rintro e w2 ⟨rfl, hd2, hB2, z2⟩
  have hb2 : Bu 39 w2 w.heap.size a0 a1 a0 0 := Bk.below hb1 hB2 z1
  have hBw : Below w.heap.size w w2 := hB1.trans (hB2.mono (by omega))
  obtain ⟨g2, hg2⟩ : ∃ g2, w1.heap.size = g2 := ⟨_, rfl⟩
  rw [hg2] at hd2 z1 z2 ⊢
  clear hg2 hb1 hB1 hB2
  have q0 : (0 : Int) / a1 = 0 := Int.zero_ediv _
  have Q0 := Lib.hid q0
  clear q0
  go_wp2
  go_loopw [11, 12, 13, 14] (fun now n i _y wr => ∃ (k : Nat) (t c h x : Int), k ≤ len2 ∧ i = .int .i64 k ∧ now = .int .i64 t ∧ n = .int .i64 c ∧ 0 ≤ t ∧ t ≤ 1073741824 * k ∧ 0 ≤ c ∧ c ≤ k ∧ 0 ≤ h ∧ h ≤ a0 ∧ Hid (t / a1 = x) ∧ c + h ≤ a0 + x ∧ 0 ≤ x ∧ x ≤ t ∧
    Bu 39 wr w.heap.size a0 a1 h t ∧ Bu 76 wr g2 a0 a1 h t ∧ Below w.heap.size w wr) (fun _ _ i _ _ => len2 - (intOf i).toNat)
  case atStart => exact ⟨0, 0, 0, a0, 0, by omega, rfl, rfl, rfl, by omega, by omega, by omega, by omega, by omega, by omega, Lib.hid (by rw [Q0.out]), by omega, by omega, by omega, hb2, hd2, hBw⟩
  case round =>
    clear hb2 hd2 hBw
    obtain ⟨k, t, c, h, x, hk, rfl, rfl, rfl, t0, t1, c0, c1, h0, h1, X, hinv, x0, x1, hb, hd, hB⟩ := hrel
    rcases (by omega : k < len2 ∨ len2 = k) with d1 | rfl
    · obtain ⟨b, off, rfl, hbl, hcell, l0, l1⟩ := HR.out k d1
      have hcell := bel_cell hB hbl hcell
      have hbz := hb.lt
      have hdz := hd.lt
      obtain ⟨y, hy⟩ : ∃ y, l[k]?.getD 0 = y := ⟨_, rfl⟩
      rw [hy] at hcell l0 l1
      clear hy
      obtain ⟨T, T0, T1, hT⟩ : ∃ T, t ≤ T ∧ T ≤ t + 1073741824 ∧ T = t + max 0 (min y 1073741824) := ⟨_, by omega, by omega, rfl⟩
      obtain ⟨x', hx'⟩ : ∃ x', T / a1 = x' := ⟨_, rfl⟩
      have ok : BuOk a0 a1 h t T := ⟨m0, m1, v0, v1, h0, h1, t0, T0, by omega⟩
      have okd := ok.div
      rw [hx', X.out] at okd
      have hR : refill a0 a1 h t T = min a0 (h + min (x' - x) a0) := by unfold refill; rw [hx', X.out]
      obtain ⟨H, hH⟩ : ∃ H, min a0 (h + min (x' - x) a0) = H := ⟨_, rfl⟩
      have HR2 : Hid (refill a0 a1 h t T = H) := Lib.hid (by rw [hR, hH])
      have X' := Lib.hid hx'
      have hx2 : x' ≤ T := by rw [← hx']; exact Int.ediv_le_self _ (by omega)
      obtain ⟨b0, b1, b2, b3⟩ : 0 ≤ H ∧ H ≤ a0 ∧ H ≤ h + (x' - x) ∧ 0 ≤ x' - x := by omega
      have hne : g2 ≠ w.heap.size := Bk.ne_ hd hb (by decide)
      have hrow : ∀ (g : Nat), w.heap.size ≤ g → ∀ i, some g = some i → w.heap.size ≤ i := fun g hg i e => by injection e with e; omega
      have HROW := Lib.hid hrow
      have hge : w.heap.size ≤ g2 := by omega
      have HT : (y ≤ 0 ∧ T = t) ∨ (0 < y ∧ y ≤ 1073741824 ∧ T = t + y) ∨ (1073741824 < y ∧ T = t + 1073741824) := by omega
      clear hx' hR hH hT hrow okd
      rcases HT with ⟨e0, rfl⟩ | ⟨e0, e1, rfl⟩ | ⟨e0, rfl⟩
      all_goals
        rcases (by omega : 0 < H ∨ H = 0) with f0 | rfl
        · go_wp2_with fail
          refine (take_yes _ a0 a1 h _ _ ok (by rw [HR2.out]; exact f0) _ hb).mono ?_
          rintro e w3 ⟨rfl, hb3, hg3⟩
          rw [HR2.out] at hb3
          have hd3 := Bk.grown hd hg3 (by intro e; injection e with e; exact hne e)
          have hB3 := hB.grown hg3 (by omega) (HROW.out _ (Nat.le_refl _))
          have hs3 := hg3.size
          clear hb hd hB
          go_wp2_with fail
          refine (rtake_yes _ a0 a1 h _ _ ok (by rw [HR2.out]; exact f0) _ hd3).mono ?_
          rintro e w4 ⟨rfl, hd4, hg4⟩
          rw [HR2.out] at hd4
          have hb4 := Bk.grown hb3 hg4 (by intro e; injection e with e; exact hne e.symm)
          have hB4 := hB3.grown hg4 (by omega) (HROW.out _ hge)
          clear hb3 hd3 hB3
          go_wp2
          go_roundw
          case rel => exact ⟨k + 1, _, c + 1, H - 1, x', by omega, by go_num, rfl, by go_num, by omega, by omega, by omega, by omega, by omega, by omega, X', by omega, by omega, hx2, hb4, hd4, hB4⟩
          case measure => simp [intOf]; omega
        · go_wp2_with fail
          refine (take_no _ a0 a1 h _ _ ok HR2.out _ hb).mono ?_
          rintro e w3 ⟨rfl, hb3, hg3⟩
          have hd3 := Bk.grown hd hg3 (by intro e; injection e with e; exact hne e)
          have hB3 := hB.grown hg3 (by omega) (HROW.out _ (Nat.le_refl _))
          have hs3 := hg3.size
          clear hb hd hB
          go_wp2_with fail
          refine (rtake_no _ a0 a1 h _ _ ok HR2.out _ hd3).mono ?_
          rintro e w4 ⟨rfl, hd4, hg4⟩
          have hb4 := Bk.grown hb3 hg4 (by intro e; injection e with e; exact hne e.symm)
          have hB4 := hB3.grown hg4 (by omega) (HROW.out _ hge)
          clear hb3 hd3 hB3
          go_wp2
          go_roundw
          case rel => exact ⟨k + 1, _, c, 0, x', by omega, by go_num, rfl, rfl, by omega, by omega, by omega, by omega, by omega, by omega, X', by omega, by omega, hx2, hb4, hd4, hB4⟩
          case measure => simp [intOf]; omega
    · have q3 : t.tdiv a1 = x := by rw [Int.tdiv_eq_ediv_of_nonneg t0]; exact X.out
      have z2 : ¬ a1 = 0 := by omega
      have z3 : (a1 == 0) = false := by simp; omega
      have z4 : c ≤ a0 + x := by omega
      go_wp2_with (go_at_call 17; refine (known_any _).mono ?_; rintro e w' ⟨rfl, hB5⟩)
      go_ret
      exact ⟨rfl, hB.trans (hB5.mono (Nat.le_of_lt hb.lt))⟩

/-! ### the row -/
set_option maxRecDepth 100000 in
theorem lifted (os : Os) (started : os.Started) (H : Type) (enc : TypeId × Value → H) :
    ReturnsInHanded {} Try.checked os 6 .any (Rows.iCMPBucketsSpec.pre6 enc Try.prog Try.f6 Rows.iCMPBucketsRow.domain false) (Rows.iCMPBucketsSpec.post enc Try.prog Try.f6 false true false false) := by
  refine returnsInHanded_of_change_sized (C := Try.checked) own started (by kernel_rfl) Try.func6
    (ChangeSpec.witness6 (enc := enc) (C := Try.checked) false ⟨#[], #[.int .i64 0, .int .i64 0, .slice none 0 0], []⟩ 8 (by kernel_rfl) (by kernel_rfl) (by kernel_rfl) (by kernel_rfl)) ?_
  intro W base args ds gs before hval0 hW hcnd hsz0 _
  have hval : ∀ (j : Nat) t v, Try.f6.params[j]? = some t → args[j]? = some v → Value.okWide Try.prog W .any base t v := hval0
  have hsz : (DataW.weightsEach Try.prog (Try.f6.params.toList ++ Rows.iCMPBucketsSpec.plain.varTypes Try.prog) (ds ++ gs)).all (· ≤ reachBytes) = true := hsz0
  clear hsz0
  have hW' := hW
  obtain ⟨p, q, hA0, hV, rfl, hfz, hnd⟩ := hW
  have hA : DataW.TrodAll enc Try.prog W 0 (fun _ => true) true Try.f6.params.toList args.toList ds p := hA0
  rw [Try.params6] at hA hval hsz
  obtain ⟨v0, vs0, d0, ds0, p0, q0, hargs, rfl, rfl, h0, r0⟩ := trodAll_cons hA
  obtain ⟨v1, vs1, d1, ds1, p1, q1, rfl, rfl, rfl, h1, r1⟩ := trodAll_cons r0
  obtain ⟨v2, vs2, d2, ds2, p2, q2, rfl, rfl, rfl, h2, r2⟩ := trodAll_cons r1
  obtain ⟨rfl, rfl, rfl⟩ := trodAll_nil r2
  obtain rfl : args = #[v0, v1, v2] := by cases args; simp_all
  obtain ⟨rfl, rfl⟩ := trodVars_none hV
  obtain ⟨a0, rfl, rfl, rfl, w0⟩ := open_int Try.underlying3 (hval 0 3 v0 rfl rfl) h0
  obtain ⟨a1, rfl, rfl, rfl, w1⟩ := open_int Try.underlying3 (hval 1 3 v1 rfl rfl) h1
  obtain ⟨a2, len2, cap2, rfl⟩ := okWide_slice Try.underlying44 (hval 2 44 v2 rfl rfl)
  have k2 := h2
  have lt2 : ∀ x ∈ p2, x.block < W.heap.size := by obtain ⟨m, hm⟩ := k2; exact DataW.trod_lt m _ _ _ hm
  obtain ⟨z2, w2⟩ : ∃ zs, IsRow .i64 W a2 len2 cap2 zs ∧ cap2 * 8 ≤ 140737488351232 := by
    obtain ⟨fuel, hf⟩ := h2
    rcases open_ints Try.underlying44 Try.underlying3 (by kernel_rfl) hf with ⟨hcs, _⟩ | ⟨x, l, c, zs, hcs, _, hl, hm, hz, hx, hcell, hwz⟩
    · simp [Value.cells] at hcs
      obtain ⟨rfl, rfl, rfl⟩ := hcs
      exact ⟨[], .inl ⟨rfl, rfl, rfl, rfl⟩, by omega⟩
    · simp [Value.cells] at hcs
      obtain ⟨rfl, rfl, rfl⟩ := hcs
      simp only [Prod.mk.injEq] at hx
      obtain ⟨rfl, rfl⟩ := hx
      simp only [if_true] at hz
      have hm2 := sized_slice hsz (j := 2) (t := 44) (e := 3) rfl rfl Try.underlying44
      rw [show Try.prog.bytesOf 3 = 8 from by kernel_rfl] at hm2
      simp only [lits, List.length_map, List.length_take, List.length_drop, reachBytes] at hm2
      exact ⟨zs, .inr ⟨_, rfl, hl, hm, hz, hcell, hwz⟩, by omega⟩
  clear hA0 hval0
  refine (walk a0 a1 a2 len2 cap2 z2 W w0 w1 w2).mono fun e W' ⟨he, bel⟩ => ?_
  subst he
  exact ⟨_, rfl, _, _, _, [], _, [], hW', trodAll_mk1 (shut_bool Try.underlying4 _), (trodAll_cons_mk (shut_int Try.underlying3 w0) (trodAll_cons_mk (shut_int Try.underlying3 w1) (trodAll_cons_mk (Below.trod laidOut (by kernel_rfl) (of_decide_eq_true (by kernel_rfl)) k2 bel lt2) trodAll_mk0))), rfl, bel.frame _, fun h => by cases h⟩

theorem over : Rows.iCMPBucketsRow.holds Try.pinned (OpenSpec.ofChange Rows.iCMPBucketsSpec) :=
  OpenClaim.holds_of_wide 6 Try.f6 rfl rfl rfl rfl rfl rfl rfl ⟨rfl, rfl, rfl, rfl, rfl⟩ rfl rfl rfl rfl rfl (by kernel_rfl) Try.func6 (by kernel_rfl)
    (of_decide_eq_true (by kernel_rfl)) (by unfold Func.isWrapper; first | (rw [if_pos (by decide +kernel)]; kernel_rfl) | (rw [if_neg (by decide +kernel)]; exact ⟨rfl, rfl⟩))
    (fun os started H enc _ => lifted os started H enc)

theorem proved : Rows.ICMPBucketsSaid := over
#print axioms proved
end Go.Proofs.Ytlnodkfngomlmaa.iCMPBuckets
