/- Proved: the sum does not hang on the order of words. Conditions: none, for every input. -/
import Derived.Test.YtnjleligdeobeaaRows
import Derived.WalkKit
import Derived.ProofKit
import Derived.OpenShut
import Derived.ShutString
import Derived.ChangeOld
import Derived.Below
import Derived.SizedLaws
import Derived.Test.YtnjleligdeobeaaIn
import Derived.Test.YtnjleligdeobeaaMem
namespace Go.Proofs.Ytnjleligdeobeaa.octetOrder
open Go.ChangeShapes Go.WideShapes Go.ChangeAt Go.RowKit
open Go.ChangeMaps (open_string shut_string)
set_option linter.unusedVariables false

theorem own : ownKnob Try.prog.godebug = none := by kernel_rfl
theorem laidOut : laidOutB Try.prog = true := by kernel_rfl

/-! ### the walk -/
theorem walk (a0 : Option Addr) (len0 cap0 : Nat) (z0 : List Int) (a1 : Option Addr) (len1 cap1 : Nat) (z1 : List Int) (w : World) (w0 : IsRow .u8 w a0 len0 cap0 z0) (w1 : IsRow .u8 w a1 len1 cap1 z1) (m0 : cap0 ≤ 140737488351232) (m1 : cap1 ≤ 140737488351232) :
    Calls Try.prog 7 #[.slice a0 len0 cap0, .slice a1 len1 cap1] w fun e w' => e = .returned (.bool true) ∧ Below w.heap.size w w' := by
  obtain ⟨la, hra, hba, hna, _⟩ := w0.rb
  obtain ⟨lb, hrb, hbb, hnb, _⟩ := w1.rb
  have Hna := Lib.hid hna
  have Hnb := Lib.hid hnb
  clear w0 w1 hna hnb
  rcases (by omega : 4000 < len0 + len1 ∨ len0 + len1 ≤ 4000) with c1 | c1
  · go_enter Try.func7, Try.ntmps7
    go_wp2
    go_ret
    exact ⟨rfl, Below.refl _ _⟩
  rcases (by omega : (len0 : Int) % 2 = 1 ∨ (len0 : Int) % 2 = 0) with c2 | c2
  · go_enter Try.func7, Try.ntmps7
    go_wp2
    go_ret
    exact ⟨rfl, Below.refl _ _⟩
  rcases (by omega : (len1 : Int) % 2 = 1 ∨ (len1 : Int) % 2 = 0) with c3 | c3
  · go_enter Try.func7, Try.ntmps7
    go_wp2
    go_ret
    exact ⟨rfl, Below.refl _ _⟩
  go_enter Try.func7, Try.ntmps7
  go_wp2_with (first
    | (at_builtin; refine ap8_new rfl (.tmp 26) (.tmp 27) rfl rfl rfl hra (Nat.le_refl _) Hna.out (by omega) ?_; intro A1 c1 w1 hO1 hB1 hz1 hc1)
    | (at_builtin; refine ap8 rfl (.tmp 28) (.tmp 29) rfl w.heap.size rfl hO1 rfl (Rw.below hrb hB1) Hnb.out (by omega) (by omega) ?_; intro A2 c2 w2 hO2 hB2 hg2 hA2 hz2 hc2))
  have hB := hB1.trans hB2
  obtain ⟨ab, hab⟩ : ∃ ab, la ++ lb = ab := ⟨_, rfl⟩
  rw [hab] at hO2
  have Hab := Lib.hid hab
  have hbs := hba.append hbb
  rw [hab] at hbs
  clear hab
  go_loopw [6, 7] (fun t i wr => ∃ (j : Nat) (A3 : Option Addr) (n3 c3 : Nat), j ≤ len0 + len1 ∧ Hid (j % 2 = 0 ∧ n3 + j = len0 + len1) ∧ n3 ≤ 4000 ∧ i = .int .i64 ((j : Int) - 2) ∧ t = .slice A3 n3 c3 ∧ OB 5 wr w2.heap.size A3 n3 c3 (wrev (ab.drop j)) ∧ Below w2.heap.size w2 wr) (fun _ i _ => (intOf i + 2).toNat)
  case atStart =>
    refine ⟨len0 + len1, none, 0, 0, Nat.le_refl _, ⟨by omega, by omega⟩, by omega, by go_num, rfl, ?_, Below.refl _ _⟩
    rw [List.drop_of_length_le (by rw [hO2.length]; omega)]
    exact Ow.none_ _ _ _
  case round =>
    obtain ⟨j, A3, n3, c3, hj, HJ, hn3, rfl, rfl, hO3, hB3⟩ := hrel
    have hl := hO2.length
    have hJ := HJ.out
    rcases (by omega : j = 0 ∨ 2 ≤ j) with c4 | c4
    · subst c4
      obtain rfl : n3 = len0 + len1 := by omega
      have HS : Hid (partC (lb ++ la) = partC ab ∧ partC (wrev (ab.drop 0)) = partC ab) := by
        have e1 := wsum_append la lb (by rw [Hna.out]; omega)
        have e2 := wsum_append lb la (by rw [Hnb.out]; omega)
        rw [Hab.out] at e1
        refine ⟨by unfold partC; rw [e1, e2, Int.add_comm], ?_⟩
        rw [List.drop_zero]; unfold partC
        rw [wsum_wrev ab (by rw [hl]; omega)]
      have hbt : Bs (wrev (ab.drop 0)) := by
        rw [List.drop_zero]
        exact wrev_bs ab hbs
      have hpab := partC_bd ab hbs
      have hrab := Rw.below hO2.rb hB3
      have hBr := hB.trans (hB3.mono hB.size)
      have hbab := hbb.append hba
      clear hl hJ
      go_wp2_with fail
      refine (sum_any _ _ _ _ ab hO2.length (by omega) hbs _ hrab).mono ?_
      rintro e w' ⟨rfl, rfl⟩
      go_wp2_with (first
        | (at_builtin; refine ap8_new rfl (.tmp 52) (.tmp 53) rfl rfl rfl (Rw.below hrb hBr) hBr.size Hnb.out (by omega) ?_; intro A5 c5 w5 hO5 hB5 hz5 hc5)
        | (at_builtin; refine ap8 rfl (.tmp 54) (.tmp 55) rfl wr.heap.size rfl hO5 rfl (Rw.below hra (hBr.trans (hB5.mono hBr.size))) Hna.out (by omega) (by omega) ?_; intro A6 c6 w6 hO6 hB6 hg6 hA6 hz6 hc6))
      have hB56 := hB5.trans hB6
      have hs1 := HS.out.1
      have hs2 := HS.out.2
      refine (sum_any _ _ _ _ (lb ++ la) hO6.length (by omega) hbab _ hO6.rb).mono ?_
      rintro e w' ⟨rfl, rfl⟩
      rw [hs1]
      clear hs1
      go_wp2_with fail
      refine (sum_any _ _ _ _ ab hO2.length (by omega) hbs _ (Rw.below hrab (hB56.mono hB3.size))).mono ?_
      rintro e w' ⟨rfl, rfl⟩
      go_wp2_with fail
      refine (sum_any _ _ _ _ _ hO3.length (by omega) hbt _ (Rw.below hO3.rb hB56)).mono ?_
      rintro e w' ⟨rfl, rfl⟩
      rw [hs2]
      clear hs2
      go_wp2_with (first
        | (go_at_call 18; refine (known_any _).mono ?_; rintro e w' ⟨rfl, hB7⟩))
      go_ret
      exact ⟨rfl, (hBr.trans (hB56.mono hBr.size)).trans (hB7.mono (by have := hB56.size; have := hBr.size; omega))⟩
    · obtain ⟨m, hm⟩ : ∃ m, j = m + 2 := ⟨j - 2, by omega⟩
      subst hm
      obtain ⟨b, off, rfl, _, hx⟩ := (Rw.below hO2.rb hB3).at_ (by8_get ab m (by omega))
      obtain ⟨b', off', e1, _, hy⟩ := (Rw.below hO2.rb hB3).at_ (by8_get ab (m + 1) (by omega))
      injection e1 with e1
      injection e1 with e1 e2
      subst e1
      subst e2
      have hbx := hbs.at_ m
      have hby := hbs.at_ (m + 1)
      have hz : w2.heap.size ≤ wr.heap.size := hB3.size
      have hj' : m + 2 ≤ len0 + len1 := hj
      have HN : Hid (n3 + (m + 2) = len0 + len1) := hJ.2
      have HD : Hid (wrev (ab.drop m) = wrev (ab.drop (m + 2)) ++ [ab[m]?.getD 0, ab[m + 1]?.getD 0]) := by
        show _ = _
        rw [List.drop_eq_getElem_cons (show m < ab.length by omega), List.drop_eq_getElem_cons (show m + 1 < ab.length by omega)]
        simp only [wrev, List.getElem?_eq_getElem (show m < ab.length by omega), List.getElem?_eq_getElem (show m + 1 < ab.length by omega), Option.getD_some]
      have r1 : (m : Int) < (len0 : Int) + len1 := by omega
      have r2 : IntKind.i64.wrap ((m : Int) + 1) = (m : Int) + 1 := IntWalk.i64_in _ (by omega)
      have r3 : (m : Int) + 1 < (len0 : Int) + len1 := by omega
      have r4 : (0 : Int) ≤ (m : Int) + 1 := by omega
      have r5 : ((m : Int) + 1).toNat = m + 1 := by omega
      clear hJ hl hj
      go_wp2
      go_region_law (first
        | (refine st8_litd rfl (.tmp 38) (.tmp 48) rfl w2.heap.size rfl hO3 [ab[m]?.getD 0, ab[m + 1]?.getD 0] (by rfl) rfl (by rfl) (by omega) hz ?_; intro A4 c4 w4 hO4 hB4 hg4 hA4 hz4 hc4))
      all_goals
        clear r1 r2 r3 r4 r5
        rw [← HD.out] at hO4
        have hn4 : n3 + 2 ≤ 4000 := by have := HN.out; omega
        go_wp2
        go_roundw
        case rel => exact ⟨m, A4, n3 + 2, c4, by omega, ⟨by have := HJ.out; omega, by have := HN.out; omega⟩, hn4, by go_num, rfl, hO4, hB3.trans hB4⟩
        case measure => simp [intOf]; omega

/-! ### the row -/
set_option maxRecDepth 100000 in
theorem lifted (os : Os) (started : os.Started) (H : Type) (enc : TypeId × Value → H) :
    ReturnsInHanded {} Try.checked os 7 .any (Rows.octetOrderSpec.pre6 enc Try.prog Try.f7 Rows.octetOrderRow.domain false) (Rows.octetOrderSpec.post enc Try.prog Try.f7 false true false false) := by
  refine returnsInHanded_of_change_sized (C := Try.checked) own started (by kernel_rfl) Try.func7
    (ChangeSpec.witness6 (enc := enc) (C := Try.checked) false ⟨#[], #[.slice none 0 0, .slice none 0 0], []⟩ 8 (by kernel_rfl) (by kernel_rfl) (by kernel_rfl) (by kernel_rfl)) ?_
  intro W base args ds gs before hval0 hW hcnd hsz0 _
  have hval : ∀ (j : Nat) t v, Try.f7.params[j]? = some t → args[j]? = some v → Value.okWide Try.prog W .any base t v := hval0
  have hsz : (DataW.weightsEach Try.prog (Try.f7.params.toList ++ Rows.octetOrderSpec.plain.varTypes Try.prog) (ds ++ gs)).all (· ≤ reachBytes) = true := hsz0
  clear hsz0
  have hW' := hW
  obtain ⟨p, q, hA0, hV, rfl, hfz, hnd⟩ := hW
  have hA : DataW.TrodAll enc Try.prog W 0 (fun _ => true) true Try.f7.params.toList args.toList ds p := hA0
  rw [Try.params7] at hA hval hsz
  obtain ⟨v0, vs0, d0, ds0, p0, q0, hargs, rfl, rfl, h0, r0⟩ := trodAll_cons hA
  obtain ⟨v1, vs1, d1, ds1, p1, q1, rfl, rfl, rfl, h1, r1⟩ := trodAll_cons r0
  obtain ⟨rfl, rfl, rfl⟩ := trodAll_nil r1
  obtain rfl : args = #[v0, v1] := by cases args; simp_all
  obtain ⟨rfl, rfl⟩ := trodVars_none hV
  obtain ⟨a0, len0, cap0, rfl⟩ := okWide_slice Try.underlying22 (hval 0 22 v0 rfl rfl)
  have k0 := h0
  have lt0 : ∀ x ∈ p0, x.block < W.heap.size := by obtain ⟨m, hm⟩ := k0; exact DataW.trod_lt m _ _ _ hm
  obtain ⟨z0, w0, m0⟩ : ∃ zs, IsRow .u8 W a0 len0 cap0 zs ∧ cap0 ≤ 140737488351232 := by
    obtain ⟨fuel, hf⟩ := h0
    rcases open_ints Try.underlying22 Try.underlying5 (by kernel_rfl) hf with ⟨hcs, _⟩ | ⟨x, l, c, zs, hcs, _, hl, hm, hz, hx, hcell, hwz⟩
    · simp [Value.cells] at hcs
      obtain ⟨rfl, rfl, rfl⟩ := hcs
      exact ⟨[], .inl ⟨rfl, rfl, rfl, rfl⟩, by omega⟩
    · simp [Value.cells] at hcs
      obtain ⟨rfl, rfl, rfl⟩ := hcs
      simp only [Prod.mk.injEq] at hx
      obtain ⟨rfl, rfl⟩ := hx
      simp only [if_true] at hz
      have hm2 := sized_slice hsz (j := 0) (t := 22) (e := 5) rfl rfl Try.underlying22
      rw [show Try.prog.bytesOf 5 = 1 from by kernel_rfl] at hm2
      simp only [lits, List.length_map, List.length_take, List.length_drop, reachBytes] at hm2
      exact ⟨zs, .inr ⟨_, rfl, hl, hm, hz, hcell, hwz⟩, by omega⟩
  obtain ⟨a1, len1, cap1, rfl⟩ := okWide_slice Try.underlying22 (hval 1 22 v1 rfl rfl)
  have k1 := h1
  have lt1 : ∀ x ∈ p1, x.block < W.heap.size := by obtain ⟨m, hm⟩ := k1; exact DataW.trod_lt m _ _ _ hm
  obtain ⟨z1, w1, m1⟩ : ∃ zs, IsRow .u8 W a1 len1 cap1 zs ∧ cap1 ≤ 140737488351232 := by
    obtain ⟨fuel, hf⟩ := h1
    rcases open_ints Try.underlying22 Try.underlying5 (by kernel_rfl) hf with ⟨hcs, _⟩ | ⟨x, l, c, zs, hcs, _, hl, hm, hz, hx, hcell, hwz⟩
    · simp [Value.cells] at hcs
      obtain ⟨rfl, rfl, rfl⟩ := hcs
      exact ⟨[], .inl ⟨rfl, rfl, rfl, rfl⟩, by omega⟩
    · simp [Value.cells] at hcs
      obtain ⟨rfl, rfl, rfl⟩ := hcs
      simp only [Prod.mk.injEq] at hx
      obtain ⟨rfl, rfl⟩ := hx
      simp only [if_true] at hz
      have hm2 := sized_slice hsz (j := 1) (t := 22) (e := 5) rfl rfl Try.underlying22
      rw [show Try.prog.bytesOf 5 = 1 from by kernel_rfl] at hm2
      simp only [lits, List.length_map, List.length_take, List.length_drop, reachBytes] at hm2
      exact ⟨zs, .inr ⟨_, rfl, hl, hm, hz, hcell, hwz⟩, by omega⟩
  clear hA0 hval0
  refine (walk a0 len0 cap0 z0 a1 len1 cap1 z1 W w0 w1 m0 m1).mono fun e W' ⟨he, bel⟩ => ?_
  subst he
  exact ⟨_, rfl, _, _, _, [], _, [], hW', trodAll_mk1 (shut_bool Try.underlying4 _), (trodAll_cons_mk (Below.trod laidOut (by kernel_rfl) (of_decide_eq_true (by kernel_rfl)) k0 bel lt0) (trodAll_cons_mk (Below.trod laidOut (by kernel_rfl) (of_decide_eq_true (by kernel_rfl)) k1 bel lt1) trodAll_mk0)), rfl, bel.frame _, fun h => by cases h⟩

theorem over : Rows.octetOrderRow.holds Try.pinned (OpenSpec.ofChange Rows.octetOrderSpec) :=
  OpenClaim.holds_of_wide 7 Try.f7 rfl rfl rfl rfl rfl rfl rfl ⟨rfl, rfl, rfl, rfl, rfl⟩ rfl rfl rfl rfl rfl (by kernel_rfl) Try.func7 (by kernel_rfl)
    (of_decide_eq_true (by kernel_rfl)) (by unfold Func.isWrapper; first | (rw [if_pos (by decide +kernel)]; kernel_rfl) | (rw [if_neg (by decide +kernel)]; exact ⟨rfl, rfl⟩))
    (fun os started H enc _ => lifted os started H enc)

theorem proved : Rows.OctetOrderSaid := over
#print axioms proved
end Go.Proofs.Ytnjleligdeobeaa.octetOrder
