/- Proved: octet.Join joins the sums of two rows to the sum of both, if the first is of even length, and answers as the reference does. Conditions: none, for every input. -/
import Derived.Test.YtnjleligdeobeaaRows
import Derived.WalkKit
import Derived.ProofKit
import Derived.OpenShut
import Derived.ShutString
import Derived.ChangeOld
import Derived.Below
import Derived.SizedLaws
import Derived.Test.YtnjleligdeobeaaIn
import Derived.Test.YtnjleligdeobeaaMem
namespace Go.Proofs.Ytnjleligdeobeaa.octetJoins
open Go.ChangeShapes Go.WideShapes Go.ChangeAt Go.RowKit
open Go.ChangeMaps (open_string shut_string)
set_option linter.unusedVariables false

theorem own : ownKnob Try.prog.godebug = none := by kernel_rfl
theorem laidOut : laidOutB Try.prog = true := by kernel_rfl

/-! ### the walk -/
theorem walk (a0 : Option Addr) (len0 cap0 : Nat) (z0 : List Int) (a1 : Option Addr) (len1 cap1 : Nat) (z1 : List Int) (a2 : Int) (a3 : Int) (w : World) (w0 : IsRow .u8 w a0 len0 cap0 z0) (w1 : IsRow .u8 w a1 len1 cap1 z1) (w2 : (Lit.int .i64 a2).wf = true) (w3 : (Lit.int .i64 a3).wf = true) (m0 : cap0 ≤ 140737488351232) (m1 : cap1 ≤ 140737488351232) :
    Calls Try.prog 4 #[.slice a0 len0 cap0, .slice a1 len1 cap1, .int .i64 a2, .int .i64 a3] w fun e w' => e = .returned (.bool true) ∧ Below w.heap.size w w' := by
  obtain ⟨la, hra, hba, hna, _⟩ := w0.rb
  obtain ⟨lb, hrb, hbb, hnb, _⟩ := w1.rb
  have Hna := Lib.hid hna
  have Hnb := Lib.hid hnb
  clear w0 w1 hna hnb
  rcases (by omega : 4000 < len0 + len1 ∨ len0 + len1 ≤ 4000) with c1 | c1
  · go_enter Try.func4, Try.ntmps4
    go_wp2
    go_ret
    exact ⟨rfl, Below.refl _ _⟩
  have j1 := partC_bd lb hbb
  have i1 := partC_bd la hba
  rcases (by omega : (len0 : Int) % 2 = 0 ∨ (len0 : Int) % 2 = 1) with c2 | c2
  · have HJ := Lib.hid (partC_join la lb hba hbb (by rw [Hna.out]; omega))
    go_enter Try.func4, Try.ntmps4
    go_wp2_with (first
      | (go_at_call 19; refine (join_any _ _ _).mono ?_; rintro e w' ⟨rfl, rfl⟩)
      | (go_at_call 20; refine (rjoin_any _ _ _).mono ?_; rintro e w' ⟨rfl, rfl⟩)
      | (at_builtin; refine ap8_new rfl (.tmp 31) (.tmp 32) rfl rfl rfl hra (Nat.le_refl _) Hna.out (by omega) ?_; intro A1 c1 w1 hO1 hB1 hz1 hc1)
      | (at_builtin; refine ap8 rfl (.tmp 33) (.tmp 34) rfl w.heap.size rfl hO1 rfl (Rw.below hrb hB1) Hnb.out (by omega) (by omega) ?_; intro A2 c2 w2 hO2 hB2 hg2 hA2 hz2 hc2))
    have hB := hB1.trans hB2
    refine (part_any _ _ _ _ (la ++ lb) hO2.length (by omega) (hba.append hbb) _ hO2.rb).mono ?_
    rintro e w' ⟨rfl, rfl⟩
    go_wp2_with fail
    refine (part_any _ _ _ _ la Hna.out (by omega) hba _ (Rw.below hra hB)).mono ?_
    rintro e w' ⟨rfl, rfl⟩
    go_wp2_with fail
    refine (part_any _ _ _ _ lb Hnb.out (by omega) hbb _ (Rw.below hrb hB)).mono ?_
    rintro e w' ⟨rfl, rfl⟩
    have hj := HJ.out
    go_wp2_with (first
      | (go_at_call 19; refine (join_any _ _ _).mono ?_; rintro e w' ⟨rfl, rfl⟩)
      | (go_at_call 18; refine (known_any _).mono ?_; rintro e w' ⟨rfl, hB4⟩))
    go_ret
    exact ⟨rfl, hB.trans (hB4.mono hB.size)⟩
  · have hb0 : Bs (la ++ [0]) := hba.append (by unfold Bs; decide)
    have k1 := partC_bd (la ++ [0]) hb0
    have HJ := Lib.hid (partC_join (la ++ [0]) lb hb0 hbb (by rw [List.length_append, Hna.out]; simp; omega))
    go_enter Try.func4, Try.ntmps4
    go_wp2_with (first
      | (go_at_call 19; refine (join_any _ _ _).mono ?_; rintro e w' ⟨rfl, rfl⟩)
      | (go_at_call 20; refine (rjoin_any _ _ _).mono ?_; rintro e w' ⟨rfl, rfl⟩)
      | (at_builtin; refine ap8_new rfl (.tmp 26) (.tmp 27) rfl rfl rfl hra (Nat.le_refl _) Hna.out (by omega) ?_; intro A1 c1 w1 hO1 hB1 hz1 hc1)
      | (at_builtin; refine ap8_one rfl (.tmp 28) (.tmp 29) rfl w.heap.size rfl hO1 rfl (by omega) (by omega) ?_; intro A2 c2 w2 hO2 hB2 hg2 hA2 hz2 hc2)
      | (at_builtin; refine ap8_new rfl (.tmp 31) (.tmp 32) rfl rfl rfl hO2.rb (Nat.le_refl _) hO2.length (by omega) ?_; intro A3 c3 w3 hO3 hB3 hz3 hc3)
      | (at_builtin; refine ap8 rfl (.tmp 33) (.tmp 34) rfl w2.heap.size rfl hO3 rfl (Rw.below hrb ((hB1.trans hB2).trans (hB3.mono (by omega)))) Hnb.out (by omega) (by omega) ?_; intro A4 c4 w4 hO4 hB4 hg4 hA4 hz4 hc4))
    have hB34 := hB3.trans hB4
    have hB := (hB1.trans hB2).trans (hB34.mono (by omega))
    refine (part_any _ _ _ _ (la ++ [0] ++ lb) hO4.length (by omega) (hb0.append hbb) _ hO4.rb).mono ?_
    rintro e w' ⟨rfl, rfl⟩
    go_wp2_with fail
    refine (part_any _ _ _ _ (la ++ [0]) hO2.length (by omega) hb0 _ (Rw.below hO2.rb hB34)).mono ?_
    rintro e w' ⟨rfl, rfl⟩
    go_wp2_with fail
    refine (part_any _ _ _ _ lb Hnb.out (by omega) hbb _ (Rw.below hrb hB)).mono ?_
    rintro e w' ⟨rfl, rfl⟩
    have hj := HJ.out
    simp only [List.append_assoc, List.cons_append, List.nil_append] at hj
    go_wp2_with (first
      | (go_at_call 19; refine (join_any _ _ _).mono ?_; rintro e w' ⟨rfl, rfl⟩)
      | (go_at_call 18; refine (known_any _).mono ?_; rintro e w' ⟨rfl, hB5⟩))
    go_ret
    exact ⟨rfl, hB.trans (hB5.mono hB.size)⟩

/-! ### the row -/
set_option maxRecDepth 100000 in
theorem lifted (os : Os) (started : os.Started) (H : Type) (enc : TypeId × Value → H) :
    ReturnsInHanded {} Try.checked os 4 .any (Rows.octetJoinsSpec.pre6 enc Try.prog Try.f4 Rows.octetJoinsRow.domain false) (Rows.octetJoinsSpec.post enc Try.prog Try.f4 false true false false) := by
  refine returnsInHanded_of_change_sized (C := Try.checked) own started (by kernel_rfl) Try.func4
    (ChangeSpec.witness6 (enc := enc) (C := Try.checked) false ⟨#[], #[.slice none 0 0, .slice none 0 0, .int .i64 0, .int .i64 0], []⟩ 8 (by kernel_rfl) (by kernel_rfl) (by kernel_rfl) (by kernel_rfl)) ?_
  intro W base args ds gs before hval0 hW hcnd hsz0 _
  have hval : ∀ (j : Nat) t v, Try.f4.params[j]? = some t → args[j]? = some v → Value.okWide Try.prog W .any base t v := hval0
  have hsz : (DataW.weightsEach Try.prog (Try.f4.params.toList ++ Rows.octetJoinsSpec.plain.varTypes Try.prog) (ds ++ gs)).all (· ≤ reachBytes) = true := hsz0
  clear hsz0
  have hW' := hW
  obtain ⟨p, q, hA0, hV, rfl, hfz, hnd⟩ := hW
  have hA : DataW.TrodAll enc Try.prog W 0 (fun _ => true) true Try.f4.params.toList args.toList ds p := hA0
  rw [Try.params4] at hA hval hsz
  obtain ⟨v0, vs0, d0, ds0, p0, q0, hargs, rfl, rfl, h0, r0⟩ := trodAll_cons hA
  obtain ⟨v1, vs1, d1, ds1, p1, q1, rfl, rfl, rfl, h1, r1⟩ := trodAll_cons r0
  obtain ⟨v2, vs2, d2, ds2, p2, q2, rfl, rfl, rfl, h2, r2⟩ := trodAll_cons r1
  obtain ⟨v3, vs3, d3, ds3, p3, q3, rfl, rfl, rfl, h3, r3⟩ := trodAll_cons r2
  obtain ⟨rfl, rfl, rfl⟩ := trodAll_nil r3
  obtain rfl : args = #[v0, v1, v2, v3] := by cases args; simp_all
  obtain ⟨rfl, rfl⟩ := trodVars_none hV
  obtain ⟨a0, len0, cap0, rfl⟩ := okWide_slice Try.underlying22 (hval 0 22 v0 rfl rfl)
  have k0 := h0
  have lt0 : ∀ x ∈ p0, x.block < W.heap.size := by obtain ⟨m, hm⟩ := k0; exact DataW.trod_lt m _ _ _ hm
  obtain ⟨z0, w0, m0⟩ : ∃ zs, IsRow .u8 W a0 len0 cap0 zs ∧ cap0 ≤ 140737488351232 := by
    obtain ⟨fuel, hf⟩ := h0
    rcases open_ints Try.underlying22 Try.underlying5 (by kernel_rfl) hf with ⟨hcs, _⟩ | ⟨x, l, c, zs, hcs, _, hl, hm, hz, hx, hcell, hwz⟩
    · simp [Value.cells] at hcs
      obtain ⟨rfl, rfl, rfl⟩ := hcs
      exact ⟨[], .inl ⟨rfl, rfl, rfl, rfl⟩, by omega⟩
    · simp [Value.cells] at hcs
      obtain ⟨rfl, rfl, rfl⟩ := hcs
      simp only [Prod.mk.injEq] at hx
      obtain ⟨rfl, rfl⟩ := hx
      simp only [if_true] at hz
      have hm2 := sized_slice hsz (j := 0) (t := 22) (e := 5) rfl rfl Try.underlying22
      rw [show Try.prog.bytesOf 5 = 1 from by kernel_rfl] at hm2
      simp only [lits, List.length_map, List.length_take, List.length_drop, reachBytes] at hm2
      exact ⟨zs, .inr ⟨_, rfl, hl, hm, hz, hcell, hwz⟩, by omega⟩
  obtain ⟨a1, len1, cap1, rfl⟩ := okWide_slice Try.underlying22 (hval 1 22 v1 rfl rfl)
  have k1 := h1
  have lt1 : ∀ x ∈ p1, x.block < W.heap.size := by obtain ⟨m, hm⟩ := k1; exact DataW.trod_lt m _ _ _ hm
  obtain ⟨z1, w1, m1⟩ : ∃ zs, IsRow .u8 W a1 len1 cap1 zs ∧ cap1 ≤ 140737488351232 := by
    obtain ⟨fuel, hf⟩ := h1
    rcases open_ints Try.underlying22 Try.underlying5 (by kernel_rfl) hf with ⟨hcs, _⟩ | ⟨x, l, c, zs, hcs, _, hl, hm, hz, hx, hcell, hwz⟩
    · simp [Value.cells] at hcs
      obtain ⟨rfl, rfl, rfl⟩ := hcs
      exact ⟨[], .inl ⟨rfl, rfl, rfl, rfl⟩, by omega⟩
    · simp [Value.cells] at hcs
      obtain ⟨rfl, rfl, rfl⟩ := hcs
      simp only [Prod.mk.injEq] at hx
      obtain ⟨rfl, rfl⟩ := hx
      simp only [if_true] at hz
      have hm2 := sized_slice hsz (j := 1) (t := 22) (e := 5) rfl rfl Try.underlying22
      rw [show Try.prog.bytesOf 5 = 1 from by kernel_rfl] at hm2
      simp only [lits, List.length_map, List.length_take, List.length_drop, reachBytes] at hm2
      exact ⟨zs, .inr ⟨_, rfl, hl, hm, hz, hcell, hwz⟩, by omega⟩
  obtain ⟨a2, rfl, rfl, rfl, w2⟩ := open_int Try.underlying3 (hval 2 3 v2 rfl rfl) h2
  obtain ⟨a3, rfl, rfl, rfl, w3⟩ := open_int Try.underlying3 (hval 3 3 v3 rfl rfl) h3
  clear hA0 hval0
  refine (walk a0 len0 cap0 z0 a1 len1 cap1 z1 a2 a3 W w0 w1 w2 w3 m0 m1).mono fun e W' ⟨he, bel⟩ => ?_
  subst he
  exact ⟨_, rfl, _, _, _, [], _, [], hW', trodAll_mk1 (shut_bool Try.underlying4 _), (trodAll_cons_mk (Below.trod laidOut (by kernel_rfl) (of_decide_eq_true (by kernel_rfl)) k0 bel lt0) (trodAll_cons_mk (Below.trod laidOut (by kernel_rfl) (of_decide_eq_true (by kernel_rfl)) k1 bel lt1) (trodAll_cons_mk (shut_int Try.underlying3 w2) (trodAll_cons_mk (shut_int Try.underlying3 w3) trodAll_mk0)))), rfl, bel.frame _, fun h => by cases h⟩

theorem over : Rows.octetJoinsRow.holds Try.pinned (OpenSpec.ofChange Rows.octetJoinsSpec) :=
  OpenClaim.holds_of_wide 4 Try.f4 rfl rfl rfl rfl rfl rfl rfl ⟨rfl, rfl, rfl, rfl, rfl⟩ rfl rfl rfl rfl rfl (by kernel_rfl) Try.func4 (by kernel_rfl)
    (of_decide_eq_true (by kernel_rfl)) (by unfold Func.isWrapper; first | (rw [if_pos (by decide +kernel)]; kernel_rfl) | (rw [if_neg (by decide +kernel)]; exact ⟨rfl, rfl⟩))
    (fun os started H enc _ => lifted os started H enc)

theorem proved : Rows.OctetJoinsSaid := over
#print axioms proved
end Go.Proofs.Ytnjleligdeobeaa.octetJoins
