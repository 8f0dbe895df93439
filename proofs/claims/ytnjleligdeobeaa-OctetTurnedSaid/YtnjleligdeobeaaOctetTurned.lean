/- Proved: one byte turned into another changes the sum of even bytes with their sum behind them. Conditions: none, for every input. -/
import Derived.Test.YtnjleligdeobeaaRows
import Derived.WalkKit
import Derived.ProofKit
import Derived.OpenShut
import Derived.ShutString
import Derived.ChangeOld
import Derived.Below
import Derived.SizedLaws
import Derived.Test.YtnjleligdeobeaaIn
import Derived.Test.YtnjleligdeobeaaMem
namespace Go.Proofs.Ytnjleligdeobeaa.octetTurned
open Go.ChangeShapes Go.WideShapes Go.ChangeAt Go.RowKit
open Go.ChangeMaps (open_string shut_string)
set_option linter.unusedVariables false

theorem own : ownKnob Try.prog.godebug = none := by kernel_rfl
theorem laidOut : laidOutB Try.prog = true := by kernel_rfl

/-! ### the walk -/
theorem walk (a0 : Option Addr) (len0 cap0 : Nat) (z0 : List Int) (a1 : Int) (a2 : Int) (w : World) (w0 : IsRow .u8 w a0 len0 cap0 z0) (w1 : (Lit.int .i64 a1).wf = true) (w2 : (Lit.int .u8 a2).wf = true) (m0 : cap0 ≤ 140737488351232) :
    Calls Try.prog 6 #[.slice a0 len0 cap0, .int .i64 a1, .int .u8 a2] w fun e w' => e = .returned (.bool true) ∧ Below w.heap.size w w' := by
  obtain ⟨l, hr, hb, hn, _⟩ := w0.rb
  have Hn := Lib.hid hn
  have hby := bounds_u8 w2
  have hat := bounds_i64 w1
  clear w0 hn w1 w2
  rcases (by omega : 4000 < len0 ∨ len0 ≤ 4000) with c1 | c1
  · go_enter Try.func6, Try.ntmps6
    go_wp2
    go_ret
    exact ⟨rfl, Below.refl _ _⟩
  rcases (by omega : (len0 : Int) % 2 = 1 ∨ (len0 : Int) % 2 = 0) with c2 | c2
  · go_enter Try.func6, Try.ntmps6
    go_wp2
    go_ret
    exact ⟨rfl, Below.refl _ _⟩
  rcases Nat.eq_zero_or_pos len0 with c3 | c3
  · subst c3
    go_enter Try.func6, Try.ntmps6
    go_wp2
    go_ret
    exact ⟨rfl, Below.refl _ _⟩
  have c3' : ((len0 : Int) == 0) = false := by rw [beq_eq_false_iff_ne]; omega
  by_cases c4 : a2 = 0
  · subst c4
    go_enter Try.func6, Try.ntmps6
    go_wp2
    go_ret
    exact ⟨rfl, Below.refl _ _⟩
  have c4' : (a2 == 0) = false := by rw [beq_eq_false_iff_ne]; exact c4
  have C4 := Lib.hid c4
  clear c4
  have j1 := partC_bd l hb
  have HJ := Lib.hid (partC_sum l hb (by rw [Hn.out]; omega))
  have hb2 : Bs [(65535 - partC l) / 256, (65535 - partC l) % 256] := by
    intro x hx
    simp only [List.mem_cons, List.not_mem_nil, or_false] at hx
    rcases hx with rfl | rfl <;> omega
  obtain ⟨r, hr0⟩ : ∃ r, a1.tmod ((len0 : Int) + 2) = r := ⟨_, rfl⟩
  have hr1 : -((len0 : Int) + 2) < r ∧ r < (len0 : Int) + 2 := by
    rw [← hr0]
    exact ⟨by have := Int.lt_tmod_of_pos a1 (b := (len0 : Int) + 2) (by omega); omega, Int.tmod_lt_of_pos a1 (by omega)⟩
  rcases (by omega : r < 0 ∨ 0 ≤ r) with c5 | c5
  · obtain ⟨k, hk⟩ : ∃ k : Nat, r + ((len0 : Int) + 2) = k := ⟨(r + ((len0 : Int) + 2)).toNat, by omega⟩
    go_enter Try.func6, Try.ntmps6
    go_wp2_with fail
    refine (sum_any _ _ _ _ l Hn.out (by omega) hb _ hr).mono ?_
    rintro e w' ⟨rfl, rfl⟩
    go_wp2_with (first
      | (at_builtin; refine ap8_new rfl (.tmp 30) (.tmp 31) rfl rfl rfl hr (Nat.le_refl _) Hn.out (by omega) ?_; intro A1 c1 w1 hO1 hB1 hz1 hc1)
      | (at_builtin; refine ap8_lit rfl (.tmp 32) (.tmp 38) rfl w.heap.size rfl hO1 [(65535 - partC l) / 256, (65535 - partC l) % 256] (by rfl) rfl (by rfl) (by omega) (by omega) ?_; intro A2 c2 w2 hO2 hB2 hg2 hA2 hz2 hc2))
    have hB := hB1.trans hB2
    have hbq := hb.append hb2
    have hq := HJ.out
    generalize l ++ [(65535 - partC l) / 256, (65535 - partC l) % 256] = l2 at hO2 hbq hq
    obtain ⟨g, rfl, hg, hc, hf⟩ := hO2.lit_at (k := k) (by omega)
    have hx := hbq.at_ k
    have hxor := xor_u8 (l2[k]?.getD 0) a2 hx.1 hx.2 hby.1 (by omega)
    have hst := hO2.store (k := k) (by omega) (bits .xor .u8 (l2[k]?.getD 0) a2)
    have hbs := hbq.set k hxor.1 hxor.2.1
    have hne := partC_set l2 k (bits .xor .u8 (l2[k]?.getD 0) a2) hbq (by rw [hO2.length]; omega) hxor.1 hxor.2.1 (hxor.2.2 C4.out) hq
    have hpb := partC_bd _ hbs
    generalize hv : bits .xor .u8 (l2[k]?.getD 0) a2 = v at hst hbs hne hpb hxor
    have ht : (65535 - partC (l2.set k v) != 0) = true := by rw [bne_iff_ne]; omega
    clear hq hx hxor hne
    go_simp
    go_wp2_with (first
      | (go_at_call 15; refine (sum_any _ _ _ _ _ hst.length (by omega) hbs _ hst.rb).mono ?_; rintro e w' ⟨rfl, rfl⟩)
      | (go_at_call 18; refine (known_any _).mono ?_; rintro e w' ⟨rfl, hB4⟩))
    go_ret
    exact ⟨rfl, (hB.setCell hg _).trans (hB4.mono (by have := hB.size; simpa [World.setCell] using this))⟩
  · obtain ⟨k, rfl⟩ := Int.eq_ofNat_of_zero_le c5
    go_enter Try.func6, Try.ntmps6
    go_wp2_with fail
    refine (sum_any _ _ _ _ l Hn.out (by omega) hb _ hr).mono ?_
    rintro e w' ⟨rfl, rfl⟩
    go_wp2_with (first
      | (at_builtin; refine ap8_new rfl (.tmp 30) (.tmp 31) rfl rfl rfl hr (Nat.le_refl _) Hn.out (by omega) ?_; intro A1 c1 w1 hO1 hB1 hz1 hc1)
      | (at_builtin; refine ap8_lit rfl (.tmp 32) (.tmp 38) rfl w.heap.size rfl hO1 [(65535 - partC l) / 256, (65535 - partC l) % 256] (by rfl) rfl (by rfl) (by omega) (by omega) ?_; intro A2 c2 w2 hO2 hB2 hg2 hA2 hz2 hc2))
    have hB := hB1.trans hB2
    have hbq := hb.append hb2
    have hq := HJ.out
    generalize l ++ [(65535 - partC l) / 256, (65535 - partC l) % 256] = l2 at hO2 hbq hq
    obtain ⟨g, rfl, hg, hc, hf⟩ := hO2.lit_at (k := k) (by omega)
    have hx := hbq.at_ k
    have hxor := xor_u8 (l2[k]?.getD 0) a2 hx.1 hx.2 hby.1 (by omega)
    have hst := hO2.store (k := k) (by omega) (bits .xor .u8 (l2[k]?.getD 0) a2)
    have hbs := hbq.set k hxor.1 hxor.2.1
    have hne := partC_set l2 k (bits .xor .u8 (l2[k]?.getD 0) a2) hbq (by rw [hO2.length]; omega) hxor.1 hxor.2.1 (hxor.2.2 C4.out) hq
    have hpb := partC_bd _ hbs
    generalize hv : bits .xor .u8 (l2[k]?.getD 0) a2 = v at hst hbs hne hpb hxor
    have ht : (65535 - partC (l2.set k v) != 0) = true := by rw [bne_iff_ne]; omega
    clear hq hx hxor hne
    go_simp
    go_wp2_with (first
      | (go_at_call 15; refine (sum_any _ _ _ _ _ hst.length (by omega) hbs _ hst.rb).mono ?_; rintro e w' ⟨rfl, rfl⟩)
      | (go_at_call 18; refine (known_any _).mono ?_; rintro e w' ⟨rfl, hB4⟩))
    go_ret
    exact ⟨rfl, (hB.setCell hg _).trans (hB4.mono (by have := hB.size; simpa [World.setCell] using this))⟩

/-! ### the row -/
set_option maxRecDepth 100000 in
theorem lifted (os : Os) (started : os.Started) (H : Type) (enc : TypeId × Value → H) :
    ReturnsInHanded {} Try.checked os 6 .any (Rows.octetTurnedSpec.pre6 enc Try.prog Try.f6 Rows.octetTurnedRow.domain false) (Rows.octetTurnedSpec.post enc Try.prog Try.f6 false true false false) := by
  refine returnsInHanded_of_change_sized (C := Try.checked) own started (by kernel_rfl) Try.func6
    (ChangeSpec.witness6 (enc := enc) (C := Try.checked) false ⟨#[], #[.slice none 0 0, .int .i64 0, .int .u8 0], []⟩ 8 (by kernel_rfl) (by kernel_rfl) (by kernel_rfl) (by kernel_rfl)) ?_
  intro W base args ds gs before hval0 hW hcnd hsz0 _
  have hval : ∀ (j : Nat) t v, Try.f6.params[j]? = some t → args[j]? = some v → Value.okWide Try.prog W .any base t v := hval0
  have hsz : (DataW.weightsEach Try.prog (Try.f6.params.toList ++ Rows.octetTurnedSpec.plain.varTypes Try.prog) (ds ++ gs)).all (· ≤ reachBytes) = true := hsz0
  clear hsz0
  have hW' := hW
  obtain ⟨p, q, hA0, hV, rfl, hfz, hnd⟩ := hW
  have hA : DataW.TrodAll enc Try.prog W 0 (fun _ => true) true Try.f6.params.toList args.toList ds p := hA0
  rw [Try.params6] at hA hval hsz
  obtain ⟨v0, vs0, d0, ds0, p0, q0, hargs, rfl, rfl, h0, r0⟩ := trodAll_cons hA
  obtain ⟨v1, vs1, d1, ds1, p1, q1, rfl, rfl, rfl, h1, r1⟩ := trodAll_cons r0
  obtain ⟨v2, vs2, d2, ds2, p2, q2, rfl, rfl, rfl, h2, r2⟩ := trodAll_cons r1
  obtain ⟨rfl, rfl, rfl⟩ := trodAll_nil r2
  obtain rfl : args = #[v0, v1, v2] := by cases args; simp_all
  obtain ⟨rfl, rfl⟩ := trodVars_none hV
  obtain ⟨a0, len0, cap0, rfl⟩ := okWide_slice Try.underlying22 (hval 0 22 v0 rfl rfl)
  have k0 := h0
  have lt0 : ∀ x ∈ p0, x.block < W.heap.size := by obtain ⟨m, hm⟩ := k0; exact DataW.trod_lt m _ _ _ hm
  obtain ⟨z0, w0, m0⟩ : ∃ zs, IsRow .u8 W a0 len0 cap0 zs ∧ cap0 ≤ 140737488351232 := by
    obtain ⟨fuel, hf⟩ := h0
    rcases open_ints Try.underlying22 Try.underlying5 (by kernel_rfl) hf with ⟨hcs, _⟩ | ⟨x, l, c, zs, hcs, _, hl, hm, hz, hx, hcell, hwz⟩
    · simp [Value.cells] at hcs
      obtain ⟨rfl, rfl, rfl⟩ := hcs
      exact ⟨[], .inl ⟨rfl, rfl, rfl, rfl⟩, by omega⟩
    · simp [Value.cells] at hcs
      obtain ⟨rfl, rfl, rfl⟩ := hcs
      simp only [Prod.mk.injEq] at hx
      obtain ⟨rfl, rfl⟩ := hx
      simp only [if_true] at hz
      have hm2 := sized_slice hsz (j := 0) (t := 22) (e := 5) rfl rfl Try.underlying22
      rw [show Try.prog.bytesOf 5 = 1 from by kernel_rfl] at hm2
      simp only [lits, List.length_map, List.length_take, List.length_drop, reachBytes] at hm2
      exact ⟨zs, .inr ⟨_, rfl, hl, hm, hz, hcell, hwz⟩, by omega⟩
  obtain ⟨a1, rfl, rfl, rfl, w1⟩ := open_int Try.underlying3 (hval 1 3 v1 rfl rfl) h1
  obtain ⟨a2, rfl, rfl, rfl, w2⟩ := open_int Try.underlying5 (hval 2 5 v2 rfl rfl) h2
  clear hA0 hval0
  refine (walk a0 len0 cap0 z0 a1 a2 W w0 w1 w2 m0).mono fun e W' ⟨he, bel⟩ => ?_
  subst he
  exact ⟨_, rfl, _, _, _, [], _, [], hW', trodAll_mk1 (shut_bool Try.underlying4 _), (trodAll_cons_mk (Below.trod laidOut (by kernel_rfl) (of_decide_eq_true (by kernel_rfl)) k0 bel lt0) (trodAll_cons_mk (shut_int Try.underlying3 w1) (trodAll_cons_mk (shut_int Try.underlying5 w2) trodAll_mk0))), rfl, bel.frame _, fun h => by cases h⟩

theorem over : Rows.octetTurnedRow.holds Try.pinned (OpenSpec.ofChange Rows.octetTurnedSpec) :=
  OpenClaim.holds_of_wide 6 Try.f6 rfl rfl rfl rfl rfl rfl rfl ⟨rfl, rfl, rfl, rfl, rfl⟩ rfl rfl rfl rfl rfl (by kernel_rfl) Try.func6 (by kernel_rfl)
    (of_decide_eq_true (by kernel_rfl)) (by unfold Func.isWrapper; first | (rw [if_pos (by decide +kernel)]; kernel_rfl) | (rw [if_neg (by decide +kernel)]; exact ⟨rfl, rfl⟩))
    (fun os started H enc _ => lifted os started H enc)

theorem proved : Rows.OctetTurnedSaid := over
#print axioms proved
end Go.Proofs.Ytnjleligdeobeaa.octetTurned
