/- Proved: a zero octet.Writer has written nothing, a zero octet.Reader reads nothing. Conditions: none, for every input. -/
import Derived.Test.YtnjleligdeobeaaRows
import Derived.WalkKit
import Derived.ProofKit
import Derived.OpenShut
import Derived.ShutString
import Derived.ChangeOld
import Derived.Below
import Derived.SizedLaws
import Derived.Test.YtnjleligdeobeaaWriter
import Derived.Test.YtnjleligdeobeaaReader
namespace Go.Proofs.Ytnjleligdeobeaa.octetOfNothing
open Go.ChangeShapes Go.WideShapes Go.ChangeAt Go.RowKit
open Go.ChangeMaps (open_string shut_string)
set_option linter.unusedVariables false

theorem own : ownKnob Try.prog.godebug = none := by kernel_rfl
theorem laidOut : laidOutB Try.prog = true := by kernel_rfl

/-! ### the walk -/
theorem walk (a0 : Int) (w : World) (w0 : (Lit.int .i64 a0).wf = true) :
    Calls Try.prog 9 #[.int .i64 a0] w fun e w' => e = .returned (.bool true) ∧ Below w.heap.size w w' := by
  have hW := wr_new w
  have hWa : WrAt ((w.alloc (.cells #[.slice none 0 0] 36)).alloc (.cells #[.slice none 0 0, .int .i64 0, .nilFunc] 49)) w.heap.size w.heap.size [] := hW.below ((Below.refl _ _).alloc (Nat.le_refl _) _)
  have hRa := rd_new (w.alloc (.cells #[.slice none 0 0] 36))
  have hBa : Below w.heap.size w ((w.alloc (.cells #[.slice none 0 0] 36)).alloc (.cells #[.slice none 0 0, .int .i64 0, .nilFunc] 49)) := ((Below.refl _ _).alloc (Nat.le_refl _) _).alloc (by simp) _
  simp only [World.size_alloc] at hRa
  have f1 : rdOut [] 0 a0 = [] := by unfold rdOut; split <;> simp
  have f2 : rdRest [] 0 a0 = [] := by unfold rdRest; split <;> simp
  have f3 : rdOut [] (rdErr [] 0 a0) 1 = [] := by unfold rdOut; split <;> simp
  have f4 : rdErr [] (rdErr [] 0 a0) 1 = 2 := by unfold rdErr; simp
  have f5 : numBE [] = 0 := rfl
  go_enter Try.func9, Try.ntmps9
  go_wp2_with fail
  refine (bytes_any w.heap.size w.heap.size [] (by simp) _ hWa).mono ?_
  rintro e w1 ⟨A1, n1, c1, rfl, hO1, hB1⟩
  have hR1 := hRa.below hB1
  have hn1 := hO1.length
  simp only [List.length_nil] at hn1
  subst hn1
  go_wp2_with (first
    | (go_at_call 30; refine (rleft_any _ _ _ _ _ hR1).mono ?_; rintro e w' ⟨rfl, rfl⟩)
    | (go_at_call 31; refine (rerr_any _ _ _ _ _ hR1).mono ?_; rintro e w' ⟨rfl, rfl⟩))
  have hz1 := hB1.size
  simp only [World.size_alloc] at hz1
  refine (rraw_any _ _ [] (by simp) 0 a0 _ hR1 (by omega)).mono ?_
  rintro e w2 ⟨A2, n2, c2, rfl, hO2, hR2, hg2⟩
  rw [f1] at hO2
  rw [f2] at hR2
  have hn2 := hO2.length
  simp only [List.length_nil] at hn2
  subst hn2
  have hz2 := hg2.size
  go_wp2_with fail
  refine (rbyte_any _ _ [] _ _ hR2 (by omega)).mono ?_
  rintro e w3 ⟨rfl, hR3, hg3⟩
  rw [f4] at hR3
  rw [f3, f5]
  have hz3 := hg3.size
  go_wp2_with (first
    | (go_at_call 31; refine (rerr_any _ _ _ _ _ hR3).mono ?_; rintro e w' ⟨rfl, rfl⟩)
    | (go_at_call 18; refine (known_any _).mono ?_; rintro e w4 ⟨rfl, hB4⟩))
  go_ret
  have hB3 : Below w.heap.size w w3 := ((hBa.trans (hB1.mono (by simp; omega))).grown hg2 (by omega) (fun k hk => by injection hk with hk; omega)).grown hg3 (by omega) (fun k hk => by injection hk with hk; omega)
  exact ⟨rfl, hB3.trans (hB4.mono hB3.size)⟩

/-! ### the row -/
set_option maxRecDepth 100000 in
theorem lifted (os : Os) (started : os.Started) (H : Type) (enc : TypeId × Value → H) :
    ReturnsInHanded {} Try.checked os 9 .any (Rows.octetOfNothingSpec.pre6 enc Try.prog Try.f9 Rows.octetOfNothingRow.domain false) (Rows.octetOfNothingSpec.post enc Try.prog Try.f9 false true false false) := by
  refine returnsInHanded_of_change_sized (C := Try.checked) own started (by kernel_rfl) Try.func9
    (ChangeSpec.witness6 (enc := enc) (C := Try.checked) false ⟨#[], #[.int .i64 0], []⟩ 8 (by kernel_rfl) (by kernel_rfl) (by kernel_rfl) (by kernel_rfl)) ?_
  intro W base args ds gs before hval0 hW hcnd hsz0 _
  have hval : ∀ (j : Nat) t v, Try.f9.params[j]? = some t → args[j]? = some v → Value.okWide Try.prog W .any base t v := hval0
  have hsz : (DataW.weightsEach Try.prog (Try.f9.params.toList ++ Rows.octetOfNothingSpec.plain.varTypes Try.prog) (ds ++ gs)).all (· ≤ reachBytes) = true := hsz0
  clear hsz0
  have hW' := hW
  obtain ⟨p, q, hA0, hV, rfl, hfz, hnd⟩ := hW
  have hA : DataW.TrodAll enc Try.prog W 0 (fun _ => true) true Try.f9.params.toList args.toList ds p := hA0
  rw [Try.params9] at hA hval hsz
  obtain ⟨v0, vs0, d0, ds0, p0, q0, hargs, rfl, rfl, h0, r0⟩ := trodAll_cons hA
  obtain ⟨rfl, rfl, rfl⟩ := trodAll_nil r0
  obtain rfl : args = #[v0] := by cases args; simp_all
  obtain ⟨rfl, rfl⟩ := trodVars_none hV
  obtain ⟨a0, rfl, rfl, rfl, w0⟩ := open_int Try.underlying3 (hval 0 3 v0 rfl rfl) h0
  clear hA0 hval0
  refine (walk a0 W w0).mono fun e W' ⟨he, bel⟩ => ?_
  subst he
  exact ⟨_, rfl, _, _, _, [], _, [], hW', trodAll_mk1 (shut_bool Try.underlying4 _), (trodAll_cons_mk (shut_int Try.underlying3 w0) trodAll_mk0), rfl, bel.frame _, fun h => by cases h⟩

theorem over : Rows.octetOfNothingRow.holds Try.pinned (OpenSpec.ofChange Rows.octetOfNothingSpec) :=
  OpenClaim.holds_of_wide 9 Try.f9 rfl rfl rfl rfl rfl rfl rfl ⟨rfl, rfl, rfl, rfl, rfl⟩ rfl rfl rfl rfl rfl (by kernel_rfl) Try.func9 (by kernel_rfl)
    (of_decide_eq_true (by kernel_rfl)) (by unfold Func.isWrapper; first | (rw [if_pos (by decide +kernel)]; kernel_rfl) | (rw [if_neg (by decide +kernel)]; exact ⟨rfl, rfl⟩))
    (fun os started H enc _ => lifted os started H enc)

theorem proved : Rows.OctetOfNothingSaid := over
#print axioms proved
end Go.Proofs.Ytnjleligdeobeaa.octetOfNothing
