/- Proved: of more packets than can be put together at one time the oldest is given up; the others come out. Conditions: none, for every input. -/
import Derived.Test.YtcjkhonapafndaaRows
import Derived.WalkKit
import Derived.ProofKit
import Derived.OpenShut
import Derived.ShutString
import Derived.ChangeOld
import Derived.Below
import Derived.SizedLaws
import Derived.Test.YtcjkhonapafndaaCrw
import Derived.Test.YtcjkhonapafndaaKnw
import Derived.Test.YtcjkhonapafndaaIn
namespace Go.Proofs.Ytcjkhonapafndaa.fragCrowds
open Go.ChangeShapes Go.WideShapes Go.ChangeAt Go.RowKit
open Go.ChangeMaps (open_string shut_string)
set_option linter.unusedVariables false

theorem own : ownKnob Try.prog.godebug = none := by kernel_rfl
theorem laidOut : laidOutB Try.prog = true := by kernel_rfl

/-! ### the walk -/
set_option maxRecDepth 100000 in
set_option maxHeartbeats 8000000 in
theorem walk (a0 : Int) (w : World) (w0 : (Lit.int .i64 a0).wf = true) :
    Calls Try.prog 7 #[.int .i64 a0] w fun e w' => e = .returned (.bool true) ∧ Below w.heap.size w w' := by
  have hbn := bounds_i64 w0
  clear w0
  go_enter Try.func7, Try.ntmps7
  rcases (by omega : a0 < 0 ∨ (¬ a0 < 0 ∧ 40 < a0) ∨ (¬ a0 < 0 ∧ ¬ 40 < a0)) with q | ⟨q, q2⟩ | ⟨q, q2⟩
  · have t1 : decide (a0 < 0) = true := decide_eq_true q
    go_wp2_with fail
    refine (known_any _).mono ?_
    rintro e1 W1 ⟨rfl, hB1⟩
    go_wp2
    go_ret
    exact ⟨rfl, hB1⟩
  · have t1 : decide (a0 < 0) = false := decide_eq_false q
    have t2 : decide ((40 : Int) < a0) = true := decide_eq_true q2
    go_wp2_with fail
    refine (known_any _).mono ?_
    rintro e1 W1 ⟨rfl, hB1⟩
    go_wp2
    go_ret
    exact ⟨rfl, hB1⟩
  · obtain ⟨n, rfl⟩ : ∃ n : Nat, a0 = n := ⟨a0.toNat, by omega⟩
    have t1 : decide ((n : Int) < 0) = false := decide_eq_false q
    have t2 : decide ((40 : Int) < (n : Int)) = false := decide_eq_false q2
    have hn40 : n ≤ 40 := by omega
    clear q q2 hbn
    have HNEW := Lib.hid (CrA.new (w0 := w))
    obtain ⟨ps, hps⟩ : ∃ ps, w.heap.size = ps := ⟨_, rfl⟩
    rw [hps] at HNEW
    have HPS := Lib.hid hps
    clear hps
    go_wp2_with fail
    rw [HPS.out]
    go_loopw [4] (fun v4 wr => ∃ k : Nat, k ≤ n ∧ v4 = .int .i64 k ∧ Hid (CrA w ps k wr)) (fun v4 _ => n - (intOf v4).toNat)
    case atStart => exact ⟨0, Nat.zero_le _, rfl, HNEW⟩
    case round =>
      obtain ⟨k, hk, rfl, HC⟩ := hrel
      rcases Nat.lt_or_ge k n with q | q
      · have t3 : decide ((k : Int) < (n : Int)) = true := decide_eq_true (by omega)
        have HA := Lib.hid (crowd_add HC.out (by omega))
        have hb : (0 : Int) ≤ k ∧ (k : Int) ≤ 40 := by omega
        go_wp2_with fail
        refine HA.out.mono ?_
        rintro e w1 ⟨⟨v, rfl⟩, hA1⟩
        have HA1 := Lib.hid hA1
        clear hA1
        go_wp2_with fail
        go_roundw
        case rel => exact ⟨k + 1, by omega, by go_num, HA1⟩
        case measure => simp [intOf]; omega
      · have hkn : k = n := by omega
        subst hkn
        have t3 : decide ((k : Int) < (k : Int)) = false := decide_eq_false (by omega)
        have HL := Lib.hid (crowd_len HC.out)
        obtain ⟨mn, hmn⟩ : ∃ mn, min k 8 = mn := ⟨_, rfl⟩
        rw [hmn] at HL
        have hmi : min (k : Int) 8 = (mn : Int) := by omega
        have HMN := Lib.hid hmn
        clear hmn q hk
        go_wp2_with fail
        refine HL.out.mono ?_
        rintro e w1 ⟨rfl, rfl⟩
        have hb : (0 : Int) ≤ k ∧ (k : Int) ≤ 40 := by omega
        go_wp2_with fail
        have HB0 := Lib.hid HC.out.out
        go_loopw [5, 6] (fun v5 v6 wr => ∃ (o : Nat) (x : Int), -1 ≤ x ∧ x < k ∧ v5 = .int .i64 o ∧ v6 = .int .i64 x ∧ o ≤ 8 ∧ Hid (CrB w ps k x o wr)) (fun _ v6 _ => (intOf v6 + 1).toNat)
        case atStart => exact ⟨0, (k : Int) - 1, by omega, by omega, rfl, by go_num, by omega, HB0⟩
        case round =>
          obtain ⟨o, x, hx1, hx2, rfl, rfl, ho, HR⟩ := hrel
          rcases (by omega : x = -1 ∨ 0 ≤ x) with rfl | hx0
          · obtain ⟨L, _, hO⟩ := HR.out
            have e : o = mn := by rw [← HMN.out]; exact hO.fin
            subst e
            have HBE := Lib.hid HR.out.below
            have hzz : ps ≤ wr.heap.size := by have := HR.out.size; exact this
            clear hO HR
            go_wp2_with fail
            refine (known_any _).mono ?_
            rintro e2 w2 ⟨rfl, hB2⟩
            go_wp2
            go_ret
            exact ⟨rfl, by rw [HPS.out]; exact HBE.out.trans (hB2.mono hzz)⟩
          · obtain ⟨j, rfl⟩ : ∃ j : Nat, x = j := ⟨x.toNat, by omega⟩
            have hjk : j < k := by omega
            have t4 : decide ((0 : Int) ≤ (j : Int)) = true := decide_eq_true (by omega)
            have HX := Lib.hid (crowd_last HR.out (by omega) hjk)
            have HSZ := Lib.hid HR.out.size
            clear hx1 hx2 hx0
            go_wp2_with fail
            refine HX.out.mono ?_
            rintro e2 w2 ⟨p, is, er, A1, A2, n1, c1, n2, c2, rfl, hcase⟩
            rcases hcase with ⟨h1, h2, rfl, rfl, ⟨g, rfl, hg, hc7⟩, hC⟩ | ⟨h1, rfl, hC⟩
            · have m10 : (w2.alloc (.cells #[.int .i64 p.svc, .int .i64 p.id, .bool p.whole, .bool p.more, .int .i64 p.off, .int .i64 p.life, .int .i64 p.proto, .int .u32 p.src, .int .u32 p.dst, .slice A1 n1 c1, .slice (some ⟨g, 0, none⟩) 9 c2] 26)).cell? ⟨w2.heap.size, 10, none⟩ = some (.slice (some ⟨g, 0, none⟩) 9 c2) := (Bk.new w2 26 #[.int .i64 p.svc, .int .i64 p.id, .bool p.whole, .bool p.more, .int .i64 p.off, .int .i64 p.life, .int .i64 p.proto, .int .u32 p.src, .int .u32 p.dst, .slice A1 n1 c1, .slice (some ⟨g, 0, none⟩) 9 c2]).cell 10
              have c7 : (w2.alloc (.cells #[.int .i64 p.svc, .int .i64 p.id, .bool p.whole, .bool p.more, .int .i64 p.off, .int .i64 p.life, .int .i64 p.proto, .int .u32 p.src, .int .u32 p.dst, .slice A1 n1 c1, .slice (some ⟨g, 0, none⟩) 9 c2] 26)).cell? ⟨g, 7, none⟩ = some (.int .u8 j) := (World.cell?_alloc_lt w2 _ _ hg).trans hc7
              have HN2 : Hid (CrB w ps k ((j : Int) - 1) (o + 1) (w2.alloc (.cells #[.int .i64 p.svc, .int .i64 p.id, .bool p.whole, .bool p.more, .int .i64 p.off, .int .i64 p.life, .int .i64 p.proto, .int .u32 p.src, .int .u32 p.dst, .slice A1 n1 c1, .slice (some ⟨g, 0, none⟩) 9 c2] 26))) := Lib.hid (hC.alloc _)
              have t5 : decide ((k : Int) - 8 ≤ (j : Int)) = true := decide_eq_true (by omega)
              have hj40 : (j : Int) ≤ 40 := by omega
              clear hc7 hC hg h2
              unfold pkC
              go_wp2_with fail
              go_roundw
              case rel => exact ⟨o + 1, (j : Int) - 1, by omega, by omega, by go_num, rfl, by omega, HN2⟩
              case measure => simp [intOf]
            · subst h1
              have HN2 : Hid (CrB w ps k ((j : Int) - 1) 8 (w2.alloc (.cells #[.int .i64 p.svc, .int .i64 p.id, .bool p.whole, .bool p.more, .int .i64 p.off, .int .i64 p.life, .int .i64 p.proto, .int .u32 p.src, .int .u32 p.dst, .slice A1 n1 c1, .slice A2 n2 c2] 26))) := Lib.hid (hC.alloc _)
              clear hC
              unfold pkC
              rcases (by omega : (k : Int) - 8 ≤ (j : Int) ∨ ¬ (k : Int) - 8 ≤ (j : Int)) with d | d
              · have t5 : decide ((k : Int) - 8 ≤ (j : Int)) = true := decide_eq_true d
                clear d
                go_wp2_with fail
                go_roundw
                case rel => exact ⟨8, (j : Int) - 1, by omega, by omega, rfl, rfl, by omega, HN2⟩
                case measure => simp [intOf]
              · have t5 : decide ((k : Int) - 8 ≤ (j : Int)) = false := decide_eq_false d
                clear d
                go_wp2_with fail
                go_roundw
                case rel => exact ⟨8, (j : Int) - 1, by omega, by omega, rfl, rfl, by omega, HN2⟩
                case measure => simp [intOf]

/-! ### the row -/
set_option maxRecDepth 100000 in
theorem lifted (os : Os) (started : os.Started) (H : Type) (enc : TypeId × Value → H) :
    ReturnsInHanded {} Try.checked os 7 .any (Rows.fragCrowdsSpec.pre6 enc Try.prog Try.f7 Rows.fragCrowdsRow.domain false) (Rows.fragCrowdsSpec.post enc Try.prog Try.f7 false true false false) := by
  refine returnsInHanded_of_change_sized (C := Try.checked) own started (by kernel_rfl) Try.func7
    (ChangeSpec.witness6 (enc := enc) (C := Try.checked) false ⟨#[], #[.int .i64 0], []⟩ 8 (by kernel_rfl) (by kernel_rfl) (by kernel_rfl) (by kernel_rfl)) ?_
  intro W base args ds gs before hval0 hW hcnd hsz0 _
  have hval : ∀ (j : Nat) t v, Try.f7.params[j]? = some t → args[j]? = some v → Value.okWide Try.prog W .any base t v := hval0
  have hsz : (DataW.weightsEach Try.prog (Try.f7.params.toList ++ Rows.fragCrowdsSpec.plain.varTypes Try.prog) (ds ++ gs)).all (· ≤ reachBytes) = true := hsz0
  clear hsz0
  have hW' := hW
  obtain ⟨p, q, hA0, hV, rfl, hfz, hnd⟩ := hW
  have hA : DataW.TrodAll enc Try.prog W 0 (fun _ => true) true Try.f7.params.toList args.toList ds p := hA0
  rw [Try.params7] at hA hval hsz
  obtain ⟨v0, vs0, d0, ds0, p0, q0, hargs, rfl, rfl, h0, r0⟩ := trodAll_cons hA
  obtain ⟨rfl, rfl, rfl⟩ := trodAll_nil r0
  obtain rfl : args = #[v0] := by cases args; simp_all
  obtain ⟨rfl, rfl⟩ := trodVars_none hV
  obtain ⟨a0, rfl, rfl, rfl, w0⟩ := open_int Try.underlying3 (hval 0 3 v0 rfl rfl) h0
  clear hA0 hval0
  refine (walk a0 W w0).mono fun e W' ⟨he, bel⟩ => ?_
  subst he
  exact ⟨_, rfl, _, _, _, [], _, [], hW', trodAll_mk1 (shut_bool Try.underlying4 _), (trodAll_cons_mk (shut_int Try.underlying3 w0) trodAll_mk0), rfl, bel.frame _, fun h => by cases h⟩

theorem over : Rows.fragCrowdsRow.holds Try.pinned (OpenSpec.ofChange Rows.fragCrowdsSpec) :=
  OpenClaim.holds_of_wide 7 Try.f7 rfl rfl rfl rfl rfl rfl rfl ⟨rfl, rfl, rfl, rfl, rfl⟩ rfl rfl rfl rfl rfl (by kernel_rfl) Try.func7 (by kernel_rfl)
    (of_decide_eq_true (by kernel_rfl)) (by unfold Func.isWrapper; first | (rw [if_pos (by decide +kernel)]; kernel_rfl) | (rw [if_neg (by decide +kernel)]; exact ⟨rfl, rfl⟩))
    (fun os started H enc _ => lifted os started H enc)

theorem proved : Rows.FragCrowdsSaid := over
#print axioms proved
end Go.Proofs.Ytcjkhonapafndaa.fragCrowds
