/- Proved: of every script each answer of the cache of neighbours is that of the document's. Conditions: none, for every input. -/
import Derived.Test.YtocigdkndlmikaaRows
import Derived.WalkKit
import Derived.ProofKit
import Derived.OpenShut
import Derived.ShutString
import Derived.ChangeOld
import Derived.Below
import Derived.SizedLaws
import Derived.Test.YtocigdkndlmikaaDoe
import Derived.Test.YtocigdkndlmikaaKnown
import Derived.Test.YtocigdkndlmikaaIn
namespace Go.Proofs.Ytocigdkndlmikaa.arpPlays
open Go.ChangeShapes Go.WideShapes Go.ChangeAt Go.RowKit
open Go.ChangeMaps (open_string shut_string)
set_option linter.unusedVariables false

theorem own : ownKnob Try.prog.godebug = none := by kernel_rfl
theorem laidOut : laidOutB Try.prog = true := by kernel_rfl

/-! ### the walk -/
set_option maxRecDepth 1000000 in
set_option maxHeartbeats 16000000 in
theorem walk (v0 : Value) (w : World) (w0 : ViewSta w v0) :
    Calls Try.prog 9 #[v0] w fun e w' => e = .returned (.bool true) ∧ Below w.heap.size w w' := by
  obtain ⟨A, len, cap, l, rfl, hcp, hcap, hn, hr, hq⟩ := w0
  have hmax : len ≤ 140737488351232 := by omega
  have HHV := Lib.hid (heavy_any A len cap l hn hmax w hr hq)
  have Hn := Lib.hid hn
  have Hr := Lib.hid hr
  have Hq := Lib.hid hq
  clear hn hr hq hcp hcap
  go_enter Try.func9, Try.ntmps9
  go_wp2_with fail
  refine HHV.out.mono ?_
  rintro e wh ⟨⟨hv, rfl, hvy⟩, rfl⟩
  have HVY := Lib.hid hvy
  clear hvy
  cases hv with
  | true =>
    go_wp2_with (go_at_call 12; refine (known_any _).mono ?_; rintro e5 w5 ⟨rfl, hB5⟩)
    go_ret
    exact ⟨rfl, hB5⟩
  | false =>
    obtain ⟨s, hs⟩ : ∃ s, wh.heap.size = s := ⟨_, rfl⟩
    obtain ⟨W1, hW1⟩ : ∃ W1, wh.alloc (.cells #[.map none] 32) = W1 := ⟨_, rfl⟩
    obtain ⟨q, hqq⟩ : ∃ q, W1.heap.size = q := ⟨_, rfl⟩
    obtain ⟨W2, hW2⟩ : ∃ W2, W1.alloc (.cells #[.slice none 0 0] 63) = W2 := ⟨_, rfl⟩
    have HP0 : Hid (JG wh s q (fun _ => False) pmL W2) := Lib.hid (JG.start hW1 hW2 hs hqq)
    have HSQ : Hid (s + 1 = q) := Lib.hid (by rw [← hqq, ← hW1, World.size_alloc, hs])
    have HS := Lib.hid hs
    have HW1 := Lib.hid hW1
    have HW2 := Lib.hid hW2
    clear hs hW1 hqq hW2
    go_wp2_with fail
    rw [HW1.out, HS.out, HSQ.out, HW2.out]
    go_loopw [5, 6] (fun v5 v6 wr => ∃ (k : Nat) (t : Int), k ≤ len ∧ k ≤ 200 ∧ 0 ≤ t ∧ t ≤ k * 1073741824 ∧ v5 = .int .i64 t ∧ v6 = .int .i64 k ∧ Hid (JG wh s q (fun _ => False) pmL wr)) (fun _ v6 _ => len - (intOf v6).toNat)
    case atStart => exact ⟨0, 0, Nat.zero_le _, by omega, by omega, by omega, rfl, rfl, HP0⟩
    case round =>
      obtain ⟨k, t, hk, hk2, ht0, ht1, rfl, rfl, HC⟩ := hrel
      have HBK := Lib.hid HC.out.bl
      rcases (by omega : len = k ∨ (k < len ∧ 200 ≤ k) ∨ (k < len ∧ k < 200)) with rfl | ⟨d, d'⟩ | ⟨d, d'⟩
      · have t1 : decide ((len : Int) < (len : Int)) = false := decide_eq_false (by omega)
        go_wp2_with (go_at_call 12; refine (known_any _).mono ?_; rintro e5 w5 ⟨rfl, hB5⟩)
        go_ret
        exact ⟨rfl, HBK.out.trans (hB5.mono HBK.out.size)⟩
      · have t1 : decide ((k : Int) < (len : Int)) = true := decide_eq_true (by omega)
        have t2 : decide ((k : Int) < 200) = false := decide_eq_false (by omega)
        have t3 : decide (k < 200) = false := decide_eq_false (by omega)
        have t4 : decide (k < len) = true := decide_eq_true (by omega)
        go_wp2_with (go_at_call 12; refine (known_any _).mono ?_; rintro e5 w5 ⟨rfl, hB5⟩)
        go_ret
        exact ⟨rfl, HBK.out.trans (hB5.mono HBK.out.size)⟩
      · have t1 : decide ((k : Int) < (len : Int)) = true := decide_eq_true (by omega)
        have t2 : decide ((k : Int) < 200) = true := decide_eq_true (by omega)
        have t3 : decide (k < 200) = true := decide_eq_true (by omega)
        have t4 : decide (k < len) = true := decide_eq_true (by omega)
        have hki : (0 : Int) ≤ (k : Int) ∧ (k : Int) < (len : Int) := by omega
        obtain ⟨x, hx⟩ : ∃ x, l[k]? = some x := ⟨_, List.getElem?_eq_getElem (by rw [Hn.out]; exact d)⟩
        obtain ⟨b, off, rfl, hbB, hA⟩ := (Hr.out.below HBK.out).at_ hx
        have hxo := Hq.out x (List.mem_of_getElem? hx)
        have hxs := HVY.out (by trivial) k x d' hx
        have hxt := hxo.by_
        obtain ⟨kd, xa, pA, pn, pc, pl, m0, m1, m2, m3, m4, m5, fr, xt⟩ := x
        have hxt' : -9223372036854775808 ≤ xt ∧ xt ≤ 9223372036854775807 := hxt
        have HA : Hid (∀ X, Below wh.heap.size wh X → ∀ j u, (staC (⟨kd, xa, pA, pn, pc, pl, m0, m1, m2, m3, m4, m5, fr, xt⟩ : StA))[j]? = some u → X.cell? ⟨b, off + k * 11 + j, none⟩ = some u) := Lib.hid (fun X hX j u hu =>
          ((hX.cell (p := ⟨b, off + k * 11 + j, none⟩) hbB).trans (HBK.out.cell (p := ⟨b, off + k * 11 + j, none⟩) hbB).symm).trans (hA j u hu))
        have HXO : Hid (StaOk wh (⟨kd, xa, pA, pn, pc, pl, m0, m1, m2, m3, m4, m5, fr, xt⟩ : StA) ∧ pn ≤ 4000) := Lib.hid ⟨hxo, hxs⟩
        clear hA hx hxo hxs hxt hbB
        have c10 : wr.cell? ⟨b, off + k * 11 + 10, none⟩ = some (.int .i64 xt) := HA.out wr HBK.out 10 _ rfl
        go_upto_region 9 with (fail)
        go_cut [5] (fun s5 wx => ∃ t' : Int, s5 = .int .i64 t' ∧ t ≤ t' ∧ t' ≤ t + 1073741824 ∧ wx = wr)
        case first =>
          rcases (by omega : xt ≤ 0 ∨ (0 < xt ∧ xt ≤ 1073741824) ∨ 1073741824 < xt) with hp | ⟨hp, hp2⟩ | hp
          · go_wp2_with fail
            go_meet
            exact ⟨_, rfl, by omega, by omega, rfl⟩
          · go_wp2_with fail
            go_meet
            exact ⟨_, rfl, by omega, by omega, rfl⟩
          · have hp3 : 0 < xt := by omega
            go_wp2_with fail
            go_meet
            exact ⟨_, rfl, by omega, by omega, rfl⟩
        case rest =>
          obtain ⟨t', rfl, ht2, ht3, hwc⟩ := hcut
          have hwc' := hwc.symm
          clear hwc
          subst hwc'
          have y0 : wr.cell? ⟨b, off + k * 11, none⟩ = some (.int .i64 kd) := HA.out wr HBK.out 0 _ rfl
          have y1 : wr.cell? ⟨b, off + k * 11 + 1, none⟩ = some (.int .u32 xa) := HA.out wr HBK.out 1 _ rfl
          have y2 : wr.cell? ⟨b, off + k * 11 + 2, none⟩ = some (.slice pA pn pc) := HA.out wr HBK.out 2 _ rfl
          have y3 : wr.cell? ⟨b, off + k * 11 + 3, none⟩ = some (.int .u8 m0) := HA.out wr HBK.out 3 _ rfl
          have y4 : wr.cell? ⟨b, off + k * 11 + 4, none⟩ = some (.int .u8 m1) := HA.out wr HBK.out 4 _ rfl
          have y5 : wr.cell? ⟨b, off + k * 11 + 5, none⟩ = some (.int .u8 m2) := HA.out wr HBK.out 5 _ rfl
          have y6 : wr.cell? ⟨b, off + k * 11 + 6, none⟩ = some (.int .u8 m3) := HA.out wr HBK.out 6 _ rfl
          have y7 : wr.cell? ⟨b, off + k * 11 + 7, none⟩ = some (.int .u8 m4) := HA.out wr HBK.out 7 _ rfl
          have y8 : wr.cell? ⟨b, off + k * 11 + 8, none⟩ = some (.int .u8 m5) := HA.out wr HBK.out 8 _ rfl
          have y9 : wr.cell? ⟨b, off + k * 11 + 9, none⟩ = some (.bool fr) := HA.out wr HBK.out 9 _ rfl
          have HDO : Hid (Calls Try.prog 25 #[.pointer (some ⟨s, 0, none⟩), .pointer (some ⟨q, 0, none⟩), .agg #[.int .i64 kd, .int .u32 xa, .slice pA pn pc, .int .u8 m0, .int .u8 m1, .int .u8 m2, .int .u8 m3, .int .u8 m4, .int .u8 m5, .bool fr, .int .i64 xt], .int .i64 t'] wr.drew fun e w' => e = .returned (.bool true) ∧ Hid (JG wh s q (fun _ => False) pmL w') ∧ ∃ A9 n9 c9, w'.cell? ⟨q, 0, none⟩ = some (.slice A9 n9 c9) ∧ n9 ≤ 16 ∧ Hid (Calls Try.prog 16 #[.pointer (some ⟨s, 0, none⟩)] w' fun e w2 => e = .returned (.int .i64 (n9 : Int)) ∧ w2 = w')) := Lib.hid (by
            refine (does_any (HC.out.below (bdrewN (Below.refl _ _) 1)) (⟨kd, xa, pA, pn, pc, pl, m0, m1, m2, m3, m4, m5, fr, xt⟩ : StA) HXO.out.1 HXO.out.2 t' ⟨by omega, by omega⟩).mono ?_
            rintro e w' ⟨rfl, hj⟩
            obtain ⟨A9, n9, c9, q1, q2, q3⟩ := j_view hj
            exact ⟨rfl, Lib.hid hj, A9, n9, c9, q1, q2, Lib.hid (q3 0)⟩)
          go_wp2_with fail
          go_region_with (first
              | (go_at_call 25; ((with_reducible refine HDO.out.mono ?_); rintro e1 w1 ⟨rfl, HJ1, A9, n9, c9, cq, h16, HLN⟩; have hnn : ((n9 : Int) != (n9 : Int)) = false := (by simp); have hga : decide ((16 : Int) < (n9 : Int)) = false := decide_eq_false (by omega); have hgb : decide (16 < n9) = false := decide_eq_false (by omega)))
              | (go_at_call 16; ((with_reducible refine HLN.out.mono ?_); rintro e2 w2 ⟨rfl, rfl⟩)))
          all_goals
            go_wp2_with fail
            go_roundw
            case rel => exact ⟨k + 1, t', by omega, by omega, by omega, by omega, rfl, by rw [Int.natCast_succ], HJ1⟩
            case measure => simp only [intOf]; omega

/-! ### the row -/
set_option maxRecDepth 100000 in
theorem lifted (os : Os) (started : os.Started) (H : Type) (enc : TypeId × Value → H) :
    ReturnsInHanded {} Try.checked os 9 .any (Rows.arpPlaysSpec.pre6 enc Try.prog Try.f9 Rows.arpPlaysRow.domain false) (Rows.arpPlaysSpec.post enc Try.prog Try.f9 false true false false) := by
  refine returnsInHanded_of_change_sized (C := Try.checked) own started (by kernel_rfl) Try.func9
    (ChangeSpec.witness6 (enc := enc) (C := Try.checked) false ⟨#[], #[.slice none 0 0], []⟩ 8 (by kernel_rfl) (by kernel_rfl) (by kernel_rfl) (by kernel_rfl)) ?_
  intro W base args ds gs before hval0 hW hcnd hsz0 _
  have hval : ∀ (j : Nat) t v, Try.f9.params[j]? = some t → args[j]? = some v → Value.okWide Try.prog W .any base t v := hval0
  have hsz : (DataW.weightsEach Try.prog (Try.f9.params.toList ++ Rows.arpPlaysSpec.plain.varTypes Try.prog) (ds ++ gs)).all (· ≤ reachBytes) = true := hsz0
  clear hsz0
  have hW' := hW
  obtain ⟨p, q, hA0, hV, rfl, hfz, hnd⟩ := hW
  have hA : DataW.TrodAll enc Try.prog W 0 (fun _ => true) true Try.f9.params.toList args.toList ds p := hA0
  rw [Try.params9] at hA hval hsz
  obtain ⟨v0, vs0, d0, ds0, p0, q0, hargs, rfl, rfl, h0, r0⟩ := trodAll_cons hA
  obtain ⟨rfl, rfl, rfl⟩ := trodAll_nil r0
  obtain rfl : args = #[v0] := by cases args; simp_all
  obtain ⟨rfl, rfl⟩ := trodVars_none hV
  have k0 := h0
  have lt0 : ∀ x ∈ p0, x.block < W.heap.size := by obtain ⟨m, hm⟩ := k0; exact DataW.trod_lt m _ _ _ hm
  have w0 : ViewSta W v0 := open_sta (hval 0 58 v0 rfl rfl) h0 (fun k hk => by have := List.all_eq_true.1 hsz k (DataW.weights_mem_each (j := 0) rfl rfl k hk); simpa using this)
  clear hA0 hval0
  refine (walk v0 W w0).mono fun e W' ⟨he, bel⟩ => ?_
  subst he
  exact ⟨_, rfl, _, _, _, [], _, [], hW', trodAll_mk1 (shut_bool Try.underlying4 _), (trodAll_cons_mk (Below.trod laidOut (by kernel_rfl) (of_decide_eq_true (by kernel_rfl)) k0 bel lt0) trodAll_mk0), rfl, bel.frame _, fun h => by cases h⟩

theorem over : Rows.arpPlaysRow.holds Try.pinned (OpenSpec.ofChange Rows.arpPlaysSpec) :=
  OpenClaim.holds_of_wide 9 Try.f9 rfl rfl rfl rfl rfl rfl rfl ⟨rfl, rfl, rfl, rfl, rfl⟩ rfl rfl rfl rfl rfl (by kernel_rfl) Try.func9 (by kernel_rfl)
    (of_decide_eq_true (by kernel_rfl)) (by unfold Func.isWrapper; first | (rw [if_pos (by decide +kernel)]; kernel_rfl) | (rw [if_neg (by decide +kernel)]; exact ⟨rfl, rfl⟩))
    (fun os started H enc _ => lifted os started H enc)

theorem proved : Rows.ArpPlaysSaid := over
#print axioms proved
end Go.Proofs.Ytocigdkndlmikaa.arpPlays
