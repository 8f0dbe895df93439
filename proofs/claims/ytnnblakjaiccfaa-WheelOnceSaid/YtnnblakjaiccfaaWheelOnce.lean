/- Proved: what is set is due once, at the first step that reaches its tick, and comes by its tick. Conditions: none, for every input. -/
import Derived.Test.YtnnblakjaiccfaaRows
import Derived.WalkKit
import Derived.ProofKit
import Derived.OpenShut
import Derived.ShutString
import Derived.ChangeOld
import Derived.Below
import Derived.SizedLaws
import Derived.Test.YtnnblakjaiccfaaOnceL
namespace Go.Proofs.Ytnnblakjaiccfaa.wheelOnce
open Go.ChangeShapes Go.WideShapes Go.ChangeAt Go.RowKit
open Go.ChangeMaps (open_string shut_string)
set_option linter.unusedVariables false

theorem own : ownKnob Try.prog.godebug = none := by kernel_rfl
theorem laidOut : laidOutB Try.prog = true := by kernel_rfl

/-! ### the walk -/
set_option maxRecDepth 100000 in
set_option maxHeartbeats 4000000 in
theorem walk (a0 : Option Addr) (len0 cap0 : Nat) (z0 : List Int) (a1 : Int) (w : World) (w0 : IsRow .i64 w a0 len0 cap0 z0 ∧ cap0 * 8 ≤ 140737488351232) (w1 : (Lit.int .i64 a1).wf = true) :
    Calls Try.prog 7 #[.slice a0 len0 cap0, .int .i64 a1] w fun e w' => e = .returned (.bool true) ∧ Below w.heap.size w w' := by
  obtain ⟨hI0, hcp0⟩ := w0
  obtain ⟨l, hk⟩ := hI0.ri
  obtain ⟨_, hkn, hkc, _⟩ := id hk
  have hst := bounds_i64 w1
  have HK := Lib.hid hk
  have HKN := Lib.hid hkn
  clear hI0 hk hkn w1
  rcases (by omega : 100 < len0 ∨ (len0 ≤ 100 ∧ a1 < 1) ∨ (len0 ≤ 100 ∧ 1 ≤ a1 ∧ 1073741824 < a1) ∨ (len0 ≤ 100 ∧ 1 ≤ a1 ∧ a1 ≤ 1073741824)) with d | ⟨d, d2⟩ | ⟨d, d2, d3⟩ | ⟨d, d2, d3⟩
  · have e1 : decide ((100 : Int) < (len0 : Int)) = true := decide_eq_true (by omega)
    go_enter Try.func7, Try.ntmps7
    go_wp2_with fail
    refine (known_any _).mono ?_
    rintro e v1 ⟨rfl, hB1⟩
    go_wp2
    go_ret
    exact ⟨rfl, hB1⟩
  · have e1 : decide ((100 : Int) < (len0 : Int)) = false := decide_eq_false (by omega)
    have e2 : decide (a1 < 1) = true := decide_eq_true (by omega)
    go_enter Try.func7, Try.ntmps7
    go_wp2_with fail
    refine (known_any _).mono ?_
    rintro e v1 ⟨rfl, hB1⟩
    go_wp2
    go_ret
    exact ⟨rfl, hB1⟩
  · have e1 : decide ((100 : Int) < (len0 : Int)) = false := decide_eq_false (by omega)
    have e2 : decide (a1 < 1) = false := decide_eq_false (by omega)
    have e3 : decide (1073741824 < a1) = true := decide_eq_true (by omega)
    go_enter Try.func7, Try.ntmps7
    go_wp2_with fail
    refine (known_any _).mono ?_
    rintro e v1 ⟨rfl, hB1⟩
    go_wp2
    go_ret
    exact ⟨rfl, hB1⟩
  have e1 : decide ((100 : Int) < (len0 : Int)) = false := decide_eq_false (by omega)
  have e1' : decide (100 < len0) = false := decide_eq_false (by omega)
  have e2 : decide (a1 < 1) = false := decide_eq_false (by omega)
  have e3 : decide (1073741824 < a1) = false := decide_eq_false (by omega)
  obtain ⟨p, hp⟩ : ∃ p, w.heap.size = p := ⟨_, rfl⟩
  obtain ⟨W, hW⟩ : ∃ W, w.alloc (.cells whZ 27) = W := ⟨_, rfl⟩
  have h0 : Wh W p p (tm l 0) := by rw [← hW, ← hp]; exact Wh.new w
  have hB : Below p w W := by rw [← hW, ← hp]; exact (Below.refl _ _).alloc (Nat.le_refl _) _
  have HS0 : Hid (Wh W p p (tm l 0) ∧ Below p w W ∧ ∀ j, j < 0 → 0 ≤ l[j]?.getD 0 ∧ l[j]?.getD 0 ≤ 100000) := Lib.hid ⟨h0, hB, fun j hj => absurd hj (Nat.not_lt_zero j)⟩
  have HKB : Hid (∀ X, Below p w X → RowI X a0 len0 cap0 l) := Lib.hid (fun X hX => HK.out.below (hp ▸ hX))
  have HW := Lib.hid hW
  have HP := Lib.hid hp
  have hzv := zero_wh
  clear hW hp hB h0
  go_enter Try.func7, Try.ntmps7
  go_wp2
  rw [HW.out, HP.out]
  go_loopw [6] (fun v6 wr => ∃ i : Nat, i ≤ len0 ∧ v6 = .int .i64 i ∧ Hid (Wh wr p p (tm l i) ∧ Below p w wr ∧ ∀ j, j < i → 0 ≤ l[j]?.getD 0 ∧ l[j]?.getD 0 ≤ 100000)) (fun v6 _ => len0 - (intOf v6).toNat)
  case atStart => exact ⟨0, Nat.zero_le _, rfl, HS0⟩
  case round =>
    obtain ⟨i, hi, rfl, HC⟩ := hrel
    rcases Nat.lt_or_ge i len0 with q | q
    · obtain ⟨kb, ko, hka, hkb, hkc2, hko⟩ := (HK.out).at_ q
      subst hka
      rw [HP.out] at hkb
      obtain ⟨kv, hkv⟩ : ∃ kv, l[i]?.getD 0 = kv := ⟨_, rfl⟩
      rw [hkv] at hkc2 hko
      have q' : (i : Int) < len0 := by omega
      have hc3 : wr.cell? ⟨kb, ko + i, none⟩ = some (.int .i64 kv) := (HC.out.2.1.cell (p := ⟨kb, ko + i, none⟩) hkb).trans hkc2
      have hc1 : wr.drew.cell? ⟨kb, ko + i, none⟩ = some (.int .i64 kv) := hc3
      rcases (by omega : kv < 0 ∨ (0 ≤ kv ∧ 100000 < kv) ∨ (0 ≤ kv ∧ kv ≤ 100000)) with z | ⟨z, z2⟩ | ⟨z, z2⟩
      · have t1 : decide (kv < 0) = true := decide_eq_true (by omega)
        go_wp2_with fail
        refine (known_any _).mono ?_
        rintro e v1 ⟨rfl, hB1⟩
        go_wp2
        go_ret
        exact ⟨rfl, by rw [HP.out]; exact HC.out.2.1.trans (hB1.mono HC.out.1.size)⟩
      · have t1 : decide (kv < 0) = false := decide_eq_false (by omega)
        have t2 : decide (100000 < kv) = true := decide_eq_true (by omega)
        go_wp2_with fail
        refine (known_any _).mono ?_
        rintro e v1 ⟨rfl, hB1⟩
        go_wp2
        go_ret
        exact ⟨rfl, by rw [HP.out]; exact HC.out.2.1.trans (hB1.mono HC.out.1.size)⟩
      · have t1 : decide (kv < 0) = false := decide_eq_false (by omega)
        have t2 : decide (100000 < kv) = false := decide_eq_false (by omega)
        have HS := Lib.hid (set_wh p p (tm l i) i kv (by unfold okI; omega) hko wr HC.out.1)
        have hss := tm_set l i kv (by omega) hkv ⟨z, z2⟩
        rw [hss] at HS
        have HJ : Hid (∀ j, j < i + 1 → 0 ≤ l[j]?.getD 0 ∧ l[j]?.getD 0 ≤ 100000) := Lib.hid (fun j hj => by
          rcases (by omega : j < i ∨ j = i) with h | h
          · exact HC.out.2.2 j h
          · subst h; rw [hkv]; exact ⟨z, z2⟩)
        clear hss hkv
        go_wp2_with fail
        refine HS.out.mono ?_
        rintro e W2 ⟨rfl, h2, hB2⟩
        have HN : Hid (Wh W2 p p (tm l (i + 1)) ∧ Below p w W2 ∧ ∀ j, j < i + 1 → 0 ≤ l[j]?.getD 0 ∧ l[j]?.getD 0 ≤ 100000) := Lib.hid ⟨h2, HC.out.2.1.trans hB2, HJ.out⟩
        clear h2 hB2
        go_wp2
        go_roundw
        case rel => exact ⟨i + 1, by omega, by go_num, HN⟩
        case measure => simp [intOf]; omega
    · obtain rfl : i = len0 := by omega
      have q' : ¬ (i : Int) < i := by omega
      obtain ⟨h1, h2, h3⟩ := HC.out
      have HJ := Lib.hid h3
      have HS1 : Hid (OnS l i a1 0 (-1) 0 (tm l i) ∧ Wh wr p p (tm l i) ∧ Below p w wr) := Lib.hid ⟨OnS.start d2 h3, h1, h2⟩
      clear h1 h2 h3
      go_wp2
      go_loopw [7, 8, 9] (fun v7 v8 v9 wr => ∃ (out : Nat) (last now : Int) (M : Mt), 0 ≤ now ∧ now < 100000 + 2 * a1 ∧ out ≤ i ∧ -1 ≤ last ∧ last ≤ 3000000000 ∧ v7 = .int .i64 out ∧ v8 = .int .i64 last ∧ v9 = .int .i64 now ∧ Hid (OnS l i a1 now last out M ∧ Wh wr p p M ∧ Below p w wr)) (fun _ _ v9 _ => (100000 + 2 * a1 - intOf v9).toNat)
      case atStart => exact ⟨0, -1, 0, tm l i, by omega, by omega, Nat.zero_le _, by omega, by omega, rfl, rfl, rfl, HS1⟩
      case round =>
        obtain ⟨out, last, now, M, hn0, hn1, ho, hl0, hl1, rfl, rfl, rfl, HD⟩ := hrel
        obtain ⟨qv, hqv⟩ : ∃ qv, now.tdiv a1 = qv := ⟨_, rfl⟩
        have hq0 : 0 ≤ qv ∧ qv ≤ now ∧ (now = 0 → qv = 0) := by
          rw [← hqv, Int.tdiv_eq_ediv_of_nonneg hn0]
          exact ⟨Int.ediv_nonneg hn0 (by omega), Int.ediv_le_self _ hn0, fun h => by rw [h]; simp⟩
        obtain ⟨hq1, hq2, hq3⟩ := hq0
        have z2 : ¬ a1 = 0 := by omega
        have z3 : (a1 == 0) = false := by simp; omega
        have wa : IntKind.i64.wrap (100000 + a1) = 100000 + a1 := IntWalk.i64_in _ (by omega)
        rcases (by omega : 100000 + a1 ≤ now ∨ (now < 100000 + a1 ∧ now = 0) ∨ (now < 100000 + a1 ∧ now ≠ 0 ∧ i ≤ out) ∨ (now < 100000 + a1 ∧ now ≠ 0 ∧ out < i ∧ 3000 ≤ qv) ∨ (now < 100000 + a1 ∧ now ≠ 0 ∧ out < i ∧ qv < 3000)) with s | ⟨s, s2⟩ | ⟨s, s2, s3⟩ | ⟨s, s2, s3, s4⟩ | ⟨s, s2, s3, s4⟩
        · have b1 : decide (now < 100000 + a1) = false := decide_eq_false (by omega)
          clear hqv hq3
          have HLE := Lib.hid (len_wh p p M wr HD.out.2.1)
          have hsum := HD.out.1.2.1
          obtain ⟨m, hm⟩ : ∃ m, M.length = m := ⟨_, rfl⟩
          have HM := Lib.hid hm
          rw [hm] at hsum
          clear hm
          go_wp2_with fail
          refine HLE.out.mono ?_
          rintro e W5 ⟨rfl, rfl⟩
          rw [HM.out]
          have hs2 : (((out : Int) + m) == (i : Int)) = true := beq_iff_eq.2 (by omega)
          go_wp2_with fail
          refine (known_any _).mono ?_
          rintro e W9 ⟨rfl, hB9⟩
          go_wp2
          go_ret
          exact ⟨rfl, by rw [HP.out]; exact HD.out.2.2.trans (hB9.mono HD.out.2.1.size)⟩
        · have b1 : decide (now < 100000 + a1) = true := decide_eq_true (by omega)
          have b4 : decide (qv < 3000) = true := decide_eq_true (by have := hq3 s2; omega)
          have b2 : (now == 0) = true := beq_iff_eq.2 s2
          clear s2 hq3
          have HDU := Lib.hid (due_wh p p M now wr HD.out.2.1)
          go_wp2_with fail
          refine HDU.out.mono ?_
          rintro e Y ⟨D, A, n, c, rfl, hperm, hsort, hOD, hW5, hB5⟩
          have hB6 : Below p w Y := HD.out.2.2.trans hB5
          have hzY : p ≤ Y.heap.size := hW5.size
          have HDn : Hid (D.length = n) := by have := hOD.length; show D.length = n; simpa [int64s] using this
          have hn6 : n ≤ 256 := by
            have h1 := hperm.length_eq
            have h2 := HD.out.2.1.room
            have h3 := List.length_filter_le (fun t : Int × Int => decide (t.2 ≤ now)) M
            have h4 := HDn.out
            unfold dueS at h1
            omega
          have HL0 : Hid (LastOk D 0 last now) := Lib.hid ⟨fun q t _ ht => (HD.out.1.due hperm HJ.out (List.mem_of_getElem? ht)).choose_spec.2.2.2.2.2.2.2, by rcases HD.out.1.2.2 with h | h <;> omega⟩
          have hon : n ≤ i := by
            have h1 := hperm.length_eq
            have h2 := HD.out.1.2.1
            have h3 := List.length_filter_le (fun t : Int × Int => decide (t.2 ≤ now)) M
            have h4 := HDn.out
            unfold dueS at h1
            omega
          have HPE := Lib.hid hperm
          have HSO := Lib.hid hsort
          have HRD := Lib.hid (Ow.rw hOD)
          have HWN := Lib.hid hW5
          have HBY := Lib.hid hB6
          have HRY := Lib.hid (HKB.out Y hB6)
          clear hperm hsort hOD hW5 hB5 hB6
          go_wp2
          go_loopw [7, 8, 11] (fun v7 v8 v11 wr => ∃ (r jj : Nat) (last : Int), r ≤ n ∧ v11 = .int .i64 r ∧ v7 = .int .i64 (out + r : Nat) ∧ -1 ≤ last ∧ last ≤ 3000000000 ∧ v8 = .int .i64 last ∧ Hid (LastOk D r last now) ∧ wr = Y.drewN jj) (fun _ _ v11 _ => n - (intOf v11).toNat)
          case atStart => exact ⟨0, 0, last, Nat.zero_le _, rfl, rfl, hl0, hl1, rfl, HL0, rfl⟩
          case round =>
            obtain ⟨r, jj, last2, hr, rfl, rfl, hm0, hm1, rfl, HLO, rfl⟩ := hrel
            rcases Nat.lt_or_ge r n with y | y
            · obtain ⟨x, hx⟩ : ∃ x, D[r]? = some x := ⟨_, List.getElem?_eq_getElem (by rw [HDn.out]; exact y)⟩
              obtain ⟨j, hj, hx1, hx2, hx3, hx4, hx5, hx6, _⟩ := HD.out.1.due HPE.out HJ.out (List.mem_of_getElem? hx)
              have hle := HLO.out.1 r x (Nat.le_refl _) hx
              have HLN : Hid (LastOk D (r + 1) x.2 now) := Lib.hid (LastOk.step HSO.out hx hx3 hx5)
              obtain ⟨lb, lo, hAA, _, hc1⟩ := HRD.out.at_ (k := r) (u := .int .i64 x.1) (by simp [int64s, hx])
              obtain ⟨kb, ko, hka, _, hkc2, hko⟩ := HRY.out.at_ hj
              subst hAA
              subst hka
              rw [hx1] at hc1
              rw [← hx2] at hkc2 hko
              obtain ⟨tv, htv⟩ : ∃ tv, x.2 = tv := ⟨_, rfl⟩
              rw [htv] at hkc2 hko hx3 hx4 hx5 hx6 hle HLN
              have y' : (r : Int) < n := by omega
              have f1 : decide ((j : Int) < 0) = false := decide_eq_false (by omega)
              have f2 : decide ((i : Int) ≤ (j : Int)) = false := decide_eq_false (by omega)
              have f2' : decide (i ≤ j) = false := decide_eq_false (by omega)
              have f3 : decide (now < tv) = false := decide_eq_false (by omega)
              have f4 : decide (tv ≤ now - a1) = false := decide_eq_false (by omega)
              have f5 : decide (tv < last2) = false := decide_eq_false (by omega)
              have f6 : IntKind.i64.wrap (now - a1) = now - a1 := IntWalk.i64_in _ (by omega)
              have hji : (j : Int) < i := by omega
              clear hx hx1 hx2 htv
              go_wp2
              go_roundw
              case rel => exact ⟨r + 1, _, tv, by omega, by go_num, by go_num, by omega, by omega, rfl, HLN, rfl⟩
              case measure => simp [intOf]; omega
            · obtain rfl : r = n := by omega
              have y' : ¬ (r : Int) < r := by omega
              have HNX := Lib.hid (next_wh p p _ (Y.drewN jj) (HWN.out.drewN jj))
              have HON := Lib.hid (HD.out.1.next d2 HPE.out HLO.out.2)
              rw [HDn.out] at HON
              go_wp2_with fail
              refine HNX.out.mono ?_
              rintro e W5 ⟨nn, is_, rfl, hnx, hW5, hB5⟩
              have HFN : Hid (OnS l i a1 (now + a1) last2 (out + r) (M.filter fun t => decide (now < t.2)) ∧ Wh W5 p p (M.filter fun t => decide (now < t.2)) ∧ Below p w W5) := Lib.hid ⟨HON.out, hW5, (bel_drewN HBY.out jj).trans (hB5.mono (HWN.out.drewN jj).size)⟩
              have hor := HON.out.le
              rcases next_gt hnx with rfl | ⟨rfl, g1⟩
              · clear hnx hW5 hB5
                go_wp2
                go_roundw
                case rel => exact ⟨out + r, last2, now + a1, _, by omega, by omega, hor, hm0, hm1, by go_num, rfl, by go_num, HFN⟩
                case measure => simp [intOf]; omega
              · clear hnx hW5 hB5
                go_wp2
                go_roundw
                case rel => exact ⟨out + r, last2, now + a1, _, by omega, by omega, hor, hm0, hm1, by go_num, rfl, by go_num, HFN⟩
                case measure => simp [intOf]; omega
        · have b1 : decide (now < 100000 + a1) = true := decide_eq_true (by omega)
          have b2 : (now == 0) = false := beq_eq_false_iff_ne.2 s2
          clear s2 hq3
          have b3 : decide ((out : Int) < (i : Int)) = false := decide_eq_false (by omega)
          have b3' : decide (out < i) = false := decide_eq_false (by omega)
          clear hqv
          have HLE := Lib.hid (len_wh p p M wr HD.out.2.1)
          have hsum := HD.out.1.2.1
          obtain ⟨m, hm⟩ : ∃ m, M.length = m := ⟨_, rfl⟩
          have HM := Lib.hid hm
          rw [hm] at hsum
          clear hm
          go_wp2_with fail
          refine HLE.out.mono ?_
          rintro e W5 ⟨rfl, rfl⟩
          rw [HM.out]
          have hs2 : (((out : Int) + m) == (i : Int)) = true := beq_iff_eq.2 (by omega)
          go_wp2_with fail
          refine (known_any _).mono ?_
          rintro e W9 ⟨rfl, hB9⟩
          go_wp2
          go_ret
          exact ⟨rfl, by rw [HP.out]; exact HD.out.2.2.trans (hB9.mono HD.out.2.1.size)⟩
        · have b1 : decide (now < 100000 + a1) = true := decide_eq_true (by omega)
          have b2 : (now == 0) = false := beq_eq_false_iff_ne.2 s2
          clear s2 hq3
          have b3 : decide ((out : Int) < (i : Int)) = true := decide_eq_true (by omega)
          have b3' : decide (out < i) = true := decide_eq_true (by omega)
          have b4 : decide (qv < 3000) = false := decide_eq_false (by omega)
          have HLE := Lib.hid (len_wh p p M wr HD.out.2.1)
          have hsum := HD.out.1.2.1
          obtain ⟨m, hm⟩ : ∃ m, M.length = m := ⟨_, rfl⟩
          have HM := Lib.hid hm
          rw [hm] at hsum
          clear hm
          go_wp2_with fail
          refine HLE.out.mono ?_
          rintro e W5 ⟨rfl, rfl⟩
          rw [HM.out]
          have hs2 : (((out : Int) + m) == (i : Int)) = true := beq_iff_eq.2 (by omega)
          go_wp2_with fail
          refine (known_any _).mono ?_
          rintro e W9 ⟨rfl, hB9⟩
          go_wp2
          go_ret
          exact ⟨rfl, by rw [HP.out]; exact HD.out.2.2.trans (hB9.mono HD.out.2.1.size)⟩
        · have b1 : decide (now < 100000 + a1) = true := decide_eq_true (by omega)
          have b2 : (now == 0) = false := beq_eq_false_iff_ne.2 s2
          clear s2 hq3
          have b3 : decide ((out : Int) < (i : Int)) = true := decide_eq_true (by omega)
          have b3' : decide (out < i) = true := decide_eq_true (by omega)
          have b4 : decide (qv < 3000) = true := decide_eq_true (by omega)
          have HDU := Lib.hid (due_wh p p M now wr HD.out.2.1)
          go_wp2_with fail
          refine HDU.out.mono ?_
          rintro e Y ⟨D, A, n, c, rfl, hperm, hsort, hOD, hW5, hB5⟩
          have hB6 : Below p w Y := HD.out.2.2.trans hB5
          have hzY : p ≤ Y.heap.size := hW5.size
          have HDn : Hid (D.length = n) := by have := hOD.length; show D.length = n; simpa [int64s] using this
          have hn6 : n ≤ 256 := by
            have h1 := hperm.length_eq
            have h2 := HD.out.2.1.room
            have h3 := List.length_filter_le (fun t : Int × Int => decide (t.2 ≤ now)) M
            have h4 := HDn.out
            unfold dueS at h1
            omega
          have HL0 : Hid (LastOk D 0 last now) := Lib.hid ⟨fun q t _ ht => (HD.out.1.due hperm HJ.out (List.mem_of_getElem? ht)).choose_spec.2.2.2.2.2.2.2, by rcases HD.out.1.2.2 with h | h <;> omega⟩
          have hon : n ≤ i := by
            have h1 := hperm.length_eq
            have h2 := HD.out.1.2.1
            have h3 := List.length_filter_le (fun t : Int × Int => decide (t.2 ≤ now)) M
            have h4 := HDn.out
            unfold dueS at h1
            omega
          have HPE := Lib.hid hperm
          have HSO := Lib.hid hsort
          have HRD := Lib.hid (Ow.rw hOD)
          have HWN := Lib.hid hW5
          have HBY := Lib.hid hB6
          have HRY := Lib.hid (HKB.out Y hB6)
          clear hperm hsort hOD hW5 hB5 hB6
          go_wp2
          go_loopw [7, 8, 11] (fun v7 v8 v11 wr => ∃ (r jj : Nat) (last : Int), r ≤ n ∧ v11 = .int .i64 r ∧ v7 = .int .i64 (out + r : Nat) ∧ -1 ≤ last ∧ last ≤ 3000000000 ∧ v8 = .int .i64 last ∧ Hid (LastOk D r last now) ∧ wr = Y.drewN jj) (fun _ _ v11 _ => n - (intOf v11).toNat)
          case atStart => exact ⟨0, 0, last, Nat.zero_le _, rfl, rfl, hl0, hl1, rfl, HL0, rfl⟩
          case round =>
            obtain ⟨r, jj, last2, hr, rfl, rfl, hm0, hm1, rfl, HLO, rfl⟩ := hrel
            rcases Nat.lt_or_ge r n with y | y
            · obtain ⟨x, hx⟩ : ∃ x, D[r]? = some x := ⟨_, List.getElem?_eq_getElem (by rw [HDn.out]; exact y)⟩
              obtain ⟨j, hj, hx1, hx2, hx3, hx4, hx5, hx6, _⟩ := HD.out.1.due HPE.out HJ.out (List.mem_of_getElem? hx)
              have hle := HLO.out.1 r x (Nat.le_refl _) hx
              have HLN : Hid (LastOk D (r + 1) x.2 now) := Lib.hid (LastOk.step HSO.out hx hx3 hx5)
              obtain ⟨lb, lo, hAA, _, hc1⟩ := HRD.out.at_ (k := r) (u := .int .i64 x.1) (by simp [int64s, hx])
              obtain ⟨kb, ko, hka, _, hkc2, hko⟩ := HRY.out.at_ hj
              subst hAA
              subst hka
              rw [hx1] at hc1
              rw [← hx2] at hkc2 hko
              obtain ⟨tv, htv⟩ : ∃ tv, x.2 = tv := ⟨_, rfl⟩
              rw [htv] at hkc2 hko hx3 hx4 hx5 hx6 hle HLN
              have y' : (r : Int) < n := by omega
              have f1 : decide ((j : Int) < 0) = false := decide_eq_false (by omega)
              have f2 : decide ((i : Int) ≤ (j : Int)) = false := decide_eq_false (by omega)
              have f2' : decide (i ≤ j) = false := decide_eq_false (by omega)
              have f3 : decide (now < tv) = false := decide_eq_false (by omega)
              have f4 : decide (tv ≤ now - a1) = false := decide_eq_false (by omega)
              have f5 : decide (tv < last2) = false := decide_eq_false (by omega)
              have f6 : IntKind.i64.wrap (now - a1) = now - a1 := IntWalk.i64_in _ (by omega)
              have hji : (j : Int) < i := by omega
              clear hx hx1 hx2 htv
              go_wp2
              go_roundw
              case rel => exact ⟨r + 1, _, tv, by omega, by go_num, by go_num, by omega, by omega, rfl, HLN, rfl⟩
              case measure => simp [intOf]; omega
            · obtain rfl : r = n := by omega
              have y' : ¬ (r : Int) < r := by omega
              have HNX := Lib.hid (next_wh p p _ (Y.drewN jj) (HWN.out.drewN jj))
              have HON := Lib.hid (HD.out.1.next d2 HPE.out HLO.out.2)
              rw [HDn.out] at HON
              go_wp2_with fail
              refine HNX.out.mono ?_
              rintro e W5 ⟨nn, is_, rfl, hnx, hW5, hB5⟩
              have HFN : Hid (OnS l i a1 (now + a1) last2 (out + r) (M.filter fun t => decide (now < t.2)) ∧ Wh W5 p p (M.filter fun t => decide (now < t.2)) ∧ Below p w W5) := Lib.hid ⟨HON.out, hW5, (bel_drewN HBY.out jj).trans (hB5.mono (HWN.out.drewN jj).size)⟩
              have hor := HON.out.le
              rcases next_gt hnx with rfl | ⟨rfl, g1⟩
              · clear hnx hW5 hB5
                go_wp2
                go_roundw
                case rel => exact ⟨out + r, last2, now + a1, _, by omega, by omega, hor, hm0, hm1, by go_num, rfl, by go_num, HFN⟩
                case measure => simp [intOf]; omega
              · clear hnx hW5 hB5
                go_wp2
                go_roundw
                case rel => exact ⟨out + r, last2, now + a1, _, by omega, by omega, hor, hm0, hm1, by go_num, rfl, by go_num, HFN⟩
                case measure => simp [intOf]; omega

/-! ### the row -/
set_option maxRecDepth 100000 in
theorem lifted (os : Os) (started : os.Started) (H : Type) (enc : TypeId × Value → H) :
    ReturnsInHanded {} Try.checked os 7 .any (Rows.wheelOnceSpec.pre6 enc Try.prog Try.f7 Rows.wheelOnceRow.domain false) (Rows.wheelOnceSpec.post enc Try.prog Try.f7 false true false false) := by
  refine returnsInHanded_of_change_sized (C := Try.checked) own started (by kernel_rfl) Try.func7
    (ChangeSpec.witness6 (enc := enc) (C := Try.checked) false ⟨#[], #[.slice none 0 0, .int .i64 0], []⟩ 8 (by kernel_rfl) (by kernel_rfl) (by kernel_rfl) (by kernel_rfl)) ?_
  intro W base args ds gs before hval0 hW hcnd hsz0 _
  have hval : ∀ (j : Nat) t v, Try.f7.params[j]? = some t → args[j]? = some v → Value.okWide Try.prog W .any base t v := hval0
  have hsz : (DataW.weightsEach Try.prog (Try.f7.params.toList ++ Rows.wheelOnceSpec.plain.varTypes Try.prog) (ds ++ gs)).all (· ≤ reachBytes) = true := hsz0
  clear hsz0
  have hW' := hW
  obtain ⟨p, q, hA0, hV, rfl, hfz, hnd⟩ := hW
  have hA : DataW.TrodAll enc Try.prog W 0 (fun _ => true) true Try.f7.params.toList args.toList ds p := hA0
  rw [Try.params7] at hA hval hsz
  obtain ⟨v0, vs0, d0, ds0, p0, q0, hargs, rfl, rfl, h0, r0⟩ := trodAll_cons hA
  obtain ⟨v1, vs1, d1, ds1, p1, q1, rfl, rfl, rfl, h1, r1⟩ := trodAll_cons r0
  obtain ⟨rfl, rfl, rfl⟩ := trodAll_nil r1
  obtain rfl : args = #[v0, v1] := by cases args; simp_all
  obtain ⟨rfl, rfl⟩ := trodVars_none hV
  obtain ⟨a0, len0, cap0, rfl⟩ := okWide_slice Try.underlying35 (hval 0 35 v0 rfl rfl)
  have k0 := h0
  have lt0 : ∀ x ∈ p0, x.block < W.heap.size := by obtain ⟨m, hm⟩ := k0; exact DataW.trod_lt m _ _ _ hm
  obtain ⟨z0, w0⟩ : ∃ zs, IsRow .i64 W a0 len0 cap0 zs ∧ cap0 * 8 ≤ 140737488351232 := by
    obtain ⟨fuel, hf⟩ := h0
    rcases open_ints Try.underlying35 Try.underlying3 (by kernel_rfl) hf with ⟨hcs, _⟩ | ⟨x, l, c, zs, hcs, _, hl, hm, hz, hx, hcell, hwz⟩
    · simp [Value.cells] at hcs
      obtain ⟨rfl, rfl, rfl⟩ := hcs
      exact ⟨[], .inl ⟨rfl, rfl, rfl, rfl⟩, by omega⟩
    · simp [Value.cells] at hcs
      obtain ⟨rfl, rfl, rfl⟩ := hcs
      simp only [Prod.mk.injEq] at hx
      obtain ⟨rfl, rfl⟩ := hx
      simp only [if_true] at hz
      have hm2 := sized_slice hsz (j := 0) (t := 35) (e := 3) rfl rfl Try.underlying35
      rw [show Try.prog.bytesOf 3 = 8 from by kernel_rfl] at hm2
      simp only [lits, List.length_map, List.length_take, List.length_drop, reachBytes] at hm2
      exact ⟨zs, .inr ⟨_, rfl, hl, hm, hz, hcell, hwz⟩, by omega⟩
  obtain ⟨a1, rfl, rfl, rfl, w1⟩ := open_int Try.underlying3 (hval 1 3 v1 rfl rfl) h1
  clear hA0 hval0
  refine (walk a0 len0 cap0 z0 a1 W w0 w1).mono fun e W' ⟨he, bel⟩ => ?_
  subst he
  exact ⟨_, rfl, _, _, _, [], _, [], hW', trodAll_mk1 (shut_bool Try.underlying4 _), (trodAll_cons_mk (Below.trod laidOut (by kernel_rfl) (of_decide_eq_true (by kernel_rfl)) k0 bel lt0) (trodAll_cons_mk (shut_int Try.underlying3 w1) trodAll_mk0)), rfl, bel.frame _, fun h => by cases h⟩

theorem over : Rows.wheelOnceRow.holds Try.pinned (OpenSpec.ofChange Rows.wheelOnceSpec) :=
  OpenClaim.holds_of_wide 7 Try.f7 rfl rfl rfl rfl rfl rfl rfl ⟨rfl, rfl, rfl, rfl, rfl⟩ rfl rfl rfl rfl rfl (by kernel_rfl) Try.func7 (by kernel_rfl)
    (of_decide_eq_true (by kernel_rfl)) (by unfold Func.isWrapper; first | (rw [if_pos (by decide +kernel)]; kernel_rfl) | (rw [if_neg (by decide +kernel)]; exact ⟨rfl, rfl⟩))
    (fun os started H enc _ => lifted os started H enc)

theorem proved : Rows.WheelOnceSaid := over
#print axioms proved
end Go.Proofs.Ytnnblakjaiccfaa.wheelOnce
