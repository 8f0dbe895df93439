/- Proved: what waited as long as WholeLife is given up, not ahead, and of it the first piece is told, if it had come. Conditions: none, for every input. -/
import Derived.Test.YtcjkhonapafndaaRows
import Derived.WalkKit
import Derived.ProofKit
import Derived.OpenShut
import Derived.ShutString
import Derived.ChangeOld
import Derived.Below
import Derived.SizedLaws
import Derived.Test.YtcjkhonapafndaaFgt
import Derived.Test.YtcjkhonapafndaaKnw
import Derived.Test.YtcjkhonapafndaaIn
namespace Go.Proofs.Ytcjkhonapafndaa.fragForgets
open Go.ChangeShapes Go.WideShapes Go.ChangeAt Go.RowKit
open Go.ChangeMaps (open_string shut_string)
set_option linter.unusedVariables false

theorem own : ownKnob Try.prog.godebug = none := by kernel_rfl
theorem laidOut : laidOutB Try.prog = true := by kernel_rfl

/-! ### the walk -/
set_option maxRecDepth 100000 in
set_option maxHeartbeats 8000000 in
theorem walk (v0 : Value) (a1 : Int) (a2 : Bool) (w : World) (w0 : ViewPkt w v0) (w1 : (Lit.int .i64 a1).wf = true) :
    Calls Try.prog 9 #[v0, .int .i64 a1, .bool a2] w fun e w' => e = .returned (.bool true) ∧ Below w.heap.size w w' := by
  obtain ⟨p, oA, on, oc, ol, dA, dn, dc, dl, rfl, hp, ho, hd⟩ := w0
  have hft := bounds_i64 w1
  clear w1
  have hom := ho.max
  have hoc := ho.cap
  have hdm := hd.max
  have hdc := hd.cap
  obtain ⟨gp, hgp⟩ : ∃ gp, w.heap.size = gp := ⟨_, rfl⟩
  obtain ⟨W, hW⟩ : ∃ W, w.alloc (.cells (pkC p (.slice oA on oc) (.slice dA dn dc)) 26) = W := ⟨_, rfl⟩
  have hm : Bk W gp 26 (pkC p (.slice oA on oc) (.slice dA dn dc)) := by rw [← hW, ← hgp]; exact Bk.new w _ _
  have hB : Below gp w W := by rw [← hW, ← hgp]; exact (Below.refl _ _).alloc (Nat.le_refl _) _
  have hz : gp < W.heap.size := hm.lt
  have hr1 : RB W gp oA ol := Rw.below (hgp ▸ ho.rb) hB
  have hr2 : RB W gp dA dl := Rw.below (hgp ▸ hd.rb) hB
  have HW : Hid (w.alloc (.cells #[.int .i64 p.svc, .int .i64 p.id, .bool p.whole, .bool p.more, .int .i64 p.off, .int .i64 p.life, .int .i64 p.proto, .int .u32 p.src, .int .u32 p.dst, .slice oA on oc, .slice dA dn dc] 26) = W) := Lib.hid hW
  have HGP := Lib.hid hgp
  have HM := Lib.hid hm
  have HB := Lib.hid hB
  have HR1 := Lib.hid hr1
  have HR2 := Lib.hid hr2
  have HN := Lib.hid ho.len
  have HDN := Lib.hid hd.len
  have HOB := Lib.hid ho.bs
  have HDB := Lib.hid hd.bs
  have HP := Lib.hid hp
  have b0 := (hm).cell 0
  have b1 := (hm).cell 1
  have b2 := (hm).cell 2
  have b3 := (hm).cell 3
  have b4 := (hm).cell 4
  have b5 := (hm).cell 5
  have b6 := (hm).cell 6
  have b7 := (hm).cell 7
  have b8 := (hm).cell 8
  have b9 := (hm).cell 9
  have b10 := (hm).cell 10
  simp only [pkC, List.getElem?_toArray, List.getElem?_cons_zero, List.getElem?_cons_succ] at b0 b1 b2 b3 b4 b5 b6 b7 b8 b9 b10
  clear hW hgp hm hB hr1 hr2 ho hd hp
  have HL := Lib.hid (long_any p oA dA on oc dn dc W)
  unfold pkC at HL
  unfold pkC
  go_enter Try.func9, Try.ntmps9
  go_wp2_with fail
  rw [HW.out, HGP.out]
  refine HL.out.mono ?_
  rintro e1 W1 ⟨rfl, hB1⟩
  have HB1 := Lib.hid hB1
  have hz1 := hB1.size
  have hm1 := HM.out.below hB1 hz
  have HM1 := Lib.hid hm1
  have c0 := (hm1).cell 0
  have c1 := (hm1).cell 1
  have c2 := (hm1).cell 2
  have c3 := (hm1).cell 3
  have c4 := (hm1).cell 4
  have c5 := (hm1).cell 5
  have c6 := (hm1).cell 6
  have c7 := (hm1).cell 7
  have c8 := (hm1).cell 8
  have c9 := (hm1).cell 9
  have c10 := (hm1).cell 10
  simp only [pkC, List.getElem?_toArray, List.getElem?_cons_zero, List.getElem?_cons_succ] at c0 c1 c2 c3 c4 c5 c6 c7 c8 c9 c10
  clear b0 b1 b2 b3 b4 b5 b6 b7 b8 b9 b10 hB1 hm1
  obtain ⟨poff, hpo⟩ : ∃ x, p.off = x := ⟨_, rfl⟩
  rw [hpo] at c4
  have HPO := Lib.hid hpo
  clear hpo
  have hways : ((6000 < dn ∨ 100 < on)) ∨ (¬ (6000 < dn ∨ 100 < on) ∧ (a1 < 0)) ∨ (¬ (6000 < dn ∨ 100 < on) ∧ ¬ (a1 < 0) ∧ (1099511626776 < a1)) ∨ (¬ (6000 < dn ∨ 100 < on) ∧ ¬ (a1 < 0) ∧ ¬ (1099511626776 < a1) ∧ (dn = 0)) ∨ (¬ (6000 < dn ∨ 100 < on) ∧ ¬ (a1 < 0) ∧ ¬ (1099511626776 < a1) ∧ ¬ (dn = 0) ∧ (poff < 0)) ∨ (¬ (6000 < dn ∨ 100 < on) ∧ ¬ (a1 < 0) ∧ ¬ (1099511626776 < a1) ∧ ¬ (dn = 0) ∧ ¬ (poff < 0) ∧ (60000 < poff)) ∨ (¬ (6000 < dn ∨ 100 < on) ∧ ¬ (a1 < 0) ∧ ¬ (1099511626776 < a1) ∧ ¬ (dn = 0) ∧ ¬ (poff < 0) ∧ ¬ (60000 < poff)) := by omega
  rcases hways with hw | hw | hw | hw | hw | hw | hw
  · have hq : (decide (6000 < (dn : Int)) || decide (100 < (on : Int))) = true := by simp; omega
    rw [hq]
    clear hq
    clear hw
    go_wp2_with fail
    refine (known_any _).mono ?_
    rintro e2 W2 ⟨rfl, hB2⟩
    go_wp2
    go_ret
    exact ⟨rfl, by rw [HGP.out]; exact (HB.out.trans (HB1.out.mono (by omega))).trans (hB2.mono (by omega))⟩
  · have hq : (decide (6000 < (dn : Int)) || decide (100 < (on : Int))) = false := by simp; omega
    rw [hq]
    clear hq
    have t1 : decide (a1 < 0) = true := decide_eq_true (by omega)
    clear hw
    go_wp2_with fail
    refine (known_any _).mono ?_
    rintro e2 W2 ⟨rfl, hB2⟩
    go_wp2
    go_ret
    exact ⟨rfl, by rw [HGP.out]; exact (HB.out.trans (HB1.out.mono (by omega))).trans (hB2.mono (by omega))⟩
  · have hq : (decide (6000 < (dn : Int)) || decide (100 < (on : Int))) = false := by simp; omega
    rw [hq]
    clear hq
    have t1 : decide (a1 < 0) = false := decide_eq_false (by omega)
    have t2 : decide ((1099511626776 : Int) < a1) = true := decide_eq_true (by omega)
    clear hw
    go_wp2_with fail
    refine (known_any _).mono ?_
    rintro e2 W2 ⟨rfl, hB2⟩
    go_wp2
    go_ret
    exact ⟨rfl, by rw [HGP.out]; exact (HB.out.trans (HB1.out.mono (by omega))).trans (hB2.mono (by omega))⟩
  · have hq : (decide (6000 < (dn : Int)) || decide (100 < (on : Int))) = false := by simp; omega
    rw [hq]
    clear hq
    have t1 : decide (a1 < 0) = false := decide_eq_false (by omega)
    have t2 : decide ((1099511626776 : Int) < a1) = false := decide_eq_false (by omega)
    have t3 : ((dn : Int) == 0) = true := beq_iff_eq.2 (by omega)
    clear hw
    go_wp2_with fail
    refine (known_any _).mono ?_
    rintro e2 W2 ⟨rfl, hB2⟩
    go_wp2
    go_ret
    exact ⟨rfl, by rw [HGP.out]; exact (HB.out.trans (HB1.out.mono (by omega))).trans (hB2.mono (by omega))⟩
  · have hq : (decide (6000 < (dn : Int)) || decide (100 < (on : Int))) = false := by simp; omega
    rw [hq]
    clear hq
    have t1 : decide (a1 < 0) = false := decide_eq_false (by omega)
    have t2 : decide ((1099511626776 : Int) < a1) = false := decide_eq_false (by omega)
    have t3 : ((dn : Int) == 0) = false := beq_eq_false_iff_ne.2 (by omega)
    have t4 : decide (poff < 0) = true := decide_eq_true (by omega)
    clear hw
    go_wp2_with fail
    refine (known_any _).mono ?_
    rintro e2 W2 ⟨rfl, hB2⟩
    go_wp2
    go_ret
    exact ⟨rfl, by rw [HGP.out]; exact (HB.out.trans (HB1.out.mono (by omega))).trans (hB2.mono (by omega))⟩
  · have hq : (decide (6000 < (dn : Int)) || decide (100 < (on : Int))) = false := by simp; omega
    rw [hq]
    clear hq
    have t1 : decide (a1 < 0) = false := decide_eq_false (by omega)
    have t2 : decide ((1099511626776 : Int) < a1) = false := decide_eq_false (by omega)
    have t3 : ((dn : Int) == 0) = false := beq_eq_false_iff_ne.2 (by omega)
    have t4 : decide (poff < 0) = false := decide_eq_false (by omega)
    have t5 : decide ((60000 : Int) < poff) = true := decide_eq_true (by omega)
    clear hw
    go_wp2_with fail
    refine (known_any _).mono ?_
    rintro e2 W2 ⟨rfl, hB2⟩
    go_wp2
    go_ret
    exact ⟨rfl, by rw [HGP.out]; exact (HB.out.trans (HB1.out.mono (by omega))).trans (hB2.mono (by omega))⟩
  · have hq : (decide (6000 < (dn : Int)) || decide (100 < (on : Int))) = false := by simp; omega
    rw [hq]
    clear hq
    have t1 : decide (a1 < 0) = false := decide_eq_false (by omega)
    have t2 : decide ((1099511626776 : Int) < a1) = false := decide_eq_false (by omega)
    have t3 : ((dn : Int) == 0) = false := beq_eq_false_iff_ne.2 (by omega)
    have t4 : decide (poff < 0) = false := decide_eq_false (by omega)
    have t5 : decide ((60000 : Int) < poff) = false := decide_eq_false (by omega)
    obtain ⟨m, hmm⟩ : ∃ m, min 8 dn = m := ⟨_, rfl⟩
    have hmi : min (8 : Int) (dn : Int) = (m : Int) := by omega
    have hm8 : m ≤ 8 ∧ m ≤ dn := by omega
    have HWY := Lib.hid hw
    have HMM := Lib.hid hmm
    have hrD : RB W1 gp dA (dl.take m) := by
      have q := Rw.below HR2.out (HB1.out.mono (by omega))
      have q2 := Rw.take q m
      rwa [show (by8 dl).take m = by8 (dl.take m) from by simp [by8]] at q2
    have HRD := Lib.hid hrD
    have HLM : Hid ((dl.take m).length = m) := Lib.hid (by rw [List.length_take, HDN.out]; omega)
    have x10 := HM1.out.frozen 10
    have y10 := (World.cell?_alloc_lt W1 (.cells #[] 5) ⟨gp, 10, none⟩ HM1.out.lt).trans c10
    clear hw hmm hrD
    go_wp2_with (at_builtin; refine ap8_new rfl (.tmp 41) (.tmp 48) rfl rfl rfl HRD.out (by omega) HLM.out (by omega) ?_; intro A2 k2 w2 hO2 hB2 hz2 hk2; have hm2 := HM1.out.below hB2 HM1.out.lt; have x20 := hm2.frozen 10; have y20 := hm2.cell 10)
    have HS0 := Lib.hid (FgS.first HM1.out hO2 hB2 hm8.1 (HDB.out.take m))
    clear hO2 hB2 hk2 hm2 x20 y20 x10 y10 c0 c1 c2 c3 c4 c5 c6 c7 c8 c9 c10
    go_loopw [59] (fun _ wr => ∃ (n : Nat) (A : Option Addr) (c : Nat) (l : List Int), Hid (FgS W1 gp p (.slice oA on oc) A n c l wr)) (fun _ wr => 8 - lenAt (wr.cell? ⟨gp, 10, none⟩))
    case atStart => exact ⟨m, A2, k2, _, HS0⟩
    case round =>
      obtain ⟨n, A, c, l, HS⟩ := hrel
      have d10 : wr.cell? ⟨gp, 10, none⟩ = some (.slice A n c) := HS.out.bk.cell 10
      have hn8 := HS.out.n8
      have hzr := HS.out.bk.lt
      rcases (by omega : n < 8 ∨ n = 8) with q | rfl
      · have t8 : decide ((n : Int) < 8) = true := decide_eq_true (by omega)
        have hsz : W1.heap.size ≤ wr.heap.size := HS.out.be.size
        go_wp2_with (at_builtin; refine ap8_one rfl (.tmp 56) (.tmp 57) rfl W1.heap.size rfl HS.out.ob rfl (by omega) hsz ?_; intro A3 k3 w3 hO3 hB3 _ _ _ _; have f10 := (HS.out.bk.below hB3 HS.out.gz).frozen 10; have g10 := (HS.out.bk.below hB3 HS.out.gz).cell 10)
        have HS2 := Lib.hid (HS.out.put hO3 hB3 (by omega) (HS.out.bs.append (fun x hx => by simp at hx; omega)))
        clear hO3 hB3 f10 g10
        go_roundw
        case rel => exact ⟨n + 1, A3, k3, _, HS2⟩
        case measure =>
          have m1 := HS2.out.bk.cell 10
          simp only [pkC, List.getElem?_toArray, List.getElem?_cons_zero, List.getElem?_cons_succ] at m1
          rw [m1, d10]
          simp [lenAt]; omega
      · have t8 : decide (((8 : Nat) : Int) < 8) = false := by decide
        have d3 := HS.out.bk.cell 3
        have d4 := HS.out.bk.cell 4
        simp only [pkC, List.getElem?_toArray, List.getElem?_cons_zero, List.getElem?_cons_succ] at d3 d4
        rw [HPO.out] at d4
        have f3 := HS.out.bk.frozen 3
        have f4 := HS.out.bk.frozen 4
        go_upto_if 66 with (fail)
        go_cut [] (fun wx => ∃ of : Int, Hid (FgS W1 gp { p with more := true, off := of } (.slice oA on oc) A 8 c l wx) ∧ Hid (0 ≤ of ∧ of ≤ 60000 ∧ of.tmod 8 = 0))
        case first =>
          cases a2 with
          | true =>
            go_wp2_with fail
            go_meet
            exact ⟨0, Lib.hid ((HS.out.more.off _).off 0), Lib.hid ⟨by omega, by omega, rfl⟩⟩
          | false =>
            go_wp2_with fail
            go_meet
            exact ⟨_, Lib.hid (HS.out.more.off _), Lib.hid (by have := HWY.out; exact eights (by omega) (by omega))⟩
        case rest =>
          obtain ⟨of, HF, HOF⟩ := hcut
          have HP2 : Hid (PkV.Ok { p with more := true, off := of }) := Lib.hid ⟨HP.out.svc, HP.out.id, ⟨by have := HOF.out; show _ ≤ of; omega, by have := HOF.out; show of ≤ _; omega⟩, HP.out.life, HP.out.proto, HP.out.src, HP.out.dst⟩
          have HRB : Hid (RB W1 gp oA ol) := Lib.hid (Rw.below HR1.out (HB1.out.mono (by omega)))
          have HAD := Lib.hid (fg_add (now := a1) HF.out HP2.out rfl HN.out (by have := HWY.out; omega) HRB.out rfl HOF.out)
          unfold pkC at HAD
          simp only at HAD
          have hbk4 := HF.out.bk.alloc (.cells #[.map none, .slice none 0 0] 46)
          have g0 := hbk4.cell 0
          have g1 := hbk4.cell 1
          have g2 := hbk4.cell 2
          have g3 := hbk4.cell 3
          have g4 := hbk4.cell 4
          have g5 := hbk4.cell 5
          have g6 := hbk4.cell 6
          have g7 := hbk4.cell 7
          have g8 := hbk4.cell 8
          have g9 := hbk4.cell 9
          have g10 := hbk4.cell 10
          simp only [pkC, List.getElem?_toArray, List.getElem?_cons_zero, List.getElem?_cons_succ] at g0 g1 g2 g3 g4 g5 g6 g7 g8 g9 g10
          have HB4 := Lib.hid hbk4
          clear hbk4
          go_wp2_with fail
          refine HAD.out.mono ?_
          rintro e w4 ⟨q, A1, A2, n1, k1, n2, k2, rfl, hT⟩
          obtain ⟨W5, hW5⟩ : ∃ W5, w4.alloc (.cells #[.int .i64 q.svc, .int .i64 q.id, .bool q.whole, .bool q.more, .int .i64 q.off, .int .i64 q.life, .int .i64 q.proto, .int .u32 q.src, .int .u32 q.dst, .slice A1 n1 k1, .slice A2 n2 k2] 26) = W5 := ⟨_, rfl⟩
          have HT4 := Lib.hid (hT.alloc (.cells #[.int .i64 q.svc, .int .i64 q.id, .bool q.whole, .bool q.more, .int .i64 q.off, .int .i64 q.life, .int .i64 q.proto, .int .u32 q.src, .int .u32 q.dst, .slice A1 n1 k1, .slice A2 n2 k2] 26))
          rw [hW5] at HT4
          have HW5 := Lib.hid hW5
          have hfr : 0 ≤ a1 ∧ a1 ≤ 1099511626776 := by have := HWY.out; omega
          clear hW5 hT g0 g1 g2 g3 g4 g5 g6 g7 g8 g9 g10
          go_wp2_with fail
          rw [HW5.out]
          refine (fg_keep HT4.out hfr).mono ?_
          rintro e w6 ⟨⟨A6, c6, rfl⟩, hT6⟩
          have HT6 := Lib.hid hT6
          clear hT6
          go_wp2_with fail
          refine (fg_len HT6.out).mono ?_
          rintro e w7 ⟨rfl, rfl⟩
          go_wp2_with fail
          refine (fg_give HT6.out hfr).mono ?_
          rintro e w8 ⟨A8, n8, c8, Lp, rfl, hL, hps8, hpm8, ⟨F8, hF8⟩, hbe8⟩
          have hlen8 := hps8.len
          have hgpl := HF.out.bk.lt
          have hm8 : Bk w8 gp 26 (pkC { p with more := true, off := of } (.slice oA on oc) (.slice A 8 c)) := HF.out.bk.below hbe8 hgpl
          have hfin : Below gp w w8 := ((HB.out.trans (HB1.out.mono (by omega))).trans HF.out.be).trans (hbe8.mono (Nat.le_of_lt hgpl))
          have hgp8 := hm8.lt
          have HF8 := Lib.hid hF8
          have HFIN := Lib.hid hfin
          rcases Int.decEq of 0 with hof | hof
          · rw [if_neg hof] at hL
            obtain rfl : Lp = [] := List.map_eq_nil_iff.1 hL
            obtain rfl : 0 = n8 := hlen8
            have v4 : w8.cell? ⟨gp, 4, none⟩ = some (.int .i64 of) := hm8.cell 4
            have t9 : (of == 0) = false := by simpa using hof
            clear hm8 hbe8 hps8 hpm8 hF8 hL hfin
            go_wp2_with fail
            refine (sto_len wc.heap.size F8 [] w8 HF8.out).mono ?_
            rintro e w9 ⟨rfl, rfl⟩
            go_wp2_with fail
            refine (known_any _).mono ?_
            rintro e wA ⟨rfl, hBA⟩
            go_wp2
            go_ret
            exact ⟨rfl, by rw [HGP.out]; exact HFIN.out.trans (hBA.mono (Nat.le_of_lt hgp8))⟩
          · subst hof
            rw [if_pos rfl] at hL
            obtain ⟨y, rfl⟩ : ∃ y, Lp = [y] := by
              rcases Lp with _ | ⟨y, _ | ⟨z, t⟩⟩
              · simp at hL
              · exact ⟨y, rfl⟩
              · simp at hL
            obtain rfl : 1 = n8 := hlen8
            obtain ⟨yp, yoA, yon, yoc, yol, ydA, ydn, ydc, ydl⟩ := y
            simp only [List.map_cons, List.map_nil, List.cons.injEq, and_true, Pm.plain, Prod.mk.injEq] at hL
            obtain ⟨rfl, rfl, rfl⟩ := hL
            have hyo := hpm8.1 _ (List.mem_cons_self)
            obtain rfl : on = yon := by have := OB.length hyo.1; have h2 := HN.out; exact h2.symm.trans this
            obtain rfl : 8 = ydn := by have := OB.length hyo.2.1; have h2 := OB.length HF.out.ob; exact h2.symm.trans this
            obtain ⟨gb, rfl, hgb1, hgb, hcl⟩ := hps8.cell (k := 0) rfl
            have z0 : w8.cell? ⟨gb, 0, none⟩ = some (.int .i64 p.svc) := by have := hcl 0 _ rfl; rwa [Nat.zero_mul, Nat.zero_add] at this
            have z1 : w8.cell? ⟨gb, 1, none⟩ = some (.int .i64 p.id) := by have := hcl 1 _ rfl; rwa [Nat.zero_mul, Nat.zero_add] at this
            have z2 : w8.cell? ⟨gb, 2, none⟩ = some (.bool p.whole) := by have := hcl 2 _ rfl; rwa [Nat.zero_mul, Nat.zero_add] at this
            have z3 : w8.cell? ⟨gb, 3, none⟩ = some (.bool true) := by have := hcl 3 _ rfl; rwa [Nat.zero_mul, Nat.zero_add] at this
            have z4 : w8.cell? ⟨gb, 4, none⟩ = some (.int .i64 0) := by have := hcl 4 _ rfl; rwa [Nat.zero_mul, Nat.zero_add] at this
            have z5 : w8.cell? ⟨gb, 5, none⟩ = some (.int .i64 p.life) := by have := hcl 5 _ rfl; rwa [Nat.zero_mul, Nat.zero_add] at this
            have z6 : w8.cell? ⟨gb, 6, none⟩ = some (.int .i64 p.proto) := by have := hcl 6 _ rfl; rwa [Nat.zero_mul, Nat.zero_add] at this
            have z7 : w8.cell? ⟨gb, 7, none⟩ = some (.int .u32 p.src) := by have := hcl 7 _ rfl; rwa [Nat.zero_mul, Nat.zero_add] at this
            have z8 : w8.cell? ⟨gb, 8, none⟩ = some (.int .u32 p.dst) := by have := hcl 8 _ rfl; rwa [Nat.zero_mul, Nat.zero_add] at this
            have z9 : w8.cell? ⟨gb, 9, none⟩ = some (.slice yoA on yoc) := by have := hcl 9 _ rfl; rwa [Nat.zero_mul, Nat.zero_add] at this
            have z10 : w8.cell? ⟨gb, 10, none⟩ = some (.slice ydA 8 ydc) := by have := hcl 10 _ rfl; rwa [Nat.zero_mul, Nat.zero_add] at this
            have v0 : w8.cell? ⟨gp, 0, none⟩ = some (.int .i64 p.svc) := hm8.cell 0
            have v1 : w8.cell? ⟨gp, 1, none⟩ = some (.int .i64 p.id) := hm8.cell 1
            have v2 : w8.cell? ⟨gp, 2, none⟩ = some (.bool p.whole) := hm8.cell 2
            have v3 : w8.cell? ⟨gp, 3, none⟩ = some (.bool true) := hm8.cell 3
            have v4 : w8.cell? ⟨gp, 4, none⟩ = some (.int .i64 0) := hm8.cell 4
            have v5 : w8.cell? ⟨gp, 5, none⟩ = some (.int .i64 p.life) := hm8.cell 5
            have v6 : w8.cell? ⟨gp, 6, none⟩ = some (.int .i64 p.proto) := hm8.cell 6
            have v7 : w8.cell? ⟨gp, 7, none⟩ = some (.int .u32 p.src) := hm8.cell 7
            have v8 : w8.cell? ⟨gp, 8, none⟩ = some (.int .u32 p.dst) := hm8.cell 8
            have v9 : w8.cell? ⟨gp, 9, none⟩ = some (.slice oA on oc) := hm8.cell 9
            have v10 : w8.cell? ⟨gp, 10, none⟩ = some (.slice A 8 c) := hm8.cell 10
            have HS := Lib.hid (fun (w' : World) (hb : Below w8.heap.size w8 w') => (⟨bcell hb hgb z0, bcell hb hgb z1, bcell hb hgb z2, bcell hb hgb z3, bcell hb hgb z4, bcell hb hgb z5, bcell hb hgb z6, bcell hb hgb z7, bcell hb hgb z8, bcell hb hgb z9, bcell hb hgb z10, bcell hb hgp8 v0, bcell hb hgp8 v1, bcell hb hgp8 v2, bcell hb hgp8 v3, bcell hb hgp8 v4, bcell hb hgp8 v5, bcell hb hgp8 v6, bcell hb hgp8 v7, bcell hb hgp8 v8, bcell hb hgp8 v9, bcell hb hgp8 v10⟩ : w'.cell? ⟨gb, 0, none⟩ = some (.int .i64 p.svc) ∧ w'.cell? ⟨gb, 1, none⟩ = some (.int .i64 p.id) ∧ w'.cell? ⟨gb, 2, none⟩ = some (.bool p.whole) ∧ w'.cell? ⟨gb, 3, none⟩ = some (.bool true) ∧ w'.cell? ⟨gb, 4, none⟩ = some (.int .i64 0) ∧ w'.cell? ⟨gb, 5, none⟩ = some (.int .i64 p.life) ∧ w'.cell? ⟨gb, 6, none⟩ = some (.int .i64 p.proto) ∧ w'.cell? ⟨gb, 7, none⟩ = some (.int .u32 p.src) ∧ w'.cell? ⟨gb, 8, none⟩ = some (.int .u32 p.dst) ∧ w'.cell? ⟨gb, 9, none⟩ = some (.slice yoA on yoc) ∧ w'.cell? ⟨gb, 10, none⟩ = some (.slice ydA 8 ydc) ∧ w'.cell? ⟨gp, 0, none⟩ = some (.int .i64 p.svc) ∧ w'.cell? ⟨gp, 1, none⟩ = some (.int .i64 p.id) ∧ w'.cell? ⟨gp, 2, none⟩ = some (.bool p.whole) ∧ w'.cell? ⟨gp, 3, none⟩ = some (.bool true) ∧ w'.cell? ⟨gp, 4, none⟩ = some (.int .i64 0) ∧ w'.cell? ⟨gp, 5, none⟩ = some (.int .i64 p.life) ∧ w'.cell? ⟨gp, 6, none⟩ = some (.int .i64 p.proto) ∧ w'.cell? ⟨gp, 7, none⟩ = some (.int .u32 p.src) ∧ w'.cell? ⟨gp, 8, none⟩ = some (.int .u32 p.dst) ∧ w'.cell? ⟨gp, 9, none⟩ = some (.slice oA on oc) ∧ w'.cell? ⟨gp, 10, none⟩ = some (.slice A 8 c)))
            have hBd : Below w8.heap.size w8 w8.drew := (Below.refl _ _).drew
            have HPK := Lib.hid (packets_any { p with more := true, off := 0 } yoA oA ydA A on yoc oc 8 ydc c yol ydl HN.out (by have := HWY.out; omega) HOB.out (OB.length hyo.2.1) (by omega) HF.out.bs w8.drew (OB.rb hyo.1) (Rw.more (Rw.below HRB.out (HF.out.be.trans (hbe8.mono (Nat.le_of_lt hgpl)).drew)) (Nat.le_of_lt hgp8)) (OB.rb hyo.2.1) (Rw.below (OB.rb HF.out.ob) hbe8.drew |> fun r => Rw.more r hbe8.size))
            unfold pkC at HPK
            clear hm8 hbe8 hps8 hpm8 hF8 hfin hcl hyo
            go_wp2_with fail
            refine (sto_len wc.heap.size F8 [] w8 HF8.out).mono ?_
            rintro e w9 ⟨rfl, rfl⟩
            go_wp2_with fail
            go_region_held3 (fun w' => w'.cell? ⟨gb, 0, none⟩ = some (.int .i64 p.svc) ∧ w'.cell? ⟨gb, 1, none⟩ = some (.int .i64 p.id) ∧ w'.cell? ⟨gb, 2, none⟩ = some (.bool p.whole) ∧ w'.cell? ⟨gb, 3, none⟩ = some (.bool true) ∧ w'.cell? ⟨gb, 4, none⟩ = some (.int .i64 0) ∧ w'.cell? ⟨gb, 5, none⟩ = some (.int .i64 p.life) ∧ w'.cell? ⟨gb, 6, none⟩ = some (.int .i64 p.proto) ∧ w'.cell? ⟨gb, 7, none⟩ = some (.int .u32 p.src) ∧ w'.cell? ⟨gb, 8, none⟩ = some (.int .u32 p.dst) ∧ w'.cell? ⟨gb, 9, none⟩ = some (.slice yoA on yoc) ∧ w'.cell? ⟨gb, 10, none⟩ = some (.slice ydA 8 ydc) ∧ w'.cell? ⟨gp, 0, none⟩ = some (.int .i64 p.svc) ∧ w'.cell? ⟨gp, 1, none⟩ = some (.int .i64 p.id) ∧ w'.cell? ⟨gp, 2, none⟩ = some (.bool p.whole) ∧ w'.cell? ⟨gp, 3, none⟩ = some (.bool true) ∧ w'.cell? ⟨gp, 4, none⟩ = some (.int .i64 0) ∧ w'.cell? ⟨gp, 5, none⟩ = some (.int .i64 p.life) ∧ w'.cell? ⟨gp, 6, none⟩ = some (.int .i64 p.proto) ∧ w'.cell? ⟨gp, 7, none⟩ = some (.int .u32 p.src) ∧ w'.cell? ⟨gp, 8, none⟩ = some (.int .u32 p.dst) ∧ w'.cell? ⟨gp, 9, none⟩ = some (.slice oA on oc) ∧ w'.cell? ⟨gp, 10, none⟩ = some (.slice A 8 c))
              (first | exact HS.out _ (by assumption) | go_keep)
              (first
                | (go_at_call 27; (refine HPK.out.mono ?_); rintro e wA ⟨rfl, hBA⟩; have hBA2 : Below w9.heap.size w9 wA := hBd.trans hBA)
                | (go_at_call 18; (refine (known_any _).mono ?_); rintro e wB ⟨rfl, hBB⟩; have hBB2 : Below w9.heap.size w9 wB := hBA2.trans (hBB.mono hBA2.size)))
            have HFF := Lib.hid hBB2
            go_wp2
            go_ret
            exact ⟨rfl, by rw [HGP.out]; exact HFIN.out.trans (HFF.out.mono (Nat.le_of_lt hgp8))⟩

/-! ### the row -/
set_option maxRecDepth 100000 in
theorem lifted (os : Os) (started : os.Started) (H : Type) (enc : TypeId × Value → H) :
    ReturnsInHanded {} Try.checked os 9 .any (Rows.fragForgetsSpec.pre6 enc Try.prog Try.f9 Rows.fragForgetsRow.domain false) (Rows.fragForgetsSpec.post enc Try.prog Try.f9 false true false false) := by
  refine returnsInHanded_of_change_sized (C := Try.checked) own started (by kernel_rfl) Try.func9
    (ChangeSpec.witness6 (enc := enc) (C := Try.checked) false ⟨#[], #[.agg #[.int .i64 0, .int .i64 0, .bool false, .bool false, .int .i64 0, .int .i64 0, .int .i64 0, .int .u32 0, .int .u32 0, .slice none 0 0, .slice none 0 0], .int .i64 0, .bool false], []⟩ 8 (by kernel_rfl) (by kernel_rfl) (by kernel_rfl) (by kernel_rfl)) ?_
  intro W base args ds gs before hval0 hW hcnd hsz0 _
  have hval : ∀ (j : Nat) t v, Try.f9.params[j]? = some t → args[j]? = some v → Value.okWide Try.prog W .any base t v := hval0
  have hsz : (DataW.weightsEach Try.prog (Try.f9.params.toList ++ Rows.fragForgetsSpec.plain.varTypes Try.prog) (ds ++ gs)).all (· ≤ reachBytes) = true := hsz0
  clear hsz0
  have hW' := hW
  obtain ⟨p, q, hA0, hV, rfl, hfz, hnd⟩ := hW
  have hA : DataW.TrodAll enc Try.prog W 0 (fun _ => true) true Try.f9.params.toList args.toList ds p := hA0
  rw [Try.params9] at hA hval hsz
  obtain ⟨v0, vs0, d0, ds0, p0, q0, hargs, rfl, rfl, h0, r0⟩ := trodAll_cons hA
  obtain ⟨v1, vs1, d1, ds1, p1, q1, rfl, rfl, rfl, h1, r1⟩ := trodAll_cons r0
  obtain ⟨v2, vs2, d2, ds2, p2, q2, rfl, rfl, rfl, h2, r2⟩ := trodAll_cons r1
  obtain ⟨rfl, rfl, rfl⟩ := trodAll_nil r2
  obtain rfl : args = #[v0, v1, v2] := by cases args; simp_all
  obtain ⟨rfl, rfl⟩ := trodVars_none hV
  have k0 := h0
  have lt0 : ∀ x ∈ p0, x.block < W.heap.size := by obtain ⟨m, hm⟩ := k0; exact DataW.trod_lt m _ _ _ hm
  have w0 : ViewPkt W v0 := open_pkt (hval 0 26 v0 rfl rfl) h0 (fun k hk => by have := List.all_eq_true.1 hsz k (DataW.weights_mem_each (j := 0) rfl rfl k hk); simpa using this)
  obtain ⟨a1, rfl, rfl, rfl, w1⟩ := open_int Try.underlying3 (hval 1 3 v1 rfl rfl) h1
  obtain ⟨a2, rfl, rfl, rfl⟩ := open_bool Try.underlying4 (hval 2 4 v2 rfl rfl) h2
  clear hA0 hval0
  refine (walk v0 a1 a2 W w0 w1).mono fun e W' ⟨he, bel⟩ => ?_
  subst he
  exact ⟨_, rfl, _, _, _, [], _, [], hW', trodAll_mk1 (shut_bool Try.underlying4 _), (trodAll_cons_mk (Below.trod laidOut (by kernel_rfl) (of_decide_eq_true (by kernel_rfl)) k0 bel lt0) (trodAll_cons_mk (shut_int Try.underlying3 w1) (trodAll_cons_mk (shut_bool Try.underlying4 a2) trodAll_mk0))), rfl, bel.frame _, fun h => by cases h⟩

theorem over : Rows.fragForgetsRow.holds Try.pinned (OpenSpec.ofChange Rows.fragForgetsSpec) :=
  OpenClaim.holds_of_wide 9 Try.f9 rfl rfl rfl rfl rfl rfl rfl ⟨rfl, rfl, rfl, rfl, rfl⟩ rfl rfl rfl rfl rfl (by kernel_rfl) Try.func9 (by kernel_rfl)
    (of_decide_eq_true (by kernel_rfl)) (by unfold Func.isWrapper; first | (rw [if_pos (by decide +kernel)]; kernel_rfl) | (rw [if_neg (by decide +kernel)]; exact ⟨rfl, rfl⟩))
    (fun os started H enc _ => lifted os started H enc)

theorem proved : Rows.FragForgetsSaid := over
#print axioms proved
end Go.Proofs.Ytcjkhonapafndaa.fragForgets
