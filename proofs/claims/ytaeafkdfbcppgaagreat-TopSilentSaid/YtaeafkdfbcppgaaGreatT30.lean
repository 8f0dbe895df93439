/- Proved: a small packet is sent to a neighbour of whom nothing is known. Conditions: as each law says. -/
import Derived.Test.YtaeafkdfbcppgaaGreatT29
set_option linter.unusedSectionVars false
set_option linter.unusedSimpArgs false
set_option linter.unusedVariables false
namespace Go.Proofs.YtaeafkdfbcppgaaGreat
open Go.RowKit
set_option maxHeartbeats 4000000 in
set_option maxRecDepth 100000 in
theorem wsends_one (t : Nat) (K : Nat → Nat) (w : World) (d : HD) (v : HV) (S : List En) (Lr : List Rec) (P : Option (Int × List Dg)) (wk : Nat) (now draw : Int) (L : List (List Int)) (p : PkV) (hp : p.Ok) (dA : Option Addr) (dn dc : Nat) (dl : List Int) (hdn : dl.length = dn) (hdc : dn ≤ dc) (hmd : dn ≤ 100000) (hbd : Bs dl) (hL : L.length ≤ 100000) (hnow : -9223372036854775808 ≤ now ∧ now ≤ 9223372036854775807) (hr : RB w w.heap.size dA dl)
  (hDK : ∀ b, blk dA = some b → ¬ callK t (K b)) (her : errIs (pkS p v.id) [] dl.length 0) (hfit : 20 + dn ≤ 1500 ∨ p.whole = false) (hgr : ¬ (3758096384 : Int) ≤ p.dst) (hmi : isMine p.dst v.addr = false) (hZ : dn ≤ 1480 ∧ S = [] ∧ isBc p.dst v.addr = false ∧ inNet p.dst) (hs : HostS t K w d v S Lr P) (hw : WkS t K w wk d now draw L) :
  Calls Tryz.prog 105 #[.pointer (some ⟨wk, 0, none⟩), .agg (pkC p (.slice none 0 0) (.slice dA dn dc))] w fun e w' => ∃ k v' S' L', e = .returned (.int .i64 k) ∧ SendsR v S p dl now L k v' S' L' ∧ PostW t K w wk d now draw v' S' Lr P L' w' := by
 have HZ := Lib.hid hZ
 clear hZ
 have hid := hs.id
 have hpS := pkS_ok hp hid
 have ha := SdA.begin (row := pkC p (.slice none 0 0) (.slice dA dn dc)) hs hw
 obtain ⟨K1, hK1⟩ : ∃ K1 : Nat → Nat, (fun b => if b < w.heap.size then K b else t + 7) = K1 := ⟨_, rfl⟩
 rw [hK1] at ha
 obtain ⟨gp, hgp⟩ : ∃ gp, w.heap.size = gp := ⟨_, rfl⟩
 obtain ⟨W, hW⟩ : ∃ W, w.alloc (.cells (pkC p (.slice none 0 0) (.slice dA dn dc)) 97) = W := ⟨_, rfl⟩
 have hbw : Below w.heap.size w W := by rw [← hW]; exact (Below.refl _ _).alloc (Nat.le_refl _) _
 rw [hW, hgp] at ha
 have HW : Hid (w.alloc (.cells #[.int .i64 p.svc, .int .i64 p.id, .bool p.whole, .bool p.more, .int .i64 p.off, .int .i64 p.life, .int .i64 p.proto, .int .u32 p.src, .int .u32 p.dst, .slice none 0 0, .slice dA dn dc] 97) = W) := Lib.hid hW
 have HGP := Lib.hid hgp
 have hgle : w.heap.size ≤ gp := by omega
 have hdl : d.h < gp := by rw [← hgp]; exact hs.lt
 have hwl : wk < gp := by rw [← hgp]; obtain ⟨_, _, _, _, k1, _⟩ := hw.ex; exact k1.lt
 obtain ⟨fA, fn, fc, vs, k1, k2, k3, k4⟩ := ha.hw.ex
 have q0 : W.cell? ⟨wk, 0, none⟩ = some (bp d.h) := k1.cell 0
 have q1 : W.cell? ⟨d.h, 45, none⟩ = some (.int .i64 v.id) := ha.hs.hx.hb.id
 have q2 : W.frozen? ⟨d.h, 45, none⟩ = false := ha.hs.hx.hb.fz 45
 have hb0 := ha.bk
 unfold pkC at hb0
 have e1 : W.cell? ⟨gp, 1, none⟩ = some (.int .i64 p.id) := hb0.cell 1
 have e3 : W.cell? ⟨gp, 3, none⟩ = some (.bool p.more) := hb0.cell 3
 have e4 : W.cell? ⟨gp, 4, none⟩ = some (.int .i64 p.off) := hb0.cell 4
 have f1 : W.frozen? ⟨gp, 1, none⟩ = false := hb0.frozen 1
 have f3 : W.frozen? ⟨gp, 3, none⟩ = false := hb0.frozen 3
 have f4 : W.frozen? ⟨gp, 4, none⟩ = false := hb0.frozen 4
 have HA := Lib.hid ha
 have HS := Lib.hid hs
 have HWK := Lib.hid hw
 have HX := Lib.hid (And.intro hp (And.intro hdn (And.intro hdc (And.intro hmd (And.intro hbd (And.intro hL (And.intro hnow (And.intro hr (And.intro hDK (And.intro her (And.intro hfit (And.intro hmi (And.intro hpS (And.intro hbw hid))))))))))))))
 have hn1 : wk ≠ gp := by omega
 have hn2 : gp ≠ wk := by omega
 have hn3 : d.h ≠ gp := by omega
 have hn4 : gp ≠ d.h := by omega
 have hn5 : wk ≠ d.h := fun e => by have a1 := HWK.out.kw; rw [e, HS.out.kh] at a1; omega
 have hn6 : d.h ≠ wk := fun e => hn5 e.symm
 have hadd : IntKind.i64.wrap (v.id + 1) = v.id + 1 := IntWalk.i64_in _ (by omega)
 unfold pkC
 clear hW hgp ha hb0 hs hw hp hdn hdc hmd hbd hL hnow hr hDK her hfit hmi hpS hbw hK1 k1 k2 k3 k4
 go_enter Tryz.func105, Tryz.ntmps105
 go_upto_region 1 with (fail)
 rw [HW.out, HGP.out]
 have HDL := Lib.hid hdl
 have hgl0 : d.h < w.heap.size := HS.out.lt
 have HGL0 := Lib.hid hgl0
 clear hgl0
 go_upto_if 44 with (fail)
 go_cut [] (fun wx => SdA t K w wk d now draw (idV v) S Lr P L gp (pkC (pkS p v.id) (.slice none 0 0) (.slice dA dn dc)) K1 wx)
 case first =>
  have HA3 := Lib.hid (((HA.out.bkset (i := 1) hgle (.int .i64 v.id)).bkset (i := 3) hgle (.bool false)).bkset (i := 4) hgle (.int .i64 0))
  rcases Int.lt_or_le 65535 (v.id + 1) with h | h
  ·have hn : idV v = { v with id := 1 } := by unfold idV nid; rw [if_pos h]
   have HNN := Lib.hid hn
   clear hn
   have hdc := decide_eq_true h
   go_wp2_with fail
   go_meet
   rw [HNN.out]
   exact HA3.out.setId2 hgle HGL0.out (v.id + 1) 1 (by omega)
  ·have hn : idV v = { v with id := v.id + 1 } := by unfold idV nid; rw [if_neg (by omega)]
   have HNN := Lib.hid hn
   clear hn
   have hdc : decide (65535 < v.id + 1) = false := decide_eq_false (by omega)
   go_wp2_with fail
   go_meet
   rw [HNN.out]
   exact HA3.out.setId hgle HGL0.out (v.id + 1) (by omega)
 case rest =>
  have HCUT := Lib.hid hcut
  have hb0 := hcut.bk
  unfold pkC pkS at hb0
  have z0 : wc.cell? ⟨gp, 0, none⟩ = some (.int .i64 p.svc) := hb0.cell 0
  have z1 : wc.cell? ⟨gp, 1, none⟩ = some (.int .i64 v.id) := hb0.cell 1
  have z2 : wc.cell? ⟨gp, 2, none⟩ = some (.bool p.whole) := hb0.cell 2
  have z3 : wc.cell? ⟨gp, 3, none⟩ = some (.bool false) := hb0.cell 3
  have z4 : wc.cell? ⟨gp, 4, none⟩ = some (.int .i64 0) := hb0.cell 4
  have z5 : wc.cell? ⟨gp, 5, none⟩ = some (.int .i64 p.life) := hb0.cell 5
  have z6 : wc.cell? ⟨gp, 6, none⟩ = some (.int .i64 p.proto) := hb0.cell 6
  have z7 : wc.cell? ⟨gp, 7, none⟩ = some (.int .u32 p.src) := hb0.cell 7
  have z8 : wc.cell? ⟨gp, 8, none⟩ = some (.int .u32 p.dst) := hb0.cell 8
  have z9 : wc.cell? ⟨gp, 9, none⟩ = some (.slice none 0 0) := hb0.cell 9
  have z10 : wc.cell? ⟨gp, 10, none⟩ = some (.slice dA dn dc) := hb0.cell 10
  obtain ⟨hp, hdn, hdc, hmd, hbd, hL, hnow, hr, hDK, her, hfit, hmi, hpS, hbw, hid2⟩ := HX.out
  have hrc : RB wc w.heap.size dA dl := RB.chg_ hr hcut.hc hDK
  have HRC := Lib.hid hrc
  have henc := enc_any (pkS p v.id) hpS none dA 0 0 dn dc w.heap.size [] dl rfl (Nat.le_refl _) (by omega) (fun x hx => by cases hx) hdn (by omega) wc (fun h => absurd h (Nat.lt_irrefl 0)) hrc hcut.hc.size
  unfold pkC pkS at henc
  have HENC := Lib.hid henc
  have HER := Lib.hid her
  clear henc hcut hb0 hp hdn hdc hmd hbd hL hnow hr hDK her hfit hmi hpS hbw hid2 hrc q0 q1 q2 e1 e3 e4 f1 f3 f4
  go_wp2_with fail
  refine HENC.out.mono ?_
  rintro e1 w1 ⟨k1, A1, n1, c1, rfl, hE1, hk0, hk1, hB1⟩
  obtain rfl := errIs_one hE1 HER.out
  have HA1 := Lib.hid (HCUT.out.below hB1)
  clear hE1 hk0 hk1 z0 z1 z2 z3 z4 z5 z6 z7 z8 z9 z10
  obtain ⟨gA, gn, gc, us, j1, j2, j3, j4⟩ := HA1.out.hw.ex
  have y0 : w1.cell? ⟨wk, 0, none⟩ = some (bp d.h) := j1.cell 0
  have hb1 := HA1.out.bk
  unfold pkC pkS at hb1
  have z8 : w1.cell? ⟨gp, 8, none⟩ = some (.int .u32 p.dst) := hb1.cell 8
  have HHB := Lib.hid HA1.out.hs.hx.hb
  have HMQ : Hid (∀ n, Calls Tryz.prog 79 #[.pointer (some ⟨d.h, 0, none⟩), .int .u32 p.dst] (w1.drewN n) fun e w' => e = .returned (.bool false) ∧ w' = w1.drewN n) := Lib.hid (fun n => (mine_q _ d.h (idV v) _ (HHB.out.drewN n)).mono fun e w' hq => ⟨hq.1.trans (by show _ = Ending.returned (.bool false); rw [show isMine p.dst (idV v).addr = false from HX.out.2.2.2.2.2.2.2.2.2.2.2.1]), hq.2⟩)
  have HMI : Hid (isMine p.dst v.addr = false) := Lib.hid HX.out.2.2.2.2.2.2.2.2.2.2.2.1
  clear j1 j2 j3 j4 hb1 hB1
  go_wp2
  go_quiet ((go_at_call 79; exact Calls.quiet_of_same (HMQ.out _)))
  have HA2 := Lib.hid (HA1.out.below (bel_drewN (Below.refl _ _) nq))
  clear y0 z8
  generalize w1.drewN nq = w2 at HA2 ⊢
  clear HMQ HMI HHB
  obtain ⟨gA, gn, gc, us, j1, j2, j3, j4⟩ := HA2.out.hw.ex
  have y0 : w2.cell? ⟨wk, 0, none⟩ = some (bp d.h) := j1.cell 0
  have hb1 := HA2.out.bk
  unfold pkC pkS at hb1
  have z8 : w2.cell? ⟨gp, 8, none⟩ = some (.int .u32 p.dst) := hb1.cell 8
  have HHB := Lib.hid HA2.out.hs.hx.hb
  have HBQ : Hid (∀ n, Calls Tryz.prog 162 #[.pointer (some ⟨d.h, 0, none⟩), .int .u32 p.dst] (w2.drewN n) fun e w' => e = .returned (.bool (isBc p.dst v.addr)) ∧ ∃ m, w' = (w2.drewN n).drewN m) := Lib.hid (fun n => broadcast_q _ d.h (idV v) _ (HHB.out.drewN n) HA2.out.hs.ad.2.1)
  clear j1 j2 j3 j4 hb1
  go_wp2
  go_quiet ((go_at_call 162; exact Calls.quiet_of (HBQ.out _)))
  have HA3 := Lib.hid (HA2.out.below (bel_drewN (Below.refl _ _) nq))
  clear y0 z8
  generalize w2.drewN nq = w3 at HA3 ⊢
  go_upto_if 97 with (fail)
  go_cut [8] (fun s8 wx => s8 = .int .u32 p.dst ∧ SdA t K w wk d now draw (idV v) S Lr P L gp (pkC (pkS p v.id) (.slice none 0 0) (.slice dA dn dc)) K1 wx ∧ (isBc p.dst v.addr = true ∨ inNet p.dst))
  case first =>
   cases hbc : isBc p.dst v.addr
   ·obtain ⟨gA, gn, gc, us, j1, j2, j3, j4⟩ := HA3.out.hw.ex
    have y0 : w3.drew.cell? ⟨wk, 0, none⟩ = some (bp d.h) := j1.cell 0
    have hb1 := HA3.out.bk
    unfold pkC pkS at hb1
    have z8 : w3.drew.cell? ⟨gp, 8, none⟩ = some (.int .u32 p.dst) := hb1.cell 8
    have a0 : (w3.alloc (.cells #[.int .u32 0, .int .i64 0, .int .u32 0, .int .i64 0] 229)).drew.cell? ⟨wk, 0, none⟩ = some (bp d.h) := (j1.alloc _).cell 0
    have a8 : (w3.alloc (.cells #[.int .u32 0, .int .i64 0, .int .u32 0, .int .i64 0] 229)).drew.cell? ⟨gp, 8, none⟩ = some (.int .u32 p.dst) := (hb1.alloc _).cell 8
    have HWL : Hid (wk < w3.drew.heap.size) := Lib.hid j1.lt
    have HGL : Hid (gp < w3.drew.heap.size) := Lib.hid hb1.lt
    have HWA : Hid (wk < (w3.alloc (.cells #[.int .u32 0, .int .i64 0, .int .u32 0, .int .i64 0] 229)).drew.heap.size) := Lib.hid (j1.alloc _).lt
    have HGA : Hid (gp < (w3.alloc (.cells #[.int .u32 0, .int .i64 0, .int .u32 0, .int .i64 0] 229)).drew.heap.size) := Lib.hid (hb1.alloc _).lt
    have HXL : Hid (w3.heap.size < (w3.alloc (.cells #[.int .u32 0, .int .i64 0, .int .u32 0, .int .i64 0] 229)).drew.heap.size) := Lib.hid (Bk.new w3 229 #[.int .u32 0, .int .i64 0, .int .u32 0, .int .i64 0]).lt
    have HBX : Hid (Bk (w3.alloc (.cells #[.int .u32 0, .int .i64 0, .int .u32 0, .int .i64 0] 229)).drew w3.heap.size 229 #[.int .u32 0, .int .i64 0, .int .u32 0, .int .i64 0]) := Lib.hid (Bk.new w3 _ _)
    have HRT : Hid (∀ w', Below w3.heap.size w3 w' → RtTab w' d.h (hostC (idV v)) d.S d.A d.c) := Lib.hid (fun w' hb' => by
     have hh := HA3.out.hs.below hb'
     exact ⟨hh.hx.rt, hh.hx.hb.bk, rfl, by show some (idV v).k0 = _; rw [hh.hx.k0], rfl⟩)
    have hwn : wk ≠ w3.heap.size := by have := j1.lt; omega
    have hnw : w3.heap.size ≠ wk := fun e => hwn e.symm
    have hgn : gp ≠ w3.heap.size := by have := hb1.lt; omega
    have hng : w3.heap.size ≠ gp := fun e => hgn e.symm
    clear j1 j2 j3 j4 hb1 HBQ HHB
    by_cases hin : inNet p.dst
    ·skip
     have HF1 := Lib.hid (rfind_any d.h (hostC (idV v)) d.S d.A d.c p.dst w3.drew (HRT.out _ bel_drew_))
     have HF2 := Lib.hid (rfind_any d.h (hostC (idV v)) d.S d.A d.c p.dst (w3.alloc (.cells #[.int .u32 0, .int .i64 0, .int .u32 0, .int .i64 0] 229)).drew (HRT.out _ ((((Below.refl _ _).alloc (Nat.le_refl _) _).trans bel_drew_))))
     rw [if_pos hin, if_pos hin] at HF1 HF2
     unfold rtC at HF1 HF2
     go_wp2_with fail
     go_region_held3 (fun w' => w'.cell? ⟨wk, 0, none⟩ = some (bp d.h) ∧ w'.cell? ⟨gp, 8, none⟩ = some (.int .u32 p.dst))
      (first | (with_reducible exact ⟨by assumption, by assumption⟩) | go_keep)
      (first
       | (go_at_call 163; with_reducible refine HF1.out.mono ?_; rintro e4 w4 ⟨rfl, hb4⟩; have p0 := bel_cell_ hb4 HWL.out y0; have p8 := bel_cell_ hb4 HGL.out z8)
       | (go_at_call 163; with_reducible refine HF2.out.mono ?_; rintro e4 w4 ⟨rfl, hb4⟩; have p0 := bel_cell_ hb4 HWA.out a0; have p8 := bel_cell_ hb4 HGA.out a8; have hbx := HBX.out.below hb4 HXL.out; have x0 := hbx.cell 0; have x1 := hbx.cell 1; have x2 := hbx.cell 2; have x3 := hbx.cell 3; have g0 := hbx.frozen 0; have g1 := hbx.frozen 1; have g2 := hbx.frozen 2; have g3 := hbx.frozen 3))
     ·skip
      have hBF : Below w3.heap.size w3 (w4.alloc (.cells #[.int .u32 net, .int .i64 24, .int .u32 0, .int .i64 0] 229)) := (bel_undr_ hb4).alloc hb4.size _
      have hbk : Bk (w4.alloc (.cells #[.int .u32 net, .int .i64 24, .int .u32 0, .int .i64 0] 229)) w4.heap.size 229 #[.int .u32 net, .int .i64 24, .int .u32 0, .int .i64 0] := Bk.new w4 _ _
      obtain ⟨wf, hwf⟩ : ∃ wf, w4.alloc (.cells #[.int .u32 net, .int .i64 24, .int .u32 0, .int .i64 0] 229) = wf := ⟨_, rfl⟩
      obtain ⟨tb, htb⟩ : ∃ tb, w4.heap.size = tb := ⟨_, rfl⟩
      rw [hwf] at hBF hbk ⊢
      rw [htb] at hbk ⊢
      have HAF := Lib.hid (HA3.out.below hBF)
      have t2 : wf.cell? ⟨tb, 2, none⟩ = some (.int .u32 0) := hbk.cell 2
      clear hBF hbk hwf htb hb4 p0 p8 y0 z8 a0 a8
      go_wp2
      go_meet
      exact ⟨rfl, HAF.out, .inr hin⟩
     ·skip
      have hBF : Below w3.heap.size w3 (((((w4).setCell ⟨w3.heap.size, 0, none⟩ (.int .u32 net)).setCell ⟨w3.heap.size, 1, none⟩ (.int .i64 24)).setCell ⟨w3.heap.size, 2, none⟩ (.int .u32 0)).setCell ⟨w3.heap.size, 3, none⟩ (.int .i64 0)) := ((((((Below.refl _ _).alloc (Nat.le_refl _) _).trans ((bel_undr_ hb4).mono (by show _ ≤ (w3.alloc _).heap.size; simp))).setCell (p := ⟨w3.heap.size, 0, none⟩) (Nat.le_refl _) _).setCell (p := ⟨w3.heap.size, 1, none⟩) (Nat.le_refl _) _).setCell (p := ⟨w3.heap.size, 2, none⟩) (Nat.le_refl _) _).setCell (p := ⟨w3.heap.size, 3, none⟩) (Nat.le_refl _) _
      have hbk : Bk (((((w4).setCell ⟨w3.heap.size, 0, none⟩ (.int .u32 net)).setCell ⟨w3.heap.size, 1, none⟩ (.int .i64 24)).setCell ⟨w3.heap.size, 2, none⟩ (.int .u32 0)).setCell ⟨w3.heap.size, 3, none⟩ (.int .i64 0)) w3.heap.size 229 #[.int .u32 net, .int .i64 24, .int .u32 0, .int .i64 0] := (((hbx.set 0 _).set 1 _).set 2 _).set 3 _
      obtain ⟨wf, hwf⟩ : ∃ wf, ((((w4).setCell ⟨w3.heap.size, 0, none⟩ (.int .u32 net)).setCell ⟨w3.heap.size, 1, none⟩ (.int .i64 24)).setCell ⟨w3.heap.size, 2, none⟩ (.int .u32 0)).setCell ⟨w3.heap.size, 3, none⟩ (.int .i64 0) = wf := ⟨_, rfl⟩
      obtain ⟨tb, htb⟩ : ∃ tb, w3.heap.size = tb := ⟨_, rfl⟩
      rw [hwf] at hBF hbk ⊢
      rw [htb] at hbk ⊢
      have HAF := Lib.hid (HA3.out.below hBF)
      have t2 : wf.cell? ⟨tb, 2, none⟩ = some (.int .u32 0) := hbk.cell 2
      clear hBF hbk hwf htb hb4 p0 p8 y0 z8 a0 a8 hbx x0 x1 x2 x3 g0 g1 g2 g3
      go_wp2
      go_meet
      exact ⟨rfl, HAF.out, .inr hin⟩
    ·exact absurd HZ.out.2.2.2 hin
   ·exact absurd hbc (by rw [HZ.out.2.2.1]; exact Bool.noConfusion)
  case rest =>
   obtain ⟨rfl, hcA, hor⟩ := hcut
   clear HA3 HBQ HHB
   have HCA := Lib.hid hcA
   have HOR := Lib.hid hor
   have hb0 := hcA.bk
   unfold pkC pkS at hb0
   have z0 : wc.cell? ⟨gp, 0, none⟩ = some (.int .i64 p.svc) := hb0.cell 0
   have z1 : wc.cell? ⟨gp, 1, none⟩ = some (.int .i64 v.id) := hb0.cell 1
   have z2 : wc.cell? ⟨gp, 2, none⟩ = some (.bool p.whole) := hb0.cell 2
   have z3 : wc.cell? ⟨gp, 3, none⟩ = some (.bool false) := hb0.cell 3
   have z4 : wc.cell? ⟨gp, 4, none⟩ = some (.int .i64 0) := hb0.cell 4
   have z5 : wc.cell? ⟨gp, 5, none⟩ = some (.int .i64 p.life) := hb0.cell 5
   have z6 : wc.cell? ⟨gp, 6, none⟩ = some (.int .i64 p.proto) := hb0.cell 6
   have z7 : wc.cell? ⟨gp, 7, none⟩ = some (.int .u32 p.src) := hb0.cell 7
   have z8 : wc.cell? ⟨gp, 8, none⟩ = some (.int .u32 p.dst) := hb0.cell 8
   have z9 : wc.cell? ⟨gp, 9, none⟩ = some (.slice none 0 0) := hb0.cell 9
   have z10 : wc.cell? ⟨gp, 10, none⟩ = some (.slice dA dn dc) := hb0.cell 10
   obtain ⟨hp, hdn, hdc, hmd, hbd, hL, hnow, hr, hDK, her, hfit, hmi, hpS, hbw, hid2⟩ := HX.out
   have hrc : RB wc w.heap.size dA dl := RB.chg_ hr hcA.hc hDK
   have hspl := split_small (pkS p v.id) hpS none dA 0 0 dn dc w.heap.size [] dl 1500 (by omega) rfl (Nat.le_refl _) (by omega) (fun x hx => by cases hx) hdn hdc (by omega) hbd wc (fun h => absurd h (Nat.lt_irrefl 0)) hrc hcA.hc.size (by have q := HZ.out.1; show (20 : Int) + dn ≤ 1500; omega)
   unfold pkC pkS at hspl
   have HSPL := Lib.hid hspl
   clear hspl hcA hor hb0 hp hdn hdc hmd hbd hL hnow hr hDK her hfit hmi hpS hbw hid2 hrc
   go_wp2_with fail
   refine HSPL.out.mono ?_
   rintro e5 w5 ⟨k5, A5, n5, c5, Lp, rfl, hI5, hP5, hO5, hB5⟩
   have hk5 : k5 = 0 ∧ Lp.map Pm.plain = splitP (pkS p v.id) 1500 [] dl := by
    rcases hI5 with ⟨h, _⟩ | ⟨_, _, h⟩
    ·omega
    ·rcases h with ⟨h1, h2, _⟩ | ⟨_, h2, h3, _⟩ | ⟨_, _, h3, h4⟩
     ·exact absurd (errIs_one h1 HX.out.2.2.2.2.2.2.2.2.2.1) h2
     ·exfalso
      rcases HX.out.2.2.2.2.2.2.2.2.2.2.1 with q | q
      ·have q2 := HX.out.2.1
       have q3 : hdN ([] : List Int).length = 20 := rfl
       omega
      ·have q2 : p.whole = true := h3
       rw [q] at q2; cases q2
     ·exact ⟨h3, h4⟩
   obtain ⟨rfl, hLp⟩ := hk5
   have HA5 := Lib.hid (HCA.out.below hB5)
   have HLP := Lib.hid hLp
   have HP5 := Lib.hid (And.intro hP5 hO5)
   have hn5 := hP5.len
   have hn5b : n5 ≤ 100000 := by
    have q1 := (split_good (pkS p v.id) HX.out.2.2.2.2.2.2.2.2.2.2.2.2.1 dl HX.out.2.2.2.2.1 rfl (by have q2 := HX.out.2.1; have q4 := HX.out.2.2.2.1; omega)).2
    rw [← hLp, List.length_map, hn5] at q1
    have q2 := HX.out.2.1
    have q4 := HX.out.2.2.2.1
    omega
   clear hI5 hP5 hO5 hB5 hLp z0 z1 z2 z3 z4 z5 z6 z7 z8 z9 z10
   go_wp2
   go_loopw [132] (fun i wr => ∃ k : Nat, k ≤ n5 ∧ i = .int .i64 k ∧ Hid (LpS t K1 w5 wk d now draw Lr P (isBc p.dst v.addr) p.dst (splitP (pkS p v.id) 1500 [] dl) (idV v) S L k wr)) (fun i _ => n5 - (intOf i).toNat)
   case atStart => exact ⟨0, Nat.zero_le _, rfl, Lib.hid ⟨_, S, L, ⟨rfl, rfl, rfl⟩, Nat.le_refl _, K1, fun _ _ => rfl, HA5.out.hs, HA5.out.hw, Chg.refl _ _⟩⟩
   case round =>
    obtain ⟨k, hk, rfl, HLP2⟩ := hrel
    rcases Nat.lt_or_ge k n5 with c1 | c1
    ·obtain ⟨x, hx⟩ : ∃ x, Lp[k]? = some x := ⟨_, List.getElem?_eq_getElem (by rw [hn5]; exact c1)⟩
     obtain ⟨g, rfl, hg, hgl, hcx⟩ := HP5.out.1.cell_ hx
     obtain ⟨v1, S1, L1, hL1, hLn, K2, hK2, hs2, hw2, hc2⟩ := HLP2.out
     have hKg : ∀ b, wc.heap.size ≤ b → ¬ callK t (K1 b) := fun b hb e => by have e7 := HA5.out.h7 b (Nat.le_trans HCA.out.hc.size hb); rw [e7] at e; exact absurd e.2 (by omega)
     have hcc : ∀ j u, (pmC x)[j]? = some u → wr.cell? ⟨g, k * 11 + j, none⟩ = some u := fun j u hu => (hc2.cell (p := ⟨g, k * 11 + j, none⟩) hgl (hKg g hg)).trans (hcx j u hu)
     have hmem := List.mem_of_getElem? hx
     have hgd := (split_good (pkS p v.id) HX.out.2.2.2.2.2.2.2.2.2.2.2.2.1 dl HX.out.2.2.2.2.1 rfl (by have q2 := HX.out.2.1; have q4 := HX.out.2.2.2.1; omega)).1 x.plain (by rw [← HLP.out]; exact List.mem_map.2 ⟨x, hmem, rfl⟩)
     obtain ⟨ho1, ho2, _⟩ := HP5.out.2.1 x hmem
     have r1 : RB wr w5.heap.size x.oA x.ol := RB.chg_ (OB.rb ho1) hc2 (fun b hb => hKg b (Ow.lt ho1 b hb).1)
     have r2 : RB wr w5.heap.size x.dA x.dl := RB.chg_ (OB.rb ho2) hc2 (fun b hb => hKg b (Ow.lt ho2 b hb).1)
     have l1 := OB.length ho1
     have l2 := OB.length ho2
     have m1 := Ow.cap ho1
     have m2 := Ow.cap ho2
     obtain ⟨p1, oA, on, oc, ol, eA, en, ec, el⟩ := x
     simp only at r1 r2 l1 l2 m1 m2
     have ac0 : wr.cell? ⟨g, k * 11, none⟩ = some (.int .i64 p1.svc) := hcc 0 _ rfl
     have ac1 : wr.cell? ⟨g, k * 11 + 1, none⟩ = some (.int .i64 p1.id) := hcc 1 _ rfl
     have ac2 : wr.cell? ⟨g, k * 11 + 2, none⟩ = some (.bool p1.whole) := hcc 2 _ rfl
     have ac3 : wr.cell? ⟨g, k * 11 + 3, none⟩ = some (.bool p1.more) := hcc 3 _ rfl
     have ac4 : wr.cell? ⟨g, k * 11 + 4, none⟩ = some (.int .i64 p1.off) := hcc 4 _ rfl
     have ac5 : wr.cell? ⟨g, k * 11 + 5, none⟩ = some (.int .i64 p1.life) := hcc 5 _ rfl
     have ac6 : wr.cell? ⟨g, k * 11 + 6, none⟩ = some (.int .i64 p1.proto) := hcc 6 _ rfl
     have ac7 : wr.cell? ⟨g, k * 11 + 7, none⟩ = some (.int .u32 p1.src) := hcc 7 _ rfl
     have ac8 : wr.cell? ⟨g, k * 11 + 8, none⟩ = some (.int .u32 p1.dst) := hcc 8 _ rfl
     have ac9 : wr.cell? ⟨g, k * 11 + 9, none⟩ = some (.slice oA on oc) := hcc 9 _ rfl
     have ac10 : wr.cell? ⟨g, k * 11 + 10, none⟩ = some (.slice eA en ec) := hcc 10 _ rfl
     have HGD := Lib.hid hgd
     have HR1 := Lib.hid r1
     have HR2 := Lib.hid r2
     have HLL := Lib.hid (And.intro l1 (And.intro l2 (And.intro m1 m2)))
     have HS2 := Lib.hid hs2
     have HW2 := Lib.hid hw2
     have HC2 := Lib.hid hc2
     have HK2 := Lib.hid hK2
     have HSL := Lib.hid hL1
     have HLN := Lib.hid hLn
     have HKG := Lib.hid hKg
     have HXX := Lib.hid hx
     clear hgd r1 r2 l1 l2 m1 m2 hs2 hw2 hc2 hK2 hL1 hLn hKg hx hcc hcx ho1 ho2 hmem
     go_upto_region 26 with (fail)
     obtain ⟨K3, hK3⟩ : ∃ K3 : Nat → Nat, (fun b => if b < wr.heap.size then K2 b else t + 7) = K3 := ⟨_, rfl⟩
     have hb6 : Below wr.heap.size wr (wr.alloc (.cells #[.int .i64 p1.svc, .int .i64 p1.id, .bool p1.whole, .bool p1.more, .int .i64 p1.off, .int .i64 p1.life, .int .i64 p1.proto, .int .u32 p1.src, .int .u32 p1.dst, .slice oA on oc, .slice eA en ec] 97)) := (Below.refl _ _).alloc (Nat.le_refl _) _
     have hk6 := Bk.new wr 97 #[.int .i64 p1.svc, .int .i64 p1.id, .bool p1.whole, .bool p1.more, .int .i64 p1.off, .int .i64 p1.life, .int .i64 p1.proto, .int .u32 p1.src, .int .u32 p1.dst, .slice oA on oc, .slice eA en ec]
     generalize wr.alloc (.cells #[.int .i64 p1.svc, .int .i64 p1.id, .bool p1.whole, .bool p1.more, .int .i64 p1.off, .int .i64 p1.life, .int .i64 p1.proto, .int .u32 p1.src, .int .u32 p1.dst, .slice oA on oc, .slice eA en ec] 97) = w6 at hb6 hk6 ⊢
     obtain ⟨gb, hgb⟩ : ∃ gb, wr.heap.size = gb := ⟨_, rfl⟩
     have hk6b := hk6
     rw [hgb] at hk6b
     rw [hgb]
     have HB6 := Lib.hid hb6
     have HGB := Lib.hid hgb
     have HK3 := Lib.hid hK3
     have gop : ol = [] := HGD.out.op
     subst gop
     obtain rfl : on = 0 := HLL.out.1.symm
     have henc := enc_any p1 HGD.out.ok oA eA 0 oc en ec w5.heap.size [] el rfl HLL.out.2.2.1 (by omega) (fun x hx => by cases hx) HLL.out.2.1 (by have q1 : el.length ≤ 1480 := HGD.out.len; have q2 : el.length = en := HLL.out.2.1; omega) w6 (Rw.below HR1.out (hb6.mono HC2.out.size)) (Rw.below HR2.out (hb6.mono HC2.out.size)) (Nat.le_trans HC2.out.size hb6.size)
     unfold pkC at henc
     have HENC2 := Lib.hid henc
     have zc0 : w6.cell? ⟨gb, 0, none⟩ = some (.int .i64 p1.svc) := hk6b.cell 0
     have zc1 : w6.cell? ⟨gb, 1, none⟩ = some (.int .i64 p1.id) := hk6b.cell 1
     have zc2 : w6.cell? ⟨gb, 2, none⟩ = some (.bool p1.whole) := hk6b.cell 2
     have zc3 : w6.cell? ⟨gb, 3, none⟩ = some (.bool p1.more) := hk6b.cell 3
     have zc4 : w6.cell? ⟨gb, 4, none⟩ = some (.int .i64 p1.off) := hk6b.cell 4
     have zc5 : w6.cell? ⟨gb, 5, none⟩ = some (.int .i64 p1.life) := hk6b.cell 5
     have zc6 : w6.cell? ⟨gb, 6, none⟩ = some (.int .i64 p1.proto) := hk6b.cell 6
     have zc7 : w6.cell? ⟨gb, 7, none⟩ = some (.int .u32 p1.src) := hk6b.cell 7
     have zc8 : w6.cell? ⟨gb, 8, none⟩ = some (.int .u32 p1.dst) := hk6b.cell 8
     have zc9 : w6.cell? ⟨gb, 9, none⟩ = some (.slice oA 0 oc) := hk6b.cell 9
     have zc10 : w6.cell? ⟨gb, 10, none⟩ = some (.slice eA en ec) := hk6b.cell 10
     clear henc hk6 hk6b hb6 hgb hK3 ac0 ac1 ac2 ac3 ac4 ac5 ac6 ac7 ac8 ac9 ac10
     go_wp2_with fail
     refine HENC2.out.mono ?_
     rintro e7 w7 ⟨k7, A7, n7, c7, rfl, hI7, hn7, ho7, hB7⟩
     have hb67 : Below wr.heap.size wr w7 := HB6.out.trans (hB7.mono HB6.out.size)
     have hk3a : ∀ b, b < wr.heap.size → K3 b = K2 b := fun b hb => by rw [← HK3.out]; exact if_pos hb
     have hk3b : ∀ b, wr.heap.size ≤ b → K3 b = t + 7 := fun b hb => by rw [← HK3.out]; exact if_neg (by omega)
     have HS7 : Hid (HostS t K3 w7 d v1 S1 Lr P) := Lib.hid (HS2.out.keep (Chg.of_below (F := fun _ => False) hb67) (fun _ _ _ e => e) hk3a)
     have HW7 : Hid (WkS t K3 w7 wk d now draw L1) := Lib.hid (HW2.out.keep (Chg.of_below (F := fun _ => False) hb67) (fun _ _ _ e => e) hk3a)
     have hgK : ¬ callK t (K1 gp) := by rw [HA5.out.h7 gp hgle]; exact fun e => absurd e.2 (by omega)
     have hbkr := HA5.out.bk.chg HC2.out hgK
     have hbk7 := hbkr.below hb67 hbkr.lt
     have HBK7 := Lib.hid hbk7
     have hrow : ∃ b, PcB (p1, [], el) b ∧ n7 ≤ 2000 ∧ RowK t K3 w7 A7 n7 c7 b := by
      by_cases hz : k7 = 0
      ·subst hz
       have hob := ho7 rfl
       have hbs : Bs (ipB p1 [] el) := (hdrB_bs p1 [] _ _ (fun x hx => by cases hx)).append HGD.out.bs
       refine ⟨_, .inl ⟨hI7, rfl⟩, ?_, RowK.of_ob hob hbs (fun b hb _ e => by rw [hk3b b (Nat.le_trans HB6.out.size hb)] at e; exact absurd e.2 (by omega))⟩
       have q1 := OB.length hob
       have q2 : el.length ≤ 1480 := HGD.out.len
       unfold ipB at q1
       rw [List.length_append, hdrB_len] at q1
       have q3 : hdN ([] : List Int).length = 20 := rfl
       omega
      ·obtain ⟨rfl, rfl, rfl⟩ := hn7 hz
       exact ⟨[], .inr ⟨fun h => hz (errIs_one hI7 h), rfl⟩, by omega, RowK.nil t K3 w7⟩
     obtain ⟨bl, hPB, hn2k, hbl⟩ := hrow
     have HROW := Lib.hid (And.intro hPB (And.intro hn2k hbl))
     have HKA : Hid (∀ b, b < w5.heap.size → K3 b = K1 b) := Lib.hid (fun b hb => (hk3a b (Nat.lt_of_lt_of_le hb HC2.out.size)).trans (HK2.out b hb))
     have HCA7 : Hid (Chg (fun b => callK t (K1 b)) w5 w7) := Lib.hid (HC2.out.trans (Chg.of_below (F := fun _ => False) hb67) (fun _ e => e.elim))
     have HTK : Hid ((splitP (pkS p v.id) 1500 [] dl).take (k + 1) = (splitP (pkS p v.id) 1500 [] dl).take k ++ [(p1, [], el)]) := Lib.hid (by
      rw [List.take_add_one]
      congr 1
      rw [← HLP.out, List.getElem?_map, HXX.out]
      rfl)
     have HBQ : Hid (∀ n, Calls Tryz.prog 162 #[.pointer (some ⟨d.h, 0, none⟩), .int .u32 p.dst] (w7.drewN n) fun e w' => e = .returned (.bool (isBc p.dst v.addr)) ∧ ∃ m, w' = (w7.drewN n).drewN m) := Lib.hid (fun n => by rw [show isBc p.dst v.addr = isBc p.dst v1.addr from by rw [HSL.out.addr]; rfl]; exact broadcast_q _ d.h v1 _ (HS7.out.hx.hb.drewN n) HS7.out.ad.2.1)
     unfold pkC pkS at hbk7
     have z8 : w7.cell? ⟨gp, 8, none⟩ = some (.int .u32 p.dst) := hbk7.cell 8
     have y0 : w7.cell? ⟨wk, 0, none⟩ = some (bp d.h) := by obtain ⟨_, _, _, _, k1, _⟩ := HW7.out.ex; exact k1.cell 0
     clear hb67 hk3a hk3b hgK hbkr hbk7 hPB hn2k hbl hI7 hn7 ho7 hB7 zc0 zc1 zc2 zc3 zc4 zc5 zc6 zc7 zc8 zc9 zc10
     go_wp2
     go_quiet ((go_at_call 162; exact Calls.quiet_of (HBQ.out _)))
     have HS8 := Lib.hid (HS7.out.drewN nq)
     have HW8 := Lib.hid (HW7.out.below (bel_drewN (Below.refl _ _) nq))
     have HR8 := Lib.hid (HROW.out.2.2.drewN nq)
     have HC8 : Hid (Chg (fun b => callK t (K1 b)) w5 (w7.drewN nq)) := Lib.hid (HCA7.out.drewN nq)
     have hkb : L1.length ≤ 900000 := by
      have q1 := (split_good (pkS p v.id) HX.out.2.2.2.2.2.2.2.2.2.2.2.2.1 dl HX.out.2.2.2.2.1 rfl (by have q2 := HX.out.2.1; have q4 := HX.out.2.2.2.1; omega)).2
      rw [← HLP.out, List.length_map, hn5] at q1
      have q2 := HX.out.2.1
      have q4 := HX.out.2.2.2.1
      have q5 := HLN.out
      have q6 := HX.out.2.2.2.2.2.1
      omega
     have HKB := Lib.hid hkb
     clear y0 z8 hkb HBQ
     generalize w7.drewN nq = w8 at HS8 HW8 HR8 HC8 ⊢
     obtain ⟨jA, jn, jc, js, j1, j2, j3, j4⟩ := HW8.out.ex
     have y0 : w8.cell? ⟨wk, 0, none⟩ = some (bp d.h) := j1.cell 0
     clear j1 j2 j3 j4
     rcases Bool.eq_false_or_eq_true (isBc p.dst v.addr) with hbc | hbc
     ·exact absurd hbc (by rw [HZ.out.2.2.1]; exact Bool.noConfusion)
     ·have HBC := Lib.hid hbc
      rw [hbc]
      clear hbc
      go_wp2_with fail
      have hS1 : S1 = [] := by
       have q1 := split_len (p := pkS p v.id) (dl := dl) (by rw [HX.out.2.1]; have := HZ.out.1; omega)
       rw [← HLP.out, List.length_map, hn5] at q1
       have q2 := HSL.out
       rw [show k = 0 by omega] at q2
       exact q2.2.1.trans HZ.out.2.1
      refine (whops_new t K3 w8 d v1 S1 hS1 Lr P wk now draw L1 p.dst HX.out.1.dst (by have := HKB.out; omega) A7 n7 c7 bl HR8.out.len (by have := HROW.out.2.1; omega) HR8.out.bs HX.out.2.2.2.2.2.2.1 HR8.out.rb (fun b hb e => HR8.out.nk b hb (by rcases e with e | e; exact ⟨by omega, by omega⟩; rw [e, HS8.out.kh]; exact ⟨by omega, by omega⟩)) HS8.out HW8.out).mono ?_
      rintro e10 w10 ⟨rfl, v2, S2, L2, hH, hP⟩
      have hst : StepR (isBc p.dst v.addr) p.dst now bl v1 S1 L1 v2 S2 L2 := by unfold StepR; rw [if_neg (by rw [HBC.out]; exact Bool.noConfusion)]; exact hH
      have HN : Hid (LpS t K1 w5 wk d now draw Lr P (isBc p.dst v.addr) p.dst (splitP (pkS p v.id) 1500 [] dl) (idV v) S L (k + 1) w10) := Lib.hid ⟨_, _, _, by rw [HTK.out]; exact HSL.out.snoc ⟨bl, HROW.out.1, hst⟩, by have q1 := hst.len; have q2 := HLN.out; omega, PostW.trans HKA.out HC8.out hP⟩
      clear hP hst hH y0
      go_wp2
      go_roundw
      case rel => exact ⟨k + 1, by omega, by go_num, HN⟩
      case measure => first | omega | go_num | (simp [intOf]; omega)
    ·obtain ⟨v1, S1, L1, hL1, hLn, hpw⟩ := HLP2.out
     have hall : (splitP (pkS p v.id) 1500 [] dl).take k = splitP (pkS p v.id) 1500 [] dl := List.take_of_length_le (by rw [← HLP.out, List.length_map, hn5]; exact c1)
     rw [hall] at hL1
     have HL1 := Lib.hid hL1
     have HPW := Lib.hid (PostW.trans HA5.out.hk HA5.out.hc hpw)
     clear hL1 hLn hpw hall
     go_wp2
     go_ret
     exact ⟨0, v1, S1, L1, rfl, .inr ⟨HOR.out, rfl, HL1.out⟩, HPW.out⟩
end Go.Proofs.YtaeafkdfbcppgaaGreat
