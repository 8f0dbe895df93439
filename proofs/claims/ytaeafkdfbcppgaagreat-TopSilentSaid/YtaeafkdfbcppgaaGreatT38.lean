/- Proved: the one datagram that waits is taken; a host is told a packet with a datagram for the one port that is bound; a whole frame that holds it, or an ARP packet; what a host does with a frame that holds an ARP packet, or a datagram for its one port; a tick of a host that has nothing to do; a tick of a ho. Conditions: as each law says. -/
import Derived.Test.YtaeafkdfbcppgaaGreatT36
set_option linter.unusedSectionVars false
set_option linter.unusedSimpArgs false
set_option linter.unusedVariables false
namespace Go.Proofs.YtaeafkdfbcppgaaGreat
open Go.RowKit
set_option maxHeartbeats 4000000 in
set_option maxRecDepth 100000 in
theorem hrecv_one (t : Nat) (K : Nat → Nat) (w : World) (d : HD) (v : HV) (S : List En) (port : Int) (q : Dg) (hs : HostS t K w d v S [] (some (port, [q]))) :
  Calls Tryz.prog 352 #[.pointer (some ⟨d.h, 0, none⟩), .int .i64 0] w fun e w' => ∃ dA dn dc, e = .returned (.tuple #[.agg (dgC q.fr q.fp q.to_ q.tp (.slice dA dn dc)), .int .i64 0]) ∧ RowAt w' (fun b => K b = t + 4) (.slice dA dn dc) q.data ∧ Chg (fun b => K b = t + 4) w w' := by
 obtain ⟨pm, p, qb, qA, qc, vs, h1, h2, h3, h4, h5, h6, h7, f1, f2, f3, f4, f5⟩ := hs.pl
 obtain ⟨v0, rfl, hv0⟩ : ∃ v0, vs = [v0] ∧ RowAt w (fun b => K b = t + 4) v0 q.data := by
  rcases vs with _ | ⟨v0, _ | ⟨v1, vs⟩⟩
  ·exact h7.elim
  ·exact ⟨v0, rfl, h7.1⟩
  ·exact h7.2.elim
 obtain ⟨dA, dn, dc, rfl, hrow⟩ := hv0
 have hcell : ∀ j u, (dgC q.fr q.fp q.to_ q.tp (.slice dA dn dc)).toList[j]? = some u → ∃ g, qA = some ⟨g, 0, none⟩ ∧ 0 ≤ g ∧ g < w.heap.size ∧ w.cell? ⟨g, j, none⟩ = some u ∧ w.frozen? ⟨g, j, none⟩ = false := fun j u hu => h6.cell (j := j) (u := u) (by show ((dgC q.fr q.fp q.to_ q.tp (.slice dA dn dc)).toList ++ [])[j]? = some u; rw [List.append_nil]; exact hu)
 obtain ⟨g, rfl, _, hg, q0, _⟩ := hcell 0 (.int .u32 q.fr) rfl
 obtain ⟨g1, e1, _, _, q1, _⟩ := hcell 1 (.int .i64 q.fp) rfl
 obtain ⟨g2, e2, _, _, q2, _⟩ := hcell 2 (.int .u32 q.to_) rfl
 obtain ⟨g3, e3, _, _, q3, _⟩ := hcell 3 (.int .i64 q.tp) rfl
 obtain ⟨g4, e4, _, _, q4, _⟩ := hcell 4 (.slice dA dn dc) rfl
 injection e1 with e1; injection e1 with e1
 injection e2 with e2; injection e2 with e2
 injection e3 with e3; injection e3 with e3
 injection e4 with e4; injection e4 with e4
 subst e1 e2 e3 e4
 have hqc : 1 ≤ qc := by
  rcases h6.2 with ⟨a, _⟩ | ⟨g', cap, cur, a, b, c, d', e', _⟩
  ·injection a with a; cases a
  ·injection a with a1 a2 a3
   subst a3
   exact d'
 obtain ⟨W0, hW0⟩ : ∃ W0, w.alloc (.cells (dgC 0 0 0 0 nilS) 101) = W0 := ⟨_, rfl⟩
 have hb0 : Below w.heap.size w W0 := by rw [← hW0]; exact (Below.refl _ _).alloc (Nat.le_refl _) _
 have hr0 : Bk W0 w.heap.size 101 (dgC 0 0 0 0 nilS) := by rw [← hW0]; exact Bk.new _ _ _
 have c18 : W0.cell? ⟨d.h, 18, none⟩ = some (.map (some d.plc)) := by rw [← hs.hx.plc]; exact (hs.below hb0).hx.hb.plc
 have hlk : (Instr.lookup 116 (.map (some d.plc)) (.int .i64 0) false).run Tryz.prog W0 = .ok (bp qb) W0 := IM.look (h4.below hb0 h4.lt) keyI Tryz.underlying116 (z := .pointer none) (by kernel_rfl) (show okI 0 by unfold okI; omega) false
 have hqb := h5.below hb0 h5.lt
 have c5 : W0.cell? ⟨qb, 5, none⟩ = some (.slice (some ⟨g, 0, none⟩) 1 qc) := hqb.cell 5
 have c6 : W0.cell? ⟨qb, 6, none⟩ = some (.int .i64 0) := hqb.cell 6
 have z0 : W0.cell? ⟨g, 0, none⟩ = some (.int .u32 q.fr) := bel_cell_ hb0 hg q0
 have z1 : W0.cell? ⟨g, 1, none⟩ = some (.int .i64 q.fp) := bel_cell_ hb0 hg q1
 have z2 : W0.cell? ⟨g, 2, none⟩ = some (.int .u32 q.to_) := bel_cell_ hb0 hg q2
 have z3 : W0.cell? ⟨g, 3, none⟩ = some (.int .i64 q.tp) := bel_cell_ hb0 hg q3
 have z4 : W0.cell? ⟨g, 4, none⟩ = some (.slice dA dn dc) := bel_cell_ hb0 hg q4
 have HQ := Lib.hid (And.intro hqb (And.intro hr0 (And.intro hb0 (And.intro hrow (And.intro f4 h5)))))
 have HW0 : Hid (w.alloc (.cells #[.int .u32 0, .int .i64 0, .int .u32 0, .int .i64 0, .slice none 0 0] 101) = W0) := Lib.hid hW0
 have hnd : dA = dA := rfl
 clear hs h1 h2 h3 h4 h5 h6 h7 f1 f2 f3 f4 f5 hcell hrow hb0 hr0 hW0 hqb q0 q1 q2 q3 q4 hnd
 go_enter Tryz.func352, Tryz.ntmps352
 go_upto_region 1 with (fail)
 rw [HW0.out]
 have hnq : W0.heap.size ≠ qb := by have := HQ.out.1.lt; omega
 have hnr : w.heap.size ≠ qb := by have := Bk.lt HQ.out.2.2.2.2.2; omega
 have HNE := Lib.hid (And.intro hnq hnr)
 clear hnq hnr
 have hcs : qc = 1 ∨ 1 < qc := by omega
 rcases hcs with hq1 | hq1
 all_goals
  first
   | subst hq1
   | (have hq1' : ¬ qc = 1 := by omega)
  go_wp2_with (first
   | (refine st_box 101 rfl (.tmp 8) (.tmp 50) rfl rfl rfl (cs := dgC q.fr q.fp q.to_ q.tp (.slice dA dn dc)) rfl (Bk.new _ _ _) dg_size rfl (dgC_all _ _ _ _ _ _ _) ?_; intro w2 hb2 g2 s2; have hq2 := (HQ.out.1.alloc (.cells #[.int .u32 0, .int .i64 0, .int .u32 0, .int .i64 0, .slice none 0 0] 101)).grown g2 (fun e => by injection e with e; exact HNE.out.1 e.symm); have hr2 := (HQ.out.2.1.alloc (.cells #[.int .u32 0, .int .i64 0, .int .u32 0, .int .i64 0, .slice none 0 0] 101)).grown g2 (fun e => by injection e with e; have := HQ.out.2.1.lt; omega); have c5' : w2.cell? ⟨qb, 5, none⟩ = some (.slice (some ⟨g, 0, none⟩) 1 _) := hq2.cell 5; have f5' := hq2.frozen 5)
   | (refine ld_box 101 _ rfl (.tmp 8) rfl rfl (hb2.far HNE.out.1 _) Tryz.underlying101 rfl dg_size ?_)
   | (refine st_box 101 rfl (.tmp 4) (.tmp 59) rfl rfl rfl (cs := dgC q.fr q.fp q.to_ q.tp (.slice dA dn dc)) rfl (hr2.far HNE.out.2 _) dg_size rfl (dgC_all _ _ _ _ _ _ _) ?_; intro w4 hb4 g4 s4))
  refine bodyPost_ret (results_b1 rfl _ _ w.heap.size 101 (dgC q.fr q.fp q.to_ q.tp (.slice dA dn dc)) (0, 0) _ rfl hb4 Tryz.underlying101 rfl dg_size) rfl ?_
  have hc : Chg (fun b => b = qb) w w4 := by
   have l0 := HQ.out.2.2.1.size
   have c1 : Chg (fun b => b = qb) w w2 := ((Chg.of_below (F := fun b => b = qb) HQ.out.2.2.1).trans ((Chg.refl (fun b => b = W0.heap.size) W0).alloc _) (fun x e => .inr (by omega))).trans (Chg.of_grown (F := fun b => b = W0.heap.size) g2 (fun b e => by injection e with e; exact e.symm)) (fun x e => .inr (by omega))
   exact (c1.set1 _).trans (Chg.of_grown (F := fun b => b = w.heap.size) g4 (fun b e => by injection e with e; exact e.symm)) (fun x e => .inr (by omega))
  have hc4 : Chg (fun b => K b = t + 4) w w4 := hc.mono (fun b _ e => by rw [e]; exact HQ.out.2.2.2.2.1)
  obtain ⟨r1, r2, r3⟩ := HQ.out.2.2.2.1
  have hr4 : OB 5 w4 0 dA dn dc q.data := Pt.keep_ r1 (fun b hb => hc.block b (Ow.lt r1 b hb).2 (fun e => (HQ.out.2.2.2.2.2).ow_ne r1 (by decide) (by rw [hb, e])))
  exact ⟨dA, dn, dc, rfl, ⟨dA, dn, dc, rfl, hr4, r2, r3⟩, hc4⟩
open Go.RowKit
set_option maxHeartbeats 4000000 in
set_option maxRecDepth 100000 in
theorem wcomes_udp (t : Nat) (K : Nat → Nat) (w : World) (d : HD) (v : HV) (S : List En) (Lr : List Rec) (wk : Nat) (now draw : Int) (L : List (List Int)) (p : PkV) (hp : p.Ok) (hmo : p.more = false) (hof : p.off = 0) (hpr : p.proto = 17) (oA dA : Option Addr) (on oc dn dc : Nat) (ol dl : List Int) (port : Int) (ho : RowK t K w oA on oc ol) (hd : RowK t K w dA dn dc dl) (hdn : dn ≤ 1000000) (hz : udpErr p.src p.dst dl = 0) (hport : rd2 dl 2 = port) (hds : p.dst ≠ 0) (hs : HostS t K w d v S Lr (some (port, []))) (hw : WkS t K w wk d now draw L) :
  Calls Tryz.prog 91 #[.pointer (some ⟨wk, 0, none⟩), .agg (pkC p (.slice oA on oc) (.slice dA dn dc))] w fun e w' => e = .returned (.tuple #[]) ∧ PostW t K w wk d now draw (cnt 11 v) S Lr (some (port, [⟨p.src, rd2 dl 0, p.dst, port, udpDl dl⟩])) L w' := by
 obtain ⟨K2, a0, k2a, k2b⟩ := (At.start hs hw).fresh
 obtain ⟨pv, pid, pw, pm, pof, plf, pro, psr, pds⟩ := p
 simp only at hmo hof hpr hz hds
 subst hmo hof hpr
 obtain ⟨W, hW⟩ : ∃ W, w.alloc (.cells (pkC ⟨pv, pid, pw, false, 0, plf, 17, psr, pds⟩ (.slice oA on oc) (.slice dA dn dc)) 97) = W := ⟨_, rfl⟩
 have hbW : Below w.heap.size w W := by rw [← hW]; exact (Below.refl _ _).alloc (Nat.le_refl _) _
 have hB : Bk W w.heap.size 97 (pkC ⟨pv, pid, pw, false, 0, plf, 17, psr, pds⟩ (.slice oA on oc) (.slice dA dn dc)) := by rw [← hW]; exact Bk.new w _ _
 have ha := a0.below hbW
 have HA := Lib.hid ha
 have HR := Lib.hid ((hd.recol k2a).below hbW)
 have HY := Lib.hid (And.intro hp (And.intro hdn (And.intro hz (And.intro hport (And.intro hds k2b)))))
 have HW : Hid (w.alloc (.cells #[.int .i64 pv, .int .i64 pid, .bool pw, .bool false, .int .i64 0, .int .i64 plf, .int .i64 17, .int .u32 psr, .int .u32 pds, .slice oA on oc, .slice dA dn dc] 97) = W) := Lib.hid hW
 unfold pkC at hB
 have HB := Lib.hid hB
 have y0 : W.cell? ⟨wk, 0, none⟩ = some (bp d.h) := ha.wk0
 have h46 : W.cell? ⟨d.h, 46, none⟩ = some (.map (some d.arr)) := by have := ha.hb.arr; rw [ha.hs.hx.arr] at this; exact this
 have z3 : W.cell? ⟨w.heap.size, 3, none⟩ = some (.bool false) := hB.cell 3
 have z4 : W.cell? ⟨w.heap.size, 4, none⟩ = some (.int .i64 0) := hB.cell 4
 have z6 : W.cell? ⟨w.heap.size, 6, none⟩ = some (.int .i64 17) := hB.cell 6
 have hlk : ∀ n, (Instr.lookup mapArr (.map (some d.arr)) (.int .i64 17) false).run Tryz.prog (W.drewN n) = .ok ((getL arrL 17).getD Value.nilFunc) (W.drewN n) := fun n => IM.look (ha.hs.hx.ar.drewN n) keyI Tryz.underlying162 (zeroFn _) (show okI 17 from hp.proto) false
 rw [show (getL arrL 17).getD Value.nilFunc = fnV 37 from rfl] at hlk
 unfold fnV at hlk
 clear a0 k2a k2b hW hbW hB ha ho hd hs hw hp hdn hz hport hds
 unfold pkC
 go_enter Tryz.func91, Tryz.ntmps91
 go_upto_region 1 with (fail)
 rw [HW.out]
 go_upto_region 9 with (fail)
 clear z3 z4
 go_wp2_with fail
 go_quiet (fail)
 have HA2 := Lib.hid (HA.out.drewN nq)
 have HB2 := Lib.hid (HB.out.drewN nq)
 have HR2 := Lib.hid (HR.out.drewN nq)
 clear y0 h46 z6 hlk
 have hfn : ∀ w : World, (binOp .neq 167 (.func (.func 37) #[] #[]) Value.nilFunc).run Tryz.prog w = .ok (.bool true) w := fun w => by kernel_rfl
 generalize W.drewN nq = wq at HA2 HB2 HR2 ⊢
 have z0 : wq.cell? ⟨w.heap.size, 0, none⟩ = some (.int .i64 pv) := HB2.out.cell 0
 have z1 : wq.cell? ⟨w.heap.size, 1, none⟩ = some (.int .i64 pid) := HB2.out.cell 1
 have z2 : wq.cell? ⟨w.heap.size, 2, none⟩ = some (.bool pw) := HB2.out.cell 2
 have z3 : wq.cell? ⟨w.heap.size, 3, none⟩ = some (.bool false) := HB2.out.cell 3
 have z4 : wq.cell? ⟨w.heap.size, 4, none⟩ = some (.int .i64 0) := HB2.out.cell 4
 have z5 : wq.cell? ⟨w.heap.size, 5, none⟩ = some (.int .i64 plf) := HB2.out.cell 5
 have z6 : wq.cell? ⟨w.heap.size, 6, none⟩ = some (.int .i64 17) := HB2.out.cell 6
 have z7 : wq.cell? ⟨w.heap.size, 7, none⟩ = some (.int .u32 psr) := HB2.out.cell 7
 have z8 : wq.cell? ⟨w.heap.size, 8, none⟩ = some (.int .u32 pds) := HB2.out.cell 8
 have z9 : wq.cell? ⟨w.heap.size, 9, none⟩ = some (.slice oA on oc) := HB2.out.cell 9
 have z10 : wq.cell? ⟨w.heap.size, 10, none⟩ = some (.slice dA dn dc) := HB2.out.cell 10
 go_wp2_with fail
 refine (wudp_first t K2 wq d v S Lr wk now draw L ⟨pv, pid, pw, false, 0, plf, 17, psr, pds⟩ HY.out.1 oA dA on oc dn dc dl port HR2.out HY.out.2.1 HY.out.2.2.1 HY.out.2.2.2.1 HY.out.2.2.2.2.1 HA2.out.hs HA2.out.hw).mono ?_
 rintro e9 w9 ⟨rfl, hP9⟩
 obtain ⟨K9, _, a9, _⟩ := HA2.out.call hP9
 have HP := Lib.hid a9.post
 clear hP9 a9 z0 z1 z2 z3 z4 z5 z6 z7 z8 z9 z10
 go_wp2
 first
  | (go_end0; exact ⟨rfl, HP.out⟩)
  | exact bodyPost_ret (results_none rfl _ _ _) rfl ⟨rfl, HP.out⟩
open Go.RowKit
set_option maxHeartbeats 4000000 in
set_option maxRecDepth 100000 in
theorem hframe_of (t : Nat) (ht : t ≤ 20) (K : Nat → Nat) (w : World) (d : HD) (v : HV) (S : List En) (P : Option (Int × List Dg)) (now draw : Int) (A : Option Addr) (n c : Nat) (l : List Int) (hA : RB w w.heap.size A l) (hn : l.length = n) (hc : n ≤ c) (hcm : c ≤ maxLen) (hbs : Bs l) (hlt : ∀ b, blk A = some b → b < w.heap.size ∧ ¬ hostK t (K b)) (hs : HostS t K w d v S [] P)
  (R : HV → List En → Option (Int × List Dg) → List (List Int) → Prop)
  (hF : ∀ K1 w1 wk, RowK t K1 w1 A n c l → HostS t K1 w1 d v S [] P → WkS t K1 w1 wk d now draw [] → Calls Tryz.prog 40 #[.pointer (some ⟨wk, 0, none⟩), .slice A n c] w1 fun e w' => e = .returned (.tuple #[]) ∧ ∃ v' S' P' L', R v' S' P' L' ∧ PostW t K1 w1 wk d now draw v' S' [] P' L' w') :
  Calls Tryz.prog 15 #[.pointer (some ⟨d.h, 0, none⟩), .slice A n c, .int .i64 now, .int .i64 draw] w (HostR t K w d R) := by
 obtain ⟨K1, k1, k2, hs1, hw1⟩ := work_start hs now draw
 have hb1 : Below w.heap.size w (w.alloc (.cells (wkC d.h now draw nilS nilS) 173)) := (Below.refl _ _).alloc (Nat.le_refl _) _
 have hfin := fun v' S' P' L' w' => work_end2 (v' := v') (S' := S') (Lr' := []) (P' := P') (L' := L') (w' := w') (d := d) (now := now) (draw := draw) k1 k2 ht
 have hr0 : RowK t K1 w A n c l := ⟨hA, hn, hc, hcm, hbs, fun b e => (hlt b e).1, fun b e q => by rw [k2 b (hlt b e).1 (hlt b e).2] at q; exact absurd q.2 (by omega)⟩
 have hr1 := hr0.below hb1
 obtain ⟨W, hW⟩ : ∃ W, w.alloc (.cells (wkC d.h now draw nilS nilS) 173) = W := ⟨_, rfl⟩
 rw [hW] at hs1 hw1 hr1 hfin
 have HFIN := Lib.hid hfin
 have HD := Lib.hid (hF K1 W w.heap.size hr1 hs1 hw1)
 have HW : Hid (w.alloc (.cells #[.pointer (some ⟨d.h, 0, none⟩), .int .i64 now, .int .i64 draw, nilS, nilS] 173) = W) := Lib.hid hW
 clear hfin hW hr0 hr1 hs1 hw1 hs hA hn hc hcm hbs hlt hb1 k1 k2 hF ht
 go_enter Tryz.func15, Tryz.ntmps15
 go_wp2_with fail
 rw [HW.out]
 refine HD.out.mono ?_
 rintro e1 w1 ⟨rfl, v', S', P', L', hR, hP⟩
 obtain ⟨K', fA, fc, vs, z1, z2, z3, z4, z5, z6, z7, z8⟩ := HFIN.out _ _ _ _ _ hP
 have HF : Hid (HostR t K w d R (.returned (.slice fA L'.length fc)) w1) := Lib.hid ⟨v', S', P', L', K', fA, fc, vs, rfl, hR, z1, z2, z3, z4, z6, z7, z8⟩
 have HB2 := Lib.hid z5
 clear hR hP z1 z2 z3 z4 z5 z6 z7 z8
 go_wp2_with fail
 refine (settled_nil _ _ _ _ _ _ HB2.out).mono ?_
 rintro e2 w2 ⟨rfl, rfl⟩
 go_wp2
 go_ret
 exact HF.out
theorem hframe_nb (t : Nat) (ht : t ≤ 20) (K : Nat → Nat) (w : World) (d : HD) (v : HV) (S : List En) (P : Option (Int × List Dg)) (now draw : Int) (A : Option Addr) (n c : Nat) (l : List Int) (hA : RB w w.heap.size A l) (hn : l.length = n) (hc : n ≤ c) (hcm : c ≤ maxLen) (hbs : Bs l) (hlt : ∀ b, blk A = some b → b < w.heap.size ∧ ¬ hostK t (K b)) (hs : HostS t K w d v S [] P)
  (hnow : -9223372036854775808 ≤ now ∧ now ≤ 9223372036854775807) (he : ethErr l = 0) (hk : rd2 l 12 = 2054) (h1 : macE (at8 l 6, at8 l 7, at8 l 8, at8 l 9, at8 l 10, at8 l 11) v.m = false) (h2 : takes v.m (at8 l 0, at8 l 1, at8 l 2, at8 l 3, at8 l 4, at8 l 5) = true) :
  Calls Tryz.prog 15 #[.pointer (some ⟨d.h, 0, none⟩), .slice A n c, .int .i64 now, .int .i64 draw] w (HostR t K w d (fun v' S' P' L' => P' = P ∧ NbR (cnt 0 v) S now (l.drop 14) [] v' S' L')) := by
 refine hframe_of t ht K w d v S P now draw A n c l hA hn hc hcm hbs hlt hs _ (fun K1 w1 wk hr hs hw => ?_)
 have hl : l.length ≤ 1514 := by
  unfold ethErr at he
  split at he
  ·cases he
  ·omega
 refine (wframed_any t K1 w1 d v S [] P wk now draw [] A n c l hr.weak (fun v' S' Lr' P' L' => Lr' = [] ∧ P' = P ∧ NbR (cnt 0 v) S now (l.drop 14) [] v' S' L') (fun _ _ K2 w2 A2 n2 c2 hr2 hs2 hw2 => ?_) (fun _ e => by omega) (fun _ q => ?_) (fun q => absurd he q) hs hw).mono (fun e w' ⟨q1, v', S', Lr', P', L', ⟨q2, q3⟩, q4⟩ => by subst q2; exact ⟨q1, v', S', P', L', q3, q4⟩)
 ·refine (wneigh_any t K2 w2 d (cnt 0 v) S [] P wk now draw [] A2 n2 c2 (l.drop 14) hr2 (by have := hr2.len; rw [List.length_drop] at this; omega) (by simp) hnow hs2 hw2).mono ?_
  rintro e w' ⟨q1, v', S', L', q2, q3⟩
  exact ⟨q1, v', S', [], P, L', ⟨rfl, rfl, q2⟩, q3⟩
 ·rcases q with q | q | q
  ·rw [h1] at q; cases q
  ·rw [h2] at q; cases q
  ·exact absurd q.1 (by rw [hk]; simp)
theorem hframe_udp (t : Nat) (ht : t ≤ 20) (K : Nat → Nat) (w : World) (d : HD) (v : HV) (S : List En) (port : Int) (now draw : Int) (A : Option Addr) (n c : Nat) (l : List Int) (hA : RB w w.heap.size A l) (hn : l.length = n) (hc : n ≤ c) (hcm : c ≤ maxLen) (hbs : Bs l) (hlt : ∀ b, blk A = some b → b < w.heap.size ∧ ¬ hostK t (K b)) (hs : HostS t K w d v S [] (some (port, [])))
  (he : ethErr l = 0) (hk : rd2 l 12 = 2048) (h1 : macE (at8 l 6, at8 l 7, at8 l 8, at8 l 9, at8 l 10, at8 l 11) v.m = false) (h2 : takes v.m (at8 l 0, at8 l 1, at8 l 2, at8 l 3, at8 l 4, at8 l 5) = true)
  (hi : ipErr (l.drop 14) = 0) (ho : isOurs (ipP (l.drop 14)).dst v.addr = true) (hsr : (ipP (l.drop 14)).src < 3758096384) (hmi : isMine (ipP (l.drop 14)).src v.addr = false) (hmo : (ipP (l.drop 14)).more = false) (hof : (ipP (l.drop 14)).off = 0) (hpr : (ipP (l.drop 14)).proto = 17)
  (hz : udpErr (ipP (l.drop 14)).src (ipP (l.drop 14)).dst (ipDl (l.drop 14)) = 0) (hport : rd2 (ipDl (l.drop 14)) 2 = port) (hds : (ipP (l.drop 14)).dst ≠ 0) :
  Calls Tryz.prog 15 #[.pointer (some ⟨d.h, 0, none⟩), .slice A n c, .int .i64 now, .int .i64 draw] w (HostR t K w d (fun v' S' P' L' => v' = cnt 11 (cnt 0 v) ∧ S' = S ∧ P' = some (port, [⟨(ipP (l.drop 14)).src, rd2 (ipDl (l.drop 14)) 0, (ipP (l.drop 14)).dst, port, udpDl (ipDl (l.drop 14))⟩]) ∧ L' = [])) := by
 refine hframe_of t ht K w d v S _ now draw A n c l hA hn hc hcm hbs hlt hs _ (fun K1 w1 wk hr hs hw => ?_)
 have hl : l.length ≤ 1514 := by
  unfold ethErr at he
  split at he
  ·cases he
  ·omega
 refine (wframed_any t K1 w1 d v S [] _ wk now draw [] A n c l hr.weak (fun v' S' Lr' P' L' => Lr' = [] ∧ v' = cnt 11 (cnt 0 v) ∧ S' = S ∧ P' = some (port, [⟨(ipP (l.drop 14)).src, rd2 (ipDl (l.drop 14)) 0, (ipP (l.drop 14)).dst, port, udpDl (ipDl (l.drop 14))⟩]) ∧ L' = []) (fun _ e => by omega) (fun _ _ K2 w2 A2 n2 c2 hr2 hs2 hw2 => ?_) (fun _ q => ?_) (fun q => absurd he q) hs hw).mono (fun e w' ⟨q1, v', S', Lr', P', L', ⟨q2, q3⟩, q4⟩ => by subst q2; exact ⟨q1, v', S', P', L', q3, q4⟩)
 ·refine wpacket_any t K2 w2 d (cnt 0 v) S [] _ wk now draw [] A2 n2 c2 (l.drop 14) hr2 (by have := hr2.len; rw [List.length_drop] at this; omega) _ (fun K3 w3 oA on oc dA dn dc _ ht3 ho3 hd3 hs3 hw3 => ?_) (fun _ q => ?_) (fun q => absurd hi q) hs2 hw2
  ·refine (wcomes_udp t K3 w3 d (cnt 0 v) S [] wk now draw [] (ipP (l.drop 14)) ht3.ok hmo hof hpr oA dA on oc dn dc (ipOl (l.drop 14)) (ipDl (l.drop 14)) port ho3 hd3 (by have := hd3.len; have := ht3.dl; omega) hz hport hds hs3 hw3).mono ?_
   rintro e w' ⟨q1, q2⟩
   exact ⟨q1, _, _, _, _, _, ⟨rfl, rfl, rfl, rfl, rfl⟩, q2⟩
  ·have had : (cnt 0 v).addr = v.addr := rfl
   rw [had] at q
   rcases q with q | q | q
   ·rw [ho] at q; cases q
   ·omega
   ·rw [hmi] at q; cases q
 ·rcases q with q | q | q
  ·rw [h1] at q; cases q
  ·rw [h2] at q; cases q
  ·exact absurd q.2 (by rw [hk]; simp)
open Go.RowKit
section
variable {t : Nat} {K K' K1 : Nat → Nat} {w wx w' : World} {wk : Nat} {d : HD} {now draw : Int} {v : HV} {S : List En} {Lr : List Rec} {P : Option (Int × List Dg)} {L : List (List Int)}
theorem At.tick2 {e : Ending} (a : At t K w wk d now draw v S Lr P L K1 wx) (h : PTick2 v wx (fun b => K1 b = t + 2 ∨ b = d.h) d.h S now e w') :
  ∃ K2 nv S1 A1 n1 c1 A2 n2 c2 asks losts, TickT (absT S) now asks losts (absT S1) ∧ asks.length = n1 ∧ losts.length = n2 ∧ e = .returned (.tuple #[.slice A1 n1 c1, .slice A2 n2 c2]) ∧ (∀ b, b < wx.heap.size → K2 b = K1 b) ∧ At t K w wk d now draw { v with near := nv } S1 Lr P L K2 w' ∧ AdR t K2 w' A1 n1 c1 asks ∧ n2 ≤ 16 ∧ asks.length ≤ 16 ∧ (∀ x ∈ asks, okA x) ∧ Chg (fun b => callK t (K1 b)) wx w' := by
 obtain ⟨A1, n1, c1, A2, n2, c2, asks, losts, S1, rfl, o1, o2, hca, hT, hc⟩ := h
 obtain ⟨K2, hk1, hk2⟩ : ∃ K2 : Nat → Nat, (∀ b, b < wx.heap.size → K2 b = K1 b) ∧ ∀ b, wx.heap.size ≤ b → K2 b = t + 7 := ⟨fun b => if b < wx.heap.size then K1 b else t + 7, fun b hb => if_pos hb, fun b hb => if_neg (by omega)⟩
 obtain ⟨nv, hs⟩ := a.hs.cache2 hca hc (hT.tbok a.hs.cb) hk1
 have hck : Chg (fun b => callK t (K1 b)) wx w' := hc.mono (fun b _ e => by rcases e with q | q; rw [q]; exact ⟨by omega, by omega⟩; rw [q, a.hs.kh]; exact ⟨by omega, by omega⟩)
 have hl := hT.lens
 have h16 := a.hs.asks_ok
 have hab : (absT S).length = S.length := by unfold absT; rw [List.length_map]
 refine ⟨K2, nv, S1, A1, n1, c1, A2, n2, c2, asks, losts, hT, OA.len o1, OA.len o2, rfl, hk1, ⟨fun b hb => (hk1 b (Nat.lt_of_lt_of_le hb a.hc.size)).trans (a.hk b hb), hs, a.hw.keep hc (fun b _ hk e => by rcases e with q | q; omega; rw [q, a.hs.kh] at hk; omega) hk1, a.hc.trans hck (fun b hb => ?_)⟩, ⟨(Ow.mono o1 (Nat.zero_le _)).of, fun b hb => hk2 b (Ow.lt o1 b hb).1⟩, ?_, by omega, fun x hx => ?_, hck⟩
 ·rcases Nat.lt_or_ge b w.heap.size with q | q
  ·left; rw [← a.hk b q]; exact hb
  ·exact .inr q
 ·have := OA.len o2; omega
 ·obtain ⟨y, hy, rfl, _⟩ := (hT.2.1.2 x).1 hx
  obtain ⟨z, hz, rfl⟩ := List.mem_map.1 hy
  obtain ⟨mv, hmv⟩ := a.hs.ca
  exact (hmv.2.2.2.1 z hz).2.2.2.2.2.1
end
set_option maxHeartbeats 4000000 in
set_option maxRecDepth 100000 in
theorem htick_q (t : Nat) (ht : t ≤ 20) (K : Nat → Nat) (w : World) (d : HD) (v : HV) (S : List En) (P : Option (Int × List Dg)) (now draw : Int) (h0 : 0 ≤ now ∧ now ≤ 9223372036854775807) (hage : v.age = nilS) (hlen : S.length ≤ 1) (hq : ∀ asks losts T', TickT (absT S) now asks losts T' → asks = [] ∧ losts = [] ∧ T' = absT S) (hs : HostS t K w d v S [] P) :
  Calls Tryz.prog 16 #[.pointer (some ⟨d.h, 0, none⟩), .int .i64 now, .int .i64 draw] w (HostR t K w d (fun v' S' P' L' => absT S' = absT S ∧ (∃ nv, v' = { v with near := nv }) ∧ P' = P ∧ L' = [])) := by
 obtain ⟨K1, k1, k2, hs1, hw1⟩ := work_start hs now draw
 have hfin := fun v' S' L' w' => work_end2 (v' := v') (S' := S') (Lr' := []) (P' := P) (L' := L') (w' := w') (d := d) (now := now) (draw := draw) k1 k2 ht
 obtain ⟨W, hW⟩ : ∃ W, w.alloc (.cells (wkC d.h now draw nilS nilS) 173) = W := ⟨_, rfl⟩
 rw [hW] at hs1 hw1 hfin
 have hct := ptick_n 1 sort1 now (by omega) W (fun b => K1 b = t + 2 ∨ b = d.h) d.h S hs1.ca hlen
 have HFIN := Lib.hid hfin
 have HCT := Lib.hid hct
 have HA0 := Lib.hid (At.start hs1 hw1)
 have HX := Lib.hid (And.intro h0 (And.intro hage (And.intro hq hs.hx.grp)))
 have HW : Hid (w.alloc (.cells #[.pointer (some ⟨d.h, 0, none⟩), .int .i64 now, .int .i64 draw, nilS, nilS] 173) = W) := Lib.hid hW
 clear hfin hct hW hs1 hw1 hs h0 hage hq k1 k2 ht
 go_enter Tryz.func16, Tryz.ntmps16
 go_wp2_with fail
 rw [HW.out]
 refine HCT.out.mono ?_
 rintro e1 w1 hp
 obtain ⟨K2, nv, S1, A1, n1, c1, A2, n2, c2, asks, losts, hT, hn1, hn2, rfl, q1, ha, _, _, _, _, _⟩ := HA0.out.tick2 hp
 obtain ⟨rfl, rfl, hTT⟩ := HX.out.2.2.1 _ _ _ hT
 obtain rfl : n1 = 0 := hn1.symm
 obtain rfl : n2 = 0 := hn2.symm
 have HA := Lib.hid (And.intro ha hTT)
 have HH1 : Hid (HB w1 d.h { v with near := nv }) := Lib.hid ha.hb
 clear hp hT hn1 hn2 q1 ha hTT
 go_wp2_with fail
 refine wp_loop_rounds 1 ?_; rw [rounds_succ]
 go_wp2_with fail
 refine wp_loop_rounds 1 ?_; rw [rounds_succ]
 go_wp2_with fail
 refine (stick_nil d.h { v with near := nv } now HX.out.1 _ HH1.out HX.out.2.1).mono ?_
 rintro e2 w2 ⟨rfl, rfl⟩
 go_wp2_with fail
 refine wp_loop_rounds 1 ?_; rw [rounds_succ]
 go_wp2_with fail
 refine (gtick_nil d.h { v with near := nv } now _ HH1.out HX.out.2.2.2).mono ?_
 rintro e3 w3 ⟨rfl, rfl⟩
 go_wp2_with fail
 refine (reports_nil _ _).mono ?_
 rintro e4 w4 ⟨rfl, rfl⟩
 go_wp2_with fail
 refine (hubtick_nil d.h { v with near := nv } now _ HH1.out).mono ?_
 rintro e5 w5 ⟨rfl, hB5⟩
 have ha5 := HA.out.1.below hB5
 obtain ⟨K', fA, fc, vs, z1, z2, z3, z4, z5, z6, z7, z8⟩ := HFIN.out _ _ _ _ ha5.post
 obtain rfl : vs = [] := by
  rcases vs with _ | ⟨v0, vs⟩
  ·rfl
  ·exact z7.elim
 obtain ⟨fA', fn', fc', vs', y1, y2, y3, _⟩ := ha5.hw.ex
 have HF : Hid (HostR t K w d (fun v' S' P' L' => absT S' = absT S ∧ (∃ nv, v' = { v with near := nv }) ∧ P' = P ∧ L' = []) (.returned (.slice fA 0 fc)) w5) := Lib.hid ⟨_, S1, P, [], K', fA, fc, [], rfl, ⟨HA.out.2, ⟨nv, rfl⟩, rfl, rfl⟩, z1, z2, z3, z4, z6, z7, z8⟩
 have HB2 := Lib.hid z5
 clear hB5 ha5 z1 z2 z3 z4 z5 z6 z7 z8 y1 y2 y3
 go_wp2_with fail
 refine (segments_nil _ _).mono ?_
 rintro e6 w6 ⟨rfl, rfl⟩
 go_wp2_with fail
 refine (settled_nil _ _ _ _ _ _ HB2.out).mono ?_
 rintro e7 w7 ⟨rfl, rfl⟩
 go_wp2
 go_ret
 exact HF.out
end Go.Proofs.YtaeafkdfbcppgaaGreat
