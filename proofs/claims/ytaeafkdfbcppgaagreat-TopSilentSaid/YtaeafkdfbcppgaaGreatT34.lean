/- Proved: the first port of a host is bound, or picked; what waits at a host's one port; a datagram is sent by a host; the one datagram that waits is taken. Conditions: as each law says. -/
import Derived.Test.YtaeafkdfbcppgaaGreatT30
import Derived.Test.YtaeafkdfbcppgaaGreatT33
set_option linter.unusedSectionVars false
set_option linter.unusedSimpArgs false
set_option linter.unusedVariables false
namespace Go.Proofs.YtaeafkdfbcppgaaGreat
open Go.RowKit
section
variable {t : Nat} {K K' : Nat → Nat} {w w' : World} {d : HD} {v : HV} {S : List En} {Lr : List Rec} {P P' : Option (Int × List Dg)}
theorem HostS.places {x : Value} (s : HostS t K w d v S Lr P) (hb : HB w' d.h { v with prt := x }) (hc : Chg (fun b => K b = t + 4 ∨ b = d.h) w w') (hp : PlAt w' (fun b => K' b = t + 4) { v with prt := x } d P') (hK : ∀ b, b < w.heap.size → K' b = K b) : HostS t K' w' d { v with prt := x } S Lr P' := by
 have hlt := s.lt
 have hh := s.kh
 have hx : HostAt w' (fun b => K b = t + 1 ∨ b = d.h) d { v with prt := x } := s.hx.turn hb hc (fun b hb hn e => by
  rcases e with e | e
  ·rcases hb with q | q
   ·omega
   ·exact hn q
  ·exact hn e) rfl rfl rfl rfl rfl
 exact {
  kh := (hK _ hlt).trans s.kh
  hx := by
   refine ⟨hx.hb, hx.k0, hx.bkt, hx.plc, hx.arr, hx.grp, hx.rt, hx.bw, hx.ar, .inr rfl, fun b q1 q2 => ?_, fun b q => ?_, ?_, ?_⟩
   ·exact (s.hx.cap.fn b q1 q2).1.imp (fun e => (hK b (s.hx.cap.fn b q1 q2).2).trans e) (fun e => e)
   ·exact (s.hx.cap.fa b q).1.imp (fun e => (hK b (s.hx.cap.fa b q).2).trans e) (fun e => e)
   ·exact s.hx.cap.fb.1.imp (fun e => (hK _ s.hx.cap.fb.2).trans e) (fun e => e)
   ·exact s.hx.cap.fr.1.imp (fun e => (hK _ s.hx.cap.fr.2).trans e) (fun e => e)
  ca := (s.ca.cap.swap s.hx.hb (fun b hb' hn hl => hc.block b hl (fun e => by
    rcases e with q | q
    ·rcases hb'.1 with q2 | q2
     ·omega
     ·exact hn q2
    ·exact hn q)) hb rfl).mono (fun b hb => hb.1.imp (fun e => (hK b hb.2).trans e) (fun e => e))
  st := by
   obtain ⟨F, f1, f2⟩ := s.st
   refine ⟨F, f1.swap s.hx.hb hc (fun b hb' hn e => ?_) hb rfl rfl, fun b hb' => (f2 b hb').imp (fun e => (hK b (f1.lt hb')).trans e) (fun e => e)⟩
   rcases e with q | q
   ·rcases f2 b hb' with q2 | q2
    ·omega
    ·exact hn q2
   ·exact hn q
  pl := hp
  ct := fun n x' hn hx' => s.ct n x' hn (by
   rw [← hx']
   unfold hostC
   rcases n with _ | _ | _ | _ | _ | _ | _ | _ | _ | _ | _ | _ | _ | _ | _ | _ | _ | n
   all_goals first | rfl | omega)
  id := s.id
  ad := s.ad
  cb := s.cb
  mb := s.mb }
end
theorem pmay_none (h : Nat) (w : World) (hc : w.cell? ⟨h, 17, none⟩ = some (.map none)) :
  Calls Tryz.prog 390 #[.pointer (some ⟨h, 17, none⟩), .int .i64 0] w fun e w' => e = .returned (.int .i64 0) ∧ w = w' := by
 have hlk : ∀ w, (Instr.lookup 135 (.map none) (.int .i64 0) false).run Tryz.prog w = .ok (.pointer none) w := fun w => by kernel_rfl
 go_enter Tryz.func390, Tryz.ntmps390
 go_wp2
 go_ret
 exact ⟨rfl, rfl⟩
theorem pfree_none (h : Nat) (a port : Int) (w : World) (hc : w.cell? ⟨h, 17, none⟩ = some (.map none)) :
  Calls Tryz.prog 391 #[.pointer (some ⟨h, 17, none⟩), .int .u32 a, .int .i64 port] w fun e w' => e = .returned (.bool true) ∧ Below w.heap.size w w' := by
 have hrg := run_range_nilMap (P := Tryz.prog) w 135 _ _ Tryz.underlying135
 have hnx : ∀ ty, (Instr.next (.pointer (some ⟨w.heap.size, 0, none⟩)) false ty).run Tryz.prog (w.alloc (.mapIter none 0 #[] 0)) = _ := fun ty => run_next_nilMap w ty 0 0 #[]
 go_enter Tryz.func391, Tryz.ntmps391
 go_wp2_with fail
 refine wp_loop_rounds 1 ?_; rw [rounds_succ]
 go_wp2
 go_ret
 exact ⟨rfl, (Below.refl _ _).alloc (Nat.le_refl _) _⟩
def PdPost (w : World) (h : Nat) (v : HV) (port : Int) (w' : World) : Prop :=
 ∃ pm p, HB w' h { v with prt := .map (some pm) } ∧ IM mkI okI w' pm [(0, bp p)] ∧ Bk w' p 305 (PlC port) ∧ w.heap.size ≤ pm ∧ w.heap.size ≤ p ∧ Chg (fun b => b = h) w w'
set_option maxHeartbeats 4000000 in
set_option maxRecDepth 100000 in
theorem pbind_first (h : Nat) (v : HV) (port : Int) (hp : 1 ≤ port ∧ port ≤ 65535) (w : World) (hb : HB w h v) (hv : v.prt = .map none) :
  Calls Tryz.prog 388 #[.pointer (some ⟨h, 17, none⟩), .int .i64 0, .int .u32 0, .int .i64 port] w fun e w' => e = .returned (.int .i64 0) ∧ PdPost w h v port w' := by
 have hmm := @run_makeMap Tryz.prog
 have hc : w.cell? ⟨h, 17, none⟩ = some (.map none) := by rw [← hv]; exact hb.prt
 have h1 : ¬ port < 1 := by omega
 have h2 : ¬ 65535 < port := by omega
 have hme : ∀ w, (binOp .eql 135 (.map none) (.map none)).run Tryz.prog w = .ok (.bool true) w := fun w => by kernel_rfl
 have HBK := Lib.hid hb
 clear hb hv hp
 go_enter Tryz.func388, Tryz.ntmps388
 go_wp2_with fail
 refine (pmay_none h w hc).mono ?_
 rintro e1 w1 ⟨rfl, rfl⟩
 go_wp2_with fail
 refine (pfree_none h 0 port w hc).mono ?_
 rintro e2 w2 ⟨rfl, hB2⟩
 have hb2 := HBK.out.below hB2 HBK.out.lt
 have hc2 : w2.cell? ⟨h, 17, none⟩ = some (.map none) := (bel_cell_ hB2 HBK.out.lt hc)
 have hf2 : ∀ o, (w2.alloc o).frozen? ⟨h, 17, none⟩ = false := fun o => (hb2.alloc o).fz 17
 have hc2a : ∀ o, (w2.alloc o).cell? ⟨h, 17, none⟩ = some v.prt := fun o => (hb2.alloc o).prt
 have HB2 := Lib.hid hB2
 obtain ⟨W, hW⟩ : ∃ W, (w2.alloc (.map #[] 0)).setCell ⟨h, 17, none⟩ (.map (some w2.heap.size)) = W := ⟨_, rfl⟩
 have hbW : HB W h { v with prt := .map (some w2.heap.size) } := by rw [← hW]; exact (hb2.alloc _).set_prt _
 have hiW : IM mkI okI W w2.heap.size [] := by rw [← hW]; exact IM.setCell (IM.made w2) (by show w2.heap.size ≠ h; have := hb2.lt; omega) _
 have hcW : W.cell? ⟨h, 17, none⟩ = some (.map (some w2.heap.size)) := hbW.prt
 have hzW : W.heap.size = w2.heap.size + 1 := by rw [← hW, size_setCell, World.size_alloc]
 have hchW : Chg (fun b => b = h) w W := by
  rw [← hW]
  exact ((Chg.of_below (F := fun b => b = h) hB2).trans (((Chg.refl (fun b => b = h) w2).alloc _).set1 _) (fun _ e => .inl e))
 have hbX := hbW.alloc (.cells (PlC port) 305)
 have hiX := IM.alloc hiW (.cells (PlC port) 305)
 have hpX : Bk (W.alloc (.cells (PlC port) 305)) W.heap.size 305 (PlC port) := Bk.new W _ _
 obtain ⟨v0, r0, i0, g0, e0⟩ := hiX.store keyI Tryz.underlying135 (x := 0) (by unfold okI; omega) (bp W.heap.size)
 have q0 : (Instr.mapUpdate 135 (.map (some w2.heap.size)) (.int .i64 0) (.pointer (some ⟨w2.heap.size + 1, 0, none⟩))).run Tryz.prog (W.alloc (.cells #[.int .u32 0, .int .i64 port, .bool false, .int .u32 0, .int .i64 0] 305)) = .ok () v0 := by rw [← hzW]; exact r0
 have HF : Hid (PdPost w h v port v0) := Lib.hid (by
  have hs2 : w.heap.size ≤ w2.heap.size := hB2.size
  have hl := hb2.lt
  have hlw := HBK.out.lt
  have gg : Chg (fun b => b = w2.heap.size) (W.alloc (.cells (PlC port) 305)) v0 := Chg.of_grown (F := fun b => b = w2.heap.size) g0 (fun b e => by injection e with e; exact e.symm)
  refine ⟨w2.heap.size, W.heap.size, hbX.chg gg (by omega), i0, hpX.chg gg (by omega), hs2, by omega, ?_⟩
  exact (hchW.alloc _).trans gg (fun x e => .inr (by omega)))
 have HW := Lib.hid hW
 clear hb2 hbW hiW hbX hiX hpX r0 i0 g0 e0 hchW hW hB2 hzW
 go_wp2_with fail
 rw [HW.out]
 rw [q0]
 go_wp2
 go_ret
 exact ⟨rfl, HF.out⟩
set_option maxHeartbeats 4000000 in
set_option maxRecDepth 100000 in
theorem ppick_first (h : Nat) (v : HV) (draw : Int) (hd : 0 ≤ draw ∧ draw ≤ 2147483647) (w : World) (hb : HB w h v) (hv : v.prt = .map none) :
  Calls Tryz.prog 387 #[.pointer (some ⟨h, 17, none⟩), .int .i64 0, .int .u32 0, .int .i64 draw] w fun e w' => e = .returned (.tuple #[.int .i64 (49152 + draw % 16384), .int .i64 0]) ∧ PdPost w h v (49152 + draw % 16384) w' := by
 have hc : w.cell? ⟨h, 17, none⟩ = some (.map none) := by rw [← hv]; exact hb.prt
 obtain ⟨r, hr⟩ : ∃ r, draw % 16384 = r := ⟨_, rfl⟩
 have hr0 : 0 ≤ r ∧ r < 16384 := by omega
 have m1 : max (0 : Int) draw = draw := by omega
 have m2 : Int.tmod draw 16384 = r := by rw [Int.tmod_eq_emod_of_nonneg hd.1]; exact hr
 have m3 : Int.tmod r 16384 = r := by rw [Int.tmod_eq_emod_of_nonneg hr0.1]; omega
 have HBI := Lib.hid (pbind_first h v (49152 + r) (by omega) w hb hv)
 have w1_ : IntKind.i64.wrap (49152 + r) = 49152 + r := IntWalk.i64_in _ (by omega)
 have w2_ : IntKind.i64.wrap r = r := IntWalk.i64_in _ (by omega)
 rw [hr]
 clear hb hv hd
 go_enter Tryz.func387, Tryz.ntmps387
 go_wp2_with fail
 refine (pmay_none h w hc).mono ?_
 rintro e1 w1 ⟨rfl, rfl⟩
 go_wp2_with fail
 refine wp_loop_rounds 1 ?_; rw [rounds_succ]
 go_wp2_with fail
 refine HBI.out.mono ?_
 rintro e2 w2 ⟨rfl, hP⟩
 have HP := Lib.hid hP
 clear hP
 go_wp2
 go_ret2
 exact ⟨rfl, HP.out⟩
theorem hmay_any (h : Nat) (v : HV) (w : World) (hb : HB w h v) : Calls Tryz.prog 386 #[.pointer (some ⟨h, 0, none⟩), .int .u32 0] w fun e w' => e = .returned (.bool true) ∧ w = w' := by
 have h6 := hb.addr
 clear hb
 go_enter Tryz.func386, Tryz.ntmps386
 go_wp2
 go_ret
 exact ⟨rfl, rfl⟩
def BdPost (t : Nat) (K : Nat → Nat) (w : World) (d : HD) (v : HV) (S : List En) (port : Int) (w' : World) : Prop :=
 ∃ K' x, HostS t K' w' d { v with prt := x } S [] (some (port, [])) ∧ (∀ b, b < w.heap.size → K' b = K b) ∧ (∀ b, w.heap.size ≤ b → hostK t (K' b) ∨ K' b = 40) ∧ Chg (fun b => hostK t (K b)) w w'
theorem bd_post {t : Nat} {K : Nat → Nat} {w w1 w2 v0 : World} {d : HD} {v : HV} {S : List En} {port : Int} (hs : HostS t K w d v S [] none) (h : PdPost w d.h v port w1) (hb : Below w1.heap.size w1 w2) {q : Nat} (hq : w1.heap.size ≤ q) (hqb : Bk w2 q 222 (HpC port nilS)) (i0 : IM mkI okI v0 d.plc [(0, bp q)]) (g0 : w2.grownBy v0 (some d.plc)) : BdPost t K w d v S port v0 := by
 classical
 obtain ⟨pm, p, h1, h2, h3, h4, h5, h6⟩ := h
 have hpl : K d.plc = t + 4 := hs.pl.2.2
 have hplm : IM mkI okI w d.plc [] := hs.pl.2.1
 have hpll := hplm.lt
 have gg : Chg (fun b => b = d.plc) w2 v0 := Chg.of_grown (F := fun b => b = d.plc) g0 (fun b e => by injection e with e; exact e.symm)
 have hne : d.h ≠ d.plc := fun e => by have := hs.kh; rw [e, hpl] at this; omega
 have hpm := h2.lt
 have hp := h3.lt
 have hs1 := h6.size
 obtain ⟨K', k1, k2, k3⟩ : ∃ K' : Nat → Nat, (∀ b, b < w.heap.size → K' b = K b) ∧ (∀ b, w.heap.size ≤ b → (b = pm ∨ b = p ∨ b = q) → K' b = t + 4) ∧ (∀ b, w.heap.size ≤ b → ¬ (b = pm ∨ b = p ∨ b = q) → K' b = 40) :=
  ⟨fun b => if b < w.heap.size then K b else if b = pm ∨ b = p ∨ b = q then t + 4 else 40, fun b hb => if_pos hb, fun b hb e => by simp only [if_neg (show ¬ b < w.heap.size by omega), if_pos e], fun b hb e => by simp only [if_neg (show ¬ b < w.heap.size by omega), if_neg e]⟩
 have hC : Chg (fun b => K b = t + 4 ∨ b = d.h) w v0 := ((h6.mono (fun x _ e => .inr e)).trans (Chg.of_below (F := fun _ => False) hb) (fun _ e => e.elim)).trans gg (fun x e => .inl (.inl (by rw [e]; exact hpl)))
 refine ⟨K', .map (some pm), hs.places ((h1.below hb h1.lt).chg gg hne) hC ⟨pm, p, q, none, 0, [], rfl, (h2.below hb hpm).keep_ (gg.block pm (Nat.lt_of_lt_of_le hpm hb.size) (by omega)), (h3.below hb hp).chg gg (by omega), i0, hqb.chg gg (by omega), Mr.none_ _ _ _ _, trivial, (k1 _ hpll).trans hpl, k2 _ h4 (.inl rfl), k2 _ h5 (.inr (.inl rfl)), k2 _ (by omega) (.inr (.inr rfl)), fun b e => by cases e⟩ k1, k1, fun b hb => ?_, hC.mono (fun b _ e => by rcases e with e | e; exact ⟨by omega, by omega⟩; rw [e, hs.kh]; exact ⟨by omega, by omega⟩)⟩
 rcases Classical.em (b = pm ∨ b = p ∨ b = q) with e | e
 ·left; rw [k2 b hb e]; exact ⟨by omega, by omega⟩
 ·exact .inr (k3 b hb e)
set_option maxHeartbeats 4000000 in
set_option maxRecDepth 100000 in
theorem hbind_first (t : Nat) (K : Nat → Nat) (w : World) (d : HD) (v : HV) (S : List En) (port : Int) (hp : 1 ≤ port ∧ port ≤ 65535) (hs : HostS t K w d v S [] none) :
  Calls Tryz.prog 376 #[.pointer (some ⟨d.h, 0, none⟩), .int .i64 0, .int .u32 0, .int .i64 port] w fun e w' => e = .returned (.int .i64 0) ∧ BdPost t K w d v S port w' := by
 have HBI := Lib.hid (pbind_first d.h v port hp w hs.hx.hb hs.pl.1)
 have HM := Lib.hid (hmay_any d.h v w hs.hx.hb)
 have HS := Lib.hid hs
 clear hs hp
 go_enter Tryz.func376, Tryz.ntmps376
 go_wp2_with fail
 refine HM.out.mono ?_
 rintro e1 w1 ⟨rfl, rfl⟩
 go_wp2_with fail
 refine HBI.out.mono ?_
 rintro e2 w2 ⟨rfl, hP⟩
 have hpc : w2.cell? ⟨d.h, 18, none⟩ = some (.map (some d.plc)) := by
  obtain ⟨pm, p, h1, _⟩ := hP
  rw [← HS.out.hx.plc]
  exact h1.plc
 have hi2 : IM mkI okI w2 d.plc [] := by
  obtain ⟨pm, p, h1, h2, h3, h4, h5, h6⟩ := hP
  exact HS.out.pl.2.1.keep_ (h6.block _ HS.out.pl.2.1.lt (fun e => by have h7 := HS.out.kh; rw [← e, HS.out.pl.2.2] at h7; omega))
 obtain ⟨v0, r0, i0, g0, e0⟩ := (IM.alloc hi2 (.cells (HpC port nilS) 222)).store keyI Tryz.underlying116 (x := 0) (by unfold okI; omega) (bp w2.heap.size)
 have q0 : (Instr.mapUpdate 116 (.map (some d.plc)) (.int .i64 0) (.pointer (some ⟨w2.heap.size, 0, none⟩))).run Tryz.prog (w2.alloc (.cells #[.int .u32 0, .int .i64 port, .bool false, .int .u32 0, .int .i64 0, .slice none 0 0, .int .i64 0] 222)) = .ok () v0 := r0
 have HF : Hid (BdPost t K w d v S port v0) := Lib.hid (bd_post HS.out hP ((Below.refl _ w2).alloc (Nat.le_refl _) _) (Nat.le_refl _) (Bk.new w2 _ _) i0 g0)
 clear hP hi2 r0 i0 g0 e0
 go_wp2
 go_ret
 exact ⟨rfl, HF.out⟩
set_option maxHeartbeats 4000000 in
set_option maxRecDepth 100000 in
theorem hpick_first (t : Nat) (K : Nat → Nat) (w : World) (d : HD) (v : HV) (S : List En) (draw : Int) (hd : 0 ≤ draw ∧ draw ≤ 2147483647) (hs : HostS t K w d v S [] none) :
  Calls Tryz.prog 375 #[.pointer (some ⟨d.h, 0, none⟩), .int .i64 0, .int .u32 0, .int .i64 draw] w fun e w' => e = .returned (.tuple #[.int .i64 (49152 + draw % 16384), .int .i64 0]) ∧ BdPost t K w d v S (49152 + draw % 16384) w' := by
 have hbi := ppick_first d.h v draw hd w hs.hx.hb hs.pl.1
 obtain ⟨port, hport⟩ : ∃ port, 49152 + draw % 16384 = port := ⟨_, rfl⟩
 rw [hport] at hbi ⊢
 have HBI := Lib.hid hbi
 have HM := Lib.hid (hmay_any d.h v w hs.hx.hb)
 have HS := Lib.hid hs
 clear hs hd hbi hport
 go_enter Tryz.func375, Tryz.ntmps375
 go_wp2_with fail
 refine HM.out.mono ?_
 rintro e1 w1 ⟨rfl, rfl⟩
 go_wp2_with fail
 refine HBI.out.mono ?_
 rintro e2 w2 ⟨rfl, hP⟩
 have hpc : w2.cell? ⟨d.h, 18, none⟩ = some (.map (some d.plc)) := by
  obtain ⟨pm, p, h1, _⟩ := hP
  rw [← HS.out.hx.plc]
  exact h1.plc
 have hi2 : IM mkI okI w2 d.plc [] := by
  obtain ⟨pm, p, h1, h2, h3, h4, h5, h6⟩ := hP
  exact HS.out.pl.2.1.keep_ (h6.block _ HS.out.pl.2.1.lt (fun e => by have h7 := HS.out.kh; rw [← e, HS.out.pl.2.2] at h7; omega))
 obtain ⟨v0, r0, i0, g0, e0⟩ := (IM.alloc hi2 (.cells (HpC port nilS) 222)).store keyI Tryz.underlying116 (x := 0) (by unfold okI; omega) (bp w2.heap.size)
 have q0 : (Instr.mapUpdate 116 (.map (some d.plc)) (.int .i64 0) (.pointer (some ⟨w2.heap.size, 0, none⟩))).run Tryz.prog (w2.alloc (.cells #[.int .u32 0, .int .i64 port, .bool false, .int .u32 0, .int .i64 0, .slice none 0 0, .int .i64 0] 222)) = .ok () v0 := r0
 have HF : Hid (BdPost t K w d v S port v0) := Lib.hid (bd_post HS.out hP ((Below.refl _ w2).alloc (Nat.le_refl _) _) (Nat.le_refl _) (Bk.new w2 _ _) i0 g0)
 clear hP hi2 r0 i0 g0 e0
 go_wp2
 go_ret2
 exact ⟨rfl, HF.out⟩
open Go.RowKit
set_option maxHeartbeats 4000000 in
set_option maxRecDepth 100000 in
theorem hwaits_0 (t : Nat) (K : Nat → Nat) (w : World) (d : HD) (v : HV) (S : List En) (port : Int) (hs : HostS t K w d v S [] (some (port, []))) :
  Calls Tryz.prog 351 #[.pointer (some ⟨d.h, 0, none⟩), .int .i64 0] w fun e w' => e = .returned (.tuple #[.int .i64 0, .bool false]) ∧ ∃ n, w' = w.drewN n := by
 obtain ⟨pm, p, q, qA, qc, vs, h1, h2, h3, h4, h5, h6, _⟩ := hs.pl
 have c18 : w.cell? ⟨d.h, 18, none⟩ = some (.map (some d.plc)) := by rw [← hs.hx.plc]; exact hs.hx.hb.plc
 have hlk : (Instr.lookup 116 (.map (some d.plc)) (.int .i64 0) false).run Tryz.prog w = .ok (bp q) w := IM.look h4 keyI Tryz.underlying116 (z := .pointer none) (by kernel_rfl) (show okI 0 by unfold okI; omega) false
 have hlkn : ∀ n, (Instr.lookup 116 (.map (some d.plc)) (.int .i64 0) false).run Tryz.prog (w.drewN n) = .ok (bp q) (w.drewN n) := fun n => IM.look (h4.drewN n) keyI Tryz.underlying116 (z := .pointer none) (by kernel_rfl) (show okI 0 by unfold okI; omega) false
 have c5 : w.cell? ⟨q, 5, none⟩ = some (.slice qA 0 qc) := h5.cell 5
 have c6 : w.cell? ⟨q, 6, none⟩ = some (.int .i64 0) := h5.cell 6
 clear hs h1 h2 h3 h4 h5 h6
 go_enter Tryz.func351, Tryz.ntmps351
 go_wp2_with fail
 go_quiet (fail)
 go_wp2
 go_ret2
 exact ⟨rfl, nq, rfl⟩
def sdP (a to_ : Int) : PkV := ⟨0, 0, false, false, 0, 64, 17, a, to_⟩
theorem sdP_ok {a to_ : Int} (h1 : okA a) (h2 : okA to_) : (sdP a to_).Ok := ⟨⟨by show _ ≤ (0 : Int); omega, by show (0 : Int) ≤ _; omega⟩, ⟨by show _ ≤ (0 : Int); omega, by show (0 : Int) ≤ _; omega⟩, ⟨by show _ ≤ (0 : Int); omega, by show (0 : Int) ≤ _; omega⟩, ⟨by show _ ≤ (64 : Int); omega, by show (64 : Int) ≤ _; omega⟩, ⟨by show _ ≤ (17 : Int); omega, by show (17 : Int) ≤ _; omega⟩, h1, h2⟩
theorem sdErr (a to_ : Int) {id : Int} (hid : 1 ≤ id ∧ id ≤ 65535) {n : Nat} (hn : n ≤ 65515) : errIs (pkS (sdP a to_) id) [] n 0 := by
 refine .inr (.inr (.inr ⟨⟨⟨by show (0 : Int) ≤ 0; omega, by show (0 : Int) ≤ 255; omega⟩, ⟨by show (0 : Int) ≤ 64; omega, by show (64 : Int) ≤ 255; omega⟩, ⟨by show (0 : Int) ≤ 17; omega, by show (17 : Int) ≤ 255; omega⟩, ⟨by show 0 ≤ id; omega, hid.2⟩, ⟨by show (0 : Int) ≤ 0; omega, by show (0 : Int) ≤ 65528; omega⟩, rfl⟩, by simp, good_nil, ?_, rfl⟩))
 have h20 : hdN ([] : List Int).length = 20 := rfl
 unfold fitsP
 rw [h20]
 refine ⟨by omega, ?_⟩
 show (0 : Int) + n ≤ _
 omega
def sdB (a fp to_ tp : Int) (l : List Int) : List Int := udpB fp tp (udpS a to_ fp tp l) l
def SdPost (t : Nat) (K : Nat → Nat) (w : World) (d : HD) (v : HV) (S : List En) (P : Option (Int × List Dg)) (fp to_ tp now : Int) (l : List Int) (e : Ending) (w' : World) : Prop :=
 ∃ k v' S' L' K' fA fc vs, e = .returned (.tuple #[.slice fA L'.length fc, .int .i64 k]) ∧ SendsR v S (sdP v.addr to_) (sdB v.addr fp to_ tp l) now [] k v' S' L' ∧ HostS t K' w' d v' S' [] P ∧ (∀ b, b < w.heap.size → K' b = K b) ∧ (∀ b, w.heap.size ≤ b → hostK t (K' b) ∨ K' b = 40) ∧ Chg (fun b => hostK t (K b)) w w' ∧
  Of 37 w' 0 fA L'.length fc vs ∧ RowsAt w' (fun b => K' b = 40 ∧ w.heap.size ≤ b) vs L' ∧ ∀ b, blk fA = some b → K' b = 40 ∧ w.heap.size ≤ b
set_option maxHeartbeats 8000000 in
set_option maxRecDepth 100000 in
theorem hsend_any (t : Nat) (ht : t ≤ 20) (K : Nat → Nat) (w : World) (d : HD) (v : HV) (S : List En) (P : Option (Int × List Dg)) (fp to_ tp now : Int) (hto : okA to_) (hgr : to_ < 3758096384) (hmi : isMine to_ v.addr = false) (hfp : 0 ≤ fp ∧ fp ≤ 65535) (htp : 0 ≤ tp ∧ tp ≤ 65535) (hnow : -9223372036854775808 ≤ now ∧ now ≤ 9223372036854775807) (A : Option Addr) (n c : Nat) (l : List Int) (hA : RB w w.heap.size A l) (hn : l.length = n) (hn2 : n ≤ 60000) (hbs : Bs l) (hS1 : n ≤ 1400 ∧ S = [] ∧ isBc to_ v.addr = false ∧ inNet to_) (hs : HostS t K w d v S [] P) :
  Calls Tryz.prog 318 #[.pointer (some ⟨d.h, 0, none⟩), .agg (dgC 0 fp to_ tp (.slice A n c)), .int .i64 now] w (SdPost t K w d v S P fp to_ tp now l) := by
 have HS1 := Lib.hid hS1
 clear hS1
 obtain ⟨W, hW⟩ : ∃ W, w.alloc (.cells (dgC v.addr fp to_ tp (.slice A n c)) 101) = W := ⟨_, rfl⟩
 have hbk : Bk W w.heap.size 101 (dgC v.addr fp to_ tp (.slice A n c)) := by rw [← hW]; exact Bk.new w _ _
 have hbW : Below w.heap.size w W := by rw [← hW]; exact (Below.refl _ _).alloc (Nat.le_refl _) _
 have hzW : W.heap.size = w.heap.size + 1 := by rw [← hW, World.size_alloc]
 have h6 : ∀ o, (w.alloc o).cell? ⟨d.h, 6, none⟩ = some (.int .u32 v.addr) := fun o => (hs.hx.hb.alloc o).addr
 have HW : Hid (w.alloc (.cells #[.int .u32 v.addr, .int .i64 fp, .int .u32 to_, .int .i64 tp, .slice A n c] 101) = W) := Lib.hid hW
 have henc := udpenc_ok v.addr to_ fp tp hs.ad.2.2 hto hfp htp A n c l hn (by omega) hbs W ((Rw.below hA hbW).more hbW.size)
 unfold dgC at henc
 have HENC := Lib.hid henc
 have HX := Lib.hid (And.intro hs (And.intro hbW (And.intro hbk (And.intro hnow (And.intro hto (And.intro hgr (And.intro hmi (And.intro hn (And.intro hn2 (And.intro hbs ht))))))))))
 have hlen : ¬ (65507 : Int) < (n : Int) := by omega
 have hdle : (decide ((65507 : Int) < (n : Int))) = false := decide_eq_false hlen
 have g0 : W.cell? ⟨w.heap.size, 0, none⟩ = some (.int .u32 v.addr) := hbk.cell 0
 have g1 : W.cell? ⟨w.heap.size, 1, none⟩ = some (.int .i64 fp) := hbk.cell 1
 have g2 : W.cell? ⟨w.heap.size, 2, none⟩ = some (.int .u32 to_) := hbk.cell 2
 have g3 : W.cell? ⟨w.heap.size, 3, none⟩ = some (.int .i64 tp) := hbk.cell 3
 have g4 : W.cell? ⟨w.heap.size, 4, none⟩ = some (.slice A n c) := hbk.cell 4
 clear hW hbW hbk hzW henc hs hA hn hn2 hbs hnow hto hgr hmi hfp htp ht
 unfold dgC
 go_enter Tryz.func318, Tryz.ntmps318
 go_wp2_with fail
 rw [HW.out]
 refine HENC.out.mono ?_
 rintro e1 w1 ⟨A1, n1, c1, rfl, ho1, hB1⟩
 have hbw1 : Below w.heap.size w w1 := HX.out.2.1.trans (hB1.mono HX.out.2.1.size)
 obtain ⟨K1, kk1, kk2⟩ : ∃ K1 : Nat → Nat, (∀ b, b < w.heap.size → K1 b = K b) ∧ ∀ b, w.heap.size ≤ b → K1 b = 40 := ⟨fun b => if b < w.heap.size then K b else 40, fun b hb => if_pos hb, fun b hb => if_neg (by omega)⟩
 have hs1 : HostS t K1 w1 d v S [] P := HX.out.1.keep (Chg.of_below (F := fun _ => False) hbw1) (fun _ _ _ e => e) kk1
 obtain ⟨K2, j1, j2, hs2, hw2⟩ := work_start hs1 now 0
 have hfin := fun v' S' L' w' => work_end2 (v' := v') (S' := S') (Lr' := []) (P' := P) (L' := L') (w' := w') (d := d) (now := now) (draw := 0) j1 j2 HX.out.2.2.2.2.2.2.2.2.2.2
 obtain ⟨W2, hW2⟩ : ∃ W2, w1.alloc (.cells (wkC d.h now 0 nilS nilS) 173) = W2 := ⟨_, rfl⟩
 have hb2 : Below w1.heap.size w1 W2 := by rw [← hW2]; exact (Below.refl _ _).alloc (Nat.le_refl _) _
 have hk2 : Bk W2 w1.heap.size 173 (wkC d.h now 0 nilS nilS) := by rw [← hW2]; exact Bk.new _ _ _
 rw [hW2] at hs2 hw2 hfin
 have hr1 : RowK t K2 w1 A1 n1 c1 (sdB v.addr fp to_ tp l) := RowK.of_ob ho1 (udpB_bs _ _ _ HX.out.2.2.2.2.2.2.2.2.2.1) (fun b hb hl e => by
  have hq : ¬ hostK t (K1 b) := by rw [kk2 b (Nat.le_trans HX.out.2.1.size hb)]; intro q; exact absurd q.2 (by have := HX.out.2.2.2.2.2.2.2.2.2.2; omega)
  rw [j2 b hl hq] at e
  exact absurd e.2 (by omega))
 have hr2 := hr1.below hb2
 have hl1 : n1 ≤ 60008 := by have q1 := hr1.len; unfold sdB at q1; rw [udpB_len] at q1; have := HX.out.2.2.2.2.2.2.2.1; have := HX.out.2.2.2.2.2.2.2.2.1; omega
 have hs3 : HostS t K2 W2.drew d v S [] P := hs2.drewN 1
 have hw3 : WkS t K2 W2.drew w1.heap.size d now 0 [] := hw2.below (bel_drewN (Below.refl _ _) 1)
 have hr3 : RowK t K2 W2.drew A1 n1 c1 (sdB v.addr fp to_ tp l) := hr2.drewN 1
 have HSE : Hid (Calls Tryz.prog 105 #[.pointer (some ⟨w1.heap.size, 0, none⟩), .agg #[.int .i64 0, .int .i64 0, .bool false, .bool false, .int .i64 0, .int .i64 64, .int .i64 17, .int .u32 v.addr, .int .u32 to_, .slice none 0 0, .slice A1 n1 c1]] W2.drew fun e w' => ∃ k v' S' L', e = .returned (.int .i64 k) ∧ SendsR v S (sdP v.addr to_) (sdB v.addr fp to_ tp l) now [] k v' S' L' ∧ PostW t K2 W2.drew w1.heap.size d now 0 v' S' [] P L' w') :=
  Lib.hid (wsends_one t K2 W2.drew d v S [] P w1.heap.size now 0 [] (sdP v.addr to_) (sdP_ok HX.out.1.ad.2.2 HX.out.2.2.2.2.1) A1 n1 c1 _ hr3.len hr3.cap (by omega) hr3.bs (by simp) HX.out.2.2.2.1 hr3.rb hr3.nk (sdErr _ _ HX.out.1.id (by rw [hr3.len]; omega)) (.inr rfl) (by show ¬ (3758096384 : Int) ≤ to_; have := HX.out.2.2.2.2.2.1; omega) HX.out.2.2.2.2.2.2.1 ⟨by have q1 := hr3.len; unfold sdB at q1; rw [udpB_len] at q1; have := HX.out.2.2.2.2.2.2.2.1; have := HS1.out.1; omega, HS1.out.2.1, HS1.out.2.2.1, HS1.out.2.2.2⟩ hs3 hw3)
 have q2 : W2.drew.cell? ⟨w.heap.size, 2, none⟩ = some (.int .u32 to_) := ((HX.out.2.2.1.below hB1 HX.out.2.2.1.lt).below hb2 (Nat.lt_of_lt_of_le HX.out.2.2.1.lt hB1.size)).cell 2
 have q6 : W2.drew.cell? ⟨d.h, 6, none⟩ = some (.int .u32 v.addr) := hs3.hx.hb.addr
 have HFIN : Hid (∀ v' S' L' w', PostW t K2 W2.drew w1.heap.size d now 0 v' S' [] P L' w' → ∃ K' fA fc vs, HostS t K' w' d v' S' [] P ∧ (∀ b, b < w1.heap.size → K' b = K1 b) ∧ (∀ b, w1.heap.size ≤ b → hostK t (K' b) ∨ K' b = 40) ∧ Chg (fun b => hostK t (K1 b)) w1 w' ∧ Bk w' w1.heap.size 173 (wkC d.h now 0 (.slice fA L'.length fc) nilS) ∧ Of 37 w' 0 fA L'.length fc vs ∧ RowsAt w' (fun b => K' b = 40 ∧ w1.heap.size ≤ b) vs L' ∧ ∀ b, blk fA = some b → K' b = 40 ∧ w1.heap.size ≤ b) :=
  Lib.hid (fun v' S' L' w' h => hfin v' S' L' w' (PostW.trans (fun _ _ => rfl) ((Chg.refl _ _).drewN 1) h))
 have HW2 : Hid (w1.alloc (.cells #[.pointer (some ⟨d.h, 0, none⟩), .int .i64 now, .int .i64 0, .slice none 0 0, .slice none 0 0] 173) = W2) := Lib.hid hW2
 have HY := Lib.hid (And.intro hbw1 (And.intro kk1 kk2))
 clear hfin hW2 hb2 hk2 hs2 hw2 hr1 hr2 hl1 hs3 hw3 hr3 hB1 ho1 hs1 hbw1 kk1 kk2 j1 j2 g0 g1 g2 g3 g4 h6
 go_upto_region 10 with (fail)
 rw [HW2.out]
 go_region_with (go_at_call 105; refine HSE.out.mono ?_; rintro e3 w3 ⟨k, v', S', L', rfl, hS, hP⟩)
 all_goals
  obtain ⟨K', fA, fc, vs, z1, z2, z3, z4, z5, z6, z7, z8⟩ := HFIN.out _ _ _ _ hP
  have HF : Hid (SdPost t K w d v S P fp to_ tp now l (.returned (.tuple #[.slice fA L'.length fc, .int .i64 k])) w3) := Lib.hid (by
   have hle := HY.out.1.size
   have hc0 : Chg (fun b => hostK t (K b)) w w1 := Chg.of_below HY.out.1
   refine ⟨k, v', S', L', K', fA, fc, vs, rfl, hS, z1, fun b hb => (z2 b (Nat.lt_of_lt_of_le hb hle)).trans (HY.out.2.1 b hb), fun b hb => ?_, hc0.trans z4 (fun x hx => ?_), z6, z7.keep (fun _ _ _ => rfl) (fun b hb => ⟨hb.1, Nat.le_trans hle hb.2⟩), fun b hb => ⟨(z8 b hb).1, Nat.le_trans hle (z8 b hb).2⟩⟩
   ·rcases Nat.lt_or_ge b w1.heap.size with e | e
    ·right; rw [z2 b e]; exact HY.out.2.2 b hb
    ·exact z3 b e
   ·rcases Nat.lt_or_ge x w.heap.size with e | e
    ·left; rw [← HY.out.2.1 x e]; exact hx
    ·exact .inr e)
  have HZ5 := Lib.hid z5
  clear z1 z2 z3 z4 z5 z6 z7 z8 hS hP q2 q6
  go_wp2_with fail
  refine (settled_nil _ _ _ _ _ _ HZ5.out).mono ?_
  rintro e4 w4 ⟨rfl, rfl⟩
  go_wp2
  go_ret2
  exact HF.out
end Go.Proofs.YtaeafkdfbcppgaaGreat
