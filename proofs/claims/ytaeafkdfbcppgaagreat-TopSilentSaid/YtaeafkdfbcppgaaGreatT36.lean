/- Proved: a datagram comes to the one port that is bound, and waits there; a host is told a datagram that is for the one port that is bound: it waits there. Conditions: as each law says. -/
import Derived.Test.YtaeafkdfbcppgaaGreatT34
set_option linter.unusedSectionVars false
set_option linter.unusedSimpArgs false
set_option linter.unusedVariables false
namespace Go.Proofs.YtaeafkdfbcppgaaGreat
open Go.RowKit
section
variable {ops : Array Oper} {o : Oper} {a : Act} {w : World} {K : Act → World → Prop} {Q : Exit → Act → World → Prop} {E : Prop}
theorem st_mrg (hgd : o.guard = none) (s x : Operand) (t e : TypeId) (ho : o.op = .call { callee := .builtin .append, args := #[s, x], argTypes := #[t, t] })
  (z : Value) (size bytes : Nat) (ht : Tryz.prog.underlying t = some (.slice e)) (hinfo : (Tryz.prog.info? e).map (fun i => (i.zero, i.size, i.bytes)) = some (some z, size, bytes)) (hzs : z.cells.size = size) (hsz : 0 < size)
  {A : Option Addr} {n c : Nat} {xs : List Value} (hs : a.eval s = .slice A n c) (hown : Mr e size w 0 A n c xs)
  (news : List Value) {g c2 : Nat} (hx : a.eval x = .slice (some ⟨g, 0, none⟩) 1 c2) (hl : news.length = size) (hnews : ∀ j u, news[j]? = some u → w.cell? ⟨g, j, none⟩ = some u) (h1 : ∀ u ∈ news, u.oneCell' = true)
  (hbytes : (n + 1) * bytes ≤ 140737488355328) (h63 : n + 1 ≤ maxLen)
  (h : ∀ g' c' w', Mr e size w' 0 (some ⟨g', 0, none⟩) (n + 1) c' (xs ++ news) → w.grownBy w' (blk A) → (blk A = some g' ∨ g' = w.heap.size) → K (a.put o.dst (.slice (some ⟨g', 0, none⟩) (n + 1) c')) w') :
  if Region.wanted o (yielded ops a.tmps) = true then Oper.wp Tryz.prog o a w K Q else E := by
 have hw : Region.wanted o (yielded ops a.tmps) = true := by simp [Region.wanted, hgd]
 rw [if_pos hw]
 obtain ⟨g', c', w', hr, q1, q2, q3⟩ := run_append_mr (P := Tryz.prog) w 0 t o.type e z size bytes ht hinfo hzs hsz A n c xs hown ⟨g, 0, none⟩ 1 c2 news (by omega) (fun j u hu => by rw [add_eq, Nat.zero_add]; exact hnews j u hu) h1 (by omega) h63 hbytes (Nat.zero_le _)
 unfold Oper.wp execOp
 simp only [ho, resolve, invoke, builtin, Sem.run_bind, Sem.run_pure, Result.andThen_ok, List.map_toArray, List.map_cons, List.map_nil, hs, hx, hr]
 exact h g' c' w' q1 q2 q3
theorem st_mrd (hgd : o.guard = none) (s x : Operand) (t e : TypeId) (ho : o.op = .call { callee := .builtin .append, args := #[s, x], argTypes := #[t, t] })
  (z : Value) (size bytes : Nat) (ht : Tryz.prog.underlying t = some (.slice e)) (hinfo : (Tryz.prog.info? e).map (fun i => (i.zero, i.size, i.bytes)) = some (some z, size, bytes)) (hzs : z.cells.size = size) (hsz : 0 < size)
  {A : Option Addr} {n c : Nat} {xs : List Value} (hs : a.eval s = .slice A n c) (hown : Mr e size w 0 A n c xs)
  (news : List Value) {cs : Array Value} (hcs : cs = news.toArray) {c2 : Nat} (hx : a.eval x = .slice (some ⟨w.heap.size, 0, none⟩) 1 c2) (hl : news.length = size) (h1 : ∀ u ∈ news, u.oneCell' = true)
  (hbytes : (n + 1) * bytes ≤ 140737488355328) (h63 : n + 1 ≤ maxLen)
  (h : ∀ g' c' w', Mr e size w' 0 (some ⟨g', 0, none⟩) (n + 1) c' (xs ++ news) → w.grownBy w' (blk A) → (blk A = some g' ∨ w.heap.size < g') → w.heap.size < w'.heap.size → K (a.put o.dst (.slice (some ⟨g', 0, none⟩) (n + 1) c')) w') :
  if Region.wanted o (yielded ops a.tmps) = true then Oper.wp Tryz.prog o a (w.alloc (.cells cs e)).drew K Q else E := by
 subst hcs
 refine st_mrg hgd s x t e ho z size bytes ht hinfo hzs hsz hs (Mr.drew (Mr.alloc hown _)) news hx hl (fun j u hu => ?_) h1 hbytes h63 (fun g' c' w' q1 q2 q3 => h g' c' w' q1 (World.grownBy.trans (grownBy_drew (World.grownBy_alloc w _ _)) q2) (q3.imp id (fun e => by rw [e]; show _ < (w.alloc _).heap.size; rw [World.size_alloc]; omega)) (by have := q2.size; have e : (w.alloc (.cells news.toArray e)).drew.heap.size = w.heap.size + 1 := World.size_alloc w _; omega))
 have h9 := (Bk.new w e news.toArray).cell j
 show (w.alloc (.cells news.toArray e)).cell? _ = _
 rw [h9]
 simpa using hu
end
set_option maxHeartbeats 4000000 in
set_option maxRecDepth 100000 in
theorem hears_yes (p : Nat) (port fr fp to_ : Int) (dv : Value) (hto : to_ ≠ 0) (w : World) (hp : Bk w p 305 (PlC port)) :
  Calls Tryz.prog 135 #[bp p, .agg (dgC fr fp to_ port dv)] w fun e w' => e = .returned (.bool true) ∧ Below w.heap.size w w' := by
 obtain ⟨W, hW⟩ : ∃ W, w.alloc (.cells (dgC fr fp to_ port dv) 101) = W := ⟨_, rfl⟩
 have hb : Below w.heap.size w W := by rw [← hW]; exact (Below.refl _ _).alloc (Nat.le_refl _) _
 have hk : Bk W w.heap.size 101 (dgC fr fp to_ port dv) := by rw [← hW]; exact Bk.new w _ _
 have hp2 := hp.below hb hp.lt
 have HW : Hid (w.alloc (.cells #[.int .u32 fr, .int .i64 fp, .int .u32 to_, .int .i64 port, dv] 101) = W) := Lib.hid hW
 have HB := Lib.hid hb
 have p0 : W.cell? ⟨p, 0, none⟩ = some (.int .u32 0) := hp2.cell 0
 have p1 : W.cell? ⟨p, 1, none⟩ = some (.int .i64 port) := hp2.cell 1
 have p2 : W.cell? ⟨p, 2, none⟩ = some (.bool false) := hp2.cell 2
 have k2 : W.cell? ⟨w.heap.size, 2, none⟩ = some (.int .u32 to_) := hk.cell 2
 have k3 : W.cell? ⟨w.heap.size, 3, none⟩ = some (.int .i64 port) := hk.cell 3
 have t0 : ((0 : Int) == to_) = false := by simpa using fun h => hto h.symm
 have t1 : decide ((0 : Int) = to_) = false := by simpa using fun h => hto h.symm
 clear hW hb hk hp hp2 hto
 unfold dgC
 go_enter Tryz.func135, Tryz.ntmps135
 go_upto_region 1 with (fail)
 rw [HW.out]
 go_quiet (fail)
 go_wp2
 go_ret
 exact ⟨rfl, bel_drewN HB.out _⟩
set_option maxHeartbeats 4000000 in
set_option maxRecDepth 100000 in
theorem find_one (h pm p : Nat) (port fr fp to_ : Int) (dv : Value) (hto : to_ ≠ 0) (w : World) (hc : w.cell? ⟨h, 17, none⟩ = some (.map (some pm))) (hl : h < w.heap.size) (hm : IM mkI okI w pm [(0, bp p)]) (hp : Bk w p 305 (PlC port)) :
  Calls Tryz.prog 83 #[.pointer (some ⟨h, 17, none⟩), .agg (dgC fr fp to_ port dv)] w fun e w' => e = .returned (.tuple #[.int .i64 0, .bool true]) ∧ Below w.heap.size w w' := by
 obtain ⟨W, hW⟩ : ∃ W, (w.alloc (.cells #[.pointer (some ⟨h, 17, none⟩)] 300)).alloc (.cells (dgC fr fp to_ port dv) 101) = W := ⟨_, rfl⟩
 have hb : Below w.heap.size w W := by rw [← hW]; exact ((Below.refl _ _).alloc (Nat.le_refl _) _).alloc (by simp) _
 have hc2 : W.cell? ⟨h, 17, none⟩ = some (.map (some pm)) := bel_cell_ hb hl hc
 have hp0 : W.cell? ⟨w.heap.size, 0, none⟩ = some (.pointer (some ⟨h, 17, none⟩)) := by rw [← hW]; exact ((Bk.new w 300 #[.pointer (some ⟨h, 17, none⟩)]).alloc _).cell 0
 have hk : Bk W (w.heap.size + 1) 101 (dgC fr fp to_ port dv) := by
  rw [← hW]
  have := Bk.new (w.alloc (.cells #[.pointer (some ⟨h, 17, none⟩)] 300)) 101 (dgC fr fp to_ port dv)
  rwa [World.size_alloc] at this
 have hI : IM mkI okI W pm [(0, bp p)] := hm.below hb hm.lt
 have HB := Lib.hid hb
 have HP := Lib.hid (hp.below hb hp.lt)
 have HK := Lib.hid hk
 have HT := Lib.hid hto
 have HI := Lib.hid hI
 have HW : Hid ((w.alloc (.cells #[.pointer (some ⟨h, 17, none⟩)] 300)).alloc (.cells #[.int .u32 fr, .int .i64 fp, .int .u32 to_, .int .i64 port, dv] 101) = W) := Lib.hid hW
 clear hb hW hc hm hp hk hto hI
 have hmf : ∀ (fn : Fn) (first cap : Array Value) (w : World), (Instr.makeFunc fn first cap).run Tryz.prog w = .ok (.func fn first cap) w := fun _ _ _ _ => rfl
 unfold dgC
 go_enter Tryz.func83, Tryz.ntmps83
 go_upto_region 1 with (fail)
 rw [HW.out]
 go_wp2_with (at_range; refine wpList_range_im rfl (.tmp 16) 135 rfl Tryz.underlying135 rfl HI.out ?_; intro w0 hR0 hg0 hs0)
 have hb0 : Below W.heap.size W w0 := (Below.refl _ W).grown hg0 (Nat.le_refl _) (fun b e => by cases e)
 have HR0 := Lib.hid hR0
 have HB0 := Lib.hid hb0
 clear hR0 hg0 hs0 hb0 hc2 hp0
 refine wp_loop_rounds 2 ?_; rw [rounds_succ]
 go_wp2_with (at_next; refine wpList_next_hid rfl (.tmp 17) rfl rfl HR0.out ?_ ?_)
 ·intro h9
  exact absurd (h9.2 (0, bp p) (by simp)) (by simp)
 ·intro x1 v1 w1 c1 hM hen
  have hxv := hM.1
  simp only [List.mem_singleton] at hxv
  injection hxv with hx1 hv1
  subst hx1 hv1
  unfold mkI at hen ⊢
  have hb1 : Below W.heap.size W w1 := HB0.out.grown hM.2.2.2.2.1 (by have := HB0.out.size; omega) (fun b e => by injection e with e; omega)
  have hk1 := HK.out.below hb1 HK.out.lt
  have hp1 := HP.out.below hb1 HP.out.lt
  have z0 : w1.cell? ⟨w.heap.size + 1, 0, none⟩ = some (.int .u32 fr) := hk1.cell 0
  have z1 : w1.cell? ⟨w.heap.size + 1, 1, none⟩ = some (.int .i64 fp) := hk1.cell 1
  have z2 : w1.cell? ⟨w.heap.size + 1, 2, none⟩ = some (.int .u32 to_) := hk1.cell 2
  have z3 : w1.cell? ⟨w.heap.size + 1, 3, none⟩ = some (.int .i64 port) := hk1.cell 3
  have z4 : w1.cell? ⟨w.heap.size + 1, 4, none⟩ = some dv := hk1.cell 4
  have hH := hears_yes p port fr fp to_ dv HT.out w1 hp1
  unfold dgC at hH
  have HH := Lib.hid hH
  have HM := Lib.hid hM
  have HB1 := Lib.hid hb1
  clear hM hb1 hk1 hp1 hH
  go_wp2_with fail
  refine HH.out.mono ?_
  rintro e2 w2 ⟨rfl, hb2⟩
  have HR2 := Lib.hid (IR.kept HM.out.2.2.1 (row := none) ⟨hb2.os, hb2.tape, hb2.output, hb2.size, fun k hk _ => hb2.block k hk⟩ (by simp) (by simp))
  have HB2 := Lib.hid (HB1.out.trans (hb2.mono HB1.out.size))
  clear hb2 z0 z1 z2 z3 z4 hen
  go_wp2_with fail
  rw [rounds_succ]
  go_wp2_with (at_next; refine wpList_next_hid rfl (.tmp 17) rfl rfl HR2.out ?_ ?_)
  ·intro h9
   clear h9
   go_wp2
   go_ret2
   exact ⟨rfl, HB.out.trans (HB2.out.mono HB.out.size)⟩
  ·intro x3 v3 w3 c3 hM3 hen3
   have hxv := hM3.1
   simp only [List.mem_singleton] at hxv
   injection hxv with hx1 hv1
   subst hx1
   have := hM3.2.1
   simp at this
open Go.RowKit
theorem info_dg : (Tryz.prog.info? 101).map (fun i => (i.zero, i.size, i.bytes)) = some (some (.agg #[.int .u32 0, .int .i64 0, .int .u32 0, .int .i64 0, .slice none 0 0]), 5, 56) := by kernel_rfl
theorem dgC_one (fr fp to_ tp : Int) (A : Option Addr) (k c : Nat) : ∀ u ∈ (dgC fr fp to_ tp (.slice A k c)).toList, u.oneCell' = true := by
 intro u hu
 simp only [dgC, List.mem_cons, List.not_mem_nil, or_false] at hu
 rcases hu with rfl | rfl | rfl | rfl | rfl <;> rfl
theorem WkS.recol {t : Nat} {K K' : Nat → Nat} {w : World} {wk : Nat} {d : HD} {now draw : Int} {L : List (List Int)} (s : WkS t K w wk d now draw L) (h : ∀ b, b < w.heap.size → K b = t + 5 ∨ K b = t + 6 → K' b = K b) : WkS t K' w wk d now draw L := by
 obtain ⟨fA, fn, fc, vs, h1, h2, h3, h4⟩ := s.ex
 exact ⟨⟨fA, fn, fc, vs, h1, h2, h3.cap.keep (fun _ _ _ => rfl) (fun b hb => (h b hb.2 (.inl hb.1)).trans hb.1), fun b hb => (h b (h2.lt b hb).2 (.inl (h4 b hb))).trans (h4 b hb)⟩, (h _ h1.lt (.inr s.kw)).trans s.kw⟩
set_option maxHeartbeats 4000000 in
set_option maxRecDepth 100000 in
theorem wudp_first (t : Nat) (K : Nat → Nat) (w : World) (d : HD) (v : HV) (S : List En) (Lr : List Rec) (wk : Nat) (now draw : Int) (L : List (List Int)) (p : PkV) (hp : p.Ok) (oA dA : Option Addr) (on oc dn dc : Nat) (dl : List Int) (port : Int) (hd : RowK t K w dA dn dc dl) (hdn : dn ≤ 1000000) (hz : udpErr p.src p.dst dl = 0) (hport : rd2 dl 2 = port) (hds : p.dst ≠ 0) (hs : HostS t K w d v S Lr (some (port, []))) (hw : WkS t K w wk d now draw L) :
  Calls Tryz.prog 37 #[.pointer (some ⟨wk, 0, none⟩), .agg (pkC p (.slice oA on oc) (.slice dA dn dc))] w fun e w' => e = .returned (.tuple #[]) ∧ PostW t K w wk d now draw (cnt 11 v) S Lr (some (port, [⟨p.src, rd2 dl 0, p.dst, port, udpDl dl⟩])) L w' := by
 obtain ⟨K2, a0, k2a, k2b⟩ := (At.start hs hw).fresh
 obtain ⟨W, hW⟩ : ∃ W, w.alloc (.cells (pkC p (.slice oA on oc) (.slice dA dn dc)) 97) = W := ⟨_, rfl⟩
 have hbW : Below w.heap.size w W := by rw [← hW]; exact (Below.refl _ _).alloc (Nat.le_refl _) _
 have hgp : Bk W w.heap.size 97 (pkC p (.slice oA on oc) (.slice dA dn dc)) := by rw [← hW]; exact Bk.new w _ _
 have a1 := a0.below hbW
 have HA1 := Lib.hid a1
 have hd1 := (hd.recol k2a).below hbW
 have HD := Lib.hid hd1
 have HBW := Lib.hid hbW
 have HX := Lib.hid (And.intro hp (And.intro hdn (And.intro hds (And.intro k2b hd.bs))))
 have HW : Hid (w.alloc (.cells #[.int .i64 p.svc, .int .i64 p.id, .bool p.whole, .bool p.more, .int .i64 p.off, .int .i64 p.life, .int .i64 p.proto, .int .u32 p.src, .int .u32 p.dst, .slice oA on oc, .slice dA dn dc] 97) = W) := Lib.hid hW
 have hdec := udpd_any p.src p.dst hp.src hp.dst dA dn dc w.heap.size dl hd.len hd.cap hdn hd.bs W (Rw.below hd.rb hbW) hbW.size
 unfold UdpDec at hdec
 unfold pkC at hgp
 have y0 : W.cell? ⟨wk, 0, none⟩ = some (bp d.h) := a1.wk0
 have z7 : W.cell? ⟨w.heap.size, 7, none⟩ = some (.int .u32 p.src) := hgp.cell 7
 have z8 : W.cell? ⟨w.heap.size, 8, none⟩ = some (.int .u32 p.dst) := hgp.cell 8
 have z10 : W.cell? ⟨w.heap.size, 10, none⟩ = some (.slice dA dn dc) := hgp.cell 10
 clear a0 a1 hbW hgp hW k2a hd hd1 hs hw hp hdn k2b hds
 unfold pkC
 have hdec : Calls Tryz.prog 30 #[.int .u32 p.src, .int .u32 p.dst, .slice dA dn dc] W fun e w' => ∃ A n c, e = .returned (.tuple #[.agg #[.int .u32 p.src, .int .i64 (rd2 dl 0), .int .u32 p.dst, .int .i64 (rd2 dl 2), .slice A n c], .int .i64 0]) ∧ OB 5 w' W.heap.size A n c (udpDl dl) ∧ Below W.heap.size W w' := hdec.mono fun e w' ⟨A, n, c, h1, h2, h3⟩ => ⟨A, n, c, by rw [if_pos hz, hz] at h1; exact h1, h2 hz, h3⟩
 have hbd : Bs (udpDl dl) := by unfold udpDl; exact (HX.out.2.2.2.2.drop _).take _
 have HBD := Lib.hid hbd
 rw [hport] at hdec
 obtain ⟨g1, hg1⟩ : ∃ g1, rd2 dl 0 = g1 := ⟨_, rfl⟩
 rw [hg1] at hdec ⊢
 have HDEC := Lib.hid hdec
 clear hz hdec hg1 hport hbd
 go_enter Tryz.func37, Tryz.ntmps37
 go_upto_region 1 with (fail)
 rw [HW.out]
 go_wp2_with fail
 refine HDEC.out.mono ?_
 rintro e1 w1 ⟨A1, n1, c1, rfl, ho1, hB1⟩
 have hb2 : Below w1.heap.size w1 (w1.alloc (.cells #[.int .u32 p.src, .int .i64 g1, .int .u32 p.dst, .int .i64 port, .slice A1 n1 c1] 101)) := (Below.refl _ _).alloc (Nat.le_refl _) _
 have hm2 := Bk.new w1 101 #[.int .u32 p.src, .int .i64 g1, .int .u32 p.dst, .int .i64 port, .slice A1 n1 c1]
 have HA2 := Lib.hid (HA1.out.below hB1)
 have hrow := (RowK.new ho1 HBD.out HBW.out.size HX.out.2.2.2.1 : RowK t K2 w1 A1 n1 c1 (udpDl dl))
 have HO1 := Lib.hid (And.intro ho1 hrow)
 clear hB1 ho1 hrow y0 z7 z8 z10
 go_upto_region 4 with (fail)
 generalize w1.alloc (.cells #[.int .u32 p.src, .int .i64 g1, .int .u32 p.dst, .int .i64 port, .slice A1 n1 c1] 101) = w2 at hb2 hm2 ⊢
 have HA3 := Lib.hid (HA2.out.below hb2)
 have hob2 : OB 5 w2 0 A1 n1 c1 (udpDl dl) := Ow.mono (Ow.stays HO1.out.1 hb2) (Nat.zero_le _)
 have HO2 := Lib.hid (And.intro hob2 (HO1.out.2.below hb2))
 have HM2 := Lib.hid hm2
 have HK1 : Hid (∀ b, blk A1 = some b → K2 b = t + 7 ∧ w.heap.size ≤ b) := Lib.hid (fun b hb => ⟨HX.out.2.2.2.1 b (Nat.le_trans HBW.out.size (Ow.lt HO1.out.1 b hb).1), Nat.le_trans HBW.out.size (Ow.lt HO1.out.1 b hb).1⟩)
 have y0 : w2.cell? ⟨wk, 0, none⟩ = some (bp d.h) := HA3.out.wk0
 have hgm : K2 w1.heap.size = t + 7 := HX.out.2.2.2.1 _ HA2.out.le
 have HKM := Lib.hid (And.intro hgm HA2.out.le)
 clear hb2 hm2 hgm HA2 HO1 hob2
 generalize w1.heap.size = gm at *
 go_wp2_with fail
 refine (hcount_any t K2 w2 d v S Lr (some (port, [])) 11 11 rfl (by omega) HA3.out.hs).mono ?_
 rintro e3 w3 hp3
 obtain rfl := hp3.1
 obtain ⟨a4, c4⟩ := HA3.out.count hp3
 have HA4 := Lib.hid (a4.drewN 1)
 have hm4 := (Bk.over HM2.out c4 HKM.out.1).drewN 1
 have hob4 : OB 5 w3.drew 0 A1 n1 c1 (udpDl dl) := Pt.keep_ HO2.out.1 (fun b hb => c4.block b (Ow.lt HO2.out.1 b hb).2 (fun e => by rw [(HK1.out b hb).1] at e; exact absurd e.2 (by omega)))
 have HO4 := Lib.hid hob4
 have HM4 := Lib.hid hm4
 have x0 : w3.drew.cell? ⟨wk, 0, none⟩ = some (bp d.h) := a4.wk0
 have i0 : w3.drew.cell? ⟨gm, 0, none⟩ = some (.int .u32 p.src) := hm4.cell 0
 have i1 : w3.drew.cell? ⟨gm, 1, none⟩ = some (.int .i64 g1) := hm4.cell 1
 have i2 : w3.drew.cell? ⟨gm, 2, none⟩ = some (.int .u32 p.dst) := hm4.cell 2
 have i3 : w3.drew.cell? ⟨gm, 3, none⟩ = some (.int .i64 port) := hm4.cell 3
 have i4 : w3.drew.cell? ⟨gm, 4, none⟩ = some (.slice A1 n1 c1) := hm4.cell 4
 obtain ⟨pm, pp, qb, qA, qc, vs, h1, h2, h3, h4, h5, h6, h7, f1, f2, f3, f4, f5⟩ := a4.hs.pl
 have h17 : w3.drew.cell? ⟨d.h, 17, none⟩ = some (.map (some pm)) := by rw [← h1]; exact a4.hb.prt
 have HFN := Lib.hid (find_one d.h pm pp port p.src g1 p.dst (.slice A1 n1 c1) HX.out.2.2.1 w3.drew h17 a4.hlt (h2.drewN 1) (h3.drewN 1))
 unfold dgC at HFN
 have HL : Hid (wk < w3.drew.heap.size ∧ gm < w3.drew.heap.size) := Lib.hid ⟨a4.wlt, hm4.lt⟩
 clear hp3 a4 c4 hm4 hob4 y0 HA3 HO2 HM2 h1 h2 h3 h4 h5 h6 h7 f1 f2 f3 f4 f5 h17
 go_upto_region 5 with (fail)
 go_region_held3 (fun w' => w'.cell? ⟨wk, 0, none⟩ = some (bp d.h) ∧ w'.cell? ⟨gm, 0, none⟩ = some (.int .u32 p.src) ∧ w'.cell? ⟨gm, 1, none⟩ = some (.int .i64 g1) ∧ w'.cell? ⟨gm, 2, none⟩ = some (.int .u32 p.dst) ∧ w'.cell? ⟨gm, 3, none⟩ = some (.int .i64 port) ∧ w'.cell? ⟨gm, 4, none⟩ = some (.slice A1 n1 c1))
  (first | (with_reducible exact ⟨by assumption, by assumption, by assumption, by assumption, by assumption, by assumption⟩) | go_keep)
  (first
   | (go_at_call 83; refine HFN.out.mono ?_; rintro e4 w4 ⟨rfl, hb4⟩; have q0 := bel_cell_ hb4 HL.out.1 x0; have p0 := bel_cell_ hb4 HL.out.2 i0; have p1 := bel_cell_ hb4 HL.out.2 i1; have p2 := bel_cell_ hb4 HL.out.2 i2; have p3 := bel_cell_ hb4 HL.out.2 i3; have p4 := bel_cell_ hb4 HL.out.2 i4))
 have hA5 := HA4.out.below hb4
 have HA5 := Lib.hid hA5
 have HO5 : Hid (OB 5 w4 0 A1 n1 c1 (udpDl dl)) := Lib.hid (Ow.stays HO4.out hb4)
 clear hb4 q0 x0 i1 i2 i3 i4 i0 HFN HA4 HO4
 obtain ⟨pm, pp, qb, qA, qc, vs, h1, h2, h3, h4, h5, h6, h7, f1, f2, f3, f4, f5⟩ := hA5.hs.pl
 obtain rfl : vs = [] := by
  rcases vs with _ | ⟨v0, vs⟩
  ·rfl
  ·exact h7.elim
 have hmr : Mr 101 5 w4 0 qA 0 qc [] := h6
 have c18 : w4.cell? ⟨d.h, 18, none⟩ = some (.map (some d.plc)) := by rw [← hA5.hs.hx.plc]; exact hA5.hb.plc
 have hlk : (Instr.lookup 116 (.map (some d.plc)) (.int .i64 0) false).run Tryz.prog w4 = .ok (bp qb) w4 := IM.look h4 keyI Tryz.underlying116 (z := .pointer none) (by kernel_rfl) (show okI 0 by unfold okI; omega) false
 have c5 : w4.cell? ⟨qb, 5, none⟩ = some (.slice qA 0 qc) := h5.cell 5
 have c5a : ∀ o, (w4.alloc o).cell? ⟨qb, 5, none⟩ = some (.slice qA 0 qc) := fun o => (h5.alloc o).cell 5
 have y0 : w4.cell? ⟨wk, 0, none⟩ = some (bp d.h) := hA5.wk0
 have hby : (0 + 1) * 56 ≤ 140737488355328 := by omega
 have hmx : 0 + 1 ≤ maxLen := by unfold maxLen; omega
 have hone := dgC_one p.src g1 p.dst port A1 n1 c1
 have hqne : some qb ≠ blk qA := fun e => by
  rcases h6.2 with ⟨a, _⟩ | ⟨g', cap, cur, a, b, c, _⟩
  ·injection a with a; rw [a] at e; cases e
  ·injection a with a1 a2 a3
   rw [a1] at e
   have e : qb = g' := by simpa [blk] using e
   exact Bk.ne_ h5 (show Bk w4 g' 101 cur from c) (by decide) e
 have HQ := Lib.hid (And.intro h1 (And.intro h2 (And.intro h3 (And.intro h4 (And.intro h5 (And.intro hmr (And.intro f1 (And.intro f2 (And.intro f3 (And.intro f4 (And.intro f5 hqne)))))))))))
 clear h1 h2 h3 h4 h5 h6 h7 f1 f2 f3 f4 f5 hA5 hqne
 go_wp2
 go_region_law (first
  | (refine st_mrd rfl (.tmp 76) (.tmp 78) 220 101 rfl (.agg #[.int .u32 0, .int .i64 0, .int .u32 0, .int .i64 0, .slice none 0 0]) 5 56 Tryz.underlying220 info_dg rfl (Nat.succ_pos 4) rfl hmr (dgC p.src g1 p.dst port (.slice A1 n1 c1)).toList rfl rfl rfl hone hby hmx ?_; intro g9 c9 w5 k2 k3 k4 k5; have hq5 := HQ.out.2.2.2.2.1.grown k3 HQ.out.2.2.2.2.2.2.2.2.2.2.2; have u5 : w5.cell? ⟨qb, 5, none⟩ = some (.slice qA 0 qc) := hq5.cell 5; have fz5 := hq5.frozen 5))
 all_goals
  have hFIN : PostW t K w wk d now draw (cnt 11 v) S Lr (some (port, [⟨p.src, g1, p.dst, port, udpDl dl⟩])) L (w5.setCell ⟨qb, 5, none⟩ (.slice (some ⟨g9, 0, none⟩) (0 + 1) c9)) := by
   classical
   obtain ⟨h1, h2, h3, h4, h5, hmr, f1, f2, f3, f4, f5, hqne⟩ := HQ.out
   have hA5 := HA5.out
   have lw := hA5.le
   obtain ⟨K3, j1, j2⟩ : ∃ K3 : Nat → Nat, (∀ b, blk A1 = some b → K3 b = t + 4) ∧ ∀ b, blk A1 ≠ some b → K3 b = K2 b := ⟨fun b => if blk A1 = some b then t + 4 else K2 b, fun b hb => if_pos hb, fun b hb => if_neg hb⟩
   have jh : ∀ b, K2 b ≠ t + 7 → K3 b = K2 b := fun b hb => j2 b (fun e => hb (HK1.out b e).1)
   have hs3 : HostS t K3 w4 d (cnt 11 v) S Lr (some (port, [])) := hA5.hs.keepH (G := fun _ => False) (Chg.refl _ _) (fun _ _ _ e => e) (fun b _ hk => jh b (fun e => by rw [e] at hk; exact absurd hk.2 (by omega)))
   have hw3 : WkS t K3 w4 wk d now draw L := hA5.hw.recol (fun b _ hk => jh b (by omega))
   have hcq : Chg (fun b => b = qb ∨ blk qA = some b) w4 (w5.setCell ⟨qb, 5, none⟩ (.slice (some ⟨g9, 0, none⟩) (0 + 1) c9)) := (Chg.of_grown (F := fun b => b = qb ∨ blk qA = some b) k3 (fun b e => .inr e)).setCell (p := ⟨qb, 5, none⟩) (.inl (.inl rfl)) _
   have col : ∀ b, (b = qb ∨ blk qA = some b) → K2 b = t + 4 := fun b e => by
    rcases e with e | e
    ·rw [e]; exact f4
    ·exact f5 b e
   have col3 : ∀ b, (b = qb ∨ blk qA = some b) → K3 b = t + 4 := fun b e => by rw [jh b (by rw [col b e]; omega)]; exact col b e
   obtain ⟨K', m1, m2, m3⟩ : ∃ K' : Nat → Nat, (∀ b, b < w4.heap.size → K' b = K3 b) ∧ (∀ b, w4.heap.size ≤ b → b = g9 → K' b = t + 4) ∧ (∀ b, w4.heap.size ≤ b → b ≠ g9 → K' b = t + 7) := ⟨fun b => if b < w4.heap.size then K3 b else if b = g9 then t + 4 else t + 7, fun b hb => if_pos hb, fun b hb e => (if_neg (show ¬ b < w4.heap.size by omega)).trans (if_pos e), fun b hb e => (if_neg (show ¬ b < w4.heap.size by omega)).trans (if_neg e)⟩
   have hg9 : K' g9 = t + 4 := by
    rcases k4 with e | e
    ·have hl : g9 < w4.heap.size := (hmr.lt g9 e).2
     rw [m1 g9 hl]; exact col3 g9 (.inr e)
    ·exact m2 g9 (by omega) rfl
   have ck : ∀ b, b < w4.heap.size → K2 b = t + 4 → K' b = t + 4 := fun b hb e => by rw [m1 b hb, jh b (by omega)]; exact e
   have nb : ∀ (b : Nat), b < w4.heap.size → K2 b ≠ t + 4 → ¬ (b = qb ∨ blk qA = some b) := fun b _ hb e => hb (col b e)
   have hnd : d.h ≠ qb ∧ blk qA ≠ some d.h := ⟨fun e => by have q := hA5.hs.kh; rw [e, f4] at q; omega, fun e => by have q := hA5.hs.kh; rw [f5 _ e] at q; omega⟩
   have hHB : HB (w5.setCell ⟨qb, 5, none⟩ (.slice (some ⟨g9, 0, none⟩) (0 + 1) c9)) d.h (cnt 11 v) := hA5.hb.chg hcq (fun e => by rcases e with e | e; exact hnd.1 e; exact hnd.2 e)
   have hmr' : Mr 101 5 (w5.setCell ⟨qb, 5, none⟩ (.slice (some ⟨g9, 0, none⟩) (0 + 1) c9)) 0 (some ⟨g9, 0, none⟩) 1 c9 (dgC p.src g1 p.dst port (.slice A1 n1 c1)).toList := by
    have hgq : g9 ≠ qb := by
     rcases k4 with e | e
     ·intro e2; exact hqne (by rw [e, e2])
     ·have := h5.lt; omega
    have := k2.setCell (p := ⟨qb, 5, none⟩) (by simp only [blk, Option.map_some]; intro e; injection e with e; exact hgq e) (.slice (some ⟨g9, 0, none⟩) (0 + 1) c9)
    simpa using this
   have hrow : RowAt (w5.setCell ⟨qb, 5, none⟩ (.slice (some ⟨g9, 0, none⟩) (0 + 1) c9)) (fun b => K' b = t + 4) (.slice A1 n1 c1) (udpDl dl) := by
    have hl1 := OB.length HO5.out
    refine ⟨A1, n1, c1, rfl, Pt.keep_ HO5.out (fun b hb => hcq.block b (Ow.lt HO5.out b hb).2 (nb b (Ow.lt HO5.out b hb).2 (by rw [(HK1.out b hb).1]; omega))), fun b hb => (m1 b (Ow.lt HO5.out b hb).2).trans (j1 b hb), HBD.out, ?_⟩
    have q1 := HD.out.len
    have q2 := HX.out.2.1
    have q3 : (udpDl dl).length ≤ dl.length := by unfold udpDl; rw [List.length_take, List.length_drop]; omega
    omega
   have kp : ∀ {b : Nat}, b ≠ qb → blk qA ≠ some b → ¬ (b = qb ∨ blk qA = some b) := fun a b e => by rcases e with e | e; exact a e; exact b e
   have np : ∀ {b : Nat} {M : List (Int × Value)}, IM mkI okI w4 b M → ¬ (b = qb ∨ blk qA = some b) := fun hm e => by
    rcases e with e | e
    ·exact im_bk hm (by rw [e]; exact h5)
    ·exact im_row hmr hm e
   have hpp : ¬ (pp = qb ∨ blk qA = some pp) := fun e => by
    rcases e with e | e
    ·exact Bk.ne_ h3 h5 (by decide) e
    ·rcases hmr.2 with ⟨a, _⟩ | ⟨g', cap, cur, a, b, c, _⟩
     ·injection a with a; rw [a] at e; cases e
     ·injection a with a1 a2 a3
      rw [a1] at e
      have e : g' = pp := by simpa [blk] using e
      exact Bk.ne_ h3 (show Bk w4 g' 101 cur from c) (by decide) e.symm
   have hpl : PlAt (w5.setCell ⟨qb, 5, none⟩ (.slice (some ⟨g9, 0, none⟩) (0 + 1) c9)) (fun b => K' b = t + 4) (cnt 11 v) d (some (port, [⟨p.src, g1, p.dst, port, udpDl dl⟩])) :=
    ⟨pm, pp, qb, some ⟨g9, 0, none⟩, c9, [.slice A1 n1 c1], h1, h2.keep_ (hcq.block _ h2.lt (np h2)), h3.chg hcq hpp, h4.keep_ (hcq.block _ h4.lt (np h4)), hq5.set 5 _, hmr', ⟨hrow, trivial⟩, ck _ h4.lt f1, ck _ h2.lt f2, ck _ h3.lt f3, ck _ h5.lt f4, fun b hb => by
     have hb' : g9 = b := by simpa [blk] using hb
     rw [← hb']; exact hg9⟩
   have hsf : HostS t K' (w5.setCell ⟨qb, 5, none⟩ (.slice (some ⟨g9, 0, none⟩) (0 + 1) c9)) d (cnt 11 v) S Lr (some (port, [⟨p.src, g1, p.dst, port, udpDl dl⟩])) :=
    hs3.places (x := (cnt 11 v).prt) hHB (hcq.mono (fun b _ e => .inl (col3 b e))) hpl m1
   have hwf : WkS t K' (w5.setCell ⟨qb, 5, none⟩ (.slice (some ⟨g9, 0, none⟩) (0 + 1) c9)) wk d now draw L := hw3.keep hcq (fun b hb hk e => by rw [col3 b e] at hk; omega) m1
   refine ⟨K', fun b hb => ?_, hsf, hwf, hA5.hc.trans hcq (fun b e => ?_)⟩
   ·rw [m1 b (by omega), j2 b (fun e => by have := (HK1.out b e).2; omega)]; exact hA5.hk b hb
   ·rcases Nat.lt_or_ge b w.heap.size with h | h
    ·left; rw [← hA5.hk b h, col b e]; exact ⟨by omega, by omega⟩
    ·exact .inr h
  have HF := Lib.hid hFIN
  clear hFIN k2 k3 k4 k5 hq5 u5 fz5 c18 hlk c5 c5a y0 hone p0 p1 p2 p3 p4
  go_wp2
  first
   | (go_end0; exact ⟨rfl, HF.out⟩)
   | exact bodyPost_ret (results_none rfl _ _ _) rfl ⟨rfl, HF.out⟩
end Go.Proofs.YtaeafkdfbcppgaaGreat
