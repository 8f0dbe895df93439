/- Proved: do_bind: see its name. Conditions: as each law says. -/
import Derived.Test.YtaeafkdfbcppgaaGreatT42
set_option linter.unusedSectionVars false
set_option linter.unusedSimpArgs false
set_option linter.unusedVariables false
set_option maxRecDepth 100000
namespace Go.Proofs.YtaeafkdfbcppgaaGreat
open Go.RowKit
def mcA : Int × Int × Int × Int × Int × Int := (2, 0, 0, 0, 0, 1)
def mcB : Int × Int × Int × Int × Int × Int := (2, 0, 0, 0, 0, 2)
abbrev adA : Int := 167772161
abbrev adB : Int := 167772162
abbrev ptA : Int := 58516
def hiL : List Int := [104, 105]
def pktA : List Int := [69, 0, 0, 30, 0, 1, 0, 0, 64, 17, 102, 204, 10, 0, 0, 1, 10, 0, 0, 2, 228, 148, 0, 9, 0, 10, 158, 208, 104, 105]
def fr1 : List Int := [255, 255, 255, 255, 255, 255, 2, 0, 0, 0, 0, 1, 8, 6, 0, 1, 8, 0, 6, 4, 0, 1, 2, 0, 0, 0, 0, 1, 10, 0, 0, 1, 0, 0, 0, 0, 0, 0, 10, 0, 0, 2, 0, 0, 0, 0, 0, 0, 0, 0, 0, 0, 0, 0, 0, 0, 0, 0, 0, 0]
def fr2 : List Int := [2, 0, 0, 0, 0, 1, 2, 0, 0, 0, 0, 2, 8, 6, 0, 1, 8, 0, 6, 4, 0, 2, 2, 0, 0, 0, 0, 2, 10, 0, 0, 2, 2, 0, 0, 0, 0, 1, 10, 0, 0, 1, 0, 0, 0, 0, 0, 0, 0, 0, 0, 0, 0, 0, 0, 0, 0, 0, 0, 0]
def fr3 : List Int := [2, 0, 0, 0, 0, 2, 2, 0, 0, 0, 0, 1, 8, 0, 69, 0, 0, 30, 0, 1, 0, 0, 64, 17, 102, 204, 10, 0, 0, 1, 10, 0, 0, 2, 228, 148, 0, 9, 0, 10, 158, 208, 104, 105, 0, 0, 0, 0, 0, 0, 0, 0, 0, 0, 0, 0, 0, 0, 0, 0]
theorem draw4 : nextDraw (nextDraw (nextDraw (nextDraw 0 false) true) true) true = 662824084 := by kernel_rfl
theorem port4 : 49152 + (662824084 : Int) % 16384 = ptA := by kernel_rfl
structure VA (m : Int × Int × Int × Int × Int × Int) (a : Int) (v : HV) : Prop where
 m : v.m = m
 ad : v.addr = a
 age : v.age = nilS
theorem pkt_eq : ipB (pkS (sdP adA adB) 1) [] (sdB adA ptA adB 9 hiL) = pktA := by kernel_rfl
theorem split_eq : splitP (pkS (sdP adA adB) 1) 1500 [] (sdB adA ptA adB 9 hiL) = [(pkS (sdP adA adB) 1, [], sdB adA ptA adB 9 hiL)] := by kernel_rfl
theorem bc_eq : isBc adB adA = false := by kernel_rfl
theorem net_eq : inNet adB := by unfold inNet bitA net; decide
theorem fr1_eq : etherB (macL bcast) (macL mcA) 2054 (arpB 1 (macL mcA) adA [0, 0, 0, 0, 0, 0] adB) = fr1 := by kernel_rfl
theorem fr2_eq : etherB (macL mcA) (macL mcB) 2054 (arpB 2 (macL mcB) adB [2, 0, 0, 0, 0, 1] adA) = fr2 := by kernel_rfl
theorem fr3_eq : etherB (macL mcB) (macL mcA) 2048 pktA = fr3 := by kernel_rfl
theorem send_fact {v v' : HV} {S' : List En} {L' : List (List Int)} {k : Int} (hv : VA mcA adA v) (hi : v.id = 1) (h : SendsR v [] (sdP v.addr adB) (sdB v.addr ptA adB 9 hiL) 0 [] k v' S' L') : k = 0 ∧ L' = [fr1] ∧ VA mcA adA v' ∧ absT S' = [(adB, newNb 0 pktA)] := by
 obtain ⟨hm, ha, hg⟩ := hv
 rw [ha] at h
 rcases h with ⟨_, h, _⟩ | ⟨_, rfl, h⟩
 ·exact absurd net_eq h
 have hbc : isBc (sdP adA adB).dst v.addr = false := by rw [ha]; exact bc_eq
 rw [hbc, hi, split_eq] at h
 obtain ⟨b, v1, S1, L1, hp, hs, hv, hS, hL⟩ := h
 have hb : b = pktA := by
  rcases hp with ⟨_, e⟩ | ⟨e, _⟩
  ·rw [e]; exact pkt_eq
  ·exact absurd (sdErr adA adB (by omega) (by decide)) e
 subst hb
 subst hv
 subst hS
 subst hL
 rw [if_neg (by decide)] at hs
 obtain ⟨told, T', nv, ht, hT, hc⟩ := hs
 have h1 : told = toldC false noMac true false ∧ T' = [(adB, newNb 0 pktA)] := by
  rcases ht with ⟨n, hn, _⟩ | ⟨n, hn, _⟩ | ⟨n, hn, _⟩ | ⟨_, T2, hr, e1, e2⟩ | ⟨_, hf, _⟩
  ·exact absurd hn List.not_mem_nil
  ·exact absurd hn List.not_mem_nil
  ·exact absurd hn List.not_mem_nil
  ·rcases hr with ⟨_, e⟩ | ⟨e, _⟩
   ·rw [e] at e2; exact ⟨e1, e2⟩
   ·exact absurd e (by decide)
  ·exact absurd hf.1 (by decide)
 obtain ⟨rfl, rfl⟩ := h1
 rcases hc with ⟨n, b, hn, _⟩ | ⟨_, rfl, rfl⟩ | ⟨e, _⟩ | ⟨e, _⟩
 ·exact absurd hn List.not_mem_nil
 ·refine ⟨rfl, ?_, ⟨hm, ha, hg⟩, hT⟩
  show [] ++ [etherB (macL bcast) (macL v.m) 2054 (arpB 1 (macL v.m) v.addr [0, 0, 0, 0, 0, 0] adB)] = [fr1]
  rw [hm, ha, fr1_eq]
  rfl
 ·simp [toldC] at e
 ·simp [toldC] at e
theorem ask_fact {v v' : HV} {S' : List En} {L' : List (List Int)} (hv : VA mcB adB v) (h : NbR v [] 0 (fr1.drop 14) [] v' S' L') : L' = [fr2] ∧ VA mcB adB v' ∧ absT S' = [(adA, learnt 2 0 0 0 0 1 0)] := by
 obtain ⟨hm, ha, hg⟩ := hv
 have e1 : arpErr (fr1.drop 14) = 0 := by kernel_rfl
 have e2 : rd4 (fr1.drop 14) 14 = adA := by kernel_rfl
 have e3 : rd4 (fr1.drop 14) 24 = adB := by kernel_rfl
 have e4 : rd2 (fr1.drop 14) 6 = 1 := by kernel_rfl
 have m0 : at8 (fr1.drop 14) 8 = 2 := by kernel_rfl
 have m1 : at8 (fr1.drop 14) 9 = 0 := by kernel_rfl
 have m2 : at8 (fr1.drop 14) 10 = 0 := by kernel_rfl
 have m3 : at8 (fr1.drop 14) 11 = 0 := by kernel_rfl
 have m4 : at8 (fr1.drop 14) 12 = 0 := by kernel_rfl
 have m5 : at8 (fr1.drop 14) 13 = 1 := by kernel_rfl
 unfold NbR at h
 rw [e2, e3, e4, m0, m1, m2, m3, m4, m5] at h
 rcases h with ⟨e, _⟩ | ⟨_, v1, L1, hl, hr⟩
 ·exact absurd e1 e
 rw [show ((1 : Int) == 1 && isMine adB v.addr) = true by rw [ha]; kernel_rfl] at hl hr
 unfold LearnS at hl
 rcases hl with ⟨e, _⟩ | ⟨_, _, ws, nv, ht, _, rfl, rfl⟩
 ·rcases e with e | e
  ·exact absurd e (by decide)
  ·rw [ha] at e; exact absurd e (by decide)
 rcases ht with ⟨n, hn, _⟩ | ⟨_, e, _⟩ | ⟨_, _, ⟨T2, hr2, hT⟩, rfl⟩ | ⟨_, _, hf, _⟩
 ·exact absurd hn List.not_mem_nil
 ·cases e
 ·rcases hr2 with ⟨_, e⟩ | ⟨e, _⟩
  ·rw [e] at hT
   rcases hr with ⟨e, _⟩ | ⟨_, rfl, rfl⟩
   ·cases e
   ·refine ⟨?_, ⟨?_, ?_, ?_⟩, hT⟩
    ·show frL { v with near := nv } (2, 0, 0, 0, 0, 1) 2054 [] (arpB 2 (macL v.m) v.addr [2, 0, 0, 0, 0, 1] adA) = [fr2]
     unfold frL
     show (if (arpB 2 (macL v.m) v.addr [2, 0, 0, 0, 0, 1] adA).length ≤ 1500 then [] ++ [etherB (macL mcA) (macL v.m) 2054 (arpB 2 (macL v.m) v.addr [2, 0, 0, 0, 0, 1] adA)] else []) = [fr2]
     rw [hm, ha, fr2_eq]
     rfl
    ·show (frV { v with near := nv } _).m = mcB
     unfold frV; split <;> exact hm
    ·show (frV { v with near := nv } _).addr = adB
     unfold frV; split <;> exact ha
    ·show (frV { v with near := nv } _).age = nilS
     unfold frV; split <;> exact hg
  ·exact absurd e (by decide)
 ·exact absurd hf.1 (by decide)
theorem ans_fact {v v' : HV} {S S' : List En} {L' : List (List Int)} (hv : VA mcA adA v) (hS : absT S = [(adB, newNb 0 pktA)]) (h : NbR v S 0 (fr2.drop 14) [] v' S' L') : L' = [fr3] ∧ VA mcA adA v' ∧ absT S' = [(adB, learnt 2 0 0 0 0 2 0)] := by
 obtain ⟨hm, ha, hg⟩ := hv
 have e1 : arpErr (fr2.drop 14) = 0 := by kernel_rfl
 have e2 : rd4 (fr2.drop 14) 14 = adB := by kernel_rfl
 have e3 : rd4 (fr2.drop 14) 24 = adA := by kernel_rfl
 have e4 : rd2 (fr2.drop 14) 6 = 2 := by kernel_rfl
 have m0 : at8 (fr2.drop 14) 8 = 2 := by kernel_rfl
 have m1 : at8 (fr2.drop 14) 9 = 0 := by kernel_rfl
 have m2 : at8 (fr2.drop 14) 10 = 0 := by kernel_rfl
 have m3 : at8 (fr2.drop 14) 11 = 0 := by kernel_rfl
 have m4 : at8 (fr2.drop 14) 12 = 0 := by kernel_rfl
 have m5 : at8 (fr2.drop 14) 13 = 2 := by kernel_rfl
 unfold NbR at h
 rw [e2, e3, e4, m0, m1, m2, m3, m4, m5] at h
 rcases h with ⟨e, _⟩ | ⟨_, v1, L1, hl, hr⟩
 ·exact absurd e1 e
 rw [show ((2 : Int) == 1 && isMine adA v.addr) = false by rw [ha]; kernel_rfl] at hl hr
 unfold LearnS at hl
 rcases hl with ⟨e, _⟩ | ⟨_, _, ws, nv, ht, _, rfl, rfl⟩
 ·rcases e with e | e
  ·exact absurd e (by decide)
  ·rw [ha] at e; exact absurd e (by decide)
 rw [hS] at ht
 rcases ht with ⟨n, hn, hw, hT⟩ | ⟨hn, _⟩ | ⟨hn, _⟩ | ⟨hn, _⟩
 ·have hn' := List.mem_singleton.1 hn
  injection hn' with _ hn'
  subst hn'
  have hw' : ws = [pktA] := hw
  subst hw'
  rcases hr with ⟨_, rfl, rfl⟩ | ⟨e, _⟩
  ·refine ⟨?_, ⟨?_, ?_, ?_⟩, ?_⟩
   ·show frL { v with near := nv } (2, 0, 0, 0, 0, 2) 2048 [] pktA = [fr3]
    unfold frL
    show (if pktA.length ≤ 1500 then [] ++ [etherB (macL mcB) (macL v.m) 2048 pktA] else []) = [fr3]
    rw [hm, fr3_eq]
    rfl
   ·show (frV { v with near := nv } _).m = mcA
    unfold frV; split <;> exact hm
   ·show (frV { v with near := nv } _).addr = adA
    unfold frV; split <;> exact ha
   ·show (frV { v with near := nv } _).age = nilS
    unfold frV; split <;> exact hg
   ·rw [hT]; rfl
  ·cases e
 ·exact absurd rfl (hn _ (List.mem_singleton.2 rfl))
 ·exact absurd rfl (hn _ (List.mem_singleton.2 rfl))
 ·exact absurd rfl (hn _ (List.mem_singleton.2 rfl))
theorem tick_fact {S : List En} {a m0 m1 m2 m3 m4 m5 now : Int} (hS : absT S = [(a, learnt m0 m1 m2 m3 m4 m5 0)]) (hn : now < 600) : ∀ asks losts T', TickT (absT S) now asks losts T' → asks = [] ∧ losts = [] ∧ T' = absT S := by
 intro asks losts T' h
 rw [hS] at h ⊢
 have htk : (learnt m0 m1 m2 m3 m4 m5 0).tk = 600 := by kernel_rfl
 obtain ⟨h1, ⟨_, h2⟩, ⟨_, h3⟩⟩ := h
 refine ⟨List.eq_nil_iff_forall_not_mem.2 fun x hx => ?_, List.eq_nil_iff_forall_not_mem.2 fun x hx => ?_, ?_⟩
 ·obtain ⟨e, he, _, hk⟩ := (h2 x).1 hx
  rw [List.mem_singleton.1 he] at hk
  have := hk.1
  rw [htk] at this
  omega
 ·obtain ⟨e, he, _, hk⟩ := (h3 x).1 hx
  rw [List.mem_singleton.1 he] at hk
  have := hk.1
  rw [htk] at this
  omega
 ·rw [h1]
  have hst : stepT now (a, learnt m0 m1 m2 m3 m4 m5 0) = some (a, learnt m0 m1 m2 m3 m4 m5 0) := by
   unfold stepT
   rw [if_pos (by show now < (learnt m0 m1 m2 m3 m4 m5 0).tk; rw [htk]; exact hn)]
  simp only [List.filterMap_cons, List.filterMap_nil, hst]
def dgQ : Dg := ⟨adA, ptA, adB, 9, hiL⟩
theorem udp_fact : ethErr fr3 = 0 ∧ rd2 fr3 12 = 2048 ∧ macE (at8 fr3 6, at8 fr3 7, at8 fr3 8, at8 fr3 9, at8 fr3 10, at8 fr3 11) mcB = false ∧ takes mcB (at8 fr3 0, at8 fr3 1, at8 fr3 2, at8 fr3 3, at8 fr3 4, at8 fr3 5) = true := ⟨by kernel_rfl, by kernel_rfl, by kernel_rfl, by kernel_rfl⟩
theorem udp_fact2 : ipErr (fr3.drop 14) = 0 := by
 have h1 : (fr3.drop 14).length = 46 := by kernel_rfl
 have h2 : ipHn (fr3.drop 14) = 20 := by kernel_rfl
 have h3 : ipWh (fr3.drop 14) = 30 := by kernel_rfl
 have h4 : sumOf ((fr3.drop 14).take 20) = 0 := by kernel_rfl
 have h5 : rd2 (fr3.drop 14) 6 = 0 := by kernel_rfl
 have h6 : goodO (ipOl (fr3.drop 14)) = true := by kernel_rfl
 have h7 : (ipP (fr3.drop 14)).off = 0 := by kernel_rfl
 have h8 : (ipOl (fr3.drop 14)).length = 0 := by kernel_rfl
 have h9 : (ipDl (fr3.drop 14)).length = 10 := by kernel_rfl
 have h0 : at8 (fr3.drop 14) 0 / 16 = 4 := by kernel_rfl
 unfold ipErr
 rw [h1, h2, h3, h4, h5, h6, h7, h8, h9, h0]
 have hf : fitsP 0 0 10 := by unfold fitsP hdN; omega
 rw [if_neg (by decide), if_neg (by decide), if_neg (by decide), if_neg (by decide), if_neg (by decide), if_neg (by decide), if_neg (by decide), if_neg (fun e => e hf)]
theorem udp_fact3 : isOurs (ipP (fr3.drop 14)).dst adB = true ∧ (ipP (fr3.drop 14)).src = adA ∧ isMine (ipP (fr3.drop 14)).src adB = false ∧ (ipP (fr3.drop 14)).more = false ∧ (ipP (fr3.drop 14)).off = 0 ∧ (ipP (fr3.drop 14)).proto = 17 ∧ (ipP (fr3.drop 14)).dst = adB := ⟨by kernel_rfl, by kernel_rfl, by kernel_rfl, by kernel_rfl, by kernel_rfl, by kernel_rfl, by kernel_rfl⟩
theorem udp_fact4 : udpErr adA adB (ipDl (fr3.drop 14)) = 0 ∧ rd2 (ipDl (fr3.drop 14)) 2 = 9 ∧ rd2 (ipDl (fr3.drop 14)) 0 = ptA ∧ udpDl (ipDl (fr3.drop 14)) = hiL := ⟨by kernel_rfl, by kernel_rfl, by kernel_rfl, by kernel_rfl⟩
theorem arp_fact1 : ethErr fr1 = 0 ∧ rd2 fr1 12 = 2054 ∧ macE (at8 fr1 6, at8 fr1 7, at8 fr1 8, at8 fr1 9, at8 fr1 10, at8 fr1 11) mcB = false ∧ takes mcB (at8 fr1 0, at8 fr1 1, at8 fr1 2, at8 fr1 3, at8 fr1 4, at8 fr1 5) = true := ⟨by kernel_rfl, by kernel_rfl, by kernel_rfl, by kernel_rfl⟩
theorem arp_fact2 : ethErr fr2 = 0 ∧ rd2 fr2 12 = 2054 ∧ macE (at8 fr2 6, at8 fr2 7, at8 fr2 8, at8 fr2 9, at8 fr2 10, at8 fr2 11) mcA = false ∧ takes mcA (at8 fr2 0, at8 fr2 1, at8 fr2 2, at8 fr2 3, at8 fr2 4, at8 fr2 5) = true := ⟨by kernel_rfl, by kernel_rfl, by kernel_rfl, by kernel_rfl⟩
open Go.RowKit
set_option maxHeartbeats 8000000 in
set_option maxRecDepth 100000 in
theorem do_bind (t : Nat) (ht : t ≤ 20) (K : Nat → Nat) (w : World) (st sm : Nat) (d : HD) (v : HV) (S : List En) (s : Nat) (now draw : Int) (port : Int) (hp : 1 ≤ port ∧ port ≤ 65535) (hs : SdS t K w st sm d v S none (some (s, false, 0))) :
  Calls Tryz.prog 117 #[bp st, .agg (callC 2 0 0 port 0 nilS now draw)] w (DoR t K w [] 0 0 0 (fun _ K' w' => ∃ s x, SdS t K' w' st sm d { v with prt := x } S (some (port, [])) (some (s, true, port)))) := by
 obtain ⟨W, hW⟩ : ∃ W, (w.alloc (.cells (callC 2 0 0 port 0 nilS now draw) 39)).alloc (.cells (swC st now draw nilS nilS (.pointer none)) 374) = W := ⟨_, rfl⟩
 have hb0 : Below w.heap.size w W := by rw [← hW]; exact ((Below.refl _ _).alloc (Nat.le_refl _) _).alloc (by simp) _
 have hz0 : W.heap.size = w.heap.size + 2 := by rw [← hW]; simp
 have hg0 : Bk W w.heap.size 39 (callC 2 0 0 port 0 nilS now draw) := by rw [← hW]; exact (Bk.new _ _ _).alloc _
 have hk0 : Bk W (w.heap.size + 1) 374 (swC st now draw nilS nilS (.pointer none)) := by
  rw [← hW]
  have := Bk.new (w.alloc (.cells (callC 2 0 0 port 0 nilS now draw) 39)) 374 (swC st now draw nilS nilS (.pointer none))
  rwa [World.size_alloc] at this
 have HWT := Lib.hid (waits_nil st d.h sm 0 W (hs.below hb0).stk)
 have HX := Lib.hid (And.intro hs (And.intro hb0 (And.intro hz0 (And.intro hg0 (And.intro hk0 ht)))))
 have HZ := Lib.hid hp
 have HW : Hid ((w.alloc (.cells #[.int .i64 2, .int .i64 0, .int .i64 0, .int .u32 0, .int .i64 port, .int .i64 0, .slice none 0 0, .int .i64 now, .int .i64 draw] 39)).alloc (.cells #[bp st, .int .i64 now, .int .i64 draw, .slice none 0 0, .slice none 0 0, .pointer none] 374) = W) := Lib.hid hW
 clear hW hb0 hz0 hg0 hk0 hs ht hp
 unfold callC
 go_enter Tryz.func117, Tryz.ntmps117
 go_wp2_with fail
 rw [HW.out]
 refine HWT.out.mono ?_
 rintro e1 w1 ⟨rfl, hB1⟩
 have hg1 := HX.out.2.2.2.1.below hB1 (Bk.lt HX.out.2.2.2.1)
 have z0 : w1.cell? ⟨w.heap.size, 0, none⟩ = some (.int .i64 2) := hg1.cell 0
 have z1 : w1.cell? ⟨w.heap.size, 1, none⟩ = some (.int .i64 0) := hg1.cell 1
 have z6 : w1.cell? ⟨w.heap.size, 6, none⟩ = some nilS := hg1.cell 6
 have HB1 := Lib.hid hB1
 have HG1 := Lib.hid hg1
 have hbw1 : Below w.heap.size w w1 := HX.out.2.1.trans (hB1.mono HX.out.2.1.size)
 have HCL := Lib.hid (oclone_any none 0 0 0 [] rfl (by omega) w1 (fun h => absurd h (by simp [by8])) (Nat.zero_le _))
 clear hB1 hg1 hbw1
 go_wp2_with fail
 refine HCL.out.mono ?_
 rintro e2 w2 ⟨A2, c2, rfl, ho2, hB2⟩
 have hg2 := HG1.out.below hB2 (Bk.lt HG1.out)
 have z6' : w2.cell? ⟨w.heap.size, 6, none⟩ = some nilS := hg2.cell 6
 have zf6 := hg2.frozen 6
 obtain ⟨W3, hW3⟩ : ∃ W3, w2.setCell ⟨w.heap.size, 6, none⟩ (.slice A2 0 c2) = W3 := ⟨_, rfl⟩
 have hg3 : Bk W3 w.heap.size 39 (callC 2 0 0 port 0 (.slice A2 0 c2) now draw) := by rw [← hW3]; exact hg2.set 6 _
 have hB3 : Below w.heap.size w W3 := by
  rw [← hW3]
  exact Below.set1 ((HX.out.2.1.trans (HB1.out.mono HX.out.2.1.size)).trans (hB2.mono (by have := HX.out.2.1.size; have := HB1.out.size; omega))) (Nat.le_refl _) _
 have hl3 : W.heap.size ≤ W3.heap.size := by rw [← hW3, size_setCell]; have := HB1.out.size; have := hB2.size; omega
 have hl1 : W.heap.size ≤ w1.heap.size := HB1.out.size
 have hc3 : Chg (fun b => b = w.heap.size) w2 W3 := by rw [← hW3]; exact (Chg.refl _ w2).set1 _
 have ho3 : OB 5 W3 w1.heap.size A2 0 c2 [] := ow_keep ho2 hc3 (fun b hb e => by have := (Ow.lt ho2 b hb).1; have := HX.out.2.2.1; omega)
 have hk3 : Bk W3 (w.heap.size + 1) 374 (swC st now draw nilS nilS (.pointer none)) := by
  rw [← hW3]
  refine Bk.far ((HX.out.2.2.2.2.1.below HB1.out (Bk.lt HX.out.2.2.2.2.1)).below hB2 (Nat.lt_of_lt_of_le (Bk.lt HX.out.2.2.2.2.1) HB1.out.size)) ?_ _
  show w.heap.size + 1 ≠ w.heap.size
  omega
 have hs3 := HX.out.1.below hB3
 have hm3 : IM mkI okI W3 sm [(0, ifS s)] := hs3.sk.1
 have x1 : W3.cell? ⟨w.heap.size, 1, none⟩ = some (.int .i64 0) := hg3.cell 1
 have x2 : W3.cell? ⟨w.heap.size, 2, none⟩ = some (.int .i64 0) := hg3.cell 2
 have s1 : W3.cell? ⟨st, 1, none⟩ = some (.map (some sm)) := hs3.stk.cell 1
 have hlk : (Instr.lookup 192 (.map (some sm)) (.int .i64 0) false).run Tryz.prog W3.drew = .ok (ifS s) W3.drew := IM.look (hm3.drewN 1) keyI Tryz.underlying192 (zeroIface _) (show okI 0 by unfold okI; omega) false
 have HW3 := Lib.hid hW3
 have HY := Lib.hid (And.intro hg3 (And.intro hB3 (And.intro hl3 (And.intro hk3 (And.intro hs3 (And.intro ho3 hl1))))))
 clear z0 z1 z6 hg2 hW3 hg3 hB3 hl3 hk3 hs3 hm3 ho2 hB2 ho3 hl1 hc3
 go_upto_region 5 with (fail)
 rw [HW3.out]
 go_region
 have hx4 : Bk ((W3.alloc (.cells #[.int .i64 0, ifS s, Value.nilFunc, .int .i64 0] 380)).drew) W3.heap.size 380 #[.int .i64 0, ifS s, Value.nilFunc, .int .i64 0] := Bk.new W3 _ _
 have hB4 : Below W3.heap.size W3 ((W3.alloc (.cells #[.int .i64 0, ifS s, Value.nilFunc, .int .i64 0] 380)).drew) := ((Below.refl _ _).alloc (Nat.le_refl _) _).drew
 generalize (W3.alloc (.cells #[.int .i64 0, ifS s, Value.nilFunc, .int .i64 0] 380)).drew = W4 at hx4 hB4 ⊢
 obtain ⟨hg3, hB3, hl3, hk3, hs3, ho3, hl1⟩ := HY.out
 have hz0 := HX.out.2.2.1
 have hl34 := hB3.size
 obtain ⟨x, hx⟩ : ∃ x, W3.heap.size = x := ⟨_, rfl⟩
 have hg4 := hg3.below hB4 hg3.lt
 have hk4 := hk3.below hB4 hk3.lt
 have hBw4 : Below w.heap.size w W4 := hB3.trans (hB4.mono hB3.size)
 have ho4 := Ow.stays ho3 hB4
 have hA2x : ∀ b, blk A2 = some b → w.heap.size + 2 ≤ b ∧ b < x := fun b hb => ⟨by have := (Ow.lt ho3 b hb).1; omega, by rw [← hx]; exact (Ow.lt ho3 b hb).2⟩
 rw [hx] at hx4 ⊢
 have hxw : w.heap.size ≠ x ∧ w.heap.size + 1 ≠ x ∧ w.heap.size ≤ x := by omega
 have he2 : ∀ w, (binOp .eql 376 (ifS s) Value.nilIface).run Tryz.prog w = .ok (.bool false) w := fun w => by kernel_rfl
 have yy0 : W4.cell? ⟨w.heap.size, 0, none⟩ = some (.int .i64 2) := hg4.cell 0
 have yy1 : W4.cell? ⟨x, 1, none⟩ = some (ifS s) := hx4.cell 1
 have y1 : W4.drew.cell? ⟨x, 1, none⟩ = some (ifS s) := hx4.cell 1
 have z0 : W4.drew.cell? ⟨w.heap.size, 0, none⟩ = some (.int .i64 2) := hg4.cell 0
 have z1 : W4.drew.cell? ⟨w.heap.size, 1, none⟩ = some (.int .i64 0) := hg4.cell 1
 have z2 : W4.drew.cell? ⟨w.heap.size, 2, none⟩ = some (.int .i64 0) := hg4.cell 2
 have z3 : W4.drew.cell? ⟨w.heap.size, 3, none⟩ = some (.int .u32 0) := hg4.cell 3
 have z4 : W4.drew.cell? ⟨w.heap.size, 4, none⟩ = some (.int .i64 port) := hg4.cell 4
 have z5 : W4.drew.cell? ⟨w.heap.size, 5, none⟩ = some (.int .i64 0) := hg4.cell 5
 have z6 : W4.drew.cell? ⟨w.heap.size, 6, none⟩ = some (.slice A2 0 c2) := hg4.cell 6
 have z7 : W4.drew.cell? ⟨w.heap.size, 7, none⟩ = some (.int .i64 now) := hg4.cell 7
 have z8 : W4.drew.cell? ⟨w.heap.size, 8, none⟩ = some (.int .i64 draw) := hg4.cell 8
 have hscall := scall_bind (w.heap.size + 1) s 0 0 port 0 (.slice A2 0 c2) now draw W4.drew
 unfold callC at hscall
 have HSC := Lib.hid hscall
 have HLT : Hid (w.heap.size < W4.drew.heap.size ∧ x < W4.drew.heap.size) := Lib.hid ⟨hg4.lt, hx4.lt⟩
 have HX4 := Lib.hid hx4
 have HU := Lib.hid (And.intro hg4 (And.intro hk4 (And.intro hBw4 (And.intro ho4 (And.intro hA2x (And.intro hxw hz0))))))
 clear hx4 hB4 hg3 hB3 hl3 hk3 hs3 ho3 hl1 hz0 hl34 hx hg4 hk4 hBw4 ho4 hA2x hxw hscall x1 x2 s1 hlk z6' zf6
 go_upto_region 6 with (fail)
 go_region_held3 (fun w' => w'.cell? ⟨x, 1, none⟩ = some (ifS s) ∧ w'.cell? ⟨w.heap.size, 0, none⟩ = some (.int .i64 2) ∧ w'.cell? ⟨w.heap.size, 1, none⟩ = some (.int .i64 0) ∧ w'.cell? ⟨w.heap.size, 2, none⟩ = some (.int .i64 0) ∧ w'.cell? ⟨w.heap.size, 3, none⟩ = some (.int .u32 0) ∧ w'.cell? ⟨w.heap.size, 4, none⟩ = some (.int .i64 port) ∧ w'.cell? ⟨w.heap.size, 5, none⟩ = some (.int .i64 0) ∧ w'.cell? ⟨w.heap.size, 6, none⟩ = some (.slice A2 0 c2) ∧ w'.cell? ⟨w.heap.size, 7, none⟩ = some (.int .i64 now) ∧ w'.cell? ⟨w.heap.size, 8, none⟩ = some (.int .i64 draw))
  (first | (with_reducible exact ⟨by assumption, by assumption, by assumption, by assumption, by assumption, by assumption, by assumption, by assumption, by assumption, by assumption⟩) | go_keep)
  (first
   | (go_at_call 185; refine HSC.out.mono ?_; rintro e6 w6 ⟨gs, gc, rfl, hcap⟩; have hb6 := hcap.2.2.2.2; have p1 := bel_cell_ hb6 HLT.out.2 y1; have p20 := bel_cell_ hb6 HLT.out.1 z0; have p21 := bel_cell_ hb6 HLT.out.1 z1; have p22 := bel_cell_ hb6 HLT.out.1 z2; have p23 := bel_cell_ hb6 HLT.out.1 z3; have p24 := bel_cell_ hb6 HLT.out.1 z4; have p25 := bel_cell_ hb6 HLT.out.1 z5; have p26 := bel_cell_ hb6 HLT.out.1 z6; have p27 := bel_cell_ hb6 HLT.out.1 z7; have p28 := bel_cell_ hb6 HLT.out.1 z8; have hx6 := HX4.out.below (bel_undr_ hb6) (Bk.lt HX4.out); have u2 : w6.cell? ⟨x, 2, none⟩ = some Value.nilFunc := hx6.cell 2; have p1s : ∀ u, (w6.setCell ⟨x, 2, none⟩ u).cell? ⟨x, 1, none⟩ = some (ifS s) := fun u => (hx6.set 2 u).cell 1; have uf2 := hx6.frozen 2; have ew0 : w.heap.size ≠ x := HU.out.2.2.2.2.2.1.1; have ew1 : x ≠ w.heap.size := Ne.symm ew0))
 obtain ⟨W7, hW7⟩ : ∃ W7, w6.setCell ⟨x, 2, none⟩ (.func (.func 258) #[] #[bp gs, bp gc]) = W7 := ⟨_, rfl⟩
 rw [hW7]
 obtain ⟨hg4, hk4, hBw4, ho4, hA2x, hxw, hz0⟩ := HU.out
 have hb46 := bel_undr_ hb6
 have hx7 : Bk W7 x 380 (wtC (ifS s) 258 #[bp gs, bp gc]) := by rw [← hW7]; exact hx6.set 2 _
 have hc67 : Chg (fun b => b = x) w6 W7 := by rw [← hW7]; exact (Chg.refl _ w6).set1 _
 have hx4l := Bk.lt HX4.out
 have hk7 : Bk W7 (w.heap.size + 1) 374 (swC st now draw nilS nilS (.pointer none)) := (hk4.below hb46 hk4.lt).chg hc67 hxw.2.1
 have hB7 : Below w.heap.size w W7 := by rw [← hW7]; exact Below.set1 (hBw4.trans (hb46.mono hBw4.size)) hxw.2.2 _
 have ho7 : OB 5 W7 w1.heap.size A2 0 c2 [] := ow_keep (Ow.stays ho4 hb46) hc67 (fun b hb e => by have := (hA2x b hb).2; omega)
 have hcap7 := And.intro (hcap.1.chg hc67 (fun e => by have q := hcap.2.2.1; have q2 : W4.drew.heap.size = W4.heap.size := rfl; omega)) (And.intro (hcap.2.1.chg hc67 (fun e => by have q := hcap.2.2.2.1; have q2 : W4.drew.heap.size = W4.heap.size := rfl; omega)) (And.intro hcap.2.2.1 hcap.2.2.2.1))
 obtain ⟨K0, k1, k2⟩ : ∃ K0 : Nat → Nat, (∀ b, b < w.heap.size → K0 b = K b) ∧ ∀ b, w.heap.size ≤ b → K0 b = 40 := ⟨fun b => if b < w.heap.size then K b else 40, fun b hb => if_pos hb, fun b hb => if_neg (by omega)⟩
 have hs7 : SdS t K0 W7 st sm d v S none (some (s, false, 0)) := HX.out.1.keep (Chg.of_below (F := fun _ => False) hB7) (fun _ _ _ e => e) (fun b hb _ => k1 b hb)
 have ht := HX.out.2.2.2.2.2
 have hl4 : w.heap.size ≤ W4.heap.size := hBw4.size
 have n40 : ¬ sideK t 40 := by
  rintro (h | h)
  ·exact absurd h.2 (by omega)
  ·omega
 have hQ : Stab t (fun _ K' w' => ∃ s x, SdS t K' w' st sm d { v with prt := x } S (some (port, [])) (some (s, true, port))) := fun dv K w K' w' G ⟨s, x, h⟩ hc hG hK => ⟨s, x, h.keep hc hG hK⟩
 have ho7x : ∀ b, blk A2 = some b → w.heap.size + 2 ≤ b := fun b hb => (hA2x b hb).1
 have HTR := Lib.hid (tries_bind t ht K0 W7 st (w.heap.size + 1) x gs gc s now draw (.pointer none) [] 0 0 0 _ hQ hk7 (k2 _ (by omega)) hx7 (k2 _ (by omega)) _ _ hs7.sk.2.1 (fun K1 w1' j1 j2 hc hw1 =>
  have hsd1 := hs7.keep hc (fun b hb hk e => by rw [e, k2 _ (by omega)] at hk; exact n40 hk) (fun b hb _ => j1 b hb)
  try_bind t ht K1 w1' st sm d v S s (w.heap.size + 1) gs gc now draw port HZ.out (bp x) (.slice A2 0 c2) 0 now 0 draw hsd1 hw1 (by rw [j1 _ hk7.lt, k2 _ (by omega)]; exact n40) (hcap7.1.chg hc (fun e => Bk.ne_ hcap7.1 hk7 (by decide) e)) (hcap7.2.1.chg hc (fun e => Bk.ne_ hcap7.2.1 hk7 (by decide) e))))
 have HE := Lib.hid (fun e w' (h : TrR t K0 W7 (w.heap.size + 1) st now draw (bp x) [] 0 0 0 (fun _ K' w' => ∃ s x, SdS t K' w' st sm d { v with prt := x } S (some (port, [])) (some (s, true, port))) e w') => do_end (h := d.h) (sm := sm) ht hQ (fun dv K w ⟨s, x, h⟩ => h.stk) k1 k2 hB7 (by omega) h)
 clear hg4 hk4 hBw4 ho4 hA2x hxw hz0 hb46 hx7 hc67 hx4l hk7 hB7 ho7 hcap7 k1 k2 hs7 ht hl4 n40 hQ ho7x hW7 hcap hb6 p1 p20 p21 p22 p23 p24 p25 p26 p27 p28 hx6 u2 uf2 p1s ew0 ew1 z0 z1 z2 z3 z4 z5 z6 z7 z8 y1 yy0 yy1
 go_wp2_with fail
 refine HTR.out.mono ?_
 rintro e8 w8 hT8
 obtain ⟨y, xx, rfl, hw8, hst8, hfin⟩ := HE.out _ _ hT8
 have HFIN := Lib.hid hfin
 have HK8 := Lib.hid hw8
 have HS8 := Lib.hid hst8
 have v3 : w8.cell? ⟨w.heap.size + 1, 3, none⟩ = some y := hw8.cell 3
 have v4 : w8.cell? ⟨w.heap.size + 1, 4, none⟩ = some xx := hw8.cell 4
 clear hT8 hfin hw8 hst8
 go_wp2_with fail
 refine (again_nil (w.heap.size + 1) st d.h sm now draw y xx (bp x) _ HK8.out HS8.out).mono ?_
 rintro e9 w9 ⟨rfl, rfl⟩
 go_wp2_with fail
 go_quiet (fail)
 go_wp2
 go_ret2
 exact HFIN.out _
end Go.Proofs.YtaeafkdfbcppgaaGreat
