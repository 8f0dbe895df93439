/- Proved: a host that is told a frame, any bytes, where none of its ports is bound: it ends, at most 48 frames are handed out, and its counters stay; what the ticks of a cache and of a store leave of a host, at any point of a call; a new host, as the host's laws take it; what a host's counter says; the two ho. Conditions: as each law says. -/
import Derived.Test.YtaeafkdfbcppgaaGreatT23
import Derived.Test.YtaeafkdfbcppgaaGreatT29
import Derived.Test.YtaeafkdfbcppgaaGreatT31
import Derived.Test.YtaeafkdfbcppgaaGreatT32
set_option linter.unusedSectionVars false
set_option linter.unusedSimpArgs false
set_option linter.unusedVariables false
namespace Go.Proofs.YtaeafkdfbcppgaaGreat
open Go.RowKit
section
variable {t : Nat} {K K' : Nat → Nat} {w w' : World} {d : HD} {v v' : HV} {S S' : List En} {Lr Lr' : List Rec} {P P' : Option (Int × List Dg)}
theorem HostS.keepH (s : HostS t K w d v S Lr P) {G : Nat → Prop} (hc : Chg G w w') (hG : ∀ b, b < w.heap.size → hostK t (K b) → ¬ G b) (hK : ∀ b, b < w.heap.size → hostK t (K b) → K' b = K b) : HostS t K' w' d v S Lr P where
 kh := (hK _ s.lt (by rw [s.kh]; exact ⟨by omega, by omega⟩)).trans s.kh
 hx := s.hx.cap.keep (fun b hb hl => hc.block b hl (hG b hl (by rcases hb.1 with e | e; exact ⟨by omega, by omega⟩; rw [e, s.kh]; exact ⟨by omega, by omega⟩))) (fun b hb => hb.1.imp (fun e => (hK b hb.2 (by rw [e]; exact ⟨by omega, by omega⟩)).trans e) (fun e => e))
 ca := s.ca.cap.keep (fun b hb hl => hc.block b hl (hG b hl (by rcases hb.1 with e | e; exact ⟨by omega, by omega⟩; rw [e, s.kh]; exact ⟨by omega, by omega⟩))) (fun b hb => hb.1.imp (fun e => (hK b hb.2 (by rw [e]; exact ⟨by omega, by omega⟩)).trans e) (fun e => e))
 st := by
  obtain ⟨F, h1, h2⟩ := s.st
  exact ⟨F, h1.chg hc (fun b hb => hG b (h1.lt hb) (by rcases h2 b hb with e | e; exact ⟨by omega, by omega⟩; rw [e, s.kh]; exact ⟨by omega, by omega⟩)), fun b hb => (h2 b hb).imp (fun e => (hK b (h1.lt hb) (by rw [e]; exact ⟨by omega, by omega⟩)).trans e) (fun e => e)⟩
 pl := s.pl.keep (fun b hb hl => hc.block b hl (hG b hl ⟨by omega, by omega⟩)) (fun b hb hl => (hK b hl (by rw [hb]; exact ⟨by omega, by omega⟩)).trans hb) rfl
 ct := s.ct
 id := s.id
 ad := s.ad
 cb := s.cb
 mb := s.mb
theorem work_start (s : HostS t K w d v S Lr P) (now draw : Int) : ∃ K1 : Nat → Nat, (∀ b, b < w.heap.size → hostK t (K b) → K1 b = K b) ∧ (∀ b, b < w.heap.size → ¬ hostK t (K b) → K1 b = t + 7) ∧
  HostS t K1 (w.alloc (.cells (wkC d.h now draw nilS nilS) 173)) d v S Lr P ∧ WkS t K1 (w.alloc (.cells (wkC d.h now draw nilS nilS) 173)) w.heap.size d now draw [] := by
 classical
 obtain ⟨K1, k1, k2, k3⟩ : ∃ K1 : Nat → Nat, (∀ b, b < w.heap.size → hostK t (K b) → K1 b = K b) ∧ (∀ b, b < w.heap.size → ¬ hostK t (K b) → K1 b = t + 7) ∧ K1 w.heap.size = t + 6 :=
  ⟨fun b => if b < w.heap.size then (if hostK t (K b) then K b else t + 7) else t + 6, fun b hb hk => by simp only [if_pos hb, if_pos hk], fun b hb hk => by simp only [if_pos hb, if_neg hk], if_neg (Nat.lt_irrefl _)⟩
 refine ⟨K1, k1, k2, s.keepH (G := fun _ => False) (Chg.of_below ((Below.refl _ _).alloc (Nat.le_refl _) _)) (fun _ _ _ e => e) k1, ⟨none, 0, 0, [], Bk.new w _ _, Of.none_ _ _ _, trivial, fun b e => by cases e⟩, k3⟩
end
open Go.RowKit
theorem TickT.tbok {T T' : Tb} {now : Int} {k o : List Int} (h : TickT T now k o T') (hT : TbOk T) : TbOk T' := by
 rw [h.1]
 intro p hp
 obtain ⟨e, he, hs⟩ := List.mem_filterMap.1 hp
 have h0 := hT e he
 unfold stepT at hs
 split at hs
 ·cases hs; exact h0
 ·split at hs
  ·cases hs
  ·split at hs
   ·cases hs
   ·cases hs; exact h0
theorem TickT.lens {T T' : Tb} {now : Int} {k o : List Int} (h : TickT T now k o T') : k.length ≤ T.length ∧ o.length ≤ T.length := by
 obtain ⟨_, ⟨a1, a2⟩, ⟨b1, b2⟩⟩ := h
 constructor
 ·have := nodup_le (l := k) (m := T.map (·.1)) (a1.imp (fun h => Int.ne_of_lt h)) (fun a ha => by obtain ⟨e, he, rfl, _⟩ := (a2 a).1 ha; exact List.mem_map_of_mem he)
  rwa [List.length_map] at this
 ·have := nodup_le (l := o) (m := T.map (·.1)) (b1.imp (fun h => Int.ne_of_lt h)) (fun a ha => by obtain ⟨e, he, rfl, _⟩ := (b2 a).1 ha; exact List.mem_map_of_mem he)
  rwa [List.length_map] at this
section
variable {t : Nat} {K K' K1 : Nat → Nat} {w wx w' : World} {wk : Nat} {d : HD} {now draw : Int} {v : HV} {S : List En} {Lr : List Rec} {P : Option (Int × List Dg)} {L : List (List Int)}
theorem HostS.asks_ok (s : HostS t K w d v S Lr P) : S.length ≤ 16 := by obtain ⟨mv, h⟩ := s.ca; exact h.2.2.2.2.2
theorem HostS.cache2 {S' : List En} (s : HostS t K w d v S Lr P) (ha : CacheAt v w' (fun b => (K b = t + 2 ∨ b = d.h) ∧ b < w.heap.size) d.h S') (hc : Chg (fun b => K b = t + 2 ∨ b = d.h) w w') (ht : TbOk (absT S')) (hK : ∀ b, b < w.heap.size → K' b = K b) :
  ∃ nv, HostS t K' w' d { v with near := nv } S' Lr P := by
 obtain ⟨mv, h1, h2⟩ := ha
 have hlt := s.lt
 have hb' : HB w' d.h { v with near := .map mv } := h1.1
 refine ⟨.map mv, ?_⟩
 have hx : HostAt w' (fun b => K b = t + 1 ∨ b = d.h) d { v with near := .map mv } := s.hx.turn hb' hc (fun b hb hn e => by rcases hb with hb | hb; rcases e with e | e; omega; exact hn e; exact hn hb) rfl rfl rfl rfl rfl
 have hh := s.kh
 exact {
  kh := (hK _ hlt).trans s.kh
  hx := by
   refine ⟨hx.hb, hx.k0, hx.bkt, hx.plc, hx.arr, hx.grp, hx.rt, hx.bw, hx.ar, .inr rfl, fun b q1 q2 => ?_, fun b q => ?_, ?_, ?_⟩
   ·exact (s.hx.cap.fn b q1 q2).1.imp (fun e => (hK b (s.hx.cap.fn b q1 q2).2).trans e) (fun e => e)
   ·exact (s.hx.cap.fa b q).1.imp (fun e => (hK b (s.hx.cap.fa b q).2).trans e) (fun e => e)
   ·exact s.hx.cap.fb.1.imp (fun e => (hK _ s.hx.cap.fb.2).trans e) (fun e => e)
   ·exact s.hx.cap.fr.1.imp (fun e => (hK _ s.hx.cap.fr.2).trans e) (fun e => e)
  ca := by
   have hca : CacheAt { v with near := .map mv } w' (fun b => (K b = t + 2 ∨ b = d.h) ∧ b < w.heap.size) d.h S' := ⟨mv, h1, h2⟩
   exact hca.mono (fun b hb => hb.1.imp (fun e => (hK b hb.2).trans e) (fun e => e))
  st := by
   obtain ⟨F, f1, f2⟩ := s.st
   refine ⟨F, f1.swap s.hx.hb hc (fun b hb hn e => ?_) hb' rfl rfl, fun b hb => (f2 b hb).imp (fun e => (hK b (f1.lt hb)).trans e) (fun e => e)⟩
   rcases f2 b hb with q | q
   ·rcases e with e | e
    ·omega
    ·exact hn e
   ·exact hn q
  pl := s.pl.keep (fun b hb hl => hc.block b hl (fun e => by rcases e with e | e; omega; rw [e, hh] at hb; omega)) (fun b hb hl => (hK b hl).trans hb) rfl
  ct := fun n x hn hx => s.ct n x hn (by
   rw [← hx]
   unfold hostC
   rcases n with _ | _ | _ | _ | _ | _ | _ | _ | _ | _ | _ | _ | _ | _ | _ | _ | _ | n
   all_goals first | rfl | omega)
  id := s.id
  ad := s.ad
  cb := ht
  mb := s.mb }
structure AdR (t : Nat) (K : Nat → Nat) (w : World) (A : Option Addr) (n c : Nat) (l : List Int) : Prop where
 of_ : Of 28 w 0 A n c (by32 l)
 kt : ∀ b, blk A = some b → K b = t + 7
end
open Go.RowKit
theorem im_bk {w : World} {b : Nat} {L : List (Int × Value)} {T : TypeId} {cs : Array Value} (h : IM mkI okI w b L) (hb : Bk w b T cs) : False := by
 obtain ⟨es, cl, h1, _⟩ := h
 unfold Bk at hb
 rw [hb] at h1
 cases h1
theorem im_row {E : TypeId} {k : Nat} {w : World} {base : Nat} {A : Option Addr} {n c : Nat} {xs : List Value} (h : Mr E k w base A n c xs) {b : Nat} {L : List (Int × Value)} (hi : IM mkI okI w b L) : blk A ≠ some b := fun e => by
 obtain ⟨es, cl, h1, _⟩ := hi
 rcases h.2 with ⟨h2, _⟩ | ⟨g, cap, cur, h2, _, h3, _⟩
 ·injection h2 with q1; subst q1; cases e
 ·injection h2 with q1
  subst q1
  injection e with e
  subst e
  rw [h3] at h1
  cases h1
theorem bk_bk {w : World} {a b : Nat} {T U : TypeId} {cs ds : Array Value} (h : Bk w a T cs) (k : Bk w b U ds) (hne : T ≠ U) : a ≠ b := fun e => by
 subst e
 unfold Bk at h k
 rw [h] at k
 injection k with k
 injection k with _ k
 exact hne k
theorem im_im {w : World} {a b : Nat} {p : Int × Value} {L : List (Int × Value)} (h : IM mkI okI w a (p :: L)) (k : IM mkI okI w b []) : a ≠ b := fun e => by
 subst e
 obtain ⟨es, cl, h1, _, h2, _⟩ := h
 obtain ⟨es2, cl2, k1, _, k2, _⟩ := k
 rw [h1] at k1
 injection k1 with k1
 injection k1 with k1
 subst k1
 rw [h2] at k2
 simp at k2
open Go.RowKit
theorem results_b2 {P : Program} {fn : Func} {p q : Tmp} {ty : TypeId} (h : fn.results = #[.cell p ty, .cell q ty]) (tmps : Array Value) (w : World) (g k : Nat) (t : TypeId) (cs ds : Array Value) (d : TypeDesc)
  (hp : tmps.getD p undef = .pointer (some ⟨g, 0, none⟩)) (hq : tmps.getD q undef = .pointer (some ⟨k, 0, none⟩)) (hg : w.heap[g]? = some (.cells cs t (0, 0))) (hk : w.heap[k]? = some (.cells ds t (0, 0)))
  (hu : P.underlying ty = some d) (hd : (match d with | .struct _ | .array _ _ => true | _ => false) = true) (hi : (P.info? ty).map (·.size) = some cs.size) (hi2 : (P.info? ty).map (·.size) = some ds.size) :
  (results fn tmps).run P w = .ok (.tuple #[.agg cs, .agg ds]) w := by
 have hp' : tmps[p]?.getD undef = .pointer (some ⟨g, 0, none⟩) := by simpa using hp
 have hq' : tmps[q]?.getD undef = .pointer (some ⟨k, 0, none⟩) := by simpa using hq
 simp [results, h, hp', hq', asAddr, run_loadVar_row w g t ty cs (0, 0) d hg hu hd hi, run_loadVar_row w k t ty ds (0, 0) d hk hu hd hi2, Result.andThen]
theorem cfg_size : (Tryz.prog.info? 30).map (·.size) = some 9 := by kernel_rfl
theorem hosts_any (w : World) : Calls Tryz.prog 9 #[] w fun e w' => e = .returned (.tuple #[.agg (cfgC (2, 0, 0, 0, 0, 1) 167772161), .agg (cfgC (2, 0, 0, 0, 0, 2) 167772162)]) ∧ Below w.heap.size w w' := by
 have h1 := Bk.new w 30 (cfgC (2, 0, 0, 0, 0, 1) 167772161)
 have h2 := Bk.new (w.alloc (.cells (cfgC (2, 0, 0, 0, 0, 1) 167772161) 30)) 30 (cfgC (2, 0, 0, 0, 0, 2) 167772162)
 rw [World.size_alloc] at h2
 have h3 := h1.alloc (.cells (cfgC (2, 0, 0, 0, 0, 2) 167772162) 30)
 have H2 := Lib.hid (And.intro h2 h3)
 clear h1 h2 h3
 go_enter Tryz.func9, Tryz.ntmps9
 go_wp2
 refine bodyPost_ret (results_b2 rfl _ _ w.heap.size (w.heap.size + 1) 30 (cfgC (2, 0, 0, 0, 0, 1) 167772161) (cfgC (2, 0, 0, 0, 0, 2) 167772162) _ rfl rfl H2.out.2 H2.out.1 Tryz.underlying30 rfl cfg_size cfg_size) rfl ?_
 exact ⟨rfl, ((Below.refl _ _).alloc (Nat.le_refl _) _).alloc (by rw [World.size_alloc]; omega) _⟩
open Go.RowKit
theorem flight_nil (W s0 s1 : Nat) (now last : Int) (begun : Bool) (w : World) (hb : Bk w W 72 (wrC s0 s1 now last begun nilS)) :
  Calls Tryz.prog 12 #[bp W] w fun e w' => e = .returned (.tuple #[nilS, nilS]) ∧ w' = w := by
 have c5 : w.cell? ⟨W, 5, none⟩ = some nilS := hb.cell 5
 clear hb
 go_enter Tryz.func12, Tryz.ntmps12
 go_wp2
 refine wp_loop_rounds 1 ?_; rw [rounds_succ]
 go_wp2
 go_ret2
 exact ⟨rfl, rfl⟩
theorem now_any (W s0 s1 : Nat) (now last : Int) (begun : Bool) (fl : Value) (w : World) (hb : Bk w W 72 (wrC s0 s1 now last begun fl)) :
  Calls Tryz.prog 19 #[bp W] w fun e w' => e = .returned (.int .i64 now) ∧ w' = w := by
 have c2 : w.cell? ⟨W, 2, none⟩ = some (.int .i64 now) := hb.cell 2
 clear hb
 go_enter Tryz.func19, Tryz.ntmps19
 go_wp2
 go_ret
 exact ⟨rfl, rfl⟩
set_option maxHeartbeats 8000000 in
set_option maxRecDepth 100000 in
theorem topsilent_any (hkn : ∀ w : World, Calls Tryz.prog 8 #[] w fun e w' => e = .returned (.bool true) ∧ Below w.heap.size w w') (w : World) (ticks : Int) (A : Option Addr) (n c : Nat) :
  Calls Tryz.prog 6 #[.int .i64 ticks, .slice A n c] w fun e w' => e = .returned (.bool true) ∧ Below w.heap.size w w' := by
 have HKN := Lib.hid hkn
 clear hkn
 go_enter Tryz.func6, Tryz.ntmps6
 by_cases hk : ticks < 1 ∨ 2000 < ticks ∨ (1000 : Int) < n
 ·rcases Int.lt_or_le ticks 1 with c1 | c1
  ·go_wp2_with (go_at_call 8; refine (HKN.out _).mono ?_; rintro e1 w1 ⟨rfl, hB⟩)
   go_ret
   exact ⟨rfl, hB⟩
  ·rcases Int.lt_or_le 2000 ticks with c2 | c2
   ·go_wp2_with (go_at_call 8; refine (HKN.out _).mono ?_; rintro e1 w1 ⟨rfl, hB⟩)
    go_ret
    exact ⟨rfl, hB⟩
   ·have c3 : (1000 : Int) < n := by omega
    go_wp2_with (go_at_call 8; refine (HKN.out _).mono ?_; rintro e1 w1 ⟨rfl, hB⟩)
    go_ret
    exact ⟨rfl, hB⟩
 ·have c1 : ¬ ticks < 1 := by omega
  have c2 : ¬ (2000 : Int) < ticks := by omega
  have c3 : ¬ (1000 : Int) < n := by omega
  obtain ⟨k, rfl⟩ : ∃ k : Nat, ticks = k := ⟨ticks.toNat, by omega⟩
  have HKB : Hid (1 ≤ k ∧ k ≤ 2000) := Lib.hid ⟨by omega, by omega⟩
  clear hk
  have HM := Lib.hid (wnew_any (2, 0, 0, 0, 0, 1) (2, 0, 0, 0, 0, 2) 167772161 167772162 (by decide) (by unfold okH net; decide) (by decide) (by unfold okH net; decide))
  unfold cfgC at HM
  go_wp2_with fail
  refine (hosts_any w).mono ?_
  rintro e1 w1 ⟨rfl, hB1⟩
  have HB1 := Lib.hid hB1
  clear hB1
  unfold cfgC
  go_wp2_with fail
  refine (HM.out _).mono ?_
  rintro e2 w2 ⟨W, F0, F1, rfl, hI, hW, hWl, hF, hB2⟩
  have hBa := ((Below.refl w1.heap.size w1).alloc (Nat.le_refl _) (.cells (cfgC (2, 0, 0, 0, 0, 1) 167772161) 30)).alloc (by rw [World.size_alloc]; omega) (.cells (cfgC (2, 0, 0, 0, 0, 2) 167772162) 30)
  unfold cfgC at hBa
  have HBb := Lib.hid (HB1.out.trans ((hBa.trans (hB2.mono hBa.size)).mono HB1.out.size))
  have hWw : w.heap.size ≤ W := Nat.le_trans (Nat.le_trans HB1.out.size hBa.size) hW
  have HST := Lib.hid (settle_idle W F0 F1 _ _ _ _ 0 0 false k ⟨by have := HKB.out; omega, by have := HKB.out; omega⟩ (by omega) w2 hWl hI)
  have HWW := Lib.hid hWw
  clear hI hW hWl hF hB2 hBa hWw HM
  go_wp2_with fail
  refine HST.out.mono ?_
  rintro e3 w3 ⟨rfl, ⟨last, begun, t3⟩, c3_⟩
  obtain ⟨st0, sm0, d0, st1, sm1, d1, b3, _, _⟩ := t3.ex
  rw [show (0 : Int) + k = k by omega] at b3
  have HB3 := Lib.hid b3
  have HBL : Hid (Below w.heap.size w w3) := Lib.hid (HBb.out.trans (c3_.below (fun b hb => by rw [hb]; exact HWW.out) HBb.out.size))
  clear t3 c3_ b3
  go_wp2_with (first
   | (go_at_call 12; refine (flight_nil W st0 st1 k last begun _ HB3.out).mono ?_; rintro e5 w5 ⟨rfl, rfl⟩)
   | (go_at_call 19; refine (now_any W st0 st1 k last begun nilS _ HB3.out).mono ?_; rintro e5 w5 ⟨rfl, rfl⟩)
   | (go_at_call 8; refine (HKN.out _).mono ?_; rintro e6 w6 ⟨rfl, hB6⟩))
  go_ret
  exact ⟨rfl, HBL.out.trans (hB6.mono HBL.out.size)⟩
open Go.RowKit
theorem zeroFn2 (w : World) : (zeroValue 77).run Tryz.prog w = .ok Value.nilFunc w := by kernel_rfl
set_option maxHeartbeats 4000000 in
set_option maxRecDepth 100000 in
theorem step_call (W : Nat) (w : World) : Calls Tryz.prog 24 #[bp W, .int .i64 1] w fun e w' => e = .returned (.func (.func 55) #[bp W] #[]) ∧ Below w.heap.size w w' := by
 have hmm := @run_makeMap Tryz.prog
 have hmf : ∀ (fn : Fn) (first cap : Array Value) (w : World), (Instr.makeFunc fn first cap).run Tryz.prog w = .ok (.func fn first cap) w := fun _ _ _ _ => rfl
 have hI : IM mkI okI (w.alloc (.map #[] 0)) w.heap.size [] := IM.made _
 go_enter Tryz.func24, Tryz.ntmps24
 go_wp2_with fail
 obtain ⟨v0, r0, i0, g0, e0⟩ := hI.store keyI Tryz.underlying196 (x := 1) (by unfold okI; omega) (.func (.func 55) #[bp W] #[])
 have q0 : (Instr.mapUpdate 196 (.map (some w.heap.size)) (.int .i64 1) (.func (.func 55) #[bp W] #[])).run Tryz.prog (w.alloc (.map #[] 0)) = .ok () v0 := r0
 rw [q0]
 clear r0 q0
 have I0 := Lib.hid i0
 have G0 := Lib.hid g0
 clear g0 e0 i0
 go_wp2_with fail
 obtain ⟨v1, r1, i1, g1, e1⟩ := I0.out.store keyI Tryz.underlying196 (x := 2) (by unfold okI; omega) (.func (.func 56) #[bp W] #[])
 have q1 : (Instr.mapUpdate 196 (.map (some w.heap.size)) (.int .i64 2) (.func (.func 56) #[bp W] #[])).run Tryz.prog v0 = .ok () v1 := r1
 rw [q1]
 clear r1 q1
 have I1 := Lib.hid i1
 have G1 := Lib.hid g1
 clear g1 e1 i1
 go_wp2_with fail
 obtain ⟨v2, r2, i2, g2, e2⟩ := I1.out.store keyI Tryz.underlying196 (x := 3) (by unfold okI; omega) (.func (.func 57) #[bp W] #[])
 have q2 : (Instr.mapUpdate 196 (.map (some w.heap.size)) (.int .i64 3) (.func (.func 57) #[bp W] #[])).run Tryz.prog v1 = .ok () v2 := r2
 rw [q2]
 clear r2 q2
 have I2 := Lib.hid i2
 have G2 := Lib.hid g2
 clear g2 e2 i2
 go_wp2_with fail
 obtain ⟨v3, r3, i3, g3, e3⟩ := I2.out.store keyI Tryz.underlying196 (x := 4) (by unfold okI; omega) (.func (.func 58) #[bp W] #[])
 have q3 : (Instr.mapUpdate 196 (.map (some w.heap.size)) (.int .i64 4) (.func (.func 58) #[bp W] #[])).run Tryz.prog v2 = .ok () v3 := r3
 rw [q3]
 clear r3 q3
 have I3 := Lib.hid i3
 have G3 := Lib.hid g3
 clear g3 e3 i3
 go_wp2_with fail
 obtain ⟨v4, r4, i4, g4, e4⟩ := I3.out.store keyI Tryz.underlying196 (x := 5) (by unfold okI; omega) (.func (.func 59) #[bp W] #[])
 have q4 : (Instr.mapUpdate 196 (.map (some w.heap.size)) (.int .i64 5) (.func (.func 59) #[bp W] #[])).run Tryz.prog v3 = .ok () v4 := r4
 rw [q4]
 clear r4 q4
 have I4 := Lib.hid i4
 have G4 := Lib.hid g4
 clear g4 e4 i4
 go_wp2_with fail
 obtain ⟨v5, r5, i5, g5, e5⟩ := I4.out.store keyI Tryz.underlying196 (x := 6) (by unfold okI; omega) (.func (.func 60) #[bp W] #[])
 have q5 : (Instr.mapUpdate 196 (.map (some w.heap.size)) (.int .i64 6) (.func (.func 60) #[bp W] #[])).run Tryz.prog v4 = .ok () v5 := r5
 rw [q5]
 clear r5 q5
 have hlk : (Instr.lookup 196 (.map (some w.heap.size)) (.int .i64 1) false).run Tryz.prog v5 = .ok (.func (.func 55) #[bp W] #[]) v5 := IM.look i5 keyI Tryz.underlying196 (zeroFn2 _) (show okI 1 by unfold okI; omega) false
 have HBF : Hid (Below w.heap.size w v5) := Lib.hid (by
  have h0 : Below w.heap.size w (w.alloc (.map #[] 0)) := (Below.refl _ _).alloc (Nat.le_refl _) _
  have hn : ∀ b, some w.heap.size = some b → w.heap.size ≤ b := fun b e => by cases e; exact Nat.le_refl _
  exact Below.gr (Below.gr (Below.gr (Below.gr (Below.gr (Below.gr h0 G0.out hn) G1.out hn) G2.out hn) G3.out hn) G4.out hn) g5 hn)
 clear g5 e5 i5
 go_wp2
 go_ret
 exact ⟨rfl, HBF.out⟩
open Go.RowKit
theorem windex_nil (f : Value) (w : World) : Calls Tryz.prog 306 #[nilS, f] w fun e w' => e = .returned (.int .i64 (-1)) ∧ w' = w := by
 go_enter Tryz.func306, Tryz.ntmps306
 go_wp2
 refine wp_loop_rounds 1 ?_; rw [rounds_succ]
 go_wp2
 go_ret
 exact ⟨rfl, rfl⟩
theorem wcontains_nil (f : Value) (w : World) : Calls Tryz.prog 252 #[nilS, f] w fun e w' => e = .returned (.bool false) ∧ w' = w := by
 go_enter Tryz.func252, Tryz.ntmps252
 go_wp2_with fail
 refine (windex_nil _ _).mono ?_
 rintro e1 w1 ⟨rfl, rfl⟩
 go_wp2
 go_ret
 exact ⟨rfl, rfl⟩
theorem waits_nil (st h sm : Nat) (thread : Int) (w : World) (hs : Bk w st 195 #[bp h, .map (some sm), nilS]) :
  Calls Tryz.prog 182 #[bp st, .int .i64 thread] w fun e w' => e = .returned (.bool false) ∧ Below w.heap.size w w' := by
 have hmf : ∀ (fn : Fn) (first cap : Array Value) (w : World), (Instr.makeFunc fn first cap).run Tryz.prog w = .ok (.func fn first cap) w := fun _ _ _ _ => rfl
 obtain ⟨W, hW⟩ : ∃ W, w.alloc (.cells #[.int .i64 thread] 3) = W := ⟨_, rfl⟩
 have hB : Below w.heap.size w W := by rw [← hW]; exact (Below.refl _ _).alloc (Nat.le_refl _) _
 have c2 : W.cell? ⟨st, 2, none⟩ = some nilS := (hs.below hB hs.lt).cell 2
 have HB := Lib.hid hB
 have HW := Lib.hid hW
 clear hs hB hW
 go_enter Tryz.func182, Tryz.ntmps182
 go_upto_region 1 with (fail)
 rw [HW.out]
 go_wp2_with fail
 refine (wcontains_nil _ _).mono ?_
 rintro e1 w1 ⟨rfl, rfl⟩
 go_wp2
 go_ret
 exact ⟨rfl, HB.out⟩
theorem socketed_any (c : Array Value) (w : World) : Calls Tryz.prog 183 #[.agg c] w fun e w' => e = .returned (.func (.func 254) #[] #[bp w.heap.size]) ∧ w' = w.alloc (.cells c 39) := by
 have hmf : ∀ (fn : Fn) (first cap : Array Value) (w : World), (Instr.makeFunc fn first cap).run Tryz.prog w = .ok (.func fn first cap) w := fun _ _ _ _ => rfl
 go_enter Tryz.func183, Tryz.ntmps183
 go_wp2
 go_ret
 exact ⟨rfl, rfl⟩
open Go.RowKit
theorem sbase_any (p : Addr) (w : World) : Calls Tryz.prog 414 #[.pointer (some p)] w fun e w' => e = .returned (.pointer (some p)) ∧ w' = w := by
 go_enter Tryz.func414, Tryz.ntmps414
 go_wp2
 go_ret
 exact ⟨rfl, rfl⟩
theorem ret_size : (Tryz.prog.info? 65).map (·.size) = some 6 := by kernel_rfl
theorem answer_any (er : Int) (w : World) : Calls Tryz.prog 255 #[.int .i64 er] w fun e w' => e = .returned (.tuple #[.agg #[.int .i64 0, .int .i64 er, .int .i64 0, .int .u32 0, .int .i64 0, nilS], .bool true]) ∧ Below w.heap.size w w' := by
 go_enter Tryz.func255, Tryz.ntmps255
 go_wp2
 exact bodyPost_ret (results_b1 rfl _ _ w.heap.size 65 #[.int .i64 0, .int .i64 er, .int .i64 0, .int .u32 0, .int .i64 0, nilS] (0, 0) _ rfl (Bk.new w 65 #[.int .i64 0, .int .i64 er, .int .i64 0, .int .u32 0, .int .i64 0, nilS]) Tryz.underlying65 rfl ret_size) rfl ⟨rfl, (Below.refl _ _).alloc (Nat.le_refl _) _⟩
open Go.RowKit
theorem zeroIface (w : World) : (zeroValue 376).run Tryz.prog w = .ok Value.nilIface w := by kernel_rfl
theorem meth_base (s : Nat) (w : World) : (method (Tryz.prog.types.size + Made.depth) 439 (bp s) "wharf/sock.base").run Tryz.prog w = .ok (414, bp s) w := by kernel_rfl
set_option maxHeartbeats 4000000 in
set_option maxRecDepth 100000 in
theorem slay_new (st h sm s : Nat) (row : Array Value) (w : World) (hs : Bk w st 195 #[bp h, .map (some sm), nilS]) (hm : IM mkI okI w sm []) (hx : Bk w s 443 row) (h0 : row[0]? = some (.int .i64 0)) :
  Calls Tryz.prog 256 #[bp st, .iface 439 (bp s)] w fun e w' => e = .returned (.int .i64 0) ∧ IM mkI okI w' sm [(0, .iface 439 (bp s))] ∧ Chg (fun b => b = sm ∨ b = s) w w' ∧ Bk w' s 443 (row.setIfInBounds 0 (.int .i64 0)) := by
 have hmd : (method 669 439 (bp s) "wharf/sock.base").run Tryz.prog w = .ok (414, bp s) w := meth_base s w
 have s0 : w.cell? ⟨s, 0, none⟩ = some (.int .i64 0) := (hx.cell 0).trans h0
 have sf : w.frozen? ⟨s, 0, none⟩ = false := hx.frozen 0
 have hne : st ≠ s := bk_bk hs hx (by decide)
 have hcs : Chg (fun b => b = s) w (w.setCell ⟨s, 0, none⟩ (.int .i64 0)) := (Chg.refl _ w).set1 _
 have hm2 : IM mkI okI (w.setCell ⟨s, 0, none⟩ (.int .i64 0)) sm [] := hm.keep_ (hcs.block sm hm.lt (fun e => im_bk hm (by rw [e]; exact hx)))
 have c1' : (w.setCell ⟨s, 0, none⟩ (.int .i64 0)).cell? ⟨st, 1, none⟩ = some (.map (some sm)) := by
  exact (hcs.cell (p := ⟨st, 1, none⟩) hs.lt hne).trans (hs.cell 1)
 obtain ⟨v0, r0, i0, g0, e0⟩ := hm2.store keyI Tryz.underlying192 (x := 0) (by unfold okI; omega) (.iface 439 (bp s))
 have q0 : (Instr.mapUpdate 192 (.map (some sm)) (.int .i64 0) (.iface 439 (bp s))).run Tryz.prog (w.setCell ⟨s, 0, none⟩ (.int .i64 0)) = .ok () v0 := r0
 have HF : Hid (IM mkI okI v0 sm [(0, .iface 439 (bp s))] ∧ Chg (fun b => b = sm ∨ b = s) w v0 ∧ Bk v0 s 443 (row.setIfInBounds 0 (.int .i64 0))) := Lib.hid ⟨i0, (hcs.mono (fun _ _ e => .inr e)).trans (Chg.of_grown (F := fun b => b = sm) g0 (fun b e => by injection e with e; exact e.symm)) (fun _ e => .inl (.inl e)), (hx.set 0 _).grown g0 (fun e => by injection e with e; exact im_bk hm (by rw [← e]; exact hx))⟩
 clear r0 i0 g0 e0 hm2 hcs
 have c1 : w.cell? ⟨st, 1, none⟩ = some (.map (some sm)) := hs.cell 1
 go_enter Tryz.func256, Tryz.ntmps256
 have hlk : (Instr.lookup 192 (.map (some sm)) (.int .i64 0) false).run Tryz.prog w = .ok Value.nilIface w := IM.look hm keyI Tryz.underlying192 (zeroIface _) (show okI 0 by unfold okI; omega) false
 go_wp2_with fail
 refine wp_loop_rounds 1 ?_; rw [rounds_succ]
 go_wp2_with fail
 refine (sbase_any _ _).mono ?_
 rintro e1 w1 ⟨rfl, rfl⟩
 go_wp2
 go_ret
 exact ⟨rfl, HF.out⟩
open Go.RowKit
def dgS (bound : Bool) (port : Int) : Array Value := #[.int .i64 0, .bool false, .bool bound, .int .u32 0, .int .i64 port, .bool false, .bool false, .int .i64 0, .bool false, .int .u32 0, .int .i64 0]
abbrev ifS (s : Nat) : Value := .iface 439 (bp s)
def SkAt (w : World) (K : Nat → Nat) (t sm : Nat) : Option (Nat × Bool × Int) → Prop
 | none => IM mkI okI w sm []
 | some (s, b, p) => IM mkI okI w sm [(0, ifS s)] ∧ Bk w s 443 (dgS b p) ∧ K s = t + 8
def sideK (t k : Nat) : Prop := hostK t k ∨ k = t + 8
structure SdS (t : Nat) (K : Nat → Nat) (w : World) (st sm : Nat) (d : HD) (v : HV) (S : List En) (P : Option (Int × List Dg)) (so : Option (Nat × Bool × Int)) : Prop where
 stk : Bk w st 195 #[bp d.h, .map (some sm), nilS]
 hs : HostS t K w d v S [] P
 sk : SkAt w K t sm so
 kst : K st = t + 8
 ksm : K sm = t + 8
section
variable {t : Nat} {K K' : Nat → Nat} {w w' : World} {st sm : Nat} {d : HD} {v v' : HV} {S S' : List En} {Lr Lr' : List Rec} {P P' : Option (Int × List Dg)} {so : Option (Nat × Bool × Int)}
theorem sideK_host {k : Nat} (h : hostK t k) : sideK t k := .inl h
theorem sideK_8 : sideK t (t + 8) := .inr rfl
theorem SkAt.lt (h : SkAt w K t sm so) : sm < w.heap.size := by
 rcases so with _ | ⟨s, b, p⟩
 ·exact IM.lt h
 ·exact IM.lt h.1
theorem SkAt.keep (h : SkAt w K t sm so) (hm : K sm = t + 8) (hk : ∀ b, b < w.heap.size → K b = t + 8 → w'.heap[b]? = w.heap[b]?) (hK : ∀ b, b < w.heap.size → K b = t + 8 → K' b = t + 8) : SkAt w' K' t sm so := by
 rcases so with _ | ⟨s, b, p⟩
 ·exact IM.keep_ h (hk _ (IM.lt h) hm)
 ·exact ⟨IM.keep_ h.1 (hk _ (IM.lt h.1) hm), (hk _ h.2.1.lt h.2.2).trans h.2.1, hK _ h.2.1.lt h.2.2⟩
theorem SdS.keep (s : SdS t K w st sm d v S P so) {G : Nat → Prop} (hc : Chg G w w') (hG : ∀ b, b < w.heap.size → sideK t (K b) → ¬ G b) (hK : ∀ b, b < w.heap.size → sideK t (K b) → K' b = K b) : SdS t K' w' st sm d v S P so where
 stk := s.stk.chg hc (hG _ s.stk.lt (.inr s.kst))
 hs := s.hs.keepH hc (fun b hb hk => hG b hb (.inl hk)) (fun b hb hk => hK b hb (.inl hk))
 sk := s.sk.keep s.ksm (fun b hb hk => hc.block b hb (hG b hb (.inr hk))) (fun b hb hk => (hK b hb (.inr hk)).trans hk)
 kst := (hK _ s.stk.lt (.inr s.kst)).trans s.kst
 ksm := (hK _ s.sk.lt (.inr s.ksm)).trans s.ksm
theorem SdS.below (s : SdS t K w st sm d v S P so) (hb : Below w.heap.size w w') : SdS t K w' st sm d v S P so := s.keep (Chg.of_below (F := fun _ => False) hb) (fun _ _ _ e => e) (fun _ _ _ => rfl)
theorem SdS.drewN (s : SdS t K w st sm d v S P so) (n : Nat) : SdS t K (w.drewN n) st sm d v S P so := s.below (bel_drewN (Below.refl _ _) n)
theorem SdS.host (s : SdS t K w st sm d v S P so) (hs : HostS t K' w' d v' S' [] P') (hK : ∀ b, b < w.heap.size → K' b = K b) (hc : Chg (fun b => hostK t (K b)) w w') : SdS t K' w' st sm d v' S' P' so where
 stk := s.stk.chg hc (fun e => by rw [s.kst] at e; exact absurd e.2 (by omega))
 hs := hs
 sk := s.sk.keep s.ksm (fun b hb hk => hc.block b hb (fun e => by rw [hk] at e; exact absurd e.2 (by omega))) (fun b hb hk => (hK b hb).trans hk)
 kst := (hK _ s.stk.lt).trans s.kst
 ksm := (hK _ s.sk.lt).trans s.ksm
theorem work_end2 {K1 : Nat → Nat} {now draw : Int} {L' : List (List Int)} (k1 : ∀ b, b < w.heap.size → hostK t (K b) → K1 b = K b) (k2 : ∀ b, b < w.heap.size → ¬ hostK t (K b) → K1 b = t + 7) (ht : t ≤ 20)
  (h : PostW t K1 (w.alloc (.cells (wkC d.h now draw nilS nilS) 173)) w.heap.size d now draw v' S' Lr' P' L' w') :
  ∃ K' fA fc vs, HostS t K' w' d v' S' Lr' P' ∧ (∀ b, b < w.heap.size → K' b = K b) ∧ (∀ b, w.heap.size ≤ b → hostK t (K' b) ∨ K' b = 40) ∧ Chg (fun b => hostK t (K b)) w w' ∧ Bk w' w.heap.size 173 (wkC d.h now draw (.slice fA L'.length fc) nilS) ∧
   Of 37 w' 0 fA L'.length fc vs ∧ RowsAt w' (fun b => K' b = 40 ∧ w.heap.size ≤ b) vs L' ∧ ∀ b, blk fA = some b → K' b = 40 ∧ w.heap.size ≤ b := by
 classical
 obtain ⟨K2, q1, q2, q3, q4⟩ := h
 obtain ⟨⟨fA, fn, fc, vs, h1, h2, h3, h4⟩, _⟩ := q3
 have hlen : fn = L'.length := by rw [← h2.length]; exact h3.length
 have hz : (w.alloc (.cells (wkC d.h now draw nilS nilS) 173)).heap.size = w.heap.size + 1 := World.size_alloc w _
 obtain ⟨K3, r1, r2, r3⟩ : ∃ K3 : Nat → Nat, (∀ b, b < w.heap.size → K3 b = K b) ∧ (∀ b, w.heap.size ≤ b → hostK t (K2 b) → K3 b = K2 b) ∧ (∀ b, w.heap.size ≤ b → ¬ hostK t (K2 b) → K3 b = 40) :=
  ⟨fun b => if b < w.heap.size then K b else if hostK t (K2 b) then K2 b else 40, fun b hb => if_pos hb, fun b hb hk => by simp only [if_neg (show ¬ b < w.heap.size by omega), if_pos hk], fun b hb hk => by simp only [if_neg (show ¬ b < w.heap.size by omega), if_neg hk]⟩
 have hcw : Chg (fun b => hostK t (K b)) w w' := (Chg.of_below (F := fun b => hostK t (K b)) ((Below.refl _ _).alloc (Nat.le_refl _) _)).trans q4 (fun x hx => by
  rcases Nat.lt_or_ge x w.heap.size with e | e
  ·left
   rcases Classical.em (hostK t (K x)) with hk | hk
   ·exact hk
   ·rw [k2 x e hk] at hx; exact absurd hx.2 (by omega)
  ·exact .inr e)
 have h5 : ∀ b, K2 b = t + 5 → K3 b = 40 ∧ w.heap.size ≤ b := fun b e => by
  rcases Nat.lt_or_ge b w.heap.size with hl | hl
  ·exfalso
   rw [q1 b (by rw [hz]; omega)] at e
   rcases Classical.em (hostK t (K b)) with hq | hq
   ·rw [k1 b hl hq] at e; rw [e] at hq; exact absurd hq.2 (by omega)
   ·rw [k2 b hl hq] at e; omega
  ·exact ⟨r3 b hl (fun q => by rw [e] at q; exact absurd q.2 (by omega)), hl⟩
 refine ⟨K3, fA, fc, vs, q2.keepH (G := fun _ => False) (Chg.refl _ _) (fun _ _ _ e => e) (fun b _ hk => ?_), r1, fun b hb => ?_, hcw, by rw [← hlen]; exact h1, by rw [← hlen]; exact h2, h3.keep (fun _ _ _ => rfl) h5, fun b hb => h5 b (h4 b hb)⟩
 ·rcases Nat.lt_or_ge b w.heap.size with e | e
  ·rw [q1 b (by rw [hz]; omega)] at hk ⊢
   rcases Classical.em (hostK t (K b)) with hq | hq
   ·rw [k1 b e hq]; exact r1 b e
   ·rw [k2 b e hq] at hk; exact absurd hk.2 (by omega)
  ·exact r2 b e hk
 ·rcases Classical.em (hostK t (K2 b)) with hq | hq
  ·left; rw [r2 b hb hq]; exact hq
  ·exact .inr (r3 b hb hq)
def HostR (t : Nat) (K : Nat → Nat) (w : World) (d : HD) (R : HV → List En → Option (Int × List Dg) → List (List Int) → Prop) (e : Ending) (w' : World) : Prop :=
 ∃ v' S' P' L' K' fA fc vs, e = .returned (.slice fA L'.length fc) ∧ R v' S' P' L' ∧ HostS t K' w' d v' S' [] P' ∧ (∀ b, b < w.heap.size → K' b = K b) ∧ (∀ b, w.heap.size ≤ b → hostK t (K' b) ∨ K' b = 40) ∧ Chg (fun b => hostK t (K b)) w w' ∧
  Of 37 w' 0 fA L'.length fc vs ∧ RowsAt w' (fun b => K' b = 40 ∧ w.heap.size ≤ b) vs L' ∧ ∀ b, blk fA = some b → K' b = 40 ∧ w.heap.size ≤ b
end
end Go.Proofs.YtaeafkdfbcppgaaGreat
