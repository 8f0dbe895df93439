/- Proved: a packet for a neighbour where none is known: he is asked for; so many ticks pass in a world of which nothing was asked: nothing is said, nothing is under way; a world of which nothing is asked settles, and says nothing; a host answers by an ICMP message; what a host does with a packet that a frame . Conditions: as each law says. -/
import Derived.Test.YtaeafkdfbcppgaaGreatT15
import Derived.Test.YtaeafkdfbcppgaaGreatT20
import Derived.Test.YtaeafkdfbcppgaaGreatT27
import Derived.Test.YtaeafkdfbcppgaaGreatT28
set_option linter.unusedSectionVars false
set_option linter.unusedSimpArgs false
set_option linter.unusedVariables false
namespace Go.Proofs.YtaeafkdfbcppgaaGreat
open Go.RowKit
theorem psend_new (V : HV) (a : Int) (ha : okA a) (n : Nat) (l : List Int) (hn : l.length = n) (hmax : n ≤ 140737488355328) (hb : Bs l) (now : Int) (hnow : -9223372036854775808 ≤ now ∧ now ≤ 9223372036854775807) (w : World) (A : Option Addr) (c B : Nat) (F : Nat → Prop) (g : Nat) (hr : RB w B A l) (hB : B ≤ w.heap.size) (h : CacheAt V w F g []) :
  Calls Tryz.prog 234 #[.pointer (some ⟨g, 8, none⟩), .int .u32 a, .slice A n c, .int .i64 now] w (fun e w' => ∃ T', SendT (absT []) a now l (toldC false noMac true false) T' ∧ SendPost V w F g (toldC false noMac true false) T' e w') :=
 (send_room a ha A n c B l hn hmax hb now hnow w hr hB F g [] h (fun x hx => by cases hx) (.inl (by simp))).mono fun e w' ⟨S2, hS2, hp⟩ => ⟨_, .inr (.inr (.inr (.inl ⟨none_abs (fun x hx => by cases hx), _, room_T hS2, rfl, rfl⟩))), hp⟩
theorem whops_new (t : Nat) (K : Nat → Nat) (w : World) (d : HD) (v : HV) (S : List En) (hS : S = []) (Lr : List Rec) (P : Option (Int × List Dg)) (wk : Nat) (now draw : Int) (L : List (List Int)) (a : Int) (ha : okA a) (hL : L.length ≤ 1000000) (A : Option Addr) (n c : Nat) (l : List Int) (hn : l.length = n) (hmax : n ≤ 1000000) (hbl : Bs l) (hnow : -9223372036854775808 ≤ now ∧ now ≤ 9223372036854775807) (hr : RB w w.heap.size A l)
  (hAK : ∀ b, blk A = some b → ¬ (K b = t + 2 ∨ b = d.h)) (hs : HostS t K w d v S Lr P) (hw : WkS t K w wk d now draw L) :
  Calls Tryz.prog 165 #[.pointer (some ⟨wk, 0, none⟩), .int .u32 a, .slice A n c] w fun e w' => e = .returned (.tuple #[]) ∧ ∃ v' S' L', HopR v S a now l L v' S' L' ∧ PostW t K w wk d now draw v' S' Lr P L' w' := by
 subst hS
 exact whops_ask t K w d v [] Lr P wk now draw L a ha hL A n c l hn hmax hbl hr hAK hs hw _ rfl (fun w A c B F g hr hB h => psend_new v a ha n l hn (by omega) hbl now hnow w A c B F g hr hB h)
open Go.RowKit
theorem quiet_idle {w : World} {W : Nat} {F : Nat → Prop} {st sm : Nat} {d : HD} {m : Int × Int × Int × Int × Int × Int} {a : Int} (t : Idle w F st sm d m a) (hW : ¬ F W) (now : Int) (h0 : 0 ≤ now ∧ now ≤ 9223372036854775807) : Quiet w W st now := fun dr w1 hc => by
 have t1 : Idle w1 F st sm d m a := t.chg hc (fun b hb e => hW (by rw [← e]; exact hb))
 exact kticks_of st d.h sm now dr w1 t1.1.stk (fun w2 hb => htick_idle d.h _ now dr h0 w2 (t1.1.host.hb.below hb t1.1.host.hb.lt) rfl rfl rfl)
theorem WIdle.next {w w' : World} {W : Nat} {F0 F1 : Nat → Prop} {m m' : Int × Int × Int × Int × Int × Int} {a a' now last now' last' : Int} {begun begun' : Bool} (t : WIdle w W F0 F1 m m' a a' now last begun)
  (hb : ∀ st0 st1, Bk w W 72 (wrC st0 st1 now last begun nilS) → Bk w' W 72 (wrC st0 st1 now' last' begun' nilS)) (hc : Chg (fun b => b = W) w w') : WIdle w' W F0 F1 m m' a a' now' last' begun' := by
 obtain ⟨st0, sm0, d0, st1, sm1, d1, h1, h2, h3⟩ := t.ex
 exact ⟨⟨st0, sm0, d0, st1, sm1, d1, hb _ _ h1, h2.chg hc (fun b hb e => t.nW0 (by rw [← e]; exact hb)), h3.chg hc (fun b hb e => t.nW1 (by rw [← e]; exact hb))⟩, t.apart, t.nW0, t.nW1⟩
theorem wrC_inj {s0 s1 t0 t1 : Nat} {now last now' last' : Int} {b b' : Bool} {f f' : Value} (h : wrC s0 s1 now last b f = wrC t0 t1 now' last' b' f') : s0 = t0 ∧ s1 = t1 := by
 unfold wrC at h
 simp at h
 exact ⟨h.1, h.2.1⟩
theorem Bk.inj_ {w : World} {g : Nat} {t : TypeId} {x y : Array Value} (h : Bk w g t x) (k : Bk w g t y) : x = y := by
 unfold Bk at h k
 rw [h] at k
 injection k with k
 injection k
theorem passes_idle (W tb wb : Nat) (F0 F1 : Nat → Prop) (m m' : Int × Int × Int × Int × Int × Int) (a a' now last : Int) (begun : Bool) (hnow : 0 ≤ now ∧ now ≤ 4611686018427387904) (w : World) (t : WIdle w W F0 F1 m m' a a' now last begun) :
  Calls Tryz.prog 54 #[bp W, toV tb wb] w fun e w' => e = .returned (.tuple #[]) ∧ WIdle w' W F0 F1 m m' a a' (now + 1) (nextDraw (nextDraw last begun) true) true ∧ Chg (fun b => b = W) w w' := by
 have t' := t
 obtain ⟨st0, sm0, d0, st1, sm1, d1, h1, h2, h3⟩ := t.ex
 refine (passes_of W st0 st1 tb wb now last begun nilS hnow w h1 (quiet_idle h2 t.nW0 _ (by omega)) (quiet_idle h3 t.nW1 _ (by omega))).mono ?_
 rintro e w' ⟨rfl, hb, hc⟩
 exact ⟨rfl, t'.next (fun s0 s1 k => by obtain ⟨e1, e2⟩ := wrC_inj (Bk.inj_ h1 k); subst e1; subst e2; exact hb) hc, hc⟩
theorem gather_any (p q : Nat) (w : World) : Calls Tryz.prog 25 #[bp p, bp q] w fun e w' => e = .returned (.func (.func 61) #[] #[bp (w.heap.size + 1), bp w.heap.size]) ∧ w' = (w.alloc (.cells #[bp p] 33)).alloc (.cells #[bp q] 84) := by
 have hmf : ∀ (fn : Fn) (first cap : Array Value) (w : World), (Instr.makeFunc fn first cap).run Tryz.prog w = .ok (.func fn first cap) w := fun _ _ _ _ => rfl
 go_enter Tryz.func25, Tryz.ntmps25
 go_wp2
 go_ret
 exact ⟨rfl, rfl⟩
open Go.RowKit
theorem WIdle.below {w w' : World} {W : Nat} {F0 F1 : Nat → Prop} {m m' : Int × Int × Int × Int × Int × Int} {a a' now last : Int} {begun : Bool} (t : WIdle w W F0 F1 m m' a a' now last begun) (hb : Below w.heap.size w w') : WIdle w' W F0 F1 m m' a a' now last begun :=
 t.next (fun _ _ k => k.below hb k.lt) (Chg.of_below hb)
def StlI (w1 : World) (W : Nat) (F0 F1 : Nat → Prop) (m m' : Int × Int × Int × Int × Int × Int) (a a' : Int) (now : Int) (wr : World) : Prop :=
 (∃ last begun, WIdle wr W F0 F1 m m' a a' now last begun) ∧ Chg (fun b => b = W) w1 wr
set_option maxHeartbeats 8000000 in
set_option maxRecDepth 100000 in
theorem settle_idle (W : Nat) (F0 F1 : Nat → Prop) (m m' : Int × Int × Int × Int × Int × Int) (a a' now last : Int) (begun : Bool) (ticks : Nat) (ht : 1 ≤ ticks ∧ ticks ≤ 4096) (hnow : 0 ≤ now ∧ now ≤ 1000000000000) (w : World) (hW : W < w.heap.size) (t : WIdle w W F0 F1 m m' a a' now last begun) :
  Calls Tryz.prog 21 #[bp W, .int .i64 ticks] w fun e w' => e = .returned (.tuple #[nilS, nilS]) ∧ StlI w W F0 F1 m m' a a' (now + ticks) w' := by
 have hmin : min (4096 : Int) (ticks : Int) = ticks := by omega
 have hmax : max (0 : Int) (ticks : Int) = ticks := by omega
 obtain ⟨w1, hw1⟩ : ∃ w1, w.alloc (.cells #[nilS, nilS] 80) = w1 := ⟨_, rfl⟩
 have h1 : Below w.heap.size w w1 := by rw [← hw1]; exact (Below.refl _ _).alloc (Nat.le_refl _) _
 have k1 : Bk w1 w.heap.size 80 #[nilS, nilS] := by rw [← hw1]; exact Bk.new _ _ _
 obtain ⟨w2, hw2⟩ : ∃ w2, (w1.alloc (.cells #[bp W] 33)).alloc (.cells #[bp w.heap.size] 84) = w2 := ⟨_, rfl⟩
 have h2 : Below w1.heap.size w1 w2 := by rw [← hw2]; exact ((Below.refl _ _).alloc (Nat.le_refl _) _).alloc (by rw [World.size_alloc]; omega) _
 have HG : Hid (Calls Tryz.prog 25 #[bp W, bp w.heap.size] w1 fun e w' => e = .returned (toV (w1.heap.size + 1) w1.heap.size) ∧ w' = w2) := Lib.hid ((gather_any W w.heap.size w1).mono (fun e w' q => ⟨q.1, q.2.trans hw2⟩))
 have HW1 : Hid (w.alloc (.cells #[.slice none 0 0, .slice none 0 0] 80) = w1) := Lib.hid hw1
 have ht2 := (t.below h1).below h2
 have HK := Lib.hid (k1.below h2 k1.lt)
 have HX := Lib.hid (And.intro ht (And.intro hnow hW))
 have HS0 : Hid (StlI w W F0 F1 m m' a a' now w2) := Lib.hid ⟨⟨_, _, ht2⟩, (Chg.of_below (F := fun b => b = W) h1).trans (Chg.of_below (F := fun _ => False) h2) (fun _ e => e.elim)⟩
 have hne : w.heap.size ≠ W := by omega
 have HSS : Hid (StlI w2 W F0 F1 m m' a a' now w2) := Lib.hid ⟨⟨_, _, ht2⟩, Chg.refl _ _⟩
 have HB2 := Lib.hid (And.intro h1 h2)
 clear hw1 hw2 h1 h2 k1 ht2 t hW hnow
 go_enter Tryz.func21, Tryz.ntmps21
 go_wp2_with fail
 rw [HW1.out]
 refine HG.out.mono ?_
 rintro e1 w3 ⟨rfl, rfl⟩
 unfold toV
 go_wp2
 go_loopw [8] (fun v8 wr => ∃ l : Nat, l ≤ ticks ∧ v8 = .int .i64 l ∧ Hid (StlI w3 W F0 F1 m m' a a' (now + ticks - l) wr)) (fun v8 _ => (intOf v8).toNat)
 case atStart => exact ⟨ticks, Nat.le_refl _, rfl, by rw [show now + (ticks : Int) - (ticks : Int) = now by omega]; exact HSS⟩
 case round =>
  obtain ⟨l, hl, rfl, HS⟩ := hrel
  obtain ⟨⟨last2, begun2, t2⟩, hc2⟩ := HS.out
  obtain ⟨st0, sm0, d0, st1, sm1, d1, b2, _, _⟩ := t2.ex
  have z5 : wr.cell? ⟨W, 5, none⟩ = some nilS := b2.cell 5
  have HT2 := Lib.hid (And.intro t2 hc2)
  have hkt := HK.out.chg hc2 hne
  have y0 : wr.cell? ⟨w.heap.size, 0, none⟩ = some nilS := hkt.cell 0
  have y1 : wr.cell? ⟨w.heap.size, 1, none⟩ = some nilS := hkt.cell 1
  clear t2 hc2 b2 hkt
  rcases Nat.eq_zero_or_pos l with h0 | h0
  ·subst h0
   go_wp2_with fail
   refine wp_loop_rounds 1 ?_; rw [rounds_succ]
   go_wp2_with fail
   go_quiet (fail)
   have HF : Hid (StlI w W F0 F1 m m' a a' (now + ticks) (wr.drewN nq)) := Lib.hid (by
    obtain ⟨t2, c2⟩ := HT2.out
    rw [show now + (ticks : Int) - ((0 : Nat) : Int) = now + ticks by omega] at t2
    exact ⟨⟨_, _, t2.below (bel_drewN (Below.refl _ _) nq)⟩, (HS0.out.2.trans c2 (fun _ e => .inl e)).drewN nq⟩)
   clear z5 y0 y1
   go_wp2
   go_ret2
   exact ⟨rfl, HF.out⟩
  ·obtain ⟨l2, rfl⟩ : ∃ l2, l = l2 + 1 := ⟨l - 1, by omega⟩
   have hp := passes_idle W (w1.heap.size + 1) w1.heap.size F0 F1 m m' a a' (now + ticks - ((l2 + 1 : Nat) : Int)) last2 begun2 (by have := HX.out; omega) wr HT2.out.1
   unfold toV at hp
   have HP := Lib.hid hp
   clear hp y0 y1
   go_wp2_with fail
   refine wp_loop_rounds 1 ?_; rw [rounds_succ]
   go_wp2_with fail
   refine HP.out.mono ?_
   rintro e4 w4 ⟨rfl, t4, c4⟩
   have HN : Hid (StlI w3 W F0 F1 m m' a a' (now + ticks - (l2 : Int)) w4) := Lib.hid (by
    rw [show now + (ticks : Int) - ((l2 + 1 : Nat) : Int) + 1 = now + ticks - l2 by omega] at t4
    exact ⟨⟨_, _, t4⟩, HT2.out.2.trans c4 (fun _ e => .inl e)⟩)
   clear t4 c4 z5
   go_wp2
   go_roundw
   case rel => exact ⟨l2, by omega, by go_num, HN⟩
   case measure => first | omega | go_num | (simp [intOf]; done) | (simp [intOf]; omega)
open Go.RowKit
theorem good_nil : goodO [] = true := by rfl
open Go.RowKit
structure TakeP (ad : Int) (q : PkV) (ol dl : List Int) : Prop where
 ok : q.Ok
 ol : ol.length ≤ 40
 dl : dl.length ≤ 65515
 src : q.src < 3758096384
 mi : isMine q.src ad = false
theorem ipP_ok {l : List Int} (h : Bs l) : (ipP l).Ok where
 svc := by have := at8_bd h 1; exact ⟨by show _ ≤ at8 l 1; omega, by show at8 l 1 ≤ _; omega⟩
 id := by have := rd2_bd h 4; exact ⟨by show _ ≤ rd2 l 4; omega, by show rd2 l 4 ≤ _; omega⟩
 off := ⟨by show _ ≤ rd2 l 6 % 8192 * 8; omega, by show rd2 l 6 % 8192 * 8 ≤ _; omega⟩
 life := by have := at8_bd h 8; exact ⟨by show _ ≤ at8 l 8; omega, by show at8 l 8 ≤ _; omega⟩
 proto := by have := at8_bd h 9; exact ⟨by show _ ≤ at8 l 9; omega, by show at8 l 9 ≤ _; omega⟩
 src := rd4_bd h 12
 dst := rd4_bd h 16
theorem ipOl_len {l : List Int} (h : Bs l) : (ipOl l).length ≤ 40 := by
 have := at8_bd h 0
 unfold ipOl ipHn
 rw [List.length_take]
 omega
theorem ipDl_len {l : List Int} (h : Bs l) (he : ipErr l = 0) : (ipDl l).length ≤ 65515 := by
 have h2 := rd2_bd h 2
 have hq : ¬ ipHn l < 20 := by
  intro hh
  unfold ipErr at he
  split at he
  ·cases he
  ·split at he
   ·cases he
   ·rename_i h3; exact h3 (.inr hh)
 unfold ipDl
 rw [List.length_take]
 unfold ipWh
 omega
set_option maxHeartbeats 4000000 in
set_option maxRecDepth 100000 in
theorem wpacket_any (t : Nat) (K : Nat → Nat) (w : World) (d : HD) (v : HV) (S : List En) (Lr : List Rec) (P : Option (Int × List Dg)) (wk : Nat) (now draw : Int) (L : List (List Int)) (A : Option Addr) (n c : Nat) (l : List Int) (hr : RowK t K w A n c l) (hn : n ≤ 2000) (R : HV → List En → List Rec → Option (Int × List Dg) → List (List Int) → Prop)
  (hC : ∀ K' w' oA on oc dA dn dc, ipErr l = 0 → TakeP v.addr (ipP l) (ipOl l) (ipDl l) → RowK t K' w' oA on oc (ipOl l) → RowK t K' w' dA dn dc (ipDl l) → HostS t K' w' d v S Lr P → WkS t K' w' wk d now draw L →
   Calls Tryz.prog 91 #[.pointer (some ⟨wk, 0, none⟩), .agg (pkC (ipP l) (.slice oA on oc) (.slice dA dn dc))] w' fun e w'' => e = .returned (.tuple #[]) ∧ ∃ v' S' Lr' P' L', R v' S' Lr' P' L' ∧ PostW t K' w' wk d now draw v' S' Lr' P' L' w'')
  (h2 : ipErr l = 0 → (isOurs (ipP l).dst v.addr = false ∨ 3758096384 ≤ (ipP l).src ∨ isMine (ipP l).src v.addr = true) → R (cnt 2 v) S Lr P L) (h3 : ipErr l ≠ 0 → R (cnt 3 v) S Lr P L) (hs : HostS t K w d v S Lr P) (hw : WkS t K w wk d now draw L) :
  Calls Tryz.prog 90 #[.pointer (some ⟨wk, 0, none⟩), .slice A n c] w fun e w' => e = .returned (.tuple #[]) ∧ ∃ v' S' Lr' P' L', R v' S' Lr' P' L' ∧ PostW t K w wk d now draw v' S' Lr' P' L' w' := by
 obtain ⟨K2, a0, k2a, k2b⟩ := (At.start hs hw).fresh
 have HA1 := Lib.hid a0
 have hdec := ipd_any A n c w.heap.size l hr.len hr.cap (by omega) hr.bs w hr.rb (Nat.le_refl _)
 unfold IpDec at hdec
 have HX := Lib.hid (And.intro hr (And.intro hn (And.intro hC (And.intro h2 (And.intro h3 (And.intro k2b hs.ad))))))
 clear a0 k2a k2b hr hn hC h2 h3 hs hw
 by_cases hz : ipErr l = 0
 ·have hdec : Calls Tryz.prog 29 #[.slice A n c] w fun e w' => ∃ A1 n1 c1 A2 n2 c2, e = .returned (.tuple #[.agg (pkC (ipP l) (.slice A1 n1 c1) (.slice A2 n2 c2)), .int .i64 0]) ∧ OB 5 w' w.heap.size A1 n1 c1 (ipOl l) ∧ OB 5 w' w.heap.size A2 n2 c2 (ipDl l) ∧ Below w.heap.size w w' := hdec.mono fun e w' ⟨A1, n1, c1, A2, n2, c2, q1, q2, q3⟩ => ⟨A1, n1, c1, A2, n2, c2, by rw [if_pos hz, hz] at q1; exact q1, (q2 hz).1, (q2 hz).2, q3⟩
  have hqk := ipP_ok HX.out.1.bs
  have hq1 := ipOl_len HX.out.1.bs
  have hq2 := ipDl_len HX.out.1.bs hz
  have hb1 : Bs (ipOl l) := by unfold ipOl; exact (HX.out.1.bs.drop _).take _
  have hb2 : Bs (ipDl l) := by unfold ipDl; exact (HX.out.1.bs.drop _).take _
  have HC : Hid (∀ K' w' oA on oc dA dn dc, TakeP v.addr (ipP l) (ipOl l) (ipDl l) → RowK t K' w' oA on oc (ipOl l) → RowK t K' w' dA dn dc (ipDl l) → HostS t K' w' d v S Lr P → WkS t K' w' wk d now draw L →
   Calls Tryz.prog 91 #[.pointer (some ⟨wk, 0, none⟩), .agg (pkC (ipP l) (.slice oA on oc) (.slice dA dn dc))] w' fun e w'' => e = .returned (.tuple #[]) ∧ ∃ v' S' Lr' P' L', R v' S' Lr' P' L' ∧ PostW t K' w' wk d now draw v' S' Lr' P' L' w'') := Lib.hid (fun K' w' oA on oc dA dn dc => HX.out.2.2.1 K' w' oA on oc dA dn dc hz)
  have H2 : Hid ((isOurs (ipP l).dst v.addr = false ∨ 3758096384 ≤ (ipP l).src ∨ isMine (ipP l).src v.addr = true) → R (cnt 2 v) S Lr P L) := Lib.hid (HX.out.2.2.2.1 hz)
  generalize ipP l = q at *
  generalize ipOl l = ol at *
  generalize ipDl l = dl at *
  unfold pkC at hdec
  have HDEC := Lib.hid hdec
  have HQ := Lib.hid (And.intro hqk (And.intro hq1 (And.intro hq2 (And.intro hb1 hb2))))
  clear hdec hqk hq1 hq2 hb1 hb2 hz
  go_enter Tryz.func90, Tryz.ntmps90
  go_wp2_with fail
  refine HDEC.out.mono ?_
  rintro e1 w1 ⟨A1, n1, c1, A2, n2, c2, rfl, ho1, ho2, hB1⟩
  have hb2 : Below w1.heap.size w1 (w1.alloc (.cells #[.int .i64 q.svc, .int .i64 q.id, .bool q.whole, .bool q.more, .int .i64 q.off, .int .i64 q.life, .int .i64 q.proto, .int .u32 q.src, .int .u32 q.dst, .slice A1 n1 c1, .slice A2 n2 c2] 97)) := (Below.refl _ _).alloc (Nat.le_refl _) _
  have hm2 := Bk.new w1 97 #[.int .i64 q.svc, .int .i64 q.id, .bool q.whole, .bool q.more, .int .i64 q.off, .int .i64 q.life, .int .i64 q.proto, .int .u32 q.src, .int .u32 q.dst, .slice A1 n1 c1, .slice A2 n2 c2]
  have HA2 := Lib.hid (HA1.out.below hB1)
  have HR1 := Lib.hid (And.intro (RowK.new ho1 HQ.out.2.2.2.1 (Nat.le_refl _) HX.out.2.2.2.2.2.1 : RowK t K2 w1 A1 n1 c1 ol) (RowK.new ho2 HQ.out.2.2.2.2 (Nat.le_refl _) HX.out.2.2.2.2.2.1 : RowK t K2 w1 A2 n2 c2 dl))
  clear hB1 ho1 ho2
  go_upto_region 4 with (fail)
  generalize w1.alloc (.cells #[.int .i64 q.svc, .int .i64 q.id, .bool q.whole, .bool q.more, .int .i64 q.off, .int .i64 q.life, .int .i64 q.proto, .int .u32 q.src, .int .u32 q.dst, .slice A1 n1 c1, .slice A2 n2 c2] 97) = w2 at hb2 hm2 ⊢
  have HA3 := Lib.hid (HA2.out.below hb2)
  have HR2 := Lib.hid (And.intro (HR1.out.1.below hb2) (HR1.out.2.below hb2))
  have HM2 := Lib.hid hm2
  have HGM := Lib.hid HA2.out.le
  clear hb2 hm2 HA2 HR1
  generalize w1.heap.size = gm at *
  have x0 : w2.cell? ⟨wk, 0, none⟩ = some (bp d.h) := HA3.out.wk0
  have i7 : w2.cell? ⟨gm, 7, none⟩ = some (.int .u32 q.src) := HM2.out.cell 7
  have i8 : w2.cell? ⟨gm, 8, none⟩ = some (.int .u32 q.dst) := HM2.out.cell 8
  have HOU : Hid (∀ n, Calls Tryz.prog 149 #[.pointer (some ⟨d.h, 0, none⟩), .int .u32 q.dst] (w2.drewN n) fun e w' => e = .returned (.bool (isOurs q.dst v.addr)) ∧ ∃ m, w' = (w2.drewN n).drewN m) := Lib.hid (fun n => ours_q _ d.h v q.dst (HA3.out.hb.drewN n) HX.out.2.2.2.2.2.2.2.1 HA3.out.hs.hx.grp HX.out.2.2.2.2.2.2.1.1)
  have HMI : Hid (∀ n, Calls Tryz.prog 79 #[.pointer (some ⟨d.h, 0, none⟩), .int .u32 q.src] (w2.drewN n) fun e w' => e = .returned (.bool (isMine q.src v.addr)) ∧ w' = w2.drewN n) := Lib.hid (fun n => mine_q _ d.h v q.src (HA3.out.hb.drewN n))
  have fin : Hid (∀ n, At t K w wk d now draw v S Lr P L K2 (w2.drewN n) ∧ Bk (w2.drewN n) gm 97 #[.int .i64 q.svc, .int .i64 q.id, .bool q.whole, .bool q.more, .int .i64 q.off, .int .i64 q.life, .int .i64 q.proto, .int .u32 q.src, .int .u32 q.dst, .slice A1 n1 c1, .slice A2 n2 c2] ∧ RowK t K2 (w2.drewN n) A1 n1 c1 ol ∧ RowK t K2 (w2.drewN n) A2 n2 c2 dl) := Lib.hid (fun n => ⟨HA3.out.drewN n, HM2.out.drewN n, HR2.out.1.drewN n, HR2.out.2.drewN n⟩)
  have HKM : Hid (K2 gm = t + 7) := Lib.hid (HX.out.2.2.2.2.2.1 _ HGM.out)
  clear HA3 HR2 HM2 HDEC
  rcases Bool.eq_false_or_eq_true (isOurs q.dst v.addr) with hu | hu
  ·rw [hu] at HOU
   rcases Int.lt_or_le q.src 3758096384 with hsr | hsr
   ·have hd0 : decide ((3758096384 : Int) ≤ q.src) = false := decide_eq_false (by omega)
    rcases Bool.eq_false_or_eq_true (isMine q.src v.addr) with hm | hm
    ·rw [hm] at HMI
     have H2F := Lib.hid (H2.out (.inr (.inr hm)))
     clear hu hm
     go_quiet (first
      | (go_at_call 149; exact Calls.quiet_of (HOU.out _))
      | (go_at_call 79; exact Calls.quiet_of_same (HMI.out _)))
     obtain ⟨hA4, hM4, hR41, hR42⟩ := fin.out nq
     have HA4 := Lib.hid hA4
     have HM4 := Lib.hid hM4
     have HR4 := Lib.hid (And.intro hR41 hR42)
     clear hA4 hM4 hR41 hR42 x0 i7 i8 HOU HMI fin
     generalize w2.drewN nq = w3 at HA4 HM4 HR4 ⊢
     have y0 : w3.cell? ⟨wk, 0, none⟩ = some (bp d.h) := HA4.out.wk0
     go_wp2_with fail
     refine (hcount_any t K2 w3 d v S Lr P 2 2 rfl (by omega) HA4.out.hs).mono ?_
     rintro e5 w5 hp5
     obtain rfl := hp5.1
     have HP : Hid (PostW t K w wk d now draw (cnt 2 v) S Lr P L w5) := Lib.hid (HA4.out.count hp5).1.post
     clear hp5 y0
     go_wp2
     first
      | (go_end0; exact ⟨rfl, cnt 2 v, S, Lr, P, L, H2F.out, HP.out⟩)
      | exact bodyPost_ret (results_none rfl _ _ _) rfl ⟨rfl, cnt 2 v, S, Lr, P, L, H2F.out, HP.out⟩
    ·rw [hm] at HMI
     have HTP : Hid (TakeP v.addr q ol dl) := Lib.hid ⟨HQ.out.1, HQ.out.2.1, HQ.out.2.2.1, hsr, hm⟩
     clear hu hm
     go_quiet (first
      | (go_at_call 149; exact Calls.quiet_of (HOU.out _))
      | (go_at_call 79; exact Calls.quiet_of_same (HMI.out _)))
     obtain ⟨hA4, hM4, hR41, hR42⟩ := fin.out nq
     have HA4 := Lib.hid hA4
     have HM4 := Lib.hid hM4
     have HR4 := Lib.hid (And.intro hR41 hR42)
     clear hA4 hM4 hR41 hR42 x0 i7 i8 HOU HMI fin
     generalize w2.drewN nq = w3 at HA4 HM4 HR4 ⊢
     have z0 : w3.cell? ⟨gm, 0, none⟩ = some (.int .i64 q.svc) := HM4.out.cell 0
     have z1 : w3.cell? ⟨gm, 1, none⟩ = some (.int .i64 q.id) := HM4.out.cell 1
     have z2 : w3.cell? ⟨gm, 2, none⟩ = some (.bool q.whole) := HM4.out.cell 2
     have z3 : w3.cell? ⟨gm, 3, none⟩ = some (.bool q.more) := HM4.out.cell 3
     have z4 : w3.cell? ⟨gm, 4, none⟩ = some (.int .i64 q.off) := HM4.out.cell 4
     have z5 : w3.cell? ⟨gm, 5, none⟩ = some (.int .i64 q.life) := HM4.out.cell 5
     have z6 : w3.cell? ⟨gm, 6, none⟩ = some (.int .i64 q.proto) := HM4.out.cell 6
     have z7 : w3.cell? ⟨gm, 7, none⟩ = some (.int .u32 q.src) := HM4.out.cell 7
     have z8 : w3.cell? ⟨gm, 8, none⟩ = some (.int .u32 q.dst) := HM4.out.cell 8
     have z9 : w3.cell? ⟨gm, 9, none⟩ = some (.slice A1 n1 c1) := HM4.out.cell 9
     have z10 : w3.cell? ⟨gm, 10, none⟩ = some (.slice A2 n2 c2) := HM4.out.cell 10
     go_wp2_with fail
     refine (HC.out K2 w3 A1 n1 c1 A2 n2 c2 HTP.out HR4.out.1 HR4.out.2 HA4.out.hs HA4.out.hw).mono ?_
     rintro e5 w5 ⟨rfl, v5, S5, Lr5, P5, L5, hR5, hP5⟩
     obtain ⟨K9, _, a9, _⟩ := HA4.out.call hP5
     have HP := Lib.hid a9.post
     have HR5 := Lib.hid hR5
     clear hP5 hR5 a9 z0 z1 z2 z3 z4 z5 z6 z7 z8 z9 z10
     go_wp2
     first
      | (go_end0; exact ⟨rfl, v5, S5, Lr5, P5, L5, HR5.out, HP.out⟩)
      | exact bodyPost_ret (results_none rfl _ _ _) rfl ⟨rfl, v5, S5, Lr5, P5, L5, HR5.out, HP.out⟩
   ·have hd0 : decide ((3758096384 : Int) ≤ q.src) = true := decide_eq_true hsr
    have hd1 : (decide (q.src < 3758096384)) = false := decide_eq_false (by omega)
    have hd2 : ¬ q.src < 3758096384 := by omega
    have H2F := Lib.hid (H2.out (.inr (.inl hsr)))
    clear hu
    go_quiet (first
     | (go_at_call 149; exact Calls.quiet_of (HOU.out _))
     | (go_at_call 79; exact Calls.quiet_of_same (HMI.out _)))
    obtain ⟨hA4, hM4, hR41, hR42⟩ := fin.out nq
    have HA4 := Lib.hid hA4
    have HM4 := Lib.hid hM4
    have HR4 := Lib.hid (And.intro hR41 hR42)
    clear hA4 hM4 hR41 hR42 x0 i7 i8 HOU HMI fin
    generalize w2.drewN nq = w3 at HA4 HM4 HR4 ⊢
    have y0 : w3.cell? ⟨wk, 0, none⟩ = some (bp d.h) := HA4.out.wk0
    go_wp2_with fail
    refine (hcount_any t K2 w3 d v S Lr P 2 2 rfl (by omega) HA4.out.hs).mono ?_
    rintro e5 w5 hp5
    obtain rfl := hp5.1
    have HP : Hid (PostW t K w wk d now draw (cnt 2 v) S Lr P L w5) := Lib.hid (HA4.out.count hp5).1.post
    clear hp5 y0
    go_wp2
    first
     | (go_end0; exact ⟨rfl, cnt 2 v, S, Lr, P, L, H2F.out, HP.out⟩)
     | exact bodyPost_ret (results_none rfl _ _ _) rfl ⟨rfl, cnt 2 v, S, Lr, P, L, H2F.out, HP.out⟩
  ·rw [hu] at HOU
   have H2F := Lib.hid (H2.out (.inl hu))
   clear hu
   go_quiet (first
    | (go_at_call 149; exact Calls.quiet_of (HOU.out _))
    | (go_at_call 79; exact Calls.quiet_of_same (HMI.out _)))
   obtain ⟨hA4, hM4, hR41, hR42⟩ := fin.out nq
   have HA4 := Lib.hid hA4
   have HM4 := Lib.hid hM4
   have HR4 := Lib.hid (And.intro hR41 hR42)
   clear hA4 hM4 hR41 hR42 x0 i7 i8 HOU HMI fin
   generalize w2.drewN nq = w3 at HA4 HM4 HR4 ⊢
   have y0 : w3.cell? ⟨wk, 0, none⟩ = some (bp d.h) := HA4.out.wk0
   go_wp2_with fail
   refine (hcount_any t K2 w3 d v S Lr P 2 2 rfl (by omega) HA4.out.hs).mono ?_
   rintro e5 w5 hp5
   obtain rfl := hp5.1
   have HP : Hid (PostW t K w wk d now draw (cnt 2 v) S Lr P L w5) := Lib.hid (HA4.out.count hp5).1.post
   clear hp5 y0
   go_wp2
   first
    | (go_end0; exact ⟨rfl, cnt 2 v, S, Lr, P, L, H2F.out, HP.out⟩)
    | exact bodyPost_ret (results_none rfl _ _ _) rfl ⟨rfl, cnt 2 v, S, Lr, P, L, H2F.out, HP.out⟩
 ·have hdec : Calls Tryz.prog 29 #[.slice A n c] w fun e w' => e = .returned (.tuple #[.agg pkZ, .int .i64 (ipErr l)]) ∧ Below w.heap.size w w' := hdec.mono fun e w' ⟨A1, n1, c1, A2, n2, c2, q1, q2, q3⟩ => ⟨by rw [if_neg hz] at q1; exact q1, q3⟩
  unfold pkZ at hdec
  have HDEC := Lib.hid hdec
  have hz2 : (ipErr l != 0) = true := by simpa using hz
  have HR3 : Hid (R (cnt 3 v) S Lr P L) := Lib.hid (HX.out.2.2.2.2.1 hz)
  clear HX
  generalize ipErr l = er at *
  clear hz hdec
  go_enter Tryz.func90, Tryz.ntmps90
  go_wp2_with fail
  refine HDEC.out.mono ?_
  rintro e1 w1 ⟨rfl, hB1⟩
  have hb2 : Below w1.heap.size w1 (w1.alloc (.cells #[.int .i64 0, .int .i64 0, .bool false, .bool false, .int .i64 0, .int .i64 0, .int .i64 0, .int .u32 0, .int .u32 0, .slice none 0 0, .slice none 0 0] 97)) := (Below.refl _ _).alloc (Nat.le_refl _) _
  have HA2 := Lib.hid (HA1.out.below hB1)
  clear hB1
  go_upto_region 3 with (fail)
  generalize w1.alloc (.cells #[.int .i64 0, .int .i64 0, .bool false, .bool false, .int .i64 0, .int .i64 0, .int .i64 0, .int .u32 0, .int .u32 0, .slice none 0 0, .slice none 0 0] 97) = w2 at hb2 ⊢
  have HA3 := Lib.hid (HA2.out.below hb2)
  have y0 : w2.cell? ⟨wk, 0, none⟩ = some (bp d.h) := HA3.out.wk0
  clear hb2 HA2
  go_wp2_with fail
  refine (hcount_any t K2 w2 d v S Lr P 3 3 rfl (by omega) HA3.out.hs).mono ?_
  rintro e3 w3 hp3
  obtain rfl := hp3.1
  have HP : Hid (PostW t K w wk d now draw (cnt 3 v) S Lr P L w3) := Lib.hid (HA3.out.count hp3).1.post
  clear hp3 y0
  go_wp2
  first
   | (go_end0; exact ⟨rfl, cnt 3 v, S, Lr, P, L, HR3.out, HP.out⟩)
   | exact bodyPost_ret (results_none rfl _ _ _) rfl ⟨rfl, cnt 3 v, S, Lr, P, L, HR3.out, HP.out⟩
open Go.RowKit
theorem zeroFn (w : World) : (zeroValue 167).run Tryz.prog w = .ok Value.nilFunc w := by kernel_rfl
end Go.Proofs.YtaeafkdfbcppgaaGreat
