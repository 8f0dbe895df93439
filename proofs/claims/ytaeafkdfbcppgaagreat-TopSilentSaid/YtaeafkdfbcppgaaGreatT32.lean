/- Proved: what a host does with an ARP packet. Conditions: as each law says. -/
import Derived.Test.YtaeafkdfbcppgaaGreatT27
import Derived.Test.YtaeafkdfbcppgaaGreatT28
set_option linter.unusedSectionVars false
set_option linter.unusedSimpArgs false
set_option linter.unusedVariables false
namespace Go.Proofs.YtaeafkdfbcppgaaGreat
open Go.RowKit
def frsV (v : HV) : List (List Int) → HV
 | [] => v
 | x :: r => frsV (frV v x) r
def frsL (v : HV) (m : Mac) (k : Int) (L : List (List Int)) : List (List Int) → List (List Int)
 | [] => L
 | x :: r => frsL (frV v x) m k (frL v m k L x) r
theorem frsV_snoc (v : HV) (x : List Int) : ∀ (R : List (List Int)), frsV v (R ++ [x]) = frV (frsV v R) x
 | [] => rfl
 | y :: R => frsV_snoc (frV v y) x R
theorem frsL_snoc (v : HV) (m : Mac) (k : Int) (L : List (List Int)) (x : List Int) : ∀ (R : List (List Int)), frsL v m k L (R ++ [x]) = frL (frsV v R) m k (frsL v m k L R) x
 | [] => rfl
 | y :: R => frsL_snoc (frV v y) m k (frL v m k L y) x R
theorem Eff.frs (m : Mac) (k : Int) : ∀ (R : List (List Int)) (v : HV) (L : List (List Int)), Eff v L (frsV v R) (frsL v m k L R) R.length 0
 | [], v, L => Eff.refl v L
 | x :: R, v, L => ((Eff.fr v L m k x).trans (Eff.frs m k R (frV v x) (frL v m k L x))).more (by simp only [List.length_cons]; omega) (by omega)
def LearnS (v : HV) (S : List En) (now a : Int) (m : Mac) (asked : Bool) (L : List (List Int)) (v1 : HV) (S1 : List En) (L1 : List (List Int)) : Prop :=
 ((a = 0 ∨ isMine a v.addr = true) ∧ v1 = v ∧ S1 = S ∧ L1 = L) ∨
 (a ≠ 0 ∧ isMine a v.addr = false ∧ ∃ ws nv, LearnT (absT S) a (learnt m.1 m.2.1 m.2.2.1 m.2.2.2.1 m.2.2.2.2.1 m.2.2.2.2.2 now) asked ws (absT S1) ∧ ws.length ≤ 3 ∧ v1 = frsV { v with near := nv } ws ∧ L1 = frsL { v with near := nv } m 2048 L ws)
def NbR (v : HV) (S : List En) (now : Int) (l : List Int) (L : List (List Int)) (v' : HV) (S' : List En) (L' : List (List Int)) : Prop :=
 (arpErr l ≠ 0 ∧ v' = cnt 3 v ∧ S' = S ∧ L' = L) ∨
 (arpErr l = 0 ∧ ∃ v1 L1, LearnS v S now (rd4 l 14) (at8 l 8, at8 l 9, at8 l 10, at8 l 11, at8 l 12, at8 l 13) (rd2 l 6 == 1 && isMine (rd4 l 24) v.addr) L v1 S' L1 ∧
  (((rd2 l 6 == 1 && isMine (rd4 l 24) v.addr) = false ∧ v' = v1 ∧ L' = L1) ∨
   ((rd2 l 6 == 1 && isMine (rd4 l 24) v.addr) = true ∧ v' = frV v1 (arpB 2 (macL v1.m) v1.addr [at8 l 8, at8 l 9, at8 l 10, at8 l 11, at8 l 12, at8 l 13] (rd4 l 14)) ∧ L' = frL v1 (at8 l 8, at8 l 9, at8 l 10, at8 l 11, at8 l 12, at8 l 13) 2054 L1 (arpB 2 (macL v1.m) v1.addr [at8 l 8, at8 l 9, at8 l 10, at8 l 11, at8 l 12, at8 l 13] (rd4 l 14)))))
theorem LearnT.ok {T T' : List (Int × Nb)} {a : Int} {n : Nb} {fresh : Bool} {ws : List (List Int)} (h : LearnT T a n fresh ws T') (hT : TbOk T) (hn : Bs [n.m0, n.m1, n.m2, n.m3, n.m4, n.m5]) : TbOk T' := by
 rcases h with ⟨n0, _, _, rfl⟩ | ⟨_, _, _, rfl⟩ | ⟨_, _, ⟨T2, h2, rfl⟩, _⟩ | ⟨_, _, _, _, rfl⟩
 ·exact hT.upd a hn
 ·exact hT
 ·exact (hT.sub h2.sub).snoc hn
 ·exact hT
theorem At.learn {t : Nat} {K K1 : Nat → Nat} {w wx w' : World} {wk : Nat} {d : HD} {now draw : Int} {v : HV} {S : List En} {Lr : List Rec} {P : Option (Int × List Dg)} {L : List (List Int)} {a : Int} {n : Nb} {fresh : Bool} {e : Ending} (at_ : At t K w wk d now draw v S Lr P L K1 wx) (h : PLearn v wx (fun b => K1 b = t + 2 ∨ b = d.h) d.h S a n fresh e w') (hn : Bs [n.m0, n.m1, n.m2, n.m3, n.m4, n.m5]) :
  ∃ K2 nv S1 ws A k c vs, e = .returned (.slice A k c) ∧ LearnT (absT S) a n fresh ws (absT S1) ∧ ws.length ≤ 3 ∧ (∀ b, b < wx.heap.size → K2 b = K1 b) ∧ At t K w wk d now draw { v with near := nv } S1 Lr P L K2 w' ∧ Of 37 w' 0 A k c vs ∧ RowsAt w' (fun b => K2 b = t + 2 ∧ b < w'.heap.size) vs ws ∧ (∀ b, blk A = some b → K2 b = t + 2 ∧ b < w'.heap.size) ∧ Chg (fun b => callK t (K1 b)) wx w' := by
 obtain ⟨ws, T', hT, h3, A, k, c, rfl, ⟨vs, ho, hr, hb⟩, S1, hca, hab, hc⟩ := h
 obtain ⟨K2, hk1, hk2⟩ : ∃ K2 : Nat → Nat, (∀ b, b < wx.heap.size → K2 b = K1 b) ∧ ∀ b, wx.heap.size ≤ b → K2 b = t + 2 := ⟨fun b => if b < wx.heap.size then K1 b else t + 2, fun b hb => if_pos hb, fun b hb => if_neg (by omega)⟩
 obtain ⟨nv, hs⟩ := at_.hs.cache hca hc (by rw [hab]; exact hT.ok at_.hs.cb hn) hk1 hk2
 have hck : Chg (fun b => callK t (K1 b)) wx w' := hc.mono (fun b _ e => by rcases e with q | q; rw [q]; exact ⟨by omega, by omega⟩; rw [q, at_.hs.kh]; exact ⟨by omega, by omega⟩)
 have col : ∀ b, ((K1 b = t + 2 ∨ b = d.h) ∨ wx.heap.size ≤ b) → b ≠ d.h → K2 b = t + 2 := fun b h hne => by
  rcases Nat.lt_or_ge b wx.heap.size with hl | hl
  ·rw [hk1 b hl]
   rcases h with (q | q) | q
   ·exact q
   ·exact absurd q hne
   ·omega
  ·exact hk2 b hl
 refine ⟨K2, nv, S1, ws, A, k, c, vs, rfl, by rw [hab]; exact hT, h3, hk1, ⟨fun b hb => (hk1 b (Nat.lt_of_lt_of_le hb at_.hc.size)).trans (at_.hk b hb), hs, at_.hw.keep hc (fun b _ hk e => by rcases e with q | q; omega; rw [q, at_.hs.kh] at hk; omega) hk1, at_.hc.trans hck (fun b hb => ?_)⟩, ho, ?_, fun b hbk => ⟨col b (hb b hbk) (fun e => ?_), (ho.lt b hbk).2⟩, hck⟩
 ·rcases Nat.lt_or_ge b w.heap.size with q | q
  ·left; rw [← at_.hk b q]; exact hb
  ·exact .inr q
 ·exact (hr.cap.off hs.hx.hb.bk).keep (fun _ _ _ => rfl) (fun b hb => ⟨col b hb.1.1 hb.2, hb.1.2⟩)
 ·exact Bk.of_ne (t := 164) hs.hx.hb.bk ho (by decide) (by rw [hbk, e])
def NbL (t : Nat) (K : Nat → Nat) (w : World) (wk : Nat) (d : HD) (now draw : Int) (v : HV) (S : List En) (Lr : List Rec) (P : Option (Int × List Dg)) (L : List (List Int)) (K3 : Nat → Nat) (w4 : World) (m : Mac) (gm : Nat) (row : Array Value) (A : Option Addr) (k c : Nat) (vs : List Value) (ws : List (List Int)) (j : Nat) (wx : World) : Prop :=
 ∃ K4, (∀ b, b < w4.heap.size → K4 b = K3 b) ∧ At t K w wk d now draw (frsV v (ws.take j)) S Lr P (frsL v m 2048 L (ws.take j)) K4 wx ∧ Of 37 wx 0 A k c vs ∧ RowsAt wx (fun b => K3 b = t + 2 ∧ b < w4.heap.size) vs ws ∧ Bk wx gm 93 row ∧ w4.heap.size ≤ wx.heap.size
theorem NbL.next {t : Nat} {K : Nat → Nat} {w w4 wx w' : World} {wk : Nat} {d : HD} {now draw : Int} {v : HV} {S : List En} {Lr : List Rec} {P : Option (Int × List Dg)} {L : List (List Int)} {K3 K4 : Nat → Nat} {m : Mac} {gm : Nat} {row : Array Value} {A : Option Addr} {k c j : Nat} {vs : List Value} {ws : List (List Int)} {x : List Int}
  (hk : ∀ b, b < w4.heap.size → K4 b = K3 b) (ha : At t K w wk d now draw (frsV v (ws.take j)) S Lr P (frsL v m 2048 L (ws.take j)) K4 wx) (ho : Of 37 wx 0 A k c vs) (hr : RowsAt wx (fun b => K3 b = t + 2 ∧ b < w4.heap.size) vs ws) (hb : Bk wx gm 93 row) (hl : w4.heap.size ≤ wx.heap.size)
  (hA : ∀ b, blk A = some b → K3 b = t + 2 ∧ b < w4.heap.size) (hg : K3 gm = t + 7 ∧ gm < w4.heap.size) (hx : ws[j]? = some x) (hp : PostW t K4 wx wk d now draw (frV (frsV v (ws.take j)) x) S Lr P (frL (frsV v (ws.take j)) m 2048 (frsL v m 2048 L (ws.take j)) x) w') (hc : Chg (fun b => frK t (K4 b)) wx w') : NbL t K w wk d now draw v S Lr P L K3 w4 m gm row A k c vs ws (j + 1) w' := by
 obtain ⟨K5, h1, h2, _⟩ := ha.call hp
 have no : ∀ b, K3 b = t + 2 ∧ b < w4.heap.size → ¬ frK t (K4 b) := fun b q e => by rw [hk b q.2, q.1] at e; rcases e with e | e | e <;> omega
 have htk : ws.take (j + 1) = ws.take j ++ [x] := by rw [List.take_add_one, hx]; rfl
 refine ⟨K5, fun b hb => (h1 b (Nat.lt_of_lt_of_le hb hl)).trans (hk b hb), ?_, ho.of_block (fun b hb => hc.block b (ho.lt b hb).2 (no b (hA b hb))), hr.keep (fun b hb hl2 => hc.block b hl2 (no b hb)) (fun _ h => h), hb.chg hc (fun e => by rw [hk gm hg.2, hg.1] at e; rcases e with e | e | e <;> omega), Nat.le_trans hl hc.size⟩
 rw [htk, frsV_snoc, frsL_snoc]
 exact h2
set_option maxHeartbeats 8000000 in
set_option maxRecDepth 100000 in
theorem wneigh_any (t : Nat) (K : Nat → Nat) (w : World) (d : HD) (v : HV) (S : List En) (Lr : List Rec) (P : Option (Int × List Dg)) (wk : Nat) (now draw : Int) (L : List (List Int)) (A0 : Option Addr) (n0 c0 : Nat) (l : List Int) (hr : RowK t K w A0 n0 c0 l) (hn : n0 ≤ 2000) (hL : L.length ≤ 100000) (hnow : -9223372036854775808 ≤ now ∧ now ≤ 9223372036854775807) (hs : HostS t K w d v S Lr P) (hw : WkS t K w wk d now draw L) :
  Calls Tryz.prog 89 #[.pointer (some ⟨wk, 0, none⟩), .slice A0 n0 c0] w fun e w' => e = .returned (.tuple #[]) ∧ ∃ v' S' L', NbR v S now l L v' S' L' ∧ PostW t K w wk d now draw v' S' Lr P L' w' := by
 obtain ⟨K2, a0, k2a, k2b⟩ := (At.start hs hw).fresh
 have HA1 := Lib.hid a0
 have hdec := arpd_any A0 n0 c0 w.heap.size l hr.len (by omega) hr.bs w hr.rb (Nat.le_refl _)
 have hbs := hr.bs
 have HX := Lib.hid (And.intro hr (And.intro hn (And.intro hL (And.intro hnow k2b))))
 clear a0 k2a k2b hr hn hL hnow hs hw
 by_cases hz : arpErr l = 0
 ·rw [if_pos hz, hz] at hdec
  unfold arpC at hdec
  have HDEC := Lib.hid hdec
  have HZ := Lib.hid hz
  have hB6 : Bs [at8 l 8, at8 l 9, at8 l 10, at8 l 11, at8 l 12, at8 l 13] := fun x hx => by
   simp only [List.mem_cons, List.not_mem_nil, or_false] at hx
   rcases hx with rfl | rfl | rfl | rfl | rfl | rfl <;> exact at8_bd hbs _
  have HQ : Hid (okA (rd4 l 14) ∧ Bs [at8 l 8, at8 l 9, at8 l 10, at8 l 11, at8 l 12, at8 l 13]) := Lib.hid ⟨rd4_bd hbs 14, hB6⟩
  clear hdec hz hbs hB6
  go_enter Tryz.func89, Tryz.ntmps89
  go_wp2_with fail
  refine HDEC.out.mono ?_
  rintro e1 w1 ⟨rfl, hB1⟩
  have hb2 : Below w1.heap.size w1 (w1.alloc (.cells #[.int .i64 (rd2 l 6), .int .u8 (at8 l 8), .int .u8 (at8 l 9), .int .u8 (at8 l 10), .int .u8 (at8 l 11), .int .u8 (at8 l 12), .int .u8 (at8 l 13), .int .u32 (rd4 l 14), .int .u8 (at8 l 18), .int .u8 (at8 l 19), .int .u8 (at8 l 20), .int .u8 (at8 l 21), .int .u8 (at8 l 22), .int .u8 (at8 l 23), .int .u32 (rd4 l 24)] 93)) := (Below.refl _ _).alloc (Nat.le_refl _) _
  have hm2 := Bk.new w1 93 #[.int .i64 (rd2 l 6), .int .u8 (at8 l 8), .int .u8 (at8 l 9), .int .u8 (at8 l 10), .int .u8 (at8 l 11), .int .u8 (at8 l 12), .int .u8 (at8 l 13), .int .u32 (rd4 l 14), .int .u8 (at8 l 18), .int .u8 (at8 l 19), .int .u8 (at8 l 20), .int .u8 (at8 l 21), .int .u8 (at8 l 22), .int .u8 (at8 l 23), .int .u32 (rd4 l 24)]
  have HA2 := Lib.hid (HA1.out.below hB1)
  clear hB1
  go_upto_region 3 with (fail)
  generalize w1.alloc (.cells #[.int .i64 (rd2 l 6), .int .u8 (at8 l 8), .int .u8 (at8 l 9), .int .u8 (at8 l 10), .int .u8 (at8 l 11), .int .u8 (at8 l 12), .int .u8 (at8 l 13), .int .u32 (rd4 l 14), .int .u8 (at8 l 18), .int .u8 (at8 l 19), .int .u8 (at8 l 20), .int .u8 (at8 l 21), .int .u8 (at8 l 22), .int .u8 (at8 l 23), .int .u32 (rd4 l 24)] 93) = w2 at hb2 hm2 ⊢
  have HA3 := Lib.hid (HA2.out.below hb2)
  have HM3 := Lib.hid hm2
  have HKM : Hid (K2 w1.heap.size = t + 7) := Lib.hid (HX.out.2.2.2.2 _ HA2.out.le)
  clear hb2 hm2 HA2
  generalize w1.heap.size = gm at *
  obtain ⟨asked, hask⟩ : ∃ asked, (rd2 l 6 == 1 && isMine (rd4 l 24) v.addr) = asked := ⟨_, rfl⟩
  go_cut [6] (fun s6 wx => s6 = .bool asked ∧ ∃ n, wx = w2.drewN n)
  case first =>
   have x0 : w2.cell? ⟨wk, 0, none⟩ = some (bp d.h) := HA3.out.wk0
   have i0 : w2.cell? ⟨gm, 0, none⟩ = some (.int .i64 (rd2 l 6)) := HM3.out.cell 0
   have i14 : w2.cell? ⟨gm, 14, none⟩ = some (.int .u32 (rd4 l 24)) := HM3.out.cell 14
   have HMT : Hid (∀ n, Calls Tryz.prog 79 #[.pointer (some ⟨d.h, 0, none⟩), .int .u32 (rd4 l 24)] (w2.drewN n) fun e w' => e = .returned (.bool (isMine (rd4 l 24) v.addr)) ∧ w' = w2.drewN n) := Lib.hid (fun n => mine_q _ d.h v _ (HA3.out.hb.drewN n))
   rcases Bool.eq_false_or_eq_true (rd2 l 6 == 1) with h6 | h6
   ·rcases Bool.eq_false_or_eq_true (isMine (rd4 l 24) v.addr) with hm | hm
    ·rw [h6, hm] at hask
     rw [hm] at HMT
     subst hask
     clear hm
     go_quiet ((go_at_call 79; exact Calls.quiet_of_same (HMT.out _)))
     go_wp2
     go_meet
     exact ⟨rfl, _, rfl⟩
    ·rw [h6, hm] at hask
     rw [hm] at HMT
     subst hask
     clear hm
     go_quiet ((go_at_call 79; exact Calls.quiet_of_same (HMT.out _)))
     go_wp2
     go_meet
     exact ⟨rfl, _, rfl⟩
   ·rw [h6] at hask
    subst hask
    clear HMT
    go_quiet (fail)
    go_wp2
    go_meet
    exact ⟨by simp, _, rfl⟩
  case rest =>
   obtain ⟨rfl, n3, rfl⟩ := hcut
   have HA4 := Lib.hid (HA3.out.drewN n3)
   have HM4 := Lib.hid (HM3.out.drewN n3)
   clear HA3 HM3
   generalize w2.drewN n3 = w3 at HA4 HM4 ⊢
   have HASK := Lib.hid hask
   clear hask
   have x0 : w3.cell? ⟨wk, 0, none⟩ = some (bp d.h) := HA4.out.wk0
   have i7 : w3.cell? ⟨gm, 7, none⟩ = some (.int .u32 (rd4 l 14)) := HM4.out.cell 7
   have HMF : Hid (∀ n, Calls Tryz.prog 79 #[.pointer (some ⟨d.h, 0, none⟩), .int .u32 (rd4 l 14)] (w3.drewN n) fun e w' => e = .returned (.bool (isMine (rd4 l 14) v.addr)) ∧ w' = w3.drewN n) := Lib.hid (fun n => mine_q _ d.h v _ (HA4.out.hb.drewN n))
   by_cases hlr : rd4 l 14 ≠ 0 ∧ isMine (rd4 l 14) v.addr = false
   ·obtain ⟨hl1, hl2⟩ := hlr
    rw [hl2] at HMF
    have hl3 : (rd4 l 14 != 0) = true := by simpa using hl1
    have HLR := Lib.hid (And.intro hl1 hl2)
    clear hl1 hl2
    go_upto_region 4 with (fail)
    go_quiet ((go_at_call 79; exact Calls.quiet_of_same (HMF.out _)))
    have HA5 := Lib.hid (HA4.out.drewN nq)
    have HM5 := Lib.hid (HM4.out.drewN nq)
    clear x0 i7 HMF HA4 HM4
    generalize w3.drewN nq = w4 at HA5 HM5 ⊢
    go_upto_region 5 with (fail)
    have hm5 := HM5.out
    have i1 : w4.drew.cell? ⟨gm, 1, none⟩ = some (.int .u8 (at8 l 8)) := hm5.cell 1
    have i2 : w4.drew.cell? ⟨gm, 2, none⟩ = some (.int .u8 (at8 l 9)) := hm5.cell 2
    have i3 : w4.drew.cell? ⟨gm, 3, none⟩ = some (.int .u8 (at8 l 10)) := hm5.cell 3
    have i4 : w4.drew.cell? ⟨gm, 4, none⟩ = some (.int .u8 (at8 l 11)) := hm5.cell 4
    have i5 : w4.drew.cell? ⟨gm, 5, none⟩ = some (.int .u8 (at8 l 12)) := hm5.cell 5
    have i6 : w4.drew.cell? ⟨gm, 6, none⟩ = some (.int .u8 (at8 l 13)) := hm5.cell 6
    have i7 : w4.drew.cell? ⟨gm, 7, none⟩ = some (.int .u32 (rd4 l 14)) := hm5.cell 7
    have x0 : w4.drew.cell? ⟨wk, 0, none⟩ = some (bp d.h) := HA5.out.wk0
    have x1 : w4.drew.cell? ⟨wk, 1, none⟩ = some (.int .i64 now) := HA5.out.wk1
    have HLN := Lib.hid (plearn_any (V := v) (rd4 l 14) HQ.out.1 (at8 l 8) (at8 l 9) (at8 l 10) (at8 l 11) (at8 l 12) (at8 l 13) now HX.out.2.2.2.1 asked w4.drew (fun b => K2 b = t + 2 ∨ b = d.h) d.h S (HA5.out.hs.drewN 1).ca)
    clear hm5
    go_region_held3 (fun w' => w'.cell? ⟨wk, 0, none⟩ = some (bp d.h) ∧ w'.cell? ⟨wk, 1, none⟩ = some (.int .i64 now) ∧ w'.cell? ⟨gm, 1, none⟩ = some (.int .u8 (at8 l 8)) ∧ w'.cell? ⟨gm, 2, none⟩ = some (.int .u8 (at8 l 9)) ∧ w'.cell? ⟨gm, 3, none⟩ = some (.int .u8 (at8 l 10)) ∧ w'.cell? ⟨gm, 4, none⟩ = some (.int .u8 (at8 l 11)) ∧ w'.cell? ⟨gm, 5, none⟩ = some (.int .u8 (at8 l 12)) ∧ w'.cell? ⟨gm, 6, none⟩ = some (.int .u8 (at8 l 13)) ∧ w'.cell? ⟨gm, 7, none⟩ = some (.int .u32 (rd4 l 14)))
     (first | (with_reducible exact ⟨by assumption, by assumption, by assumption, by assumption, by assumption, by assumption, by assumption, by assumption, by assumption⟩) | go_keep)
     (first
      | (go_at_call 148; refine HLN.out.mono ?_; intro e5 w5 h5; obtain ⟨K3, nv, S1, ws, A, k, c, vs, rfl, hLT, hws, hk3, ha3, hof, hrw, hbA, hc5⟩ := (HA5.out.drewN 1).learn h5 HQ.out.2; have p0 := ha3.wk0; have p1 := ha3.wk1; have hm6 := Bk.over (HM5.out.drewN 1) hc5 HKM.out; have q1 : w5.cell? ⟨gm, 1, none⟩ = some (.int .u8 (at8 l 8)) := hm6.cell 1; have q2 : w5.cell? ⟨gm, 2, none⟩ = some (.int .u8 (at8 l 9)) := hm6.cell 2; have q3 : w5.cell? ⟨gm, 3, none⟩ = some (.int .u8 (at8 l 10)) := hm6.cell 3; have q4 : w5.cell? ⟨gm, 4, none⟩ = some (.int .u8 (at8 l 11)) := hm6.cell 4; have q5 : w5.cell? ⟨gm, 5, none⟩ = some (.int .u8 (at8 l 12)) := hm6.cell 5; have q6 : w5.cell? ⟨gm, 6, none⟩ = some (.int .u8 (at8 l 13)) := hm6.cell 6; have q7 : w5.cell? ⟨gm, 7, none⟩ = some (.int .u32 (rd4 l 14)) := hm6.cell 7))
    have hkw : k = ws.length := by rw [← hof.length]; exact hrw.length
    have hk4 : k ≤ 3 := by omega
    have HG : Hid (K3 gm = t + 7 ∧ gm < w5.heap.size) := Lib.hid ⟨(hk3 gm HM5.out.lt).trans HKM.out, hm6.lt⟩
    have HLS := Lib.hid (And.intro hLT (And.intro hws hkw))
    have HBA := Lib.hid hbA
    have HN0 : Hid (NbL t K w wk d now draw { v with near := nv } S1 Lr P L K3 w5 (at8 l 8, at8 l 9, at8 l 10, at8 l 11, at8 l 12, at8 l 13) gm #[.int .i64 (rd2 l 6), .int .u8 (at8 l 8), .int .u8 (at8 l 9), .int .u8 (at8 l 10), .int .u8 (at8 l 11), .int .u8 (at8 l 12), .int .u8 (at8 l 13), .int .u32 (rd4 l 14), .int .u8 (at8 l 18), .int .u8 (at8 l 19), .int .u8 (at8 l 20), .int .u8 (at8 l 21), .int .u8 (at8 l 22), .int .u8 (at8 l 23), .int .u32 (rd4 l 24)] A k c vs ws 0 w5) := Lib.hid ⟨K3, fun _ _ => rfl, ha3, hof, hrw, hm6, Nat.le_refl _⟩
    clear hLT hws hkw hk3 ha3 hof hrw hbA hc5 hm6 h5 p0 p1 q1 q2 q3 q4 q5 q6 q7 x0 x1 i1 i2 i3 i4 i5 i6 i7 HLN HA5 HM5
    go_wp2
    go_loopw [65] (fun i wr => ∃ j : Nat, j ≤ k ∧ i = .int .i64 j ∧ Hid (NbL t K w wk d now draw { v with near := nv } S1 Lr P L K3 w5 (at8 l 8, at8 l 9, at8 l 10, at8 l 11, at8 l 12, at8 l 13) gm #[.int .i64 (rd2 l 6), .int .u8 (at8 l 8), .int .u8 (at8 l 9), .int .u8 (at8 l 10), .int .u8 (at8 l 11), .int .u8 (at8 l 12), .int .u8 (at8 l 13), .int .u32 (rd4 l 14), .int .u8 (at8 l 18), .int .u8 (at8 l 19), .int .u8 (at8 l 20), .int .u8 (at8 l 21), .int .u8 (at8 l 22), .int .u8 (at8 l 23), .int .u32 (rd4 l 24)] A k c vs ws j wr)) (fun i _ => k - (intOf i).toNat)
    case atStart => exact ⟨0, Nat.zero_le _, rfl, HN0⟩
    case round =>
     obtain ⟨j, hj, rfl, HN⟩ := hrel
     rcases Nat.lt_or_ge j k with c1 | c1
     ·obtain ⟨K4, g1, g2, g3, g4, g5, g6⟩ := HN.out
      obtain ⟨x, hx⟩ : ∃ x, ws[j]? = some x := ⟨_, List.getElem?_eq_getElem (by have := HLS.out.2.2; omega)⟩
      obtain ⟨u, hu⟩ : ∃ u, vs[j]? = some u := ⟨_, List.getElem?_eq_getElem (by rw [g3.length]; exact c1)⟩
      obtain ⟨Ax, nx, cx, rfl, hox, hbx, hsx, hmx⟩ := g4.at_ hu hx
      obtain ⟨b, off, hAe, hbl, hcell⟩ := (Of.rw g3).at_ hu
      subst hAe
      have HR9 := Lib.hid (And.intro g1 (And.intro g2 (And.intro g3 (And.intro g4 (And.intro g5 g6)))))
      have HX9 := Lib.hid (And.intro hx (And.intro hox hsx))
      have y0 : wr.cell? ⟨wk, 0, none⟩ = some (bp d.h) := g2.wk0
      have i1 : wr.cell? ⟨gm, 1, none⟩ = some (.int .u8 (at8 l 8)) := g5.cell 1
      have i2 : wr.cell? ⟨gm, 2, none⟩ = some (.int .u8 (at8 l 9)) := g5.cell 2
      have i3 : wr.cell? ⟨gm, 3, none⟩ = some (.int .u8 (at8 l 10)) := g5.cell 3
      have i4 : wr.cell? ⟨gm, 4, none⟩ = some (.int .u8 (at8 l 11)) := g5.cell 4
      have i5 : wr.cell? ⟨gm, 5, none⟩ = some (.int .u8 (at8 l 12)) := g5.cell 5
      have i6 : wr.cell? ⟨gm, 6, none⟩ = some (.int .u8 (at8 l 13)) := g5.cell 6
      have hlen : (frsL { v with near := nv } (at8 l 8, at8 l 9, at8 l 10, at8 l 11, at8 l 12, at8 l 13) 2048 L (ws.take j)).length ≤ 1000000 := by
       have q1 := (Eff.frs (at8 l 8, at8 l 9, at8 l 10, at8 l 11, at8 l 12, at8 l 13) 2048 (ws.take j) { v with near := nv } L).len
       have q2 := HX.out.2.2.1
       rw [List.length_take] at q1
       omega
      have HLE := Lib.hid hlen
      clear g1 g2 g3 g4 g5 g6 hx hox hsx hbx hu hlen
      go_wp2_with fail
      refine (wframe_chg t K4 wr d (frsV { v with near := nv } (ws.take j)) S1 Lr P wk now draw (frsL { v with near := nv } (at8 l 8, at8 l 9, at8 l 10, at8 l 11, at8 l 12, at8 l 13) 2048 L (ws.take j)) (at8 l 8, at8 l 9, at8 l 10, at8 l 11, at8 l 12, at8 l 13) 2048 (by omega) Ax nx cx x (OB.length HX9.out.2.1) HLE.out (OB.rb HX9.out.2.1) HR9.out.2.1.hs HR9.out.2.1.hw HX9.out.2.2 HQ.out.2).mono ?_
      rintro e9 w9 ⟨rfl, hp9, hc9⟩
      have HN9 : Hid (NbL t K w wk d now draw { v with near := nv } S1 Lr P L K3 w5 (at8 l 8, at8 l 9, at8 l 10, at8 l 11, at8 l 12, at8 l 13) gm #[.int .i64 (rd2 l 6), .int .u8 (at8 l 8), .int .u8 (at8 l 9), .int .u8 (at8 l 10), .int .u8 (at8 l 11), .int .u8 (at8 l 12), .int .u8 (at8 l 13), .int .u32 (rd4 l 14), .int .u8 (at8 l 18), .int .u8 (at8 l 19), .int .u8 (at8 l 20), .int .u8 (at8 l 21), .int .u8 (at8 l 22), .int .u8 (at8 l 23), .int .u32 (rd4 l 24)] (some ⟨b, off, none⟩) k c vs ws (j + 1) w9) := Lib.hid (NbL.next HR9.out.1 HR9.out.2.1 HR9.out.2.2.1 HR9.out.2.2.2.1 HR9.out.2.2.2.2.1 HR9.out.2.2.2.2.2 HBA.out HG.out HX9.out.1 hp9 hc9)
      clear hp9 hc9 y0 hcell i1 i2 i3 i4 i5 i6
      go_wp2
      go_roundw
      case rel => exact ⟨j + 1, by omega, by go_num, HN9⟩
      case measure => first | omega | go_num | (simp [intOf]; omega)
     ·obtain ⟨K4, g1, g2, g3, g4, g5, g6⟩ := HN.out
      have hall : ws.take j = ws := List.take_of_length_le (by have := HLS.out.2.2; omega)
      rw [hall] at g2
      have HL1 : Hid ((frsL { v with near := nv } (at8 l 8, at8 l 9, at8 l 10, at8 l 11, at8 l 12, at8 l 13) 2048 L ws).length ≤ 200000) := Lib.hid (by
       have q1 := (Eff.frs (at8 l 8, at8 l 9, at8 l 10, at8 l 11, at8 l 12, at8 l 13) 2048 ws { v with near := nv } L).len
       have q2 := HX.out.2.2.1
       have q3 := HLS.out.2.1
       omega)
      have HLQ : Hid (LearnS v S now (rd4 l 14) (at8 l 8, at8 l 9, at8 l 10, at8 l 11, at8 l 12, at8 l 13) asked L (frsV { v with near := nv } ws) S1 (frsL { v with near := nv } (at8 l 8, at8 l 9, at8 l 10, at8 l 11, at8 l 12, at8 l 13) 2048 L ws)) := Lib.hid (.inr ⟨HLR.out.1, HLR.out.2, ws, nv, HLS.out.1, HLS.out.2.1, rfl, rfl⟩)
      generalize frsV { v with near := nv } ws = v1 at g2 HLQ
      generalize frsL { v with near := nv } (at8 l 8, at8 l 9, at8 l 10, at8 l 11, at8 l 12, at8 l 13) 2048 L ws = L1 at g2 HL1 HLQ
      have HA := Lib.hid g2
      have HM := Lib.hid g5
      have HNB : Hid (∀ v' L', ((asked = false ∧ v' = v1 ∧ L' = L1) ∨ (asked = true ∧ v' = frV v1 (arpB 2 (macL v1.m) v1.addr [at8 l 8, at8 l 9, at8 l 10, at8 l 11, at8 l 12, at8 l 13] (rd4 l 14)) ∧ L' = frL v1 (at8 l 8, at8 l 9, at8 l 10, at8 l 11, at8 l 12, at8 l 13) 2054 L1 (arpB 2 (macL v1.m) v1.addr [at8 l 8, at8 l 9, at8 l 10, at8 l 11, at8 l 12, at8 l 13] (rd4 l 14)))) → NbR v S now l L v' S1 L') := Lib.hid (fun v' L' h => .inr ⟨HZ.out, v1, L1, by rw [HASK.out]; exact HLQ.out, by rw [HASK.out]; exact h⟩)
      clear g1 g2 g3 g4 g5 g6 hall HN
      go_upto_region 10 with (fail)
      cases asked
      ·have HP := Lib.hid HA.out.post
       have HFN := Lib.hid (HNB.out v1 L1 (.inl ⟨rfl, rfl, rfl⟩))
       clear HNB
       go_wp2
       first
        | (go_end0; exact ⟨rfl, v1, S1, L1, HFN.out, HP.out⟩)
        | exact bodyPost_ret (results_none rfl _ _ _) rfl ⟨rfl, v1, S1, L1, HFN.out, HP.out⟩
      ·have HFN := Lib.hid (HNB.out _ _ (.inr ⟨rfl, rfl, rfl⟩))
       clear HNB
       have hm := HM.out
       have i1 : wr.drew.cell? ⟨gm, 1, none⟩ = some (.int .u8 (at8 l 8)) := hm.cell 1
       have i2 : wr.drew.cell? ⟨gm, 2, none⟩ = some (.int .u8 (at8 l 9)) := hm.cell 2
       have i3 : wr.drew.cell? ⟨gm, 3, none⟩ = some (.int .u8 (at8 l 10)) := hm.cell 3
       have i4 : wr.drew.cell? ⟨gm, 4, none⟩ = some (.int .u8 (at8 l 11)) := hm.cell 4
       have i5 : wr.drew.cell? ⟨gm, 5, none⟩ = some (.int .u8 (at8 l 12)) := hm.cell 5
       have i6 : wr.drew.cell? ⟨gm, 6, none⟩ = some (.int .u8 (at8 l 13)) := hm.cell 6
       have i7 : wr.drew.cell? ⟨gm, 7, none⟩ = some (.int .u32 (rd4 l 14)) := hm.cell 7
       have x0 : wr.drew.cell? ⟨wk, 0, none⟩ = some (bp d.h) := HA.out.wk0
       have h0 : wr.drew.cell? ⟨d.h, 0, none⟩ = some (.int .u8 v1.m.1) := HA.out.hb.m0
       have h1 : wr.drew.cell? ⟨d.h, 1, none⟩ = some (.int .u8 v1.m.2.1) := HA.out.hb.m1
       have h2 : wr.drew.cell? ⟨d.h, 2, none⟩ = some (.int .u8 v1.m.2.2.1) := HA.out.hb.m2
       have h3 : wr.drew.cell? ⟨d.h, 3, none⟩ = some (.int .u8 v1.m.2.2.2.1) := HA.out.hb.m3
       have h4 : wr.drew.cell? ⟨d.h, 4, none⟩ = some (.int .u8 v1.m.2.2.2.2.1) := HA.out.hb.m4
       have h5 : wr.drew.cell? ⟨d.h, 5, none⟩ = some (.int .u8 v1.m.2.2.2.2.2) := HA.out.hb.m5
       have h6 : wr.drew.cell? ⟨d.h, 6, none⟩ = some (.int .u32 v1.addr) := HA.out.hb.addr
       have HEN := Lib.hid (arpencode_ok 2 v1.m.1 v1.m.2.1 v1.m.2.2.1 v1.m.2.2.2.1 v1.m.2.2.2.2.1 v1.m.2.2.2.2.2 v1.addr (at8 l 8) (at8 l 9) (at8 l 10) (at8 l 11) (at8 l 12) (at8 l 13) (rd4 l 14) (.inr rfl) HA.out.hs.ad.2.2 HQ.out.1 wr.drew)
       have HLL : Hid (wk < wr.drew.heap.size ∧ d.h < wr.drew.heap.size ∧ gm < wr.drew.heap.size) := Lib.hid ⟨HA.out.wlt, HA.out.hlt, HM.out.lt⟩
       clear hm
       go_upto_region 11 with (fail)
       go_region_held3 (fun w' => w'.cell? ⟨wk, 0, none⟩ = some (bp d.h) ∧ w'.cell? ⟨d.h, 0, none⟩ = some (.int .u8 v1.m.1) ∧ w'.cell? ⟨d.h, 1, none⟩ = some (.int .u8 v1.m.2.1) ∧ w'.cell? ⟨d.h, 2, none⟩ = some (.int .u8 v1.m.2.2.1) ∧ w'.cell? ⟨d.h, 3, none⟩ = some (.int .u8 v1.m.2.2.2.1) ∧ w'.cell? ⟨d.h, 4, none⟩ = some (.int .u8 v1.m.2.2.2.2.1) ∧ w'.cell? ⟨d.h, 5, none⟩ = some (.int .u8 v1.m.2.2.2.2.2) ∧ w'.cell? ⟨d.h, 6, none⟩ = some (.int .u32 v1.addr) ∧ w'.cell? ⟨gm, 1, none⟩ = some (.int .u8 (at8 l 8)) ∧ w'.cell? ⟨gm, 2, none⟩ = some (.int .u8 (at8 l 9)) ∧ w'.cell? ⟨gm, 3, none⟩ = some (.int .u8 (at8 l 10)) ∧ w'.cell? ⟨gm, 4, none⟩ = some (.int .u8 (at8 l 11)) ∧ w'.cell? ⟨gm, 5, none⟩ = some (.int .u8 (at8 l 12)) ∧ w'.cell? ⟨gm, 6, none⟩ = some (.int .u8 (at8 l 13)) ∧ w'.cell? ⟨gm, 7, none⟩ = some (.int .u32 (rd4 l 14)))
        (first | (with_reducible exact ⟨by assumption, by assumption, by assumption, by assumption, by assumption, by assumption, by assumption, by assumption, by assumption, by assumption, by assumption, by assumption, by assumption, by assumption, by assumption⟩) | go_keep)
        (first
         | (go_at_call 94; refine HEN.out.mono ?_; rintro e2 w2 ⟨A2, n2, c2, rfl, ho2, hb2⟩; have p0 := bel_cell_ hb2 HLL.out.1 x0; have q0 := bel_cell_ hb2 HLL.out.2.1 h0; have q1 := bel_cell_ hb2 HLL.out.2.1 h1; have q2 := bel_cell_ hb2 HLL.out.2.1 h2; have q3 := bel_cell_ hb2 HLL.out.2.1 h3; have q4 := bel_cell_ hb2 HLL.out.2.1 h4; have q5 := bel_cell_ hb2 HLL.out.2.1 h5; have q6 := bel_cell_ hb2 HLL.out.2.1 h6; have r1 := bel_cell_ hb2 HLL.out.2.2 i1; have r2 := bel_cell_ hb2 HLL.out.2.2 i2; have r3 := bel_cell_ hb2 HLL.out.2.2 i3; have r4 := bel_cell_ hb2 HLL.out.2.2 i4; have r5 := bel_cell_ hb2 HLL.out.2.2 i5; have r6 := bel_cell_ hb2 HLL.out.2.2 i6; have r7 := bel_cell_ hb2 HLL.out.2.2 i7))
       have HA2 := Lib.hid ((HA.out.drewN 1).below hb2)
       have HM2 := Lib.hid ((HM.out.drewN 1).below hb2 HLL.out.2.2)
       have hn2 : (arpB 2 (macL v1.m) v1.addr [at8 l 8, at8 l 9, at8 l 10, at8 l 11, at8 l 12, at8 l 13] (rd4 l 14)).length = n2 := (by8_length _).symm.trans (Ow.length ho2)
       have HN2 := Lib.hid hn2
       have HO2 : Hid (OB 5 w2 wr.heap.size A2 n2 c2 (arpB 2 (macL v1.m) v1.addr [at8 l 8, at8 l 9, at8 l 10, at8 l 11, at8 l 12, at8 l 13] (rd4 l 14))) := Lib.hid ho2
       clear hb2 ho2 hn2 p0 q0 q1 q2 q3 q4 q5 q6 r1 r2 r3 r4 r5 r6 r7 x0 h0 h1 h2 h3 h4 h5 h6 i1 i2 i3 i4 i5 i6 i7 HEN HLL
       have hm := HM2.out
       have i1 : w2.cell? ⟨gm, 1, none⟩ = some (.int .u8 (at8 l 8)) := hm.cell 1
       have i2 : w2.cell? ⟨gm, 2, none⟩ = some (.int .u8 (at8 l 9)) := hm.cell 2
       have i3 : w2.cell? ⟨gm, 3, none⟩ = some (.int .u8 (at8 l 10)) := hm.cell 3
       have i4 : w2.cell? ⟨gm, 4, none⟩ = some (.int .u8 (at8 l 11)) := hm.cell 4
       have i5 : w2.cell? ⟨gm, 5, none⟩ = some (.int .u8 (at8 l 12)) := hm.cell 5
       have i6 : w2.cell? ⟨gm, 6, none⟩ = some (.int .u8 (at8 l 13)) := hm.cell 6
       clear hm
       have y0 : w2.cell? ⟨wk, 0, none⟩ = some (bp d.h) := HA2.out.wk0
       go_wp2_with fail
       refine (wframe_any t K4 w2 d v1 S1 Lr P wk now draw L1 (at8 l 8, at8 l 9, at8 l 10, at8 l 11, at8 l 12, at8 l 13) 2054 (by omega) A2 n2 c2 (arpB 2 (macL v1.m) v1.addr [at8 l 8, at8 l 9, at8 l 10, at8 l 11, at8 l 12, at8 l 13] (rd4 l 14)) HN2.out (by have := HL1.out; omega) (Ow.rw HO2.out) HA2.out.hs HA2.out.hw (arpB_bs HA2.out.hs.mb HQ.out.2) HQ.out.2).mono ?_
       rintro e4 w4 ⟨rfl, hp4⟩
       obtain ⟨K4, _, a4, _⟩ := HA2.out.call hp4
       have HP := Lib.hid a4.post
       clear hp4 a4 y0 i1 i2 i3 i4 i5 i6
       go_wp2
       first
        | (go_end0; exact ⟨rfl, _, S1, _, HFN.out, HP.out⟩)
        | exact bodyPost_ret (results_none rfl _ _ _) rfl ⟨rfl, _, S1, _, HFN.out, HP.out⟩
   ·have hlq : (rd4 l 14 != 0) = false ∨ ((rd4 l 14 != 0) = true ∧ isMine (rd4 l 14) v.addr = true) := by
     rcases Bool.eq_false_or_eq_true (rd4 l 14 != 0) with q | q
     ·refine .inr ⟨q, ?_⟩
      rcases Bool.eq_false_or_eq_true (isMine (rd4 l 14) v.addr) with q2 | q2
      ·exact q2
      ·exact absurd ⟨by simpa using q, q2⟩ hlr
     ·exact .inl q
    have HLQ : Hid (LearnS v S now (rd4 l 14) (at8 l 8, at8 l 9, at8 l 10, at8 l 11, at8 l 12, at8 l 13) asked L v S L) := Lib.hid (.inl ⟨by rcases hlq with q | q; exact .inl (by simpa using q); exact .inr q.2, rfl, rfl, rfl⟩)
    clear hlr
    go_upto_region 4 with (fail)
    go_cut [47] (fun s wx => s = .bool false ∧ ∃ n, wx = w3.drewN n)
    case first =>
     rcases hlq with q | ⟨q, q2⟩
     ·go_quiet (fail)
      go_wp2
      go_meet
      exact ⟨rfl, _, rfl⟩
     ·rw [q2] at HMF
      clear q2
      go_quiet ((go_at_call 79; exact Calls.quiet_of_same (HMF.out _)))
      go_wp2
      go_meet
      exact ⟨rfl, _, rfl⟩
    case rest =>
     obtain ⟨rfl, n4, rfl⟩ := hcut
     have HA := Lib.hid (HA4.out.drewN n4)
     have HM := Lib.hid (HM4.out.drewN n4)
     clear HA4 HM4 HMF x0 i7 hlq
     generalize w3.drewN n4 = w4 at HA HM ⊢
     obtain ⟨v1, hv1⟩ : ∃ v1, v = v1 := ⟨_, rfl⟩
     obtain ⟨S1, hS1⟩ : ∃ S1, S = S1 := ⟨_, rfl⟩
     obtain ⟨L1, hL1⟩ : ∃ L1, L = L1 := ⟨_, rfl⟩
     have HL1 : Hid (L1.length ≤ 200000) := Lib.hid (by rw [← hL1]; have := HX.out.2.2.1; omega)
     have HNB : Hid (∀ v' L', ((asked = false ∧ v' = v1 ∧ L' = L1) ∨ (asked = true ∧ v' = frV v1 (arpB 2 (macL v1.m) v1.addr [at8 l 8, at8 l 9, at8 l 10, at8 l 11, at8 l 12, at8 l 13] (rd4 l 14)) ∧ L' = frL v1 (at8 l 8, at8 l 9, at8 l 10, at8 l 11, at8 l 12, at8 l 13) 2054 L1 (arpB 2 (macL v1.m) v1.addr [at8 l 8, at8 l 9, at8 l 10, at8 l 11, at8 l 12, at8 l 13] (rd4 l 14)))) → NbR v S now l L v' S1 L') := Lib.hid (fun v' L' h => .inr ⟨HZ.out, v1, L1, by rw [HASK.out, ← hv1, ← hS1, ← hL1]; exact HLQ.out, by rw [HASK.out]; exact h⟩)
     replace HA : Hid (At t K w wk d now draw v1 S1 Lr P L1 K2 w4) := by rw [← hv1, ← hS1, ← hL1]; exact HA
     clear hv1 hS1 hL1 HLQ
     cases asked
     ·have HP := Lib.hid HA.out.post
      have HFN := Lib.hid (HNB.out v1 L1 (.inl ⟨rfl, rfl, rfl⟩))
      clear HNB
      go_wp2
      first
       | (go_end0; exact ⟨rfl, v1, S1, L1, HFN.out, HP.out⟩)
       | exact bodyPost_ret (results_none rfl _ _ _) rfl ⟨rfl, v1, S1, L1, HFN.out, HP.out⟩
     ·have HFN := Lib.hid (HNB.out _ _ (.inr ⟨rfl, rfl, rfl⟩))
      clear HNB
      have hm := HM.out
      have i1 : w4.drew.cell? ⟨gm, 1, none⟩ = some (.int .u8 (at8 l 8)) := hm.cell 1
      have i2 : w4.drew.cell? ⟨gm, 2, none⟩ = some (.int .u8 (at8 l 9)) := hm.cell 2
      have i3 : w4.drew.cell? ⟨gm, 3, none⟩ = some (.int .u8 (at8 l 10)) := hm.cell 3
      have i4 : w4.drew.cell? ⟨gm, 4, none⟩ = some (.int .u8 (at8 l 11)) := hm.cell 4
      have i5 : w4.drew.cell? ⟨gm, 5, none⟩ = some (.int .u8 (at8 l 12)) := hm.cell 5
      have i6 : w4.drew.cell? ⟨gm, 6, none⟩ = some (.int .u8 (at8 l 13)) := hm.cell 6
      have i7 : w4.drew.cell? ⟨gm, 7, none⟩ = some (.int .u32 (rd4 l 14)) := hm.cell 7
      have x0 : w4.drew.cell? ⟨wk, 0, none⟩ = some (bp d.h) := HA.out.wk0
      have h0 : w4.drew.cell? ⟨d.h, 0, none⟩ = some (.int .u8 v1.m.1) := HA.out.hb.m0
      have h1 : w4.drew.cell? ⟨d.h, 1, none⟩ = some (.int .u8 v1.m.2.1) := HA.out.hb.m1
      have h2 : w4.drew.cell? ⟨d.h, 2, none⟩ = some (.int .u8 v1.m.2.2.1) := HA.out.hb.m2
      have h3 : w4.drew.cell? ⟨d.h, 3, none⟩ = some (.int .u8 v1.m.2.2.2.1) := HA.out.hb.m3
      have h4 : w4.drew.cell? ⟨d.h, 4, none⟩ = some (.int .u8 v1.m.2.2.2.2.1) := HA.out.hb.m4
      have h5 : w4.drew.cell? ⟨d.h, 5, none⟩ = some (.int .u8 v1.m.2.2.2.2.2) := HA.out.hb.m5
      have h6 : w4.drew.cell? ⟨d.h, 6, none⟩ = some (.int .u32 v1.addr) := HA.out.hb.addr
      have HEN := Lib.hid (arpencode_ok 2 v1.m.1 v1.m.2.1 v1.m.2.2.1 v1.m.2.2.2.1 v1.m.2.2.2.2.1 v1.m.2.2.2.2.2 v1.addr (at8 l 8) (at8 l 9) (at8 l 10) (at8 l 11) (at8 l 12) (at8 l 13) (rd4 l 14) (.inr rfl) HA.out.hs.ad.2.2 HQ.out.1 w4.drew)
      have HLL : Hid (wk < w4.drew.heap.size ∧ d.h < w4.drew.heap.size ∧ gm < w4.drew.heap.size) := Lib.hid ⟨HA.out.wlt, HA.out.hlt, HM.out.lt⟩
      clear hm
      go_upto_region 11 with (fail)
      go_region_held3 (fun w' => w'.cell? ⟨wk, 0, none⟩ = some (bp d.h) ∧ w'.cell? ⟨d.h, 0, none⟩ = some (.int .u8 v1.m.1) ∧ w'.cell? ⟨d.h, 1, none⟩ = some (.int .u8 v1.m.2.1) ∧ w'.cell? ⟨d.h, 2, none⟩ = some (.int .u8 v1.m.2.2.1) ∧ w'.cell? ⟨d.h, 3, none⟩ = some (.int .u8 v1.m.2.2.2.1) ∧ w'.cell? ⟨d.h, 4, none⟩ = some (.int .u8 v1.m.2.2.2.2.1) ∧ w'.cell? ⟨d.h, 5, none⟩ = some (.int .u8 v1.m.2.2.2.2.2) ∧ w'.cell? ⟨d.h, 6, none⟩ = some (.int .u32 v1.addr) ∧ w'.cell? ⟨gm, 1, none⟩ = some (.int .u8 (at8 l 8)) ∧ w'.cell? ⟨gm, 2, none⟩ = some (.int .u8 (at8 l 9)) ∧ w'.cell? ⟨gm, 3, none⟩ = some (.int .u8 (at8 l 10)) ∧ w'.cell? ⟨gm, 4, none⟩ = some (.int .u8 (at8 l 11)) ∧ w'.cell? ⟨gm, 5, none⟩ = some (.int .u8 (at8 l 12)) ∧ w'.cell? ⟨gm, 6, none⟩ = some (.int .u8 (at8 l 13)) ∧ w'.cell? ⟨gm, 7, none⟩ = some (.int .u32 (rd4 l 14)))
       (first | (with_reducible exact ⟨by assumption, by assumption, by assumption, by assumption, by assumption, by assumption, by assumption, by assumption, by assumption, by assumption, by assumption, by assumption, by assumption, by assumption, by assumption⟩) | go_keep)
       (first
        | (go_at_call 94; refine HEN.out.mono ?_; rintro e2 w2 ⟨A2, n2, c2, rfl, ho2, hb2⟩; have p0 := bel_cell_ hb2 HLL.out.1 x0; have q0 := bel_cell_ hb2 HLL.out.2.1 h0; have q1 := bel_cell_ hb2 HLL.out.2.1 h1; have q2 := bel_cell_ hb2 HLL.out.2.1 h2; have q3 := bel_cell_ hb2 HLL.out.2.1 h3; have q4 := bel_cell_ hb2 HLL.out.2.1 h4; have q5 := bel_cell_ hb2 HLL.out.2.1 h5; have q6 := bel_cell_ hb2 HLL.out.2.1 h6; have r1 := bel_cell_ hb2 HLL.out.2.2 i1; have r2 := bel_cell_ hb2 HLL.out.2.2 i2; have r3 := bel_cell_ hb2 HLL.out.2.2 i3; have r4 := bel_cell_ hb2 HLL.out.2.2 i4; have r5 := bel_cell_ hb2 HLL.out.2.2 i5; have r6 := bel_cell_ hb2 HLL.out.2.2 i6; have r7 := bel_cell_ hb2 HLL.out.2.2 i7))
      have HA2 := Lib.hid ((HA.out.drewN 1).below hb2)
      have HM2 := Lib.hid ((HM.out.drewN 1).below hb2 HLL.out.2.2)
      have hn2 : (arpB 2 (macL v1.m) v1.addr [at8 l 8, at8 l 9, at8 l 10, at8 l 11, at8 l 12, at8 l 13] (rd4 l 14)).length = n2 := (by8_length _).symm.trans (Ow.length ho2)
      have HN2 := Lib.hid hn2
      have HO2 : Hid (OB 5 w2 w4.heap.size A2 n2 c2 (arpB 2 (macL v1.m) v1.addr [at8 l 8, at8 l 9, at8 l 10, at8 l 11, at8 l 12, at8 l 13] (rd4 l 14))) := Lib.hid ho2
      clear hb2 ho2 hn2 p0 q0 q1 q2 q3 q4 q5 q6 r1 r2 r3 r4 r5 r6 r7 x0 h0 h1 h2 h3 h4 h5 h6 i1 i2 i3 i4 i5 i6 i7 HEN HLL
      have hm := HM2.out
      have i1 : w2.cell? ⟨gm, 1, none⟩ = some (.int .u8 (at8 l 8)) := hm.cell 1
      have i2 : w2.cell? ⟨gm, 2, none⟩ = some (.int .u8 (at8 l 9)) := hm.cell 2
      have i3 : w2.cell? ⟨gm, 3, none⟩ = some (.int .u8 (at8 l 10)) := hm.cell 3
      have i4 : w2.cell? ⟨gm, 4, none⟩ = some (.int .u8 (at8 l 11)) := hm.cell 4
      have i5 : w2.cell? ⟨gm, 5, none⟩ = some (.int .u8 (at8 l 12)) := hm.cell 5
      have i6 : w2.cell? ⟨gm, 6, none⟩ = some (.int .u8 (at8 l 13)) := hm.cell 6
      clear hm
      have y0 : w2.cell? ⟨wk, 0, none⟩ = some (bp d.h) := HA2.out.wk0
      go_wp2_with fail
      refine (wframe_any t K2 w2 d v1 S1 Lr P wk now draw L1 (at8 l 8, at8 l 9, at8 l 10, at8 l 11, at8 l 12, at8 l 13) 2054 (by omega) A2 n2 c2 (arpB 2 (macL v1.m) v1.addr [at8 l 8, at8 l 9, at8 l 10, at8 l 11, at8 l 12, at8 l 13] (rd4 l 14)) HN2.out (by have := HL1.out; omega) (Ow.rw HO2.out) HA2.out.hs HA2.out.hw (arpB_bs HA2.out.hs.mb HQ.out.2) HQ.out.2).mono ?_
      rintro e4 w4 ⟨rfl, hp4⟩
      obtain ⟨K4, _, a4, _⟩ := HA2.out.call hp4
      have HP := Lib.hid a4.post
      clear hp4 a4 y0 i1 i2 i3 i4 i5 i6
      go_wp2
      first
       | (go_end0; exact ⟨rfl, _, S1, _, HFN.out, HP.out⟩)
       | exact bodyPost_ret (results_none rfl _ _ _) rfl ⟨rfl, _, S1, _, HFN.out, HP.out⟩
 ·rw [if_neg hz] at hdec
  unfold zeroC at hdec
  have HDEC := Lib.hid hdec
  have HZ := Lib.hid hz
  have hz2 : (arpErr l != 0) = true := by simpa using hz
  clear hz hdec
  obtain ⟨er, her⟩ : ∃ er, arpErr l = er := ⟨_, rfl⟩
  rw [her] at HDEC hz2
  clear her
  go_enter Tryz.func89, Tryz.ntmps89
  go_wp2_with fail
  refine HDEC.out.mono ?_
  rintro e1 w1 ⟨rfl, hB1⟩
  have hb2 : Below w1.heap.size w1 (w1.alloc (.cells #[.int .i64 0, .int .u8 0, .int .u8 0, .int .u8 0, .int .u8 0, .int .u8 0, .int .u8 0, .int .u32 0, .int .u8 0, .int .u8 0, .int .u8 0, .int .u8 0, .int .u8 0, .int .u8 0, .int .u32 0] 93)) := (Below.refl _ _).alloc (Nat.le_refl _) _
  have HA2 := Lib.hid (HA1.out.below hB1)
  clear hB1
  go_upto_region 2 with (fail)
  generalize w1.alloc (.cells #[.int .i64 0, .int .u8 0, .int .u8 0, .int .u8 0, .int .u8 0, .int .u8 0, .int .u8 0, .int .u32 0, .int .u8 0, .int .u8 0, .int .u8 0, .int .u8 0, .int .u8 0, .int .u8 0, .int .u32 0] 93) = w2 at hb2 ⊢
  have HA3 := Lib.hid (HA2.out.below hb2)
  have y0 : w2.cell? ⟨wk, 0, none⟩ = some (bp d.h) := HA3.out.wk0
  clear hb2 HA2
  go_wp2_with fail
  refine (hcount_any t K2 w2 d v S Lr P 3 3 rfl (by omega) HA3.out.hs).mono ?_
  rintro e3 w3 hp3
  obtain rfl := hp3.1
  have HP : Hid (PostW t K w wk d now draw (cnt 3 v) S Lr P L w3) := Lib.hid (HA3.out.count hp3).1.post
  clear hp3 y0
  go_wp2
  first
   | (go_end0; exact ⟨rfl, cnt 3 v, S, L, .inl ⟨HZ.out, rfl, rfl, rfl⟩, HP.out⟩)
   | exact bodyPost_ret (results_none rfl _ _ _) rfl ⟨rfl, cnt 3 v, S, L, .inl ⟨HZ.out, rfl, rfl, rfl⟩, HP.out⟩
end Go.Proofs.YtaeafkdfbcppgaaGreat
