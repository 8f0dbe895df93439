/- Proved: a packet's bytes go to a neighbour, or wait; which addresses a host takes as its own; rows of bytes that none of a host's calls writes stay. Conditions: as each law says. -/
import Derived.Test.YtaeafkdfbcppgaaGreatT25
set_option linter.unusedSectionVars false
set_option linter.unusedSimpArgs false
set_option linter.unusedVariables false
namespace Go.Proofs.YtaeafkdfbcppgaaGreat
open Go.RowKit
variable {V : HV}
theorem bel_drew_ {B : Nat} {w : World} : Below B w w.drew := ⟨rfl, rfl, rfl, Nat.le_refl _, fun _ _ => rfl⟩
theorem told_cells {w : World} {g : Nat} (h : Bk w g 427 #[.bool false, .int .u8 0, .int .u8 0, .int .u8 0, .int .u8 0, .int .u8 0, .int .u8 0, .bool false, .bool false]) : w.cell? ⟨g, 0, none⟩ = some (.bool false) ∧ w.cell? ⟨g, 1, none⟩ = some (.int .u8 0) ∧ w.cell? ⟨g, 2, none⟩ = some (.int .u8 0) ∧ w.cell? ⟨g, 3, none⟩ = some (.int .u8 0) ∧ w.cell? ⟨g, 4, none⟩ = some (.int .u8 0) ∧ w.cell? ⟨g, 5, none⟩ = some (.int .u8 0) ∧ w.cell? ⟨g, 6, none⟩ = some (.int .u8 0) ∧ w.cell? ⟨g, 7, none⟩ = some (.bool false) ∧ w.cell? ⟨g, 8, none⟩ = some (.bool false) ∧ w.frozen? ⟨g, 0, none⟩ = false ∧ w.frozen? ⟨g, 1, none⟩ = false ∧ w.frozen? ⟨g, 2, none⟩ = false ∧ w.frozen? ⟨g, 3, none⟩ = false ∧ w.frozen? ⟨g, 4, none⟩ = false ∧ w.frozen? ⟨g, 5, none⟩ = false ∧ w.frozen? ⟨g, 6, none⟩ = false ∧ w.frozen? ⟨g, 7, none⟩ = false ∧ w.frozen? ⟨g, 8, none⟩ = false :=
 ⟨h.cell 0, h.cell 1, h.cell 2, h.cell 3, h.cell 4, h.cell 5, h.cell 6, h.cell 7, h.cell 8, h.frozen 0, h.frozen 1, h.frozen 2, h.frozen 3, h.frozen 4, h.frozen 5, h.frozen 6, h.frozen 7, h.frozen 8⟩
theorem TbOk.sub {T T' : List (Int × Nb)} (h : TbOk T) (hs : ∀ p ∈ T', p ∈ T) : TbOk T' := fun p hp => h p (hs p hp)
theorem TbOk.snoc {T : List (Int × Nb)} (h : TbOk T) {p : Int × Nb} (hp : Bs [p.2.m0, p.2.m1, p.2.m2, p.2.m3, p.2.m4, p.2.m5]) : TbOk (T ++ [p]) := fun q hq => by
 rcases List.mem_append.1 hq with hq | hq
 ·exact h q hq
 ·rw [List.mem_singleton.1 hq]; exact hp
theorem TbOk.upd {T : List (Int × Nb)} (h : TbOk T) (a : Int) {n : Nb} (hn : Bs [n.m0, n.m1, n.m2, n.m3, n.m4, n.m5]) : TbOk (updT T a n) := fun q hq => by
 unfold updT at hq
 obtain ⟨p, hp, rfl⟩ := List.mem_map.1 hq
 split
 ·exact hn
 ·exact h p hp
theorem dropT_sub {T : List (Int × Nb)} {a : Int} : ∀ p ∈ dropT T a, p ∈ T := fun p hp => (List.mem_filter.1 hp).1
theorem RoomT.sub {T T2 : List (Int × Nb)} (h : RoomT T T2) : ∀ p ∈ T2, p ∈ T := by
 rcases h with ⟨_, rfl⟩ | ⟨_, x, _, rfl⟩
 ·exact fun p hp => hp
 ·exact dropT_sub
theorem bs_newNb (now : Int) (l : List Int) : Bs [(newNb now l).m0, (newNb now l).m1, (newNb now l).m2, (newNb now l).m3, (newNb now l).m4, (newNb now l).m5] := by
 intro x hx; simp [newNb] at hx; omega
theorem SendT.ok {T T' : List (Int × Nb)} {a now : Int} {l : List Int} {told : Array Value} (h : SendT T a now l told T') (hT : TbOk T) : TbOk T' := by
 rcases h with ⟨n, hm, _, _, _, rfl⟩ | ⟨n, hm, _, _, _, rfl⟩ | ⟨n, hm, _, _, rfl⟩ | ⟨_, T2, h2, _, rfl⟩ | ⟨_, _, _, rfl⟩
 ·exact hT
 ·exact (hT.sub dropT_sub).snoc (bs_newNb now l)
 ·exact hT.upd a (hT _ hm)
 ·exact (hT.sub h2.sub).snoc (bs_newNb now l)
 ·exact hT
def HopR (v : HV) (S : List En) (a now : Int) (l : List Int) (L : List (List Int)) (v' : HV) (S' : List En) (L' : List (List Int)) : Prop :=
 ∃ told T' nv, SendT (absT S) a now l told T' ∧ absT S' = T' ∧
  ((∃ n b, (b, n) ∈ absT S ∧ told = toldC true (macOf n) false false ∧ v' = frV { v with near := nv } l ∧ L' = frL { v with near := nv } (macOf n) 2048 L l) ∨
   (told = toldC false noMac true false ∧ v' = askU { v with near := nv } ∧ L' = askF { v with near := nv } a L) ∨
   (told = toldC false noMac false false ∧ v' = { v with near := nv } ∧ L' = L) ∨
   (told = toldC false noMac false true ∧ v' = cnt 16 { v with near := nv } ∧ L' = L))
theorem CacheAt.far_ {w w' : World} {F : Nat → Prop} {g b0 : Nat} {S : List En} (h : CacheAt V w F g S) (hF : ¬ F b0) (hc : Chg (fun b => b = b0) w w') : CacheAt V w' F g S := h.keep (fun b hb hl => hc.block b hl (fun e => hF (by rw [← e]; exact hb))) (fun _ hb => hb)
theorem Chg.undr {F : Nat → Prop} {w w' : World} (h : Chg F w.drew w') : Chg F w w' := ⟨h.os, h.tape, h.output, h.size, h.block⟩
theorem RB.chg_ {F : Nat → Prop} {w w' : World} {A : Option Addr} {l : List Int} (h : RB w w.heap.size A l) (hc : Chg F w w') (hF : ∀ b, blk A = some b → ¬ F b) : RB w' w.heap.size A l := fun hn => by
 obtain ⟨b, o, rfl, h1, h2⟩ := h hn
 exact ⟨b, o, rfl, h1, fun j u hu => (hc.cell (p := ⟨b, o + j, none⟩) h1 (hF b rfl)).trans (h2 j u hu)⟩
theorem hop_tail {t : Nat} {K : Nat → Nat} {w wf : World} {d : HD} {v : HV} {S S1 : List En} {Lr : List Rec} {P : Option (Int × List Dg)} {wk : Nat} {now draw : Int} {L : List (List Int)} {a nw : Int} {l : List Int} {told : Array Value} {T1 : List (Int × Nb)}
  (hs : HostS t K w d v S Lr P) (hw : WkS t K w wk d now draw L) (hca : CacheAt v wf (fun b => (K b = t + 2 ∨ b = d.h) ∧ b < w.heap.size ∨ w.heap.size ≤ b) d.h S1) (hch : Chg (fun b => (K b = t + 2 ∨ b = d.h) ∧ b < w.heap.size) w wf)
  (hT : SendT (absT S) a nw l told T1) (hab : absT S1 = T1) :
  ∃ nv K1, (∀ b, b < w.heap.size → K1 b = K b) ∧ HostS t K1 wf d { v with near := nv } S1 Lr P ∧ WkS t K1 wf wk d now draw L ∧ Chg (fun b => callK t (K b)) w wf := by
 have hch' : Chg (fun b => K b = t + 2 ∨ b = d.h) w wf := hch.mono (fun b _ e => e.1)
 have hK : ∀ b, b < w.heap.size → (fun b => if b < w.heap.size then K b else t + 2) b = K b := fun b hb => if_pos hb
 obtain ⟨nv, h1⟩ := hs.cache (K' := fun b => if b < w.heap.size then K b else t + 2) (hca.mono (fun b hb => hb.imp (fun e => e.1) (fun e => e))) hch' (by rw [hab]; exact hT.ok hs.cb) hK (fun b hb => if_neg (by omega))
 refine ⟨nv, _, hK, h1, hw.keep hch' (fun b _ hk e => ?_) hK, hch'.mono (fun b _ e => ?_)⟩
 ·rcases e with e | e
  ·omega
  ·rw [e, hs.kh] at hk; omega
 ·rcases e with e | e
  ·exact ⟨by omega, by omega⟩
  ·rw [e, hs.kh]; exact ⟨by omega, by omega⟩
set_option maxHeartbeats 4000000 in
set_option maxRecDepth 100000 in
theorem whops_quiet (t : Nat) (K : Nat → Nat) (w : World) (d : HD) (v : HV) (S : List En) (Lr : List Rec) (P : Option (Int × List Dg)) (wk : Nat) (now draw : Int) (L : List (List Int)) (a : Int) (ha : okA a) (hL : L.length ≤ 1000000) (A : Option Addr) (n c : Nat) (l : List Int) (hn : l.length = n) (hmax : n ≤ 1000000) (hbl : Bs l) (hr : RB w w.heap.size A l)
  (hAK : ∀ b, blk A = some b → ¬ (K b = t + 2 ∨ b = d.h)) (hs : HostS t K w d v S Lr P) (hw : WkS t K w wk d now draw L) (told : Array Value) (hto : told = toldC false noMac false false)
  (hc : ∀ (w : World) (A : Option Addr) (c B : Nat) (F : Nat → Prop) (g : Nat), RB w B A l → B ≤ w.heap.size → CacheAt v w F g S → Calls Tryz.prog 234 #[.pointer (some ⟨g, 8, none⟩), .int .u32 a, .slice A n c, .int .i64 now] w (fun e w' => ∃ T', SendT (absT S) a now l told T' ∧ SendPost v w F g told T' e w')) :
  Calls Tryz.prog 165 #[.pointer (some ⟨wk, 0, none⟩), .int .u32 a, .slice A n c] w fun e w' => e = .returned (.tuple #[]) ∧ ∃ v' S' L', HopR v S a now l L v' S' L' ∧ PostW t K w wk d now draw v' S' Lr P L' w' := by
 obtain ⟨fA, fn, fc, vs, k1, k2, k3, k4⟩ := hw.ex
 have q0 : w.drew.cell? ⟨wk, 0, none⟩ = some (bp d.h) := k1.cell 0
 have q1 : w.drew.cell? ⟨wk, 1, none⟩ = some (.int .i64 now) := k1.cell 1
 have k1a := k1.alloc (.cells #[.bool false, .int .u8 0, .int .u8 0, .int .u8 0, .int .u8 0, .int .u8 0, .int .u8 0, .bool false, .bool false] 427)
 have a0 : (w.alloc (.cells #[.bool false, .int .u8 0, .int .u8 0, .int .u8 0, .int .u8 0, .int .u8 0, .int .u8 0, .bool false, .bool false] 427)).drew.cell? ⟨wk, 0, none⟩ = some (bp d.h) := k1a.cell 0
 have a1 : (w.alloc (.cells #[.bool false, .int .u8 0, .int .u8 0, .int .u8 0, .int .u8 0, .int .u8 0, .int .u8 0, .bool false, .bool false] 427)).drew.cell? ⟨wk, 1, none⟩ = some (.int .i64 now) := k1a.cell 1
 have hwl : wk < w.heap.size := k1.lt
 have HWL := Lib.hid hwl
 have hwz : wk ≠ w.heap.size := by omega
 have hzw : w.heap.size ≠ wk := by omega
 have HWD : Hid ((⟨wk, 0, none⟩ : Addr).block < w.drew.heap.size) := Lib.hid hwl
 have HWA : Hid ((⟨wk, 0, none⟩ : Addr).block < (w.alloc (.cells #[.bool false, .int .u8 0, .int .u8 0, .int .u8 0, .int .u8 0, .int .u8 0, .int .u8 0, .bool false, .bool false] 427)).drew.heap.size) := Lib.hid (Nat.lt_of_lt_of_le hwl (by show _ ≤ (w.alloc _).heap.size; simp))
 have HS := Lib.hid hs
 have HW := Lib.hid hw
 have HA := Lib.hid ha
 have HL := Lib.hid hL
 have HN := Lib.hid hn
 have HX := Lib.hid (And.intro hmax (And.intro hbl hr))
 have HTO := Lib.hid hto
 have HAK := Lib.hid hAK
 have hkw : wk ≠ d.h ∧ K wk = t + 6 := ⟨fun e => by have a1 := hw.kw; rw [e, hs.kh] at a1; omega, hw.kw⟩
 have HKW := Lib.hid hkw
 have hba : Below w.heap.size w (w.alloc (.cells #[.bool false, .int .u8 0, .int .u8 0, .int .u8 0, .int .u8 0, .int .u8 0, .int .u8 0, .bool false, .bool false] 427)) := (Below.refl _ _).alloc (Nat.le_refl _) _
 have hbaH := Lib.hid hba
 have HC1 := Lib.hid (hc w.drew A c w.heap.size (fun b => (K b = t + 2 ∨ b = d.h) ∧ b < w.heap.size) d.h (Rw.drew hr) (Nat.le_refl _) (hs.ca.cap.below bel_drew_))
 have HC2 := Lib.hid (hc (w.alloc (.cells #[.bool false, .int .u8 0, .int .u8 0, .int .u8 0, .int .u8 0, .int .u8 0, .int .u8 0, .bool false, .bool false] 427)).drew A c w.heap.size (fun b => (K b = t + 2 ∨ b = d.h) ∧ b < w.heap.size) d.h (Rw.drew (Rw.below hr hba)) hba.size ((hs.ca.cap.below hba).below bel_drew_))
 have HBX : Hid (Bk (w.alloc (.cells #[.bool false, .int .u8 0, .int .u8 0, .int .u8 0, .int .u8 0, .int .u8 0, .int .u8 0, .bool false, .bool false] 427)).drew w.heap.size 427 #[.bool false, .int .u8 0, .int .u8 0, .int .u8 0, .int .u8 0, .int .u8 0, .int .u8 0, .bool false, .bool false]) := Lib.hid (Bk.new w _ _)
 have HNX : Hid (¬ ((K w.heap.size = t + 2 ∨ w.heap.size = d.h) ∧ w.heap.size < w.heap.size)) := Lib.hid (fun e => Nat.lt_irrefl _ e.2)
 have HNF : Hid (¬ ((K wk = t + 2 ∨ wk = d.h) ∧ wk < w.heap.size)) := Lib.hid (fun e => e.1.elim (fun e => by have := hkw.2; omega) hkw.1)
 clear hs hw ha hL k1 k2 k3 k4 hc hn hmax hbl hr hkw hba k1a
 subst hto
 clear HTO
 unfold toldC noMac SendPost at HC1 HC2
 go_enter Tryz.func165, Tryz.ntmps165
 go_wp2_with fail
 go_region_held3 (fun w' => w'.cell? ⟨wk, 0, none⟩ = some (bp d.h) ∧ w'.cell? ⟨wk, 1, none⟩ = some (.int .i64 now))
  (first | (with_reducible exact ⟨by assumption, by assumption⟩) | go_keep)
  (first
   | (go_at_call 234; with_reducible refine HC1.out.mono ?_; rintro e1 w1 ⟨T1, hT1, rfl, S1, hca1, hab1, hch1⟩; have p0 := (hch1.cell (p := ⟨wk, 0, none⟩) HWD.out HNF.out).trans q0; have p1 := (hch1.cell (p := ⟨wk, 1, none⟩) HWD.out HNF.out).trans q1)
   | (go_at_call 234; with_reducible refine HC2.out.mono ?_; rintro e1 w1 ⟨T1, hT1, rfl, S1, hca1, hab1, hch1⟩; have hbx : Bk w1 w.heap.size 427 #[.bool false, .int .u8 0, .int .u8 0, .int .u8 0, .int .u8 0, .int .u8 0, .int .u8 0, .bool false, .bool false] := HBX.out.chg hch1 HNX.out; obtain ⟨y0, y1, y2, y3, y4, y5, y6, y7, y8, x0, x1, x2, x3, x4, x5, x6, x7, x8⟩ := told_cells hbx; have p0 := (hch1.cell (p := ⟨wk, 0, none⟩) HWA.out HNF.out).trans a0; have p1 := (hch1.cell (p := ⟨wk, 1, none⟩) HWA.out HNF.out).trans a1))
 ·skip
  have hbk : Bk (w1.alloc (.cells #[.bool false, .int .u8 0, .int .u8 0, .int .u8 0, .int .u8 0, .int .u8 0, .int .u8 0, .bool false, .bool false] 427)) w1.heap.size 427 #[.bool false, .int .u8 0, .int .u8 0, .int .u8 0, .int .u8 0, .int .u8 0, .int .u8 0, .bool false, .bool false] := Bk.new w1 _ _
  have hb9 : Below w1.heap.size w1 (w1.alloc (.cells #[.bool false, .int .u8 0, .int .u8 0, .int .u8 0, .int .u8 0, .int .u8 0, .int .u8 0, .bool false, .bool false] 427)) := (Below.refl _ _).alloc (Nat.le_refl _) _
  have hcf : CacheAt v (w1.alloc (.cells #[.bool false, .int .u8 0, .int .u8 0, .int .u8 0, .int .u8 0, .int .u8 0, .int .u8 0, .bool false, .bool false] 427)) (fun b => (K b = t + 2 ∨ b = d.h) ∧ b < w.heap.size ∨ w.heap.size ≤ b) d.h S1 := (CacheAt.mono hca1 (fun b hb => hb)).below hb9
  have hgf : Chg (fun b => (K b = t + 2 ∨ b = d.h) ∧ b < w.heap.size) w (w1.alloc (.cells #[.bool false, .int .u8 0, .int .u8 0, .int .u8 0, .int .u8 0, .int .u8 0, .int .u8 0, .bool false, .bool false] 427)) := (Chg.undr hch1).alloc _
  obtain ⟨wf, hwf⟩ : ∃ wf, w1.alloc (.cells #[.bool false, .int .u8 0, .int .u8 0, .int .u8 0, .int .u8 0, .int .u8 0, .int .u8 0, .bool false, .bool false] 427) = wf := ⟨_, rfl⟩
  obtain ⟨tb, htb⟩ : ∃ tb, w1.heap.size = tb := ⟨_, rfl⟩
  rw [hwf] at hbk hcf hgf ⊢
  rw [htb] at hbk ⊢
  have t0 : wf.cell? ⟨tb, 0, none⟩ = some (.bool false) := hbk.cell 0
  have t1 : wf.cell? ⟨tb, 1, none⟩ = some (.int .u8 0) := hbk.cell 1
  have t2 : wf.cell? ⟨tb, 2, none⟩ = some (.int .u8 0) := hbk.cell 2
  have t3 : wf.cell? ⟨tb, 3, none⟩ = some (.int .u8 0) := hbk.cell 3
  have t4 : wf.cell? ⟨tb, 4, none⟩ = some (.int .u8 0) := hbk.cell 4
  have t5 : wf.cell? ⟨tb, 5, none⟩ = some (.int .u8 0) := hbk.cell 5
  have t6 : wf.cell? ⟨tb, 6, none⟩ = some (.int .u8 0) := hbk.cell 6
  have t7 : wf.cell? ⟨tb, 7, none⟩ = some (.bool false) := hbk.cell 7
  have t8 : wf.cell? ⟨tb, 8, none⟩ = some (.bool false) := hbk.cell 8
  have HBK := Lib.hid hbk
  obtain ⟨nv, K1, hK1, hs1, hw1, hc1⟩ := hop_tail HS.out HW.out hcf hgf hT1 hab1
  have HF := Lib.hid (And.intro hK1 (And.intro hs1 (And.intro hw1 hc1)))
  have HRF : Hid (RB wf wf.heap.size A l) := Lib.hid (Rw.more (RB.chg_ HX.out.2.2 hgf (fun b e1 e2 => HAK.out b e1 e2.1)) hgf.size)
  have HTT := Lib.hid (And.intro hT1 hab1)
  clear hb9 hbk hcf hgf hwf htb hK1 hs1 hw1 hc1 hT1 hab1 hca1 hch1 p0 p1
  go_wp2
  go_end0
  exact ⟨rfl, _, S1, L, ⟨_, _, nv, HTT.out.1, HTT.out.2, .inr (.inr (.inl ⟨rfl, rfl, rfl⟩))⟩, K1, HF.out.1, HF.out.2.1, HF.out.2.2.1, HF.out.2.2.2⟩
 ·skip
  have hbk0 : Bk ((w1).setCell ⟨w.heap.size, 0, none⟩ (.bool false)) w.heap.size 427 #[.bool false, .int .u8 0, .int .u8 0, .int .u8 0, .int .u8 0, .int .u8 0, .int .u8 0, .bool false, .bool false] := Bk.set hbx 0 _
  have hbk1 : Bk (((w1).setCell ⟨w.heap.size, 0, none⟩ (.bool false)).setCell ⟨w.heap.size, 1, none⟩ (.int .u8 0)) w.heap.size 427 #[.bool false, .int .u8 0, .int .u8 0, .int .u8 0, .int .u8 0, .int .u8 0, .int .u8 0, .bool false, .bool false] := Bk.set hbk0 1 _
  have hbk2 : Bk ((((w1).setCell ⟨w.heap.size, 0, none⟩ (.bool false)).setCell ⟨w.heap.size, 1, none⟩ (.int .u8 0)).setCell ⟨w.heap.size, 2, none⟩ (.int .u8 0)) w.heap.size 427 #[.bool false, .int .u8 0, .int .u8 0, .int .u8 0, .int .u8 0, .int .u8 0, .int .u8 0, .bool false, .bool false] := Bk.set hbk1 2 _
  have hbk3 : Bk (((((w1).setCell ⟨w.heap.size, 0, none⟩ (.bool false)).setCell ⟨w.heap.size, 1, none⟩ (.int .u8 0)).setCell ⟨w.heap.size, 2, none⟩ (.int .u8 0)).setCell ⟨w.heap.size, 3, none⟩ (.int .u8 0)) w.heap.size 427 #[.bool false, .int .u8 0, .int .u8 0, .int .u8 0, .int .u8 0, .int .u8 0, .int .u8 0, .bool false, .bool false] := Bk.set hbk2 3 _
  have hbk4 : Bk ((((((w1).setCell ⟨w.heap.size, 0, none⟩ (.bool false)).setCell ⟨w.heap.size, 1, none⟩ (.int .u8 0)).setCell ⟨w.heap.size, 2, none⟩ (.int .u8 0)).setCell ⟨w.heap.size, 3, none⟩ (.int .u8 0)).setCell ⟨w.heap.size, 4, none⟩ (.int .u8 0)) w.heap.size 427 #[.bool false, .int .u8 0, .int .u8 0, .int .u8 0, .int .u8 0, .int .u8 0, .int .u8 0, .bool false, .bool false] := Bk.set hbk3 4 _
  have hbk5 : Bk (((((((w1).setCell ⟨w.heap.size, 0, none⟩ (.bool false)).setCell ⟨w.heap.size, 1, none⟩ (.int .u8 0)).setCell ⟨w.heap.size, 2, none⟩ (.int .u8 0)).setCell ⟨w.heap.size, 3, none⟩ (.int .u8 0)).setCell ⟨w.heap.size, 4, none⟩ (.int .u8 0)).setCell ⟨w.heap.size, 5, none⟩ (.int .u8 0)) w.heap.size 427 #[.bool false, .int .u8 0, .int .u8 0, .int .u8 0, .int .u8 0, .int .u8 0, .int .u8 0, .bool false, .bool false] := Bk.set hbk4 5 _
  have hbk6 : Bk ((((((((w1).setCell ⟨w.heap.size, 0, none⟩ (.bool false)).setCell ⟨w.heap.size, 1, none⟩ (.int .u8 0)).setCell ⟨w.heap.size, 2, none⟩ (.int .u8 0)).setCell ⟨w.heap.size, 3, none⟩ (.int .u8 0)).setCell ⟨w.heap.size, 4, none⟩ (.int .u8 0)).setCell ⟨w.heap.size, 5, none⟩ (.int .u8 0)).setCell ⟨w.heap.size, 6, none⟩ (.int .u8 0)) w.heap.size 427 #[.bool false, .int .u8 0, .int .u8 0, .int .u8 0, .int .u8 0, .int .u8 0, .int .u8 0, .bool false, .bool false] := Bk.set hbk5 6 _
  have hbk7 : Bk (((((((((w1).setCell ⟨w.heap.size, 0, none⟩ (.bool false)).setCell ⟨w.heap.size, 1, none⟩ (.int .u8 0)).setCell ⟨w.heap.size, 2, none⟩ (.int .u8 0)).setCell ⟨w.heap.size, 3, none⟩ (.int .u8 0)).setCell ⟨w.heap.size, 4, none⟩ (.int .u8 0)).setCell ⟨w.heap.size, 5, none⟩ (.int .u8 0)).setCell ⟨w.heap.size, 6, none⟩ (.int .u8 0)).setCell ⟨w.heap.size, 7, none⟩ (.bool false)) w.heap.size 427 #[.bool false, .int .u8 0, .int .u8 0, .int .u8 0, .int .u8 0, .int .u8 0, .int .u8 0, .bool false, .bool false] := Bk.set hbk6 7 _
  have hbk8 : Bk ((((((((((w1).setCell ⟨w.heap.size, 0, none⟩ (.bool false)).setCell ⟨w.heap.size, 1, none⟩ (.int .u8 0)).setCell ⟨w.heap.size, 2, none⟩ (.int .u8 0)).setCell ⟨w.heap.size, 3, none⟩ (.int .u8 0)).setCell ⟨w.heap.size, 4, none⟩ (.int .u8 0)).setCell ⟨w.heap.size, 5, none⟩ (.int .u8 0)).setCell ⟨w.heap.size, 6, none⟩ (.int .u8 0)).setCell ⟨w.heap.size, 7, none⟩ (.bool false)).setCell ⟨w.heap.size, 8, none⟩ (.bool false)) w.heap.size 427 #[.bool false, .int .u8 0, .int .u8 0, .int .u8 0, .int .u8 0, .int .u8 0, .int .u8 0, .bool false, .bool false] := Bk.set hbk7 8 _
  have hbk : Bk ((((((((((w1).setCell ⟨w.heap.size, 0, none⟩ (.bool false)).setCell ⟨w.heap.size, 1, none⟩ (.int .u8 0)).setCell ⟨w.heap.size, 2, none⟩ (.int .u8 0)).setCell ⟨w.heap.size, 3, none⟩ (.int .u8 0)).setCell ⟨w.heap.size, 4, none⟩ (.int .u8 0)).setCell ⟨w.heap.size, 5, none⟩ (.int .u8 0)).setCell ⟨w.heap.size, 6, none⟩ (.int .u8 0)).setCell ⟨w.heap.size, 7, none⟩ (.bool false)).setCell ⟨w.heap.size, 8, none⟩ (.bool false)) w.heap.size 427 #[.bool false, .int .u8 0, .int .u8 0, .int .u8 0, .int .u8 0, .int .u8 0, .int .u8 0, .bool false, .bool false] := hbk8
  have hc9 : Chg (fun b => b = w.heap.size) w1 ((((((((((w1).setCell ⟨w.heap.size, 0, none⟩ (.bool false)).setCell ⟨w.heap.size, 1, none⟩ (.int .u8 0)).setCell ⟨w.heap.size, 2, none⟩ (.int .u8 0)).setCell ⟨w.heap.size, 3, none⟩ (.int .u8 0)).setCell ⟨w.heap.size, 4, none⟩ (.int .u8 0)).setCell ⟨w.heap.size, 5, none⟩ (.int .u8 0)).setCell ⟨w.heap.size, 6, none⟩ (.int .u8 0)).setCell ⟨w.heap.size, 7, none⟩ (.bool false)).setCell ⟨w.heap.size, 8, none⟩ (.bool false)) := (((((((((Chg.refl _ w1).set1 _).set1 _).set1 _).set1 _).set1 _).set1 _).set1 _).set1 _).set1 _
  have hcf : CacheAt v ((((((((((w1).setCell ⟨w.heap.size, 0, none⟩ (.bool false)).setCell ⟨w.heap.size, 1, none⟩ (.int .u8 0)).setCell ⟨w.heap.size, 2, none⟩ (.int .u8 0)).setCell ⟨w.heap.size, 3, none⟩ (.int .u8 0)).setCell ⟨w.heap.size, 4, none⟩ (.int .u8 0)).setCell ⟨w.heap.size, 5, none⟩ (.int .u8 0)).setCell ⟨w.heap.size, 6, none⟩ (.int .u8 0)).setCell ⟨w.heap.size, 7, none⟩ (.bool false)).setCell ⟨w.heap.size, 8, none⟩ (.bool false)) (fun b => (K b = t + 2 ∨ b = d.h) ∧ b < w.heap.size ∨ w.heap.size ≤ b) d.h S1 := (CacheAt.far_ hca1 (b0 := w.heap.size) (fun e => e.elim (fun e => Nat.lt_irrefl _ e.2) (fun e => by have e2 : w.heap.size + 1 ≤ w.heap.size := (by simpa using e); omega)) hc9).mono (fun b hb => hb.imp (fun e => e) (fun e => by have e2 : w.heap.size + 1 ≤ b := (by simpa using e); omega))
  have hgf : Chg (fun b => (K b = t + 2 ∨ b = d.h) ∧ b < w.heap.size) w ((((((((((w1).setCell ⟨w.heap.size, 0, none⟩ (.bool false)).setCell ⟨w.heap.size, 1, none⟩ (.int .u8 0)).setCell ⟨w.heap.size, 2, none⟩ (.int .u8 0)).setCell ⟨w.heap.size, 3, none⟩ (.int .u8 0)).setCell ⟨w.heap.size, 4, none⟩ (.int .u8 0)).setCell ⟨w.heap.size, 5, none⟩ (.int .u8 0)).setCell ⟨w.heap.size, 6, none⟩ (.int .u8 0)).setCell ⟨w.heap.size, 7, none⟩ (.bool false)).setCell ⟨w.heap.size, 8, none⟩ (.bool false)) := ((Chg.of_below (F := fun b => (K b = t + 2 ∨ b = d.h) ∧ b < w.heap.size) hbaH.out).trans (Chg.undr hch1) (fun _ e => .inl e)).trans hc9 (fun b e => .inr (by rw [e]; exact Nat.le_refl _))
  obtain ⟨wf, hwf⟩ : ∃ wf, (((((((((w1).setCell ⟨w.heap.size, 0, none⟩ (.bool false)).setCell ⟨w.heap.size, 1, none⟩ (.int .u8 0)).setCell ⟨w.heap.size, 2, none⟩ (.int .u8 0)).setCell ⟨w.heap.size, 3, none⟩ (.int .u8 0)).setCell ⟨w.heap.size, 4, none⟩ (.int .u8 0)).setCell ⟨w.heap.size, 5, none⟩ (.int .u8 0)).setCell ⟨w.heap.size, 6, none⟩ (.int .u8 0)).setCell ⟨w.heap.size, 7, none⟩ (.bool false)).setCell ⟨w.heap.size, 8, none⟩ (.bool false) = wf := ⟨_, rfl⟩
  obtain ⟨tb, htb⟩ : ∃ tb, w.heap.size = tb := ⟨_, rfl⟩
  rw [hwf] at hbk hcf hgf ⊢
  rw [htb] at hbk ⊢
  have t0 : wf.cell? ⟨tb, 0, none⟩ = some (.bool false) := hbk.cell 0
  have t1 : wf.cell? ⟨tb, 1, none⟩ = some (.int .u8 0) := hbk.cell 1
  have t2 : wf.cell? ⟨tb, 2, none⟩ = some (.int .u8 0) := hbk.cell 2
  have t3 : wf.cell? ⟨tb, 3, none⟩ = some (.int .u8 0) := hbk.cell 3
  have t4 : wf.cell? ⟨tb, 4, none⟩ = some (.int .u8 0) := hbk.cell 4
  have t5 : wf.cell? ⟨tb, 5, none⟩ = some (.int .u8 0) := hbk.cell 5
  have t6 : wf.cell? ⟨tb, 6, none⟩ = some (.int .u8 0) := hbk.cell 6
  have t7 : wf.cell? ⟨tb, 7, none⟩ = some (.bool false) := hbk.cell 7
  have t8 : wf.cell? ⟨tb, 8, none⟩ = some (.bool false) := hbk.cell 8
  have HBK := Lib.hid hbk
  obtain ⟨nv, K1, hK1, hs1, hw1, hc1⟩ := hop_tail HS.out HW.out hcf hgf hT1 hab1
  have HF := Lib.hid (And.intro hK1 (And.intro hs1 (And.intro hw1 hc1)))
  have HRF : Hid (RB wf wf.heap.size A l) := Lib.hid (Rw.more (RB.chg_ HX.out.2.2 hgf (fun b e1 e2 => HAK.out b e1 e2.1)) hgf.size)
  have HTT := Lib.hid (And.intro hT1 hab1)
  clear hbk0 hbk1 hbk2 hbk3 hbk4 hbk5 hbk6 hbk7 hbk8 hc9 hbk hcf hgf hwf htb hK1 hs1 hw1 hc1 hT1 hab1 hca1 hch1 p0 p1 hbx y0 y1 y2 y3 y4 y5 y6 y7 y8 x0 x1 x2 x3 x4 x5 x6 x7 x8
  go_wp2
  go_end0
  exact ⟨rfl, _, S1, L, ⟨_, _, nv, HTT.out.1, HTT.out.2, .inr (.inr (.inl ⟨rfl, rfl, rfl⟩))⟩, K1, HF.out.1, HF.out.2.1, HF.out.2.2.1, HF.out.2.2.2⟩
set_option maxHeartbeats 4000000 in
set_option maxRecDepth 100000 in
theorem whops_ask (t : Nat) (K : Nat → Nat) (w : World) (d : HD) (v : HV) (S : List En) (Lr : List Rec) (P : Option (Int × List Dg)) (wk : Nat) (now draw : Int) (L : List (List Int)) (a : Int) (ha : okA a) (hL : L.length ≤ 1000000) (A : Option Addr) (n c : Nat) (l : List Int) (hn : l.length = n) (hmax : n ≤ 1000000) (hbl : Bs l) (hr : RB w w.heap.size A l)
  (hAK : ∀ b, blk A = some b → ¬ (K b = t + 2 ∨ b = d.h)) (hs : HostS t K w d v S Lr P) (hw : WkS t K w wk d now draw L) (told : Array Value) (hto : told = toldC false noMac true false)
  (hc : ∀ (w : World) (A : Option Addr) (c B : Nat) (F : Nat → Prop) (g : Nat), RB w B A l → B ≤ w.heap.size → CacheAt v w F g S → Calls Tryz.prog 234 #[.pointer (some ⟨g, 8, none⟩), .int .u32 a, .slice A n c, .int .i64 now] w (fun e w' => ∃ T', SendT (absT S) a now l told T' ∧ SendPost v w F g told T' e w')) :
  Calls Tryz.prog 165 #[.pointer (some ⟨wk, 0, none⟩), .int .u32 a, .slice A n c] w fun e w' => e = .returned (.tuple #[]) ∧ ∃ v' S' L', HopR v S a now l L v' S' L' ∧ PostW t K w wk d now draw v' S' Lr P L' w' := by
 obtain ⟨fA, fn, fc, vs, k1, k2, k3, k4⟩ := hw.ex
 have q0 : w.drew.cell? ⟨wk, 0, none⟩ = some (bp d.h) := k1.cell 0
 have q1 : w.drew.cell? ⟨wk, 1, none⟩ = some (.int .i64 now) := k1.cell 1
 have k1a := k1.alloc (.cells #[.bool false, .int .u8 0, .int .u8 0, .int .u8 0, .int .u8 0, .int .u8 0, .int .u8 0, .bool false, .bool false] 427)
 have a0 : (w.alloc (.cells #[.bool false, .int .u8 0, .int .u8 0, .int .u8 0, .int .u8 0, .int .u8 0, .int .u8 0, .bool false, .bool false] 427)).drew.cell? ⟨wk, 0, none⟩ = some (bp d.h) := k1a.cell 0
 have a1 : (w.alloc (.cells #[.bool false, .int .u8 0, .int .u8 0, .int .u8 0, .int .u8 0, .int .u8 0, .int .u8 0, .bool false, .bool false] 427)).drew.cell? ⟨wk, 1, none⟩ = some (.int .i64 now) := k1a.cell 1
 have hwl : wk < w.heap.size := k1.lt
 have HWL := Lib.hid hwl
 have hwz : wk ≠ w.heap.size := by omega
 have hzw : w.heap.size ≠ wk := by omega
 have HWD : Hid ((⟨wk, 0, none⟩ : Addr).block < w.drew.heap.size) := Lib.hid hwl
 have HWA : Hid ((⟨wk, 0, none⟩ : Addr).block < (w.alloc (.cells #[.bool false, .int .u8 0, .int .u8 0, .int .u8 0, .int .u8 0, .int .u8 0, .int .u8 0, .bool false, .bool false] 427)).drew.heap.size) := Lib.hid (Nat.lt_of_lt_of_le hwl (by show _ ≤ (w.alloc _).heap.size; simp))
 have HS := Lib.hid hs
 have HW := Lib.hid hw
 have HA := Lib.hid ha
 have HL := Lib.hid hL
 have HN := Lib.hid hn
 have HX := Lib.hid (And.intro hmax (And.intro hbl hr))
 have HTO := Lib.hid hto
 have HAK := Lib.hid hAK
 have hkw : wk ≠ d.h ∧ K wk = t + 6 := ⟨fun e => by have a1 := hw.kw; rw [e, hs.kh] at a1; omega, hw.kw⟩
 have HKW := Lib.hid hkw
 have hba : Below w.heap.size w (w.alloc (.cells #[.bool false, .int .u8 0, .int .u8 0, .int .u8 0, .int .u8 0, .int .u8 0, .int .u8 0, .bool false, .bool false] 427)) := (Below.refl _ _).alloc (Nat.le_refl _) _
 have hbaH := Lib.hid hba
 have HC1 := Lib.hid (hc w.drew A c w.heap.size (fun b => (K b = t + 2 ∨ b = d.h) ∧ b < w.heap.size) d.h (Rw.drew hr) (Nat.le_refl _) (hs.ca.cap.below bel_drew_))
 have HC2 := Lib.hid (hc (w.alloc (.cells #[.bool false, .int .u8 0, .int .u8 0, .int .u8 0, .int .u8 0, .int .u8 0, .int .u8 0, .bool false, .bool false] 427)).drew A c w.heap.size (fun b => (K b = t + 2 ∨ b = d.h) ∧ b < w.heap.size) d.h (Rw.drew (Rw.below hr hba)) hba.size ((hs.ca.cap.below hba).below bel_drew_))
 have HBX : Hid (Bk (w.alloc (.cells #[.bool false, .int .u8 0, .int .u8 0, .int .u8 0, .int .u8 0, .int .u8 0, .int .u8 0, .bool false, .bool false] 427)).drew w.heap.size 427 #[.bool false, .int .u8 0, .int .u8 0, .int .u8 0, .int .u8 0, .int .u8 0, .int .u8 0, .bool false, .bool false]) := Lib.hid (Bk.new w _ _)
 have HNX : Hid (¬ ((K w.heap.size = t + 2 ∨ w.heap.size = d.h) ∧ w.heap.size < w.heap.size)) := Lib.hid (fun e => Nat.lt_irrefl _ e.2)
 have HNF : Hid (¬ ((K wk = t + 2 ∨ wk = d.h) ∧ wk < w.heap.size)) := Lib.hid (fun e => e.1.elim (fun e => by have := hkw.2; omega) hkw.1)
 clear hs hw ha hL k1 k2 k3 k4 hc hn hmax hbl hr hkw hba k1a
 subst hto
 clear HTO
 unfold toldC noMac SendPost at HC1 HC2
 go_enter Tryz.func165, Tryz.ntmps165
 go_wp2_with fail
 go_region_held3 (fun w' => w'.cell? ⟨wk, 0, none⟩ = some (bp d.h) ∧ w'.cell? ⟨wk, 1, none⟩ = some (.int .i64 now))
  (first | (with_reducible exact ⟨by assumption, by assumption⟩) | go_keep)
  (first
   | (go_at_call 234; with_reducible refine HC1.out.mono ?_; rintro e1 w1 ⟨T1, hT1, rfl, S1, hca1, hab1, hch1⟩; have p0 := (hch1.cell (p := ⟨wk, 0, none⟩) HWD.out HNF.out).trans q0; have p1 := (hch1.cell (p := ⟨wk, 1, none⟩) HWD.out HNF.out).trans q1)
   | (go_at_call 234; with_reducible refine HC2.out.mono ?_; rintro e1 w1 ⟨T1, hT1, rfl, S1, hca1, hab1, hch1⟩; have hbx : Bk w1 w.heap.size 427 #[.bool false, .int .u8 0, .int .u8 0, .int .u8 0, .int .u8 0, .int .u8 0, .int .u8 0, .bool false, .bool false] := HBX.out.chg hch1 HNX.out; obtain ⟨y0, y1, y2, y3, y4, y5, y6, y7, y8, x0, x1, x2, x3, x4, x5, x6, x7, x8⟩ := told_cells hbx; have p0 := (hch1.cell (p := ⟨wk, 0, none⟩) HWA.out HNF.out).trans a0; have p1 := (hch1.cell (p := ⟨wk, 1, none⟩) HWA.out HNF.out).trans a1))
 ·skip
  have hbk : Bk (w1.alloc (.cells #[.bool false, .int .u8 0, .int .u8 0, .int .u8 0, .int .u8 0, .int .u8 0, .int .u8 0, .bool true, .bool false] 427)) w1.heap.size 427 #[.bool false, .int .u8 0, .int .u8 0, .int .u8 0, .int .u8 0, .int .u8 0, .int .u8 0, .bool true, .bool false] := Bk.new w1 _ _
  have hb9 : Below w1.heap.size w1 (w1.alloc (.cells #[.bool false, .int .u8 0, .int .u8 0, .int .u8 0, .int .u8 0, .int .u8 0, .int .u8 0, .bool true, .bool false] 427)) := (Below.refl _ _).alloc (Nat.le_refl _) _
  have hcf : CacheAt v (w1.alloc (.cells #[.bool false, .int .u8 0, .int .u8 0, .int .u8 0, .int .u8 0, .int .u8 0, .int .u8 0, .bool true, .bool false] 427)) (fun b => (K b = t + 2 ∨ b = d.h) ∧ b < w.heap.size ∨ w.heap.size ≤ b) d.h S1 := (CacheAt.mono hca1 (fun b hb => hb)).below hb9
  have hgf : Chg (fun b => (K b = t + 2 ∨ b = d.h) ∧ b < w.heap.size) w (w1.alloc (.cells #[.bool false, .int .u8 0, .int .u8 0, .int .u8 0, .int .u8 0, .int .u8 0, .int .u8 0, .bool true, .bool false] 427)) := (Chg.undr hch1).alloc _
  obtain ⟨wf, hwf⟩ : ∃ wf, w1.alloc (.cells #[.bool false, .int .u8 0, .int .u8 0, .int .u8 0, .int .u8 0, .int .u8 0, .int .u8 0, .bool true, .bool false] 427) = wf := ⟨_, rfl⟩
  obtain ⟨tb, htb⟩ : ∃ tb, w1.heap.size = tb := ⟨_, rfl⟩
  rw [hwf] at hbk hcf hgf ⊢
  rw [htb] at hbk ⊢
  have t0 : wf.cell? ⟨tb, 0, none⟩ = some (.bool false) := hbk.cell 0
  have t1 : wf.cell? ⟨tb, 1, none⟩ = some (.int .u8 0) := hbk.cell 1
  have t2 : wf.cell? ⟨tb, 2, none⟩ = some (.int .u8 0) := hbk.cell 2
  have t3 : wf.cell? ⟨tb, 3, none⟩ = some (.int .u8 0) := hbk.cell 3
  have t4 : wf.cell? ⟨tb, 4, none⟩ = some (.int .u8 0) := hbk.cell 4
  have t5 : wf.cell? ⟨tb, 5, none⟩ = some (.int .u8 0) := hbk.cell 5
  have t6 : wf.cell? ⟨tb, 6, none⟩ = some (.int .u8 0) := hbk.cell 6
  have t7 : wf.cell? ⟨tb, 7, none⟩ = some (.bool true) := hbk.cell 7
  have t8 : wf.cell? ⟨tb, 8, none⟩ = some (.bool false) := hbk.cell 8
  have HBK := Lib.hid hbk
  obtain ⟨nv, K1, hK1, hs1, hw1, hc1⟩ := hop_tail HS.out HW.out hcf hgf hT1 hab1
  have HF := Lib.hid (And.intro hK1 (And.intro hs1 (And.intro hw1 hc1)))
  have HRF : Hid (RB wf wf.heap.size A l) := Lib.hid (Rw.more (RB.chg_ HX.out.2.2 hgf (fun b e1 e2 => HAK.out b e1 e2.1)) hgf.size)
  have HTT := Lib.hid (And.intro hT1 hab1)
  clear hb9 hbk hcf hgf hwf htb hK1 hs1 hw1 hc1 hT1 hab1 hca1 hch1 p0 p1
  go_wp2_with fail
  refine (wasks_any t K1 wf d { v with near := nv } S1 Lr P wk now draw L a HA.out HL.out HF.out.2.1 HF.out.2.2.1).mono ?_
  rintro e2 w2 ⟨rfl, hp2⟩
  have HFIN : Hid (PostW t K w wk d now draw (askU { v with near := nv }) S1 Lr P (askF { v with near := nv } a L) w2) := Lib.hid (PostW.trans HF.out.1 HF.out.2.2.2 hp2)
  clear hp2
  go_wp2
  go_end0
  exact ⟨rfl, _, S1, _, ⟨_, _, nv, HTT.out.1, HTT.out.2, .inr (.inl ⟨rfl, rfl, rfl⟩)⟩, HFIN.out⟩
 ·skip
  have hbk0 : Bk ((w1).setCell ⟨w.heap.size, 0, none⟩ (.bool false)) w.heap.size 427 #[.bool false, .int .u8 0, .int .u8 0, .int .u8 0, .int .u8 0, .int .u8 0, .int .u8 0, .bool false, .bool false] := Bk.set hbx 0 _
  have hbk1 : Bk (((w1).setCell ⟨w.heap.size, 0, none⟩ (.bool false)).setCell ⟨w.heap.size, 1, none⟩ (.int .u8 0)) w.heap.size 427 #[.bool false, .int .u8 0, .int .u8 0, .int .u8 0, .int .u8 0, .int .u8 0, .int .u8 0, .bool false, .bool false] := Bk.set hbk0 1 _
  have hbk2 : Bk ((((w1).setCell ⟨w.heap.size, 0, none⟩ (.bool false)).setCell ⟨w.heap.size, 1, none⟩ (.int .u8 0)).setCell ⟨w.heap.size, 2, none⟩ (.int .u8 0)) w.heap.size 427 #[.bool false, .int .u8 0, .int .u8 0, .int .u8 0, .int .u8 0, .int .u8 0, .int .u8 0, .bool false, .bool false] := Bk.set hbk1 2 _
  have hbk3 : Bk (((((w1).setCell ⟨w.heap.size, 0, none⟩ (.bool false)).setCell ⟨w.heap.size, 1, none⟩ (.int .u8 0)).setCell ⟨w.heap.size, 2, none⟩ (.int .u8 0)).setCell ⟨w.heap.size, 3, none⟩ (.int .u8 0)) w.heap.size 427 #[.bool false, .int .u8 0, .int .u8 0, .int .u8 0, .int .u8 0, .int .u8 0, .int .u8 0, .bool false, .bool false] := Bk.set hbk2 3 _
  have hbk4 : Bk ((((((w1).setCell ⟨w.heap.size, 0, none⟩ (.bool false)).setCell ⟨w.heap.size, 1, none⟩ (.int .u8 0)).setCell ⟨w.heap.size, 2, none⟩ (.int .u8 0)).setCell ⟨w.heap.size, 3, none⟩ (.int .u8 0)).setCell ⟨w.heap.size, 4, none⟩ (.int .u8 0)) w.heap.size 427 #[.bool false, .int .u8 0, .int .u8 0, .int .u8 0, .int .u8 0, .int .u8 0, .int .u8 0, .bool false, .bool false] := Bk.set hbk3 4 _
  have hbk5 : Bk (((((((w1).setCell ⟨w.heap.size, 0, none⟩ (.bool false)).setCell ⟨w.heap.size, 1, none⟩ (.int .u8 0)).setCell ⟨w.heap.size, 2, none⟩ (.int .u8 0)).setCell ⟨w.heap.size, 3, none⟩ (.int .u8 0)).setCell ⟨w.heap.size, 4, none⟩ (.int .u8 0)).setCell ⟨w.heap.size, 5, none⟩ (.int .u8 0)) w.heap.size 427 #[.bool false, .int .u8 0, .int .u8 0, .int .u8 0, .int .u8 0, .int .u8 0, .int .u8 0, .bool false, .bool false] := Bk.set hbk4 5 _
  have hbk6 : Bk ((((((((w1).setCell ⟨w.heap.size, 0, none⟩ (.bool false)).setCell ⟨w.heap.size, 1, none⟩ (.int .u8 0)).setCell ⟨w.heap.size, 2, none⟩ (.int .u8 0)).setCell ⟨w.heap.size, 3, none⟩ (.int .u8 0)).setCell ⟨w.heap.size, 4, none⟩ (.int .u8 0)).setCell ⟨w.heap.size, 5, none⟩ (.int .u8 0)).setCell ⟨w.heap.size, 6, none⟩ (.int .u8 0)) w.heap.size 427 #[.bool false, .int .u8 0, .int .u8 0, .int .u8 0, .int .u8 0, .int .u8 0, .int .u8 0, .bool false, .bool false] := Bk.set hbk5 6 _
  have hbk7 : Bk (((((((((w1).setCell ⟨w.heap.size, 0, none⟩ (.bool false)).setCell ⟨w.heap.size, 1, none⟩ (.int .u8 0)).setCell ⟨w.heap.size, 2, none⟩ (.int .u8 0)).setCell ⟨w.heap.size, 3, none⟩ (.int .u8 0)).setCell ⟨w.heap.size, 4, none⟩ (.int .u8 0)).setCell ⟨w.heap.size, 5, none⟩ (.int .u8 0)).setCell ⟨w.heap.size, 6, none⟩ (.int .u8 0)).setCell ⟨w.heap.size, 7, none⟩ (.bool true)) w.heap.size 427 #[.bool false, .int .u8 0, .int .u8 0, .int .u8 0, .int .u8 0, .int .u8 0, .int .u8 0, .bool true, .bool false] := Bk.set hbk6 7 _
  have hbk8 : Bk ((((((((((w1).setCell ⟨w.heap.size, 0, none⟩ (.bool false)).setCell ⟨w.heap.size, 1, none⟩ (.int .u8 0)).setCell ⟨w.heap.size, 2, none⟩ (.int .u8 0)).setCell ⟨w.heap.size, 3, none⟩ (.int .u8 0)).setCell ⟨w.heap.size, 4, none⟩ (.int .u8 0)).setCell ⟨w.heap.size, 5, none⟩ (.int .u8 0)).setCell ⟨w.heap.size, 6, none⟩ (.int .u8 0)).setCell ⟨w.heap.size, 7, none⟩ (.bool true)).setCell ⟨w.heap.size, 8, none⟩ (.bool false)) w.heap.size 427 #[.bool false, .int .u8 0, .int .u8 0, .int .u8 0, .int .u8 0, .int .u8 0, .int .u8 0, .bool true, .bool false] := Bk.set hbk7 8 _
  have hbk : Bk ((((((((((w1).setCell ⟨w.heap.size, 0, none⟩ (.bool false)).setCell ⟨w.heap.size, 1, none⟩ (.int .u8 0)).setCell ⟨w.heap.size, 2, none⟩ (.int .u8 0)).setCell ⟨w.heap.size, 3, none⟩ (.int .u8 0)).setCell ⟨w.heap.size, 4, none⟩ (.int .u8 0)).setCell ⟨w.heap.size, 5, none⟩ (.int .u8 0)).setCell ⟨w.heap.size, 6, none⟩ (.int .u8 0)).setCell ⟨w.heap.size, 7, none⟩ (.bool true)).setCell ⟨w.heap.size, 8, none⟩ (.bool false)) w.heap.size 427 #[.bool false, .int .u8 0, .int .u8 0, .int .u8 0, .int .u8 0, .int .u8 0, .int .u8 0, .bool true, .bool false] := hbk8
  have hc9 : Chg (fun b => b = w.heap.size) w1 ((((((((((w1).setCell ⟨w.heap.size, 0, none⟩ (.bool false)).setCell ⟨w.heap.size, 1, none⟩ (.int .u8 0)).setCell ⟨w.heap.size, 2, none⟩ (.int .u8 0)).setCell ⟨w.heap.size, 3, none⟩ (.int .u8 0)).setCell ⟨w.heap.size, 4, none⟩ (.int .u8 0)).setCell ⟨w.heap.size, 5, none⟩ (.int .u8 0)).setCell ⟨w.heap.size, 6, none⟩ (.int .u8 0)).setCell ⟨w.heap.size, 7, none⟩ (.bool true)).setCell ⟨w.heap.size, 8, none⟩ (.bool false)) := (((((((((Chg.refl _ w1).set1 _).set1 _).set1 _).set1 _).set1 _).set1 _).set1 _).set1 _).set1 _
  have hcf : CacheAt v ((((((((((w1).setCell ⟨w.heap.size, 0, none⟩ (.bool false)).setCell ⟨w.heap.size, 1, none⟩ (.int .u8 0)).setCell ⟨w.heap.size, 2, none⟩ (.int .u8 0)).setCell ⟨w.heap.size, 3, none⟩ (.int .u8 0)).setCell ⟨w.heap.size, 4, none⟩ (.int .u8 0)).setCell ⟨w.heap.size, 5, none⟩ (.int .u8 0)).setCell ⟨w.heap.size, 6, none⟩ (.int .u8 0)).setCell ⟨w.heap.size, 7, none⟩ (.bool true)).setCell ⟨w.heap.size, 8, none⟩ (.bool false)) (fun b => (K b = t + 2 ∨ b = d.h) ∧ b < w.heap.size ∨ w.heap.size ≤ b) d.h S1 := (CacheAt.far_ hca1 (b0 := w.heap.size) (fun e => e.elim (fun e => Nat.lt_irrefl _ e.2) (fun e => by have e2 : w.heap.size + 1 ≤ w.heap.size := (by simpa using e); omega)) hc9).mono (fun b hb => hb.imp (fun e => e) (fun e => by have e2 : w.heap.size + 1 ≤ b := (by simpa using e); omega))
  have hgf : Chg (fun b => (K b = t + 2 ∨ b = d.h) ∧ b < w.heap.size) w ((((((((((w1).setCell ⟨w.heap.size, 0, none⟩ (.bool false)).setCell ⟨w.heap.size, 1, none⟩ (.int .u8 0)).setCell ⟨w.heap.size, 2, none⟩ (.int .u8 0)).setCell ⟨w.heap.size, 3, none⟩ (.int .u8 0)).setCell ⟨w.heap.size, 4, none⟩ (.int .u8 0)).setCell ⟨w.heap.size, 5, none⟩ (.int .u8 0)).setCell ⟨w.heap.size, 6, none⟩ (.int .u8 0)).setCell ⟨w.heap.size, 7, none⟩ (.bool true)).setCell ⟨w.heap.size, 8, none⟩ (.bool false)) := ((Chg.of_below (F := fun b => (K b = t + 2 ∨ b = d.h) ∧ b < w.heap.size) hbaH.out).trans (Chg.undr hch1) (fun _ e => .inl e)).trans hc9 (fun b e => .inr (by rw [e]; exact Nat.le_refl _))
  obtain ⟨wf, hwf⟩ : ∃ wf, (((((((((w1).setCell ⟨w.heap.size, 0, none⟩ (.bool false)).setCell ⟨w.heap.size, 1, none⟩ (.int .u8 0)).setCell ⟨w.heap.size, 2, none⟩ (.int .u8 0)).setCell ⟨w.heap.size, 3, none⟩ (.int .u8 0)).setCell ⟨w.heap.size, 4, none⟩ (.int .u8 0)).setCell ⟨w.heap.size, 5, none⟩ (.int .u8 0)).setCell ⟨w.heap.size, 6, none⟩ (.int .u8 0)).setCell ⟨w.heap.size, 7, none⟩ (.bool true)).setCell ⟨w.heap.size, 8, none⟩ (.bool false) = wf := ⟨_, rfl⟩
  obtain ⟨tb, htb⟩ : ∃ tb, w.heap.size = tb := ⟨_, rfl⟩
  rw [hwf] at hbk hcf hgf ⊢
  rw [htb] at hbk ⊢
  have t0 : wf.cell? ⟨tb, 0, none⟩ = some (.bool false) := hbk.cell 0
  have t1 : wf.cell? ⟨tb, 1, none⟩ = some (.int .u8 0) := hbk.cell 1
  have t2 : wf.cell? ⟨tb, 2, none⟩ = some (.int .u8 0) := hbk.cell 2
  have t3 : wf.cell? ⟨tb, 3, none⟩ = some (.int .u8 0) := hbk.cell 3
  have t4 : wf.cell? ⟨tb, 4, none⟩ = some (.int .u8 0) := hbk.cell 4
  have t5 : wf.cell? ⟨tb, 5, none⟩ = some (.int .u8 0) := hbk.cell 5
  have t6 : wf.cell? ⟨tb, 6, none⟩ = some (.int .u8 0) := hbk.cell 6
  have t7 : wf.cell? ⟨tb, 7, none⟩ = some (.bool true) := hbk.cell 7
  have t8 : wf.cell? ⟨tb, 8, none⟩ = some (.bool false) := hbk.cell 8
  have HBK := Lib.hid hbk
  obtain ⟨nv, K1, hK1, hs1, hw1, hc1⟩ := hop_tail HS.out HW.out hcf hgf hT1 hab1
  have HF := Lib.hid (And.intro hK1 (And.intro hs1 (And.intro hw1 hc1)))
  have HRF : Hid (RB wf wf.heap.size A l) := Lib.hid (Rw.more (RB.chg_ HX.out.2.2 hgf (fun b e1 e2 => HAK.out b e1 e2.1)) hgf.size)
  have HTT := Lib.hid (And.intro hT1 hab1)
  clear hbk0 hbk1 hbk2 hbk3 hbk4 hbk5 hbk6 hbk7 hbk8 hc9 hbk hcf hgf hwf htb hK1 hs1 hw1 hc1 hT1 hab1 hca1 hch1 p0 p1 hbx y0 y1 y2 y3 y4 y5 y6 y7 y8 x0 x1 x2 x3 x4 x5 x6 x7 x8
  go_wp2_with fail
  refine (wasks_any t K1 wf d { v with near := nv } S1 Lr P wk now draw L a HA.out HL.out HF.out.2.1 HF.out.2.2.1).mono ?_
  rintro e2 w2 ⟨rfl, hp2⟩
  have HFIN : Hid (PostW t K w wk d now draw (askU { v with near := nv }) S1 Lr P (askF { v with near := nv } a L) w2) := Lib.hid (PostW.trans HF.out.1 HF.out.2.2.2 hp2)
  clear hp2
  go_wp2
  go_end0
  exact ⟨rfl, _, S1, _, ⟨_, _, nv, HTT.out.1, HTT.out.2, .inr (.inl ⟨rfl, rfl, rfl⟩)⟩, HFIN.out⟩
open Go.RowKit
def isMine (a ad : Int) : Bool := (a != 0) && (a == ad)
set_option maxRecDepth 100000 in
theorem mine_q (w : World) (h : Nat) (v : HV) (a : Int) (hb : HB w h v) :
  Calls Tryz.prog 79 #[.pointer (some ⟨h, 0, none⟩), .int .u32 a] w fun e w' => e = .returned (.bool (isMine a v.addr)) ∧ w' = w := by
 have h6 : w.cell? ⟨h, 6, none⟩ = some (.int .u32 v.addr) := hb.addr
 clear hb
 unfold isMine
 cases hz : a != 0
 ·go_enter Tryz.func79, Tryz.ntmps79
  go_wp2
  go_ret
  exact ⟨rfl, rfl⟩
 ·go_enter Tryz.func79, Tryz.ntmps79
  go_wp2
  go_ret
  exact ⟨by simp, rfl⟩
def mk24 : Int := 4294967040
set_option maxRecDepth 100000 in
theorem mask_24 (w : World) : Calls Tryz.prog 86 #[.int .i64 24] w fun e w' => e = .returned (.int .u32 mk24) ∧ w' = w := by
 go_enter Tryz.func86, Tryz.ntmps86
 go_wp2
 go_ret
 exact ⟨rfl, rfl⟩
theorem x255 : bits BinOp.xor IntKind.u32 IntKind.u32.max mk24 = 255 := by kernel_rfl
def bcA (a : Int) : Int := bits BinOp.or .u32 a 255
def isBc (a ad : Int) : Bool := (a == 4294967295) || ((ad != 0) && (a == bcA ad))
set_option maxHeartbeats 1000000 in
set_option maxRecDepth 100000 in
theorem broadcast_q (w : World) (h : Nat) (v : HV) (a : Int) (hb : HB w h v) (hbits : v.bits = 24) :
  Calls Tryz.prog 162 #[.pointer (some ⟨h, 0, none⟩), .int .u32 a] w fun e w' => e = .returned (.bool (isBc a v.addr)) ∧ ∃ n, w' = w.drewN n := by
 have h6 : w.cell? ⟨h, 6, none⟩ = some (.int .u32 v.addr) := hb.addr
 have h7 : w.cell? ⟨h, 7, none⟩ = some (.int .i64 24) := by rw [← hbits]; exact hb.bits
 have h6d : w.drew.cell? ⟨h, 6, none⟩ = some (.int .u32 v.addr) := hb.addr
 have h7d : w.drew.cell? ⟨h, 7, none⟩ = some (.int .i64 24) := h7
 clear hb hbits
 unfold isBc
 cases hz : a == 4294967295
 ·cases hy : v.addr != 0
  ·go_enter Tryz.func162, Tryz.ntmps162
   go_wp2
   go_quiet (fail)
   go_wp2
   go_ret
   exact ⟨by simp, _, rfl⟩
  ·go_enter Tryz.func162, Tryz.ntmps162
   go_wp2
   go_quiet ((go_at_call 86; exact Calls.quiet_of_same (mask_24 _)))
   go_wp2
   go_ret
   exact ⟨by simp [bcA, x255], _, rfl⟩
 ·go_enter Tryz.func162, Tryz.ntmps162
  go_wp2
  go_quiet (fail)
  go_wp2
  go_ret
  exact ⟨by simp, _, rfl⟩
set_option maxRecDepth 100000 in
theorem groups_nil (w : World) (h : Nat) (v : HV) (hb : HB w h v) (hg : v.grp = nilS) : Calls Tryz.prog 88 #[.pointer (some ⟨h, 16, none⟩)] w fun e w' => e = .returned nilS ∧ w' = w := by
 have h16 : w.cell? ⟨h, 16, none⟩ = some (.slice none 0 0) := hb.grp.trans (by rw [hg])
 clear hb hg
 go_enter Tryz.func88, Tryz.ntmps88
 go_wp2
 refine wp_loop_rounds 1 ?_; rw [rounds_succ]
 go_wp2
 go_ret
 exact ⟨rfl, rfl⟩
def isOurs (a ad : Int) : Bool := isMine a ad || isBc a ad || (a == 3758096385)
open Go.RowKit
structure RowK (t : Nat) (K : Nat → Nat) (w : World) (A : Option Addr) (n c : Nat) (l : List Int) : Prop where
 rb : RB w w.heap.size A l
 len : l.length = n
 cap : n ≤ c
 cmax : c ≤ maxLen
 bs : Bs l
 lt : ∀ b, blk A = some b → b < w.heap.size
 nk : ∀ b, blk A = some b → ¬ callK t (K b)
section
variable {t : Nat} {K K2 : Nat → Nat} {w w' : World} {A : Option Addr} {n c : Nat} {l : List Int}
theorem RowK.nil (t : Nat) (K : Nat → Nat) (w : World) : RowK t K w none 0 0 [] := ⟨fun h => absurd h (Nat.lt_irrefl 0), rfl, Nat.le_refl _, by unfold maxLen; omega, fun x hx => (by cases hx), fun b h => (by cases h), fun b h => (by cases h)⟩
theorem RB.chg2 {F : Nat → Prop} {B : Nat} (h : RB w B A l) (hB : B ≤ w.heap.size) (hc : Chg F w w') (hF : ∀ b, blk A = some b → ¬ F b) : RB w' B A l := fun hn => by
 obtain ⟨b, o, rfl, h1, h2⟩ := h hn
 exact ⟨b, o, rfl, h1, fun j u hu => (hc.cell (p := ⟨b, o + j, none⟩) (Nat.lt_of_lt_of_le h1 hB) (hF b rfl)).trans (h2 j u hu)⟩
theorem RowK.chg {G : Nat → Prop} (r : RowK t K w A n c l) (hc : Chg G w w') (hG : ∀ b, blk A = some b → ¬ G b) : RowK t K w' A n c l :=
 ⟨Rw.more (RB.chg2 r.rb (Nat.le_refl _) hc hG) hc.size, r.len, r.cap, r.cmax, r.bs, fun b hb => Nat.lt_of_lt_of_le (r.lt b hb) hc.size, r.nk⟩
theorem RowK.below (r : RowK t K w A n c l) (hb : Below w.heap.size w w') : RowK t K w' A n c l := r.chg (Chg.of_below (F := fun _ => False) hb) (fun _ _ e => e)
theorem RowK.drewN (r : RowK t K w A n c l) (m : Nat) : RowK t K (w.drewN m) A n c l := r.below (bel_drewN (Below.refl _ _) m)
theorem RowK.recol (r : RowK t K w A n c l) (h : ∀ b, b < w.heap.size → K2 b = K b) : RowK t K2 w A n c l :=
 ⟨r.rb, r.len, r.cap, r.cmax, r.bs, r.lt, fun b hb => by rw [h b (r.lt b hb)]; exact r.nk b hb⟩
theorem RowK.of_ob {B : Nat} (h : OB 5 w B A n c l) (hb : Bs l) (hK : ∀ b, B ≤ b → b < w.heap.size → ¬ callK t (K b)) : RowK t K w A n c l :=
 ⟨OB.rb h, OB.length h, Ow.cap h, Ow.capMax h, hb, fun b e => (Ow.lt h b e).2, fun b e => hK b (Ow.lt h b e).1 (Ow.lt h b e).2⟩
structure RowZ (t : Nat) (K : Nat → Nat) (w : World) (A : Option Addr) (n c : Nat) (l : List Int) : Prop where
 rb : RB w w.heap.size A l
 len : l.length = n
 cap : n ≤ c
 cmax : c ≤ maxLen
 bs : Bs l
 lt : ∀ b, blk A = some b → 0 < n → b < w.heap.size
 nk : ∀ b, blk A = some b → 0 < n → ¬ callK t (K b)
theorem RowK.weak (r : RowK t K w A n c l) : RowZ t K w A n c l := ⟨r.rb, r.len, r.cap, r.cmax, r.bs, fun b hb _ => r.lt b hb, fun b hb _ => r.nk b hb⟩
theorem RowZ.recol (r : RowZ t K w A n c l) (h : ∀ b, b < w.heap.size → K2 b = K b) : RowZ t K2 w A n c l :=
 ⟨r.rb, r.len, r.cap, r.cmax, r.bs, r.lt, fun b hb h0 => by rw [h b (r.lt b hb h0)]; exact r.nk b hb h0⟩
theorem RowZ.chg {G : Nat → Prop} (r : RowZ t K w A n c l) (hc : Chg G w w') (hG : ∀ b, blk A = some b → 0 < n → ¬ G b) : RowZ t K w' A n c l :=
 ⟨fun hn => by
  have h0 : 0 < n := by rw [by8_length, r.len] at hn; exact hn
  obtain ⟨b, o, e, h1, h2⟩ := r.rb hn
  exact ⟨b, o, e, Nat.lt_of_lt_of_le h1 hc.size, fun j u hu => (hc.cell (p := ⟨b, o + j, none⟩) h1 (hG b (by rw [e]; rfl) h0)).trans (h2 j u hu)⟩, r.len, r.cap, r.cmax, r.bs, fun b hb h0 => Nat.lt_of_lt_of_le (r.lt b hb h0) hc.size, r.nk⟩
theorem RowZ.over (r : RowZ t K w A n c l) (hc : Chg (fun b => callK t (K b)) w w') (hk : ∀ b, b < w.heap.size → K2 b = K b) : RowZ t K2 w' A n c l := (r.recol hk).chg hc r.nk
theorem RowK.new {B : Nat} {w0 : World} (h : OB 5 w B A n c l) (hb : Bs l) (h0 : w0.heap.size ≤ B) (h7 : ∀ b, w0.heap.size ≤ b → K b = t + 7) : RowK t K w A n c l :=
 RowK.of_ob h hb (fun b hb _ e => by rw [h7 b (Nat.le_trans h0 hb)] at e; exact absurd e.2 (by omega))
end
end Go.Proofs.YtaeafkdfbcppgaaGreat
