/- Proved: what a datagram is written as, and what bytes are as one; frag.Split by its walk; a packet that fits is one piece; the pieces of a packet without options, each no longer than a frame holds, and how many there are. Conditions: as each law says. -/
import Derived.Test.YtaeafkdfbcppgaaGreatT14
set_option linter.unusedSectionVars false
set_option linter.unusedSimpArgs false
set_option linter.unusedVariables false
namespace Go.Proofs.YtaeafkdfbcppgaaGreat
open Go.RowKit
def pseuU (a b : Int) (n : Int) : List Int := be 4 a ++ be 4 b ++ be 2 17 ++ be 2 n
def udpSum (a b : Int) (l : List Int) : Int := 65535 - partC (pseuU a b l.length ++ l)
theorem udpsum_any (a b : Int) (ha : okA a) (hb : okA b) (A : Option Addr) (n c B : Nat) (l : List Int) (hn : l.length = n) (hmax : n ≤ 100000) (hl : Bs l) (w : World) (hr : RB w B A l) (hB : B ≤ w.heap.size) :
  Calls Tryz.prog 76 #[.int .u32 a, .int .u32 b, .slice A n c] w fun e w' => e = .returned (.int .i64 (udpSum a b l)) ∧ Below w.heap.size w w' := by
 obtain ⟨a0, a1⟩ := ha
 obtain ⟨b0, b1⟩ := hb
 have H := Lib.hid hn
 clear hn
 have hB0 := (Below.refl w.heap.size w).alloc (Nat.le_refl _) (.cells #[.slice none 0 0] 290)
 have hW0 := wr_new w
 have hz0 := hB0.size
 have hr' : RB w w.heap.size A l := Rw.more hr hB
 go_enter Tryz.func76, Tryz.ntmps76
 go_wp2_with fail
 refine (four_any a a0 a1 w.heap.size w.heap.size _ (by simp only [List.length_append, be_length, List.length_nil]; (try have := H.out); (try have := HM.out); omega) _ hW0 hz0).mono ?_
 rintro e w1 ⟨rfl, hW1, hK1⟩
 have hB1 := hB0.trans (hK1.below hz0 hW0.wf)
 have hz1 := hB1.size
 go_wp2_with fail
 refine (four_any b b0 b1 w.heap.size w.heap.size _ (by simp only [List.length_append, be_length, List.length_nil]; (try have := H.out); (try have := HM.out); omega) _ hW1 hz1).mono ?_
 rintro e w2 ⟨rfl, hW2, hK2⟩
 have hB2 := hB1.trans (hK2.below hz1 hW1.wf)
 have hz2 := hB2.size
 go_wp2_with fail
 refine (two_any 17 w.heap.size w.heap.size _ (by simp only [List.length_append, be_length, List.length_nil]; (try have := H.out); (try have := HM.out); omega) _ hW2 hz2).mono ?_
 rintro e w3 ⟨rfl, hW3, hK3⟩
 have hB3 := hB2.trans (hK3.below hz2 hW2.wf)
 have hz3 := hB3.size
 go_wp2_with fail
 refine (two_any n w.heap.size w.heap.size _ (by simp only [List.length_append, be_length, List.length_nil]; (try have := H.out); (try have := HM.out); omega) _ hW3 hz3).mono ?_
 rintro e w4 ⟨rfl, hW4, hK4⟩
 have hB4 := hB3.trans (hK4.below hz3 hW3.wf)
 have hz4 := hB4.size
 go_wp2_with fail
 refine (raw_any A n c _ l H.out (by omega) w.heap.size w.heap.size _ (by simp only [List.length_append, be_length, List.length_nil]; (try have := H.out); (try have := HM.out); omega) _ (Rw.below hr' hB4) hW4 hz4).mono ?_
 rintro e w5 ⟨rfl, hW5, hK5⟩
 have hB5 := hB4.trans (hK5.below hz4 hW4.wf)
 have hz5 := hB5.size
 go_wp2_with fail
 refine (bytes_any w.heap.size w.heap.size _ (by simp only [List.length_append, be_length, List.length_nil, H.out]; omega) _ hW5).mono ?_
 rintro e w6 ⟨A', n', c', rfl, hO, hB6⟩
 have hl6 : n' ≤ 100012 := by have := hO.length; simp only [List.length_append, be_length, List.length_nil, H.out] at this; omega
 have hbs : Bs ((([] ++ be 4 a ++ be 4 b ++ be 2 17 ++ be 2 n) ++ l)) := (((((Bs.nil.append (be_bs _ _)).append (be_bs _ _)).append (be_bs _ _)).append (be_bs _ _)).append hl)
 have hO' := hO.length
 have HL := Lib.hid hO'
 clear hO'
 go_wp2_with fail
 refine (sum_any A' n' c' _ _ HL.out (by omega) hbs _ hO.rb).mono ?_
 rintro e w7 ⟨rfl, rfl⟩
 go_wp2
 go_ret
 refine ⟨?_, hB5.trans (hB6.mono hz5)⟩
 unfold udpSum pseuU
 rw [H.out]
 rfl
def dgC (fr fp to_ tp : Int) (d : Value) : Array Value := #[.int .u32 fr, .int .i64 fp, .int .u32 to_, .int .i64 tp, d]
def dgZ : Array Value := dgC 0 0 0 0 (.slice none 0 0)
theorem dg_size : (Tryz.prog.info? 101).map (·.size) = some 5 := by kernel_rfl
theorem dgC_all (fr fp to_ tp : Int) (A : Option Addr) (n c : Nat) : (dgC fr fp to_ tp (.slice A n c)).all (·.oneCell') = true := by simp [dgC, Value.oneCell']
def udpB (fp tp s : Int) (l : List Int) : List Int := be 2 fp ++ be 2 tp ++ be 2 (8 + (l.length : Int)) ++ be 2 s ++ l
theorem udpB_len (fp tp s : Int) (l : List Int) : (udpB fp tp s l).length = 8 + l.length := by simp [udpB, be_length]; omega
theorem udpB_bs (fp tp s : Int) {l : List Int} (h : Bs l) : Bs (udpB fp tp s l) := ((((be_bs _ _).append (be_bs _ _)).append (be_bs _ _)).append (be_bs _ _)).append h
set_option maxHeartbeats 4000000 in
set_option maxRecDepth 100000 in
theorem udpf_any (gm : Nat) (fr fp to_ tp s : Int) (A : Option Addr) (n cap : Nat) (l : List Int) (hn : l.length = n) (hmax : n ≤ 70000) (w : World)
  (hm : Bk w gm 101 (dgC fr fp to_ tp (.slice A n cap))) (hd : RB w w.heap.size A l) :
  Calls Tryz.prog 378 #[.int .i64 s, .pointer (some ⟨gm, 0, none⟩)] w fun e w' => ∃ A' n' c', e = .returned (.slice A' n' c') ∧ OB 5 w' w.heap.size A' n' c' (udpB fp tp s l) ∧ Below w.heap.size w w' := by
 have hg := hm.lt
 have key : ∀ w', Below w.heap.size w w' → (w'.cell? ⟨gm, 1, none⟩ = some (.int .i64 fp) ∧ w'.cell? ⟨gm, 3, none⟩ = some (.int .i64 tp) ∧ w'.cell? ⟨gm, 4, none⟩ = some (.slice A n cap)) := fun w' hb =>
  ⟨(hm.below hb hg).cell 1, (hm.below hb hg).cell 3, (hm.below hb hg).cell 4⟩
 have K := Lib.hid key
 have H := Lib.hid hn
 have hw8 : IntKind.i64.wrap (8 + (n : Int)) = 8 + (n : Int) := IntWalk.i64_in _ (by omega)
 clear key hn
 have hB0 := (Below.refl w.heap.size w).alloc (Nat.le_refl _) (.cells #[.slice none 0 0] 290)
 have hW0 := wr_new w
 obtain ⟨c1, -, -⟩ := K.out _ hB0
 go_enter Tryz.func378, Tryz.ntmps378
 go_wp2_with fail
 refine (two_any fp w.heap.size w.heap.size _ (by simp) _ hW0 (by simp)).mono ?_
 rintro e w1 ⟨rfl, hW1, hK1⟩
 have hB1 := hB0.trans (hK1.below (by simp) hW0.wf)
 have hz1 := hB1.size
 obtain ⟨-, c3, -⟩ := K.out _ hB1
 clear c1
 go_wp2_with fail
 refine (two_any tp w.heap.size w.heap.size _ (by simp [be_length]) _ hW1 hz1).mono ?_
 rintro e w2 ⟨rfl, hW2, hK2⟩
 have hB2 := hB1.trans (hK2.below hz1 hW1.wf)
 have hz2 := hB2.size
 obtain ⟨-, -, c4⟩ := K.out _ hB2
 clear c3
 go_wp2_with fail
 refine (two_any (8 + (n : Int)) w.heap.size w.heap.size _ (by simp [be_length]) _ hW2 hz2).mono ?_
 rintro e w3 ⟨rfl, hW3, hK3⟩
 have hB3 := hB2.trans (hK3.below hz2 hW2.wf)
 have hz3 := hB3.size
 clear c4
 go_wp2_with fail
 refine (two_any s w.heap.size w.heap.size _ (by simp [be_length]) _ hW3 hz3).mono ?_
 rintro e w4 ⟨rfl, hW4, hK4⟩
 have hB4 := hB3.trans (hK4.below hz3 hW3.wf)
 have hz4 := hB4.size
 obtain ⟨-, -, c4⟩ := K.out _ hB4
 go_wp2_with fail
 refine (raw_any A n cap _ l H.out (by omega) w.heap.size w.heap.size _ (by simp [be_length]) _ (Rw.below hd hB4) hW4 hz4).mono ?_
 rintro e w5 ⟨rfl, hW5, hK5⟩
 have hB5 := hB4.trans (hK5.below hz4 hW4.wf)
 have hz5 := hB5.size
 clear c4
 go_wp2_with fail
 refine (bytes_any w.heap.size w.heap.size _ (by simp only [List.length_append, be_length, List.length_nil, H.out]; omega) _ hW5).mono ?_
 rintro e w6 ⟨A', n', c', rfl, hO, hB6⟩
 have HO : Hid (OB 5 w6 w.heap.size A' n' c' (udpB fp tp s l)) := Lib.hid (by
  unfold udpB
  rw [H.out]
  have h2 : OB 5 w6 w.heap.size A' n' c' _ := Ow.mono hO hz5
  simpa using h2)
 clear hO
 go_wp2
 go_ret
 exact ⟨A', n', c', rfl, HO.out, hB5.trans (hB6.mono hz5)⟩
theorem udpport (x : Int) (b : Bool) (hb : b = decide (0 ≤ x ∧ x ≤ 65535)) (w : World) : Calls Tryz.prog 377 #[.int .i64 x] w fun e w' => e = .returned (.bool b) ∧ w = w' := by
 subst hb
 rcases Int.lt_or_le x 0 with h | h
 ·have e : decide (0 ≤ x ∧ x ≤ 65535) = false := by simp; omega
  rw [e]
  clear e
  go_enter Tryz.func377, Tryz.ntmps377
  go_wp2
  go_ret
  exact ⟨rfl, rfl⟩
 ·rcases Int.lt_or_le 65535 x with h2 | h2
  ·have e : decide (0 ≤ x ∧ x ≤ 65535) = false := by simp; omega
   rw [e]
   have d2 : decide (x ≤ 65535) = false := by simp; omega
   clear e
   go_enter Tryz.func377, Tryz.ntmps377
   go_wp2
   go_ret
   exact ⟨rfl, rfl⟩
  ·have e : decide (0 ≤ x ∧ x ≤ 65535) = true := by simp; omega
   rw [e]
   have d2 : decide (x ≤ 65535) = true := by simp; omega
   clear e
   go_enter Tryz.func377, Tryz.ntmps377
   go_wp2
   go_ret
   exact ⟨rfl, rfl⟩
def udpS (fr to_ fp tp : Int) (l : List Int) : Int := if udpSum fr to_ (udpB fp tp 0 l) = 0 then 65535 else udpSum fr to_ (udpB fp tp 0 l)
set_option maxHeartbeats 4000000 in
set_option maxRecDepth 100000 in
theorem udpenc_ok (fr to_ fp tp : Int) (hf : okA fr) (ht : okA to_) (hfp : 0 ≤ fp ∧ fp ≤ 65535) (htp : 0 ≤ tp ∧ tp ≤ 65535) (A : Option Addr) (n cap : Nat) (l : List Int) (hn : l.length = n) (hmax : n ≤ 65507) (hb : Bs l) (w : World)
  (hd : RB w w.heap.size A l) :
  Calls Tryz.prog 353 #[.agg (dgC fr fp to_ tp (.slice A n cap))] w fun e w' => ∃ A' n' c', e = .returned (.tuple #[.slice A' n' c', .int .i64 0]) ∧ OB 5 w' w.heap.size A' n' c' (udpB fp tp (udpS fr to_ fp tp l) l) ∧ Below w.heap.size w w' := by
 have HM := Lib.hid (Bk.new w 101 (dgC fr fp to_ tp (.slice A n cap)))
 have HB0 := Lib.hid ((Below.refl w.heap.size w).alloc (Nat.le_refl _) (.cells (dgC fr fp to_ tp (.slice A n cap)) 101))
 obtain ⟨W, hW⟩ : ∃ W, w.alloc (.cells (dgC fr fp to_ tp (.slice A n cap)) 101) = W := ⟨_, rfl⟩
 have HW : Hid (w.alloc (.cells #[.int .u32 fr, .int .i64 fp, .int .u32 to_, .int .i64 tp, .slice A n cap] 101) = W) := Lib.hid hW
 rw [hW] at HM HB0
 have HZ : Hid (W.heap.size = w.heap.size + 1) := Lib.hid (by rw [← hW]; simp)
 have HD : Hid (RB W W.heap.size A l) := Lib.hid (Rw.more (Rw.below hd HB0.out) (by have := HZ.out; omega))
 have H := Lib.hid hn
 have e3 : decide ((65507 : Int) < (n : Int)) = false := by simp; omega
 have HP : Hid ((0 ≤ fp ∧ fp ≤ 65535) ∧ (0 ≤ tp ∧ tp ≤ 65535) ∧ okA fr ∧ okA to_) := Lib.hid ⟨hfp, htp, hf, ht⟩
 have HX : Hid (n ≤ 65507) := Lib.hid hmax
 clear hW hn hd hfp htp hf ht hmax
 unfold dgC
 go_enter Tryz.func353, Tryz.ntmps353
 go_wp2_with fail
 rw [HW.out]
 refine (udpport fp true (by have := HP.out; simp; omega) _).mono ?_
 rintro e w1 ⟨rfl, rfl⟩
 have q3 : W.cell? ⟨w.heap.size, 3, none⟩ = some (.int .i64 tp) := HM.out.cell 3
 have q4 : W.cell? ⟨w.heap.size, 4, none⟩ = some (.slice A n cap) := HM.out.cell 4
 have q0 : W.cell? ⟨w.heap.size, 0, none⟩ = some (.int .u32 fr) := HM.out.cell 0
 have q2 : W.cell? ⟨w.heap.size, 2, none⟩ = some (.int .u32 to_) := HM.out.cell 2
 have hmf : ∀ (fn : Fn) (first cap : Array Value) (w : World), (Instr.makeFunc fn first cap).run Tryz.prog w = .ok (.func fn first cap) w := fun _ _ _ _ => rfl
 go_wp2_with fail
 refine (udpport tp true (by have := HP.out; simp; omega) _).mono ?_
 rintro e w1 ⟨rfl, rfl⟩
 go_wp2_with fail
 have hUF := udpf_any w.heap.size fr fp to_ tp 0 A n cap l H.out (by have := HX.out; omega) W.drew HM.out (Rw.drew HD.out)
 have HUF := Lib.hid hUF
 have HZD : Hid (W.drew.heap.size = W.heap.size) := Lib.hid rfl
 clear hUF
 obtain ⟨s, hs⟩ : ∃ s, udpSum fr to_ (udpB fp tp 0 l) = s := ⟨_, rfl⟩
 have HSS := Lib.hid hs
 have HLB : Hid ((udpB fp tp 0 l).length ≤ 100000) := Lib.hid (by rw [udpB_len, H.out]; have := HX.out; omega)
 have HBS : Hid (Bs (udpB fp tp 0 l)) := Lib.hid (udpB_bs _ _ _ hb)
 clear hs
 have d0 : W.drew.cell? ⟨w.heap.size, 0, none⟩ = some (.int .u32 fr) := q0
 have d2 : W.drew.cell? ⟨w.heap.size, 2, none⟩ = some (.int .u32 to_) := q2
 go_region_held3 (fun w' => w'.cell? ⟨w.heap.size, 0, none⟩ = some (.int .u32 fr) ∧ w'.cell? ⟨w.heap.size, 2, none⟩ = some (.int .u32 to_))
  (first | (with_reducible exact ⟨by assumption, by assumption⟩) | go_keep)
  (first
   | (go_at_call 378; refine HUF.out.mono ?_; rintro e v1 ⟨A1, n1, c1, rfl, hO1, hB1⟩; have u0 : v1.cell? ⟨w.heap.size, 0, none⟩ = some (.int .u32 fr) := bel_cell_ hB1 HM.out.lt d0; have u2 : v1.cell? ⟨w.heap.size, 2, none⟩ = some (.int .u32 to_) := bel_cell_ hB1 HM.out.lt d2; have hn1 : (udpB fp tp 0 l).length = n1 := (by8_length _).symm.trans (Ow.length hO1))
   | (go_at_call 76; refine (udpsum_any fr to_ HP.out.2.2.1 HP.out.2.2.2 A1 n1 c1 v1.heap.size _ hn1 (hn1 ▸ HLB.out) HBS.out _ (Ow.rw hO1) (Nat.le_refl _)).mono ?_; rintro e v2 ⟨rfl, hB2⟩; have y0 : v2.cell? ⟨w.heap.size, 0, none⟩ = some (.int .u32 fr) := bel_cell_ hB2 (Nat.lt_of_lt_of_le HM.out.lt hB1.size) u0; have y2 : v2.cell? ⟨w.heap.size, 2, none⟩ = some (.int .u32 to_) := bel_cell_ hB2 (Nat.lt_of_lt_of_le HM.out.lt hB1.size) u2))
 have HBV : Hid (Below w.heap.size w v2) := Lib.hid ((HB0.out.trans ((bel_undr_ hB1).mono (Nat.le_trans HB0.out.size (Nat.le_refl _)))).trans (hB2.mono (by have := hB1.size; have := HZD.out; have := HZ.out; omega)))
 have HMV : Hid (Bk v2 w.heap.size 101 (dgC fr fp to_ tp (.slice A n cap))) := Lib.hid ((HM.out.below (bel_undr_ hB1) HM.out.lt).below (hB2.mono (Nat.le_refl _)) (Nat.lt_of_lt_of_le HM.out.lt (by have := hB1.size; exact this)))
 have HDV : Hid (RB v2 v2.heap.size A l) := Lib.hid (Rw.more (Rw.below (Rw.below HD.out (bel_undr_ hB1)) (hB2.mono (by have := hB1.size; exact this))) (by have := hB1.size; have := hB2.size; have := HZD.out; omega))
 rw [HSS.out]
 clear hO1 hB1 hB2 u0 u2 y0 y2 hn1 d0 d2 q0 q2 q3 q4
 by_cases hz : s = 0
 ·have HE : Hid (udpS fr to_ fp tp l = 65535) := Lib.hid (by unfold udpS; rw [if_pos (by rw [HSS.out]; exact hz)])
  go_wp2_with fail
  refine (udpf_any w.heap.size fr fp to_ tp 65535 A n cap l H.out (by have := HX.out; omega) v2 HMV.out HDV.out).mono ?_
  rintro e v3 ⟨A2, n2, c2, rfl, hO2, hB3⟩
  go_wp2
  go_ret2
  exact ⟨A2, n2, c2, rfl, (by rw [HE.out]; exact Ow.mono hO2 HBV.out.size), HBV.out.trans (hB3.mono HBV.out.size)⟩
 ·have HE : Hid (udpS fr to_ fp tp l = s) := Lib.hid (by unfold udpS; rw [if_neg (by rw [HSS.out]; exact hz), HSS.out])
  go_wp2_with fail
  refine (udpf_any w.heap.size fr fp to_ tp s A n cap l H.out (by have := HX.out; omega) v2 HMV.out HDV.out).mono ?_
  rintro e v3 ⟨A2, n2, c2, rfl, hO2, hB3⟩
  go_wp2
  go_ret2
  exact ⟨A2, n2, c2, rfl, (by rw [HE.out]; exact Ow.mono hO2 HBV.out.size), HBV.out.trans (hB3.mono HBV.out.size)⟩
open Go.RowKit
theorem fsize_any (A : Option Addr) (n c : Nat) (hmax : n ≤ 140737488355328) (w : World) :
  Calls Tryz.prog 232 #[.slice A n c] w fun e w' => e = .returned (.int .i64 (hdN n)) ∧ w' = w := by
 go_enter Tryz.func232, Tryz.ntmps232
 go_wp2
 go_ret
 exact ⟨by rw [← hdN_int]; rfl, rfl⟩
def splIs (p : PkV) (ol dl : List Int) (mtu : Int) (k : Int) (R : List Pc) : Prop :=
 ((mtu < 68 ∨ 65535 < mtu) ∧ k = 1 ∧ R = []) ∨ (68 ≤ mtu ∧ mtu ≤ 65535 ∧
  ((errIs p ol dl.length k ∧ k ≠ 0 ∧ R = []) ∨
   (errIs p ol dl.length 0 ∧ mtu < hdN ol.length + dl.length ∧ p.whole = true ∧ k = 5 ∧ R = []) ∨
   (errIs p ol dl.length 0 ∧ (((hdN ol.length : Int) + dl.length ≤ mtu) ∨ p.whole = false) ∧ k = 0 ∧ R = splitP p mtu.toNat ol dl)))
def SplPost (p : PkV) (ol dl : List Int) (mtu : Int) (w : World) (e : Ending) (w' : World) : Prop :=
 ∃ k A n c L, e = .returned (.tuple #[.slice A n c, .int .i64 k]) ∧ splIs p ol dl mtu k (L.map Pm.plain) ∧ PsAt w' w.heap.size (.slice A n c) n L ∧ PmsOk w' w.heap.size L ∧ Below w.heap.size w w'
theorem PsAt.none_ (w : World) (base : Nat) : PsAt w base (.slice none 0 0) 0 [] := World.ownsRow_nil w base _ 11
theorem PmsOk.nil (w : World) (base : Nat) : PmsOk w base [] := ⟨(fun _ h => by cases h), List.Pairwise.nil⟩
open Go.RowKit
theorem split_len {p : PkV} {dl : List Int} (h : 20 + dl.length ≤ 1500) : (splitP p 1500 [] dl).length = 1 := by
 unfold splitP
 rw [if_pos (by show 20 + dl.length ≤ 1500; exact h)]
 rfl
set_option maxHeartbeats 8000000 in
set_option maxRecDepth 100000 in
theorem split_small (p : PkV) (hp : p.Ok) (oA dA : Option Addr) (on oc dn dc B : Nat) (ol dl : List Int) (mtu : Int) (hmt : -9223372036854775808 ≤ mtu ∧ mtu ≤ 9223372036854775807) (hn : ol.length = on) (hc : on ≤ oc) (hmo : on ≤ 140737488355328) (hb : Bs ol) (hdn : dl.length = dn) (hdc : dn ≤ dc) (hmd : dn ≤ 140737488355328) (hbd : Bs dl) (w : World) (hr : RB w B oA ol) (hrd : RB w B dA dl) (hB : B ≤ w.heap.size) (hsm : (hdN on : Int) + dn ≤ mtu) :
  Calls Tryz.prog 164 #[.agg (pkC p (.slice oA on oc) (.slice dA dn dc)), .int .i64 mtu] w (SplPost p ol dl mtu w) := by
 obtain ⟨gp, hgp⟩ : ∃ gp, w.heap.size = gp := ⟨_, rfl⟩
 obtain ⟨W, hW⟩ : ∃ W, w.alloc (.cells (pkC p (.slice oA on oc) (.slice dA dn dc)) 97) = W := ⟨_, rfl⟩
 have hm : Bk W gp 97 (pkC p (.slice oA on oc) (.slice dA dn dc)) := by rw [← hW, ← hgp]; exact Bk.new w _ _
 have hBW : Below gp w W := by rw [← hW, ← hgp]; exact (Below.refl _ _).alloc (Nat.le_refl _) _
 have hr1 : RB W B oA ol := Rw.below hr (hBW.mono (by omega))
 have hrd1 : RB W B dA dl := Rw.below hrd (hBW.mono (by omega))
 have hlt := hm.lt
 have hBg : B ≤ gp := by omega
 have HSM := Lib.hid hsm
 clear hsm
 have HN := Lib.hid hn
 have HDN := Lib.hid hdn
 have HGP := Lib.hid hgp
 have HM := Lib.hid hm
 have HBW := Lib.hid hBW
 have HR := Lib.hid hr1
 have HRD := Lib.hid hrd1
 have HW : Hid (w.alloc (.cells #[.int .i64 p.svc, .int .i64 p.id, .bool p.whole, .bool p.more, .int .i64 p.off, .int .i64 p.life, .int .i64 p.proto, .int .u32 p.src, .int .u32 p.dst, .slice oA on oc, .slice dA dn dc] 97) = W) := Lib.hid hW
 have HENC := Lib.hid (enc_any p hp oA dA on oc dn dc B ol dl hn hc hmo hb hdn hmd W hr1 hrd1 (by omega))
 clear hW hm hBW hr1 hrd1 hn hdn hgp hr hrd
 rcases (by omega : mtu < 68 ∨ (68 ≤ mtu ∧ 65535 < mtu) ∨ (68 ≤ mtu ∧ mtu ≤ 65535)) with d | ⟨d, d2⟩ | ⟨d, d2⟩
 ·have HE : Hid (splIs p ol dl mtu 1 []) := Lib.hid (.inl ⟨.inl d, rfl, rfl⟩)
  unfold pkC
  go_enter Tryz.func164, Tryz.ntmps164
  go_wp2
  go_ret2
  exact ⟨1, none, 0, 0, [], rfl, HE.out, PsAt.none_ _ _, PmsOk.nil _ _, by rw [HW.out, HGP.out]; exact HBW.out⟩
 ·have HE : Hid (splIs p ol dl mtu 1 []) := Lib.hid (.inl ⟨.inr d2, rfl, rfl⟩)
  have d3 : ¬ mtu < 68 := by omega
  unfold pkC
  go_enter Tryz.func164, Tryz.ntmps164
  go_wp2
  go_ret2
  exact ⟨1, none, 0, 0, [], rfl, HE.out, PsAt.none_ _ _, PmsOk.nil _ _, by rw [HW.out, HGP.out]; exact HBW.out⟩
 obtain ⟨m, rfl⟩ : ∃ m : Nat, mtu = m := ⟨mtu.toNat, by omega⟩
 have d3 : ¬ (m : Int) < 68 := by omega
 have d4 : ¬ 65535 < (m : Int) := by omega
 unfold pkC at HENC
 unfold pkC
 go_enter Tryz.func164, Tryz.ntmps164
 go_wp2_with fail
 rw [HW.out, HGP.out]
 refine HENC.out.mono ?_
 rintro e1 W1 ⟨k, A1, n1, c1, rfl, hE, hk0, hk1, hB1⟩
 have HE := Lib.hid hE
 have HB1 := Lib.hid hB1
 have hz1 := hB1.size
 rcases Decidable.em (k = 0) with rfl | hk
 ·have hm1 := HM.out.below hB1 hlt
  have HM1 := Lib.hid hm1
  have hh := hdN_le on
  have hwf : IntKind.i64.wrap ((hdN on : Int) + dn) = (hdN on : Int) + dn := IntWalk.i64_in _ (by omega)
  have z0 := (hm1.drew).cell 0
  have z1 := (hm1.drew).cell 1
  have z2 := (hm1.drew).cell 2
  have z3 := (hm1.drew).cell 3
  have z4 := (hm1.drew).cell 4
  have z5 := (hm1.drew).cell 5
  have z6 := (hm1.drew).cell 6
  have z7 := (hm1.drew).cell 7
  have z8 := (hm1.drew).cell 8
  have z9 := (hm1.drew).cell 9
  have z10 := (hm1.drew).cell 10
  simp only [pkC, List.getElem?_toArray, List.getElem?_cons_zero, List.getElem?_cons_succ] at z0 z1 z2 z3 z4 z5 z6 z7 z8 z9 z10
  clear hk0 hk1 hE hB1 hm1
  go_wp2_with fail
  go_region_held3 (fun w' => w'.cell? ⟨gp, 9, none⟩ = some (.slice oA on oc) ∧ w'.cell? ⟨gp, 10, none⟩ = some (.slice dA dn dc))
   (first | (with_reducible exact ⟨by assumption, by assumption⟩) | go_keep)
   (first
    | (go_at_call 232; refine (fsize_any oA on oc hmo _).mono ?_; rintro e w' ⟨rfl, rfl⟩))
  have HON : Hid (on ≤ 40) := Lib.hid (by
   rcases HE.out with ⟨_, h⟩ | ⟨_, _, h⟩ | ⟨_, _, _, _, h⟩ | ⟨_, h, _⟩
   ·cases h
   ·cases h
   ·cases h
   ·have := HN.out; omega)
  rcases Decidable.em ((hdN on : Int) + dn ≤ m) with f | f
  ·go_wp2_with fail
   refine (own_any p oA dA on oc dn dc B ol dl HN.out hmo HDN.out hmd W1.drew (Rw.drew (Rw.below HR.out (HB1.out.mono (by omega)))) (Rw.drew (Rw.below HRD.out (HB1.out.mono (by omega)))) (by show B ≤ W1.heap.size; omega)).mono ?_
   rintro e3 W3 ⟨A3, c3, A4, c4, rfl, hO3, hB3⟩
   unfold pkC
   have hB4 : Below W3.heap.size W3 (W3.alloc (.cells (pmC ⟨p, A3, on, c3, ol, A4, dn, c4, dl⟩).toArray 97)) := (Below.refl _ _).alloc (Nat.le_refl _) _
   have hP4 : PsAt (W3.alloc (.cells (pmC ⟨p, A3, on, c3, ol, A4, dn, c4, dl⟩).toArray 97)) gp (.slice (some ⟨W3.heap.size, 0, none⟩) 1 1) 1 [⟨p, A3, on, c3, ol, A4, dn, c4, dl⟩] :=
    ⟨by simp [pmC_len], .inr ⟨W3.heap.size, 1, (pmC ⟨p, A3, on, c3, ol, A4, dn, c4, dl⟩).toArray, rfl, by have h := hB3.size; have h' : W1.heap.size ≤ W3.heap.size := h; omega, heap_alloc_new W3 _, Nat.le_refl _, by decide, rfl, rfl⟩⟩
   have hS : splIs p ol dl m 0 [(p, ol, dl)] := .inr ⟨d, d2, .inr (.inr ⟨HE.out, .inl (by rw [HN.out, HDN.out]; exact f), rfl, by unfold splitP; rw [if_pos (by rw [HN.out, HDN.out]; omega)]⟩)⟩
   have hO4 : PmOk (W3.alloc (.cells (pmC ⟨p, A3, on, c3, ol, A4, dn, c4, dl⟩).toArray 97)) gp ⟨p, A3, on, c3, ol, A4, dn, c4, dl⟩ := by
    have := hO3.below hB4
    have h9 : gp ≤ W1.drew.heap.size := by show gp ≤ W1.heap.size; omega
    exact ⟨Ow.mono this.1 h9, Ow.mono this.2.1 h9, this.2.2⟩
   have hBF : Below gp w (W3.alloc (.cells (pmC ⟨p, A3, on, c3, ol, A4, dn, c4, dl⟩).toArray 97)) := by
    have q1 := (HBW.out.trans (HB1.out.mono (by omega))).drew
    have h := hB3.size
    have h' : W1.heap.size ≤ W3.heap.size := h
    exact (q1.trans (hB3.mono (by show gp ≤ W1.heap.size; omega))).trans (hB4.mono (by omega))
   have HP4 := Lib.hid hP4
   have HO4 := Lib.hid hO4
   have HS := Lib.hid hS
   have HBF := Lib.hid hBF
   clear hB4 hP4 hO4 hS hBF hO3 hB3
   go_wp2
   go_ret2
   exact ⟨0, _, 1, 1, [⟨p, A3, on, c3, ol, A4, dn, c4, dl⟩], rfl, HS.out, by rw [HGP.out]; exact HP4.out, by rw [HGP.out]; exact ⟨fun x hx => by simp at hx; subst hx; exact HO4.out, List.pairwise_singleton _ _⟩, by rw [HGP.out]; exact HBF.out⟩
  ·exact absurd HSM.out f
 ·have HE2 : Hid (splIs p ol dl m k []) := Lib.hid (.inr ⟨d, d2, .inl ⟨HE.out, hk, rfl⟩⟩)
  have hk2 : (k != 0) = true := by simpa using hk
  obtain ⟨rfl, rfl, rfl⟩ := hk0 hk
  clear hk0 hk1 hE hB1
  go_wp2
  go_ret2
  exact ⟨k, none, 0, 0, [], rfl, HE2.out, PsAt.none_ _ _, PmsOk.nil _ _, by rw [HGP.out]; exact HBW.out.trans (HB1.out.mono (by omega))⟩
open Go.RowKit
theorem copO_nil : copO ([] : List Int) = [] := rfl
structure PcGood (p : PkV) (x : Pc) : Prop where
 ok : x.1.Ok
 op : x.2.1 = []
 bs : Bs x.2.2
 len : x.2.2.length ≤ 1480
 dst : x.1.dst = p.dst
theorem pieces_good (p : PkV) (hp : p.Ok) : ∀ (f : Nat) (rest : List Int) (at_ : Int), 0 ≤ at_ → at_ + rest.length ≤ 1000000 → Bs rest → rest.length < f → (∀ x ∈ piecesF f p 1500 [] [] rest at_, PcGood p x) ∧ 1480 * (piecesF f p 1500 [] [] rest at_).length ≤ rest.length + 1479
 | 0, rest, at_, _, _, _, h => by omega
 | f + 1, rest, at_, h0, h1, hb, hf => by
  rcases Nat.eq_zero_or_pos rest.length with h | h
  ·rw [piecesF_end h]; exact ⟨(fun x hx => by cases hx), (by simp)⟩
  ·obtain ⟨n, hn⟩ : ∃ n, cutN 1500 ([] : List Int).length rest.length = n := ⟨_, rfl⟩
   have hc := cutN_pos (mtu := 1500) (on := 0) (by omega) (by omega) h
   have hn2 : n ≤ 1480 ∧ (n = 1480 ∨ n = rest.length) := by rw [← hn]; have hr : roomN 1500 ([] : List Int).length = 1480 := rfl; unfold cutN; rw [hr]; split <;> omega
   have hn' : cutN 1500 0 rest.length = n := hn
   rw [hn'] at hc
   rw [piecesF_more h hn, copO_nil]
   obtain ⟨i1, i2⟩ := pieces_good p hp f (rest.drop n) (at_ + n) (by omega) (by rw [List.length_drop]; omega) (fun x hx => hb x (List.mem_of_mem_drop hx)) (by rw [List.length_drop]; omega)
   refine ⟨fun x hx => ?_, ?_⟩
   ·rcases List.mem_cons.1 hx with rfl | hx
    ·exact ⟨⟨hp.svc, hp.id, ⟨by show _ ≤ at_; omega, by show at_ ≤ _; omega⟩, hp.life, hp.proto, hp.src, hp.dst⟩, rfl, fun y hy => hb y (List.mem_of_mem_take hy), by show (rest.take n).length ≤ 1480; rw [List.length_take]; omega, rfl⟩
    ·exact i1 x hx
   ·rw [List.length_cons]
    rw [List.length_drop] at i2
    rcases hn2.2 with e | e
    ·omega
    ·rw [e] at i2 ⊢
     have : (piecesF f p 1500 [] [] (List.drop rest.length rest) (at_ + rest.length)) = [] := piecesF_end (by simp)
     rw [this]; simp; omega
theorem split_good (p : PkV) (hp : p.Ok) (dl : List Int) (hb : Bs dl) (h0 : p.off = 0) (hl : dl.length ≤ 900000) : (∀ x ∈ splitP p 1500 [] dl, PcGood p x) ∧ 1480 * (splitP p 1500 [] dl).length ≤ dl.length + 1480 := by
 unfold splitP
 have hh : hdN ([] : List Int).length = 20 := rfl
 split
 ·rename_i h
  exact ⟨fun x hx => by rw [List.mem_singleton.1 hx]; exact ⟨hp, rfl, hb, by show dl.length ≤ 1480; omega, rfl⟩, by simp⟩
 ·obtain ⟨a, b⟩ := pieces_good p hp (dl.length + 1) dl p.off (by omega) (by omega) hb (by omega)
  exact ⟨a, by omega⟩
end Go.Proofs.YtaeafkdfbcppgaaGreat
