/- Proved: the datagram that bytes are. Conditions: as each law says. -/
import Derived.Test.YtaeafkdfbcppgaaGreatT18
set_option linter.unusedSectionVars false
set_option linter.unusedSimpArgs false
set_option linter.unusedVariables false
namespace Go.Proofs.YtaeafkdfbcppgaaGreat
open Go.RowKit
def udpErr (fr to_ : Int) (l : List Int) : Int :=
 if l.length < 8 then 2 else if rd2 l 4 < 8 then 3 else if (l.length : Int) < rd2 l 4 then 2 else if rd2 l 6 ≠ 0 ∧ udpSum fr to_ (l.take (rd2 l 4).toNat) ≠ 0 then 4 else 0
def udpDl (l : List Int) : List Int := (l.drop 8).take ((rd2 l 4).toNat - 8)
def UdpDec (fr to_ : Int) (l : List Int) (w : World) (e : Ending) (w' : World) : Prop :=
 ∃ A n c, e = .returned (.tuple #[.agg (if udpErr fr to_ l = 0 then dgC fr (rd2 l 0) to_ (rd2 l 2) (.slice A n c) else dgZ), .int .i64 (udpErr fr to_ l)]) ∧ (udpErr fr to_ l = 0 → OB 5 w' w.heap.size A n c (udpDl l)) ∧ Below w.heap.size w w'
set_option maxHeartbeats 4000000 in
set_option maxRecDepth 100000 in
theorem udpd_few (fr to_ : Int) (A : Option Addr) (n c B : Nat) (l : List Int) (hn : l.length = n) (hmax : n ≤ 1000000) (h8 : n < 8) (hb : Bs l) (w : World) (hr : RB w B A l) (hB : B ≤ w.heap.size) :
  Calls Tryz.prog 30 #[.int .u32 fr, .int .u32 to_, .slice A n c] w (UdpDec fr to_ l w) := by
 have HE : Hid (udpErr fr to_ l = 2) := Lib.hid (by unfold udpErr; rw [if_pos (by omega)])
 have H8 := Lib.hid h8
 clear h8
 have HN := Lib.hid hn
 have HRBW := Lib.hid hr
 obtain ⟨W, hW⟩ : ∃ W, w.alloc (.cells dgZ 101) = W := ⟨_, rfl⟩
 have HW : Hid (w.alloc (.cells #[.int .u32 0, .int .i64 0, .int .u32 0, .int .i64 0, .slice none 0 0] 101) = W) := Lib.hid hW
 have hk0 : Bk W w.heap.size 101 dgZ := by rw [← hW]; exact Bk.new _ _ _
 have hb0 : Below w.heap.size w W := by rw [← hW]; exact (Below.refl _ _).alloc (Nat.le_refl _) _
 have hr0 : RB W B A l := Rw.below hr (hb0.mono hB)
 have hz0 : W.heap.size = w.heap.size + 1 := by rw [← hW]; simp
 have HB := Lib.hid hB
 clear hW hn hr
 go_enter Tryz.func30, Tryz.ntmps30
 go_wp2_with fail
 rw [HW.out]
 refine (newreader_any A n c B l HN.out hmax hb _ hr0 (by omega)).mono ?_
 rintro e W1 ⟨g, rfl, hR1, hB1⟩
 have HS1 : Hid (RS0 w W.heap.size B g 101 dgZ A l 0 W1) := Lib.hid ⟨hR1, hk0.below hB1 hk0.lt, hb0.trans (hB1.mono (by omega)), (fun l0 h0 => Rw.below (Rw.below h0 (hb0.mono hB)) (hB1.mono (by omega))), ⟨by have := hR1.ge; omega, hR1.ge, hB⟩⟩
 have HRB : Hid (RB W1 B A l) := Lib.hid (Rw.below hr0 (hB1.mono (by omega)))
 clear hR1 hB1 hk0 hb0 hr0 hz0 hB
 go_wp2_with fail
 have HR0 := Lib.hid (RdS.start l)
 refine (two_s W.heap.size g l.length 0 l 0 HR0.out _ HS1.out.rd HS1.out.lt).mono ?_
 rintro e W2 ⟨x1, l1, r1, rfl, -, -, hs1, hR, hk⟩
 have HS2 := Lib.hid (HS1.out.read hR hk)
 have HR1 := Lib.hid hs1
 clear hR hk hs1
 go_wp2_with fail
 refine (two_s W.heap.size g l.length (0 + 2) l1 r1 HR1.out _ HS2.out.rd HS2.out.lt).mono ?_
 rintro e W3 ⟨x2, l2, r2, rfl, -, -, hs2, hR, hk⟩
 have HS3 := Lib.hid (HS2.out.read hR hk)
 have HR2 := Lib.hid hs2
 clear hR hk hs2
 have hbx := Bk.new W3 101 dgZ
 have hS3x := HS3.out.below ((Below.refl _ W3).alloc (Nat.le_refl _) (.cells dgZ 101))
 have HBX := Lib.hid hbx
 have HSX := Lib.hid hS3x
 have HLX : Hid (w.heap.size < W3.heap.size) := Lib.hid (Nat.lt_trans HS3.out.og.1 HS3.out.rd.lt)
 clear hbx hS3x
 go_wp2_with (refine st_box 101 rfl (.tmp 9) (.tmp 20) rfl rfl rfl (cs := dgC fr x1 to_ x2 (.slice none 0 0)) rfl HBX.out dg_size rfl (dgC_all _ _ _ _ _ _ _) ?_; intro W4 hb4 g4 z4)
 have HS4 : Hid (RS0 w W.heap.size B g 101 dgZ A l2 r2 W4) := Lib.hid (HSX.out.kept HBX.out (by decide) (by decide) (by decide) HLX.out g4)
 clear hb4 g4 z4
 refine (two_s W.heap.size g l.length (0 + 2 + 2) l2 r2 HR2.out _ HS4.out.rd HS4.out.lt).mono ?_
 rintro e W5 ⟨x3, l3, r3, rfl, -, -, hs3, hR, hk⟩
 have HS5 := Lib.hid (HS4.out.read hR hk)
 have HR3 := Lib.hid hs3
 clear hR hk hs3
 go_wp2_with fail
 refine (two_s W.heap.size g l.length (0 + 2 + 2 + 2) l3 r3 HR3.out _ HS5.out.rd HS5.out.lt).mono ?_
 rintro e W6 ⟨x4, l4, r4, rfl, -, -, hs4, hR, hk⟩
 have HS6 := Lib.hid (HS5.out.read hR hk)
 have hr4 := hs4.over (by rw [HN.out]; have := H8.out; omega)
 subst hr4
 clear hR hk hs4
 go_wp2_with fail
 refine (rerr_any W.heap.size g l4 2 _ HS6.out.rd).mono ?_
 rintro e W7 ⟨rfl, rfl⟩
 go_wp2_with fail
 refine (rerr_any W.heap.size g l4 2 _ HS6.out.rd).mono ?_
 rintro e W7 ⟨rfl, rfl⟩
 go_wp2_with (refine st_box 101 rfl (.tmp 6) (.tmp 29) rfl rfl rfl (cs := dgZ) rfl HS6.out.ak dg_size rfl (dgC_all _ _ _ _ _ _ _) ?_; intro w2 hb2 g2 z2)
 refine bodyPost_ret (results_b1 rfl _ _ w.heap.size 101 dgZ (0, 0) _ rfl hb2 Tryz.underlying101 rfl dg_size) rfl ?_
 exact ⟨none, 0, 0, (by rw [HE.out]; rfl), (fun e => by rw [HE.out] at e; cases e), HS6.out.fin g2⟩
set_option maxHeartbeats 4000000 in
set_option maxRecDepth 100000 in
theorem udpd_long (fr to_ : Int) (hf : okA fr) (ht : okA to_) (A : Option Addr) (n c B : Nat) (l : List Int) (hn : l.length = n) (hcp : n ≤ c) (hmax : n ≤ 1000000) (h8 : 8 ≤ n) (hb : Bs l) (w : World) (hr : RB w B A l) (hB : B ≤ w.heap.size) :
  Calls Tryz.prog 30 #[.int .u32 fr, .int .u32 to_, .slice A n c] w (UdpDec fr to_ l w) := by
 have HE0 : Hid (udpErr fr to_ l = if rd2 l 4 < 8 then 3 else if (l.length : Int) < rd2 l 4 then 2 else if rd2 l 6 ≠ 0 ∧ udpSum fr to_ (l.take (rd2 l 4).toNat) ≠ 0 then 4 else 0) := Lib.hid (by unfold udpErr; rw [if_neg (by omega)])
 have H8 := Lib.hid h8
 have HFT := Lib.hid (And.intro hf ht)
 have HCP : Hid (n ≤ c ∧ n ≤ 1000000) := Lib.hid ⟨hcp, hmax⟩
 clear h8 hf ht hcp
 have HN := Lib.hid hn
 have HRBW := Lib.hid hr
 obtain ⟨W, hW⟩ : ∃ W, w.alloc (.cells dgZ 101) = W := ⟨_, rfl⟩
 have HW : Hid (w.alloc (.cells #[.int .u32 0, .int .i64 0, .int .u32 0, .int .i64 0, .slice none 0 0] 101) = W) := Lib.hid hW
 have hk0 : Bk W w.heap.size 101 dgZ := by rw [← hW]; exact Bk.new _ _ _
 have hb0 : Below w.heap.size w W := by rw [← hW]; exact (Below.refl _ _).alloc (Nat.le_refl _) _
 have hr0 : RB W B A l := Rw.below hr (hb0.mono hB)
 have hz0 : W.heap.size = w.heap.size + 1 := by rw [← hW]; simp
 have HB := Lib.hid hB
 clear hW hn hr
 go_enter Tryz.func30, Tryz.ntmps30
 go_wp2_with fail
 rw [HW.out]
 refine (newreader_any A n c B l HN.out hmax hb _ hr0 (by omega)).mono ?_
 rintro e W1 ⟨g, rfl, hR1, hB1⟩
 have HS1 : Hid (RS0 w W.heap.size B g 101 dgZ A (l.drop 0) 0 W1) := Lib.hid ⟨hR1, hk0.below hB1 hk0.lt, hb0.trans (hB1.mono (by omega)), (fun l0 h0 => Rw.below (Rw.below h0 (hb0.mono hB)) (hB1.mono (by omega))), ⟨by have := hR1.ge; omega, hR1.ge, hB⟩⟩
 have HRB : Hid (RB W1 B A l) := Lib.hid (Rw.below hr0 (hB1.mono (by omega)))
 clear hR1 hB1 hk0 hb0 hr0 hz0 hB
 go_wp2_with fail
 refine (two_at W.heap.size g l 0 (by rw [HN.out]; have := H8.out; omega) _ HS1.out.rd HS1.out.lt).mono ?_
 rintro e W2 ⟨rfl, hR, hk⟩
 have HS2 := Lib.hid (HS1.out.read hR hk)
 have HK2 := Lib.hid hk
 obtain ⟨fp, hfp⟩ : ∃ x, rd2 l 0 = x := ⟨_, rfl⟩
 rw [hfp]
 have Hfp := Lib.hid hfp
 have Bfp := rd2_bd hb 0
 rw [hfp] at Bfp
 have HBfp := Lib.hid Bfp
 clear hR hk hfp Bfp
 go_wp2_with fail
 refine (two_at W.heap.size g l 2 (by rw [HN.out]; have := H8.out; omega) _ HS2.out.rd HS2.out.lt).mono ?_
 rintro e W3 ⟨rfl, hR, hk⟩
 have HS3 := Lib.hid (HS2.out.read hR hk)
 have HK3 := Lib.hid hk
 obtain ⟨tp, htp⟩ : ∃ x, rd2 l 2 = x := ⟨_, rfl⟩
 rw [htp]
 have Htp := Lib.hid htp
 have Btp := rd2_bd hb 2
 rw [htp] at Btp
 have HBtp := Lib.hid Btp
 clear hR hk htp Btp
 have hbx := Bk.new W3 101 dgZ
 have hS3x := HS3.out.below ((Below.refl _ W3).alloc (Nat.le_refl _) (.cells dgZ 101))
 have HBX := Lib.hid hbx
 have HSX := Lib.hid hS3x
 have HLX : Hid (w.heap.size < W3.heap.size) := Lib.hid (Nat.lt_trans HS3.out.og.1 HS3.out.rd.lt)
 clear hbx hS3x
 go_wp2_with (refine st_box 101 rfl (.tmp 9) (.tmp 20) rfl rfl rfl (cs := dgC fr fp to_ tp (.slice none 0 0)) rfl HBX.out dg_size rfl (dgC_all _ _ _ _ _ _ _) ?_; intro W4 hb4 g4 z4)
 have HS4 : Hid (RS0 w W.heap.size B g 101 dgZ A (l.drop 4) 0 W4) := Lib.hid (HSX.out.kept HBX.out (by decide) (by decide) (by decide) HLX.out g4)
 obtain ⟨gp, hgp⟩ : ∃ gp, W3.heap.size = gp := ⟨_, rfl⟩
 rw [hgp] at hb4
 have HM4 := Lib.hid hb4
 have HG : Hid (w.heap.size < gp ∧ g < gp) := Lib.hid ⟨by rw [← hgp]; exact HLX.out, by rw [← hgp]; exact HS3.out.rd.lt⟩
 clear hb4 g4 z4
 rw [hgp]
 clear hgp
 refine (two_at W.heap.size g l 4 (by rw [HN.out]; have := H8.out; omega) _ HS4.out.rd HS4.out.lt).mono ?_
 rintro e W5 ⟨rfl, hR, hk⟩
 have HS5 := Lib.hid (HS4.out.read hR hk)
 have HK5 := Lib.hid hk
 obtain ⟨nv, hnv⟩ : ∃ x, rd2 l 4 = x := ⟨_, rfl⟩
 rw [hnv]
 have Hnv := Lib.hid hnv
 have Bnv := rd2_bd hb 4
 rw [hnv] at Bnv
 have HBnv := Lib.hid Bnv
 clear hR hk hnv Bnv
 have HM5 : Hid (Bk W5 gp 101 (dgC fr fp to_ tp (.slice none 0 0))) := Lib.hid (HM4.out.grown (row := some g) HK5.out (by intro e; injection e with e; have := HG.out; omega))
 go_wp2_with fail
 refine (two_at W.heap.size g l 6 (by rw [HN.out]; have := H8.out; omega) _ HS5.out.rd HS5.out.lt).mono ?_
 rintro e W6 ⟨rfl, hR, hk⟩
 have HS6 := Lib.hid (HS5.out.read hR hk)
 have HK6 := Lib.hid hk
 obtain ⟨tv, htv⟩ : ∃ x, rd2 l 6 = x := ⟨_, rfl⟩
 rw [htv]
 have Htv := Lib.hid htv
 have Btv := rd2_bd hb 6
 rw [htv] at Btv
 have HBtv := Lib.hid Btv
 clear hR hk htv Btv
 have HM6 : Hid (Bk W6 gp 101 (dgC fr fp to_ tp (.slice none 0 0))) := Lib.hid (HM5.out.grown (row := some g) HK6.out (by intro e; injection e with e; have := HG.out; omega))
 go_wp2_with fail
 refine (rerr_any W.heap.size g _ 0 _ HS6.out.rd).mono ?_
 rintro e W7 ⟨rfl, rfl⟩
 have HNV : Hid (0 ≤ nv ∧ nv ≤ 65535) := HBnv
 rcases Int.lt_or_le nv 8 with r1 | r1
 ·as_aux_lemma =>
  have HE : Hid (udpErr fr to_ l = 3) := Lib.hid (by rw [HE0.out, if_pos (by rw [Hnv.out]; exact r1)])
  go_wp2_with (refine st_box 101 rfl (.tmp 6) (.tmp 35) rfl rfl rfl (cs := dgZ) rfl HS6.out.ak dg_size rfl (dgC_all _ _ _ _ _ _ _) ?_; intro w2 hb2 g2 z2)
  refine bodyPost_ret (results_b1 rfl _ _ w.heap.size 101 dgZ (0, 0) _ rfl hb2 Tryz.underlying101 rfl dg_size) rfl ?_
  exact ⟨none, 0, 0, (by rw [HE.out]; rfl), (fun e => by rw [HE.out] at e; cases e), HS6.out.fin g2⟩
 ·skip
  rcases Int.lt_or_le n nv with r2 | r2
  ·as_aux_lemma =>
   have HE : Hid (udpErr fr to_ l = 2) := Lib.hid (by rw [HE0.out, if_neg (by rw [Hnv.out]; omega), if_pos (by rw [Hnv.out, HN.out]; exact r2)])
   go_wp2_with (refine st_box 101 rfl (.tmp 6) (.tmp 41) rfl rfl rfl (cs := dgZ) rfl HS6.out.ak dg_size rfl (dgC_all _ _ _ _ _ _ _) ?_; intro w2 hb2 g2 z2)
   refine bodyPost_ret (results_b1 rfl _ _ w.heap.size 101 dgZ (0, 0) _ rfl hb2 Tryz.underlying101 rfl dg_size) rfl ?_
   exact ⟨none, 0, 0, (by rw [HE.out]; rfl), (fun e => by rw [HE.out] at e; cases e), HS6.out.fin g2⟩
  ·skip
   obtain ⟨k, hk⟩ : ∃ k : Nat, nv = (k : Int) := ⟨nv.toNat, by have := HNV.out; omega⟩
   subst hk
   have HKK : Hid ((rd2 l 4).toNat = k) := Lib.hid (by rw [Hnv.out]; simp)
   have hkc : (k : Int) ≤ c := by have := HCP.out; omega
   have HRB6 := Lib.hid (HS6.out.rb l HRBW.out)
   by_cases r3 : tv = 0
   ·as_aux_lemma =>
    have HE : Hid (udpErr fr to_ l = 0) := Lib.hid (by rw [HE0.out, if_neg (by rw [Hnv.out]; omega), if_neg (by rw [Hnv.out, HN.out]; omega), if_neg (by rw [Htv.out]; exact fun e => e.1 r3)])
    obtain ⟨q, hq⟩ : ∃ q, q = k - 8 := ⟨_, rfl⟩
    have hwq : IntKind.i64.wrap ((k : Int) - 8) = (q : Int) := by rw [IntWalk.i64_in _ (by have := HNV.out; omega)]; omega
    have HQ := Lib.hid hq
    clear hq
    go_wp2_with fail
    refine (raw_at W.heap.size g l 8 q (by rw [HN.out]; have := HQ.out; omega) (by rw [HN.out]; have := HCP.out; omega) _ HS6.out.rd HS6.out.lt).mono ?_
    rintro e W9 ⟨A9, n9, c9, rfl, hO9, hR, hk9⟩
    have HS9 := Lib.hid (HS6.out.read hR hk9)
    have HM9 : Hid (Bk W9 gp 101 (dgC fr fp to_ tp (.slice none 0 0))) := Lib.hid (HM6.out.grown hk9 (by intro e; injection e with e; have := HG.out; omega))
    have HO9 : Hid (OB 5 W9 w.heap.size A9 n9 c9 (udpDl l)) := Lib.hid (by
     have := Ow.mono hO9 HS6.out.bl.size
     unfold udpDl
     rw [HKK.out, ← HQ.out]
     exact this)
    have c4 : W9.cell? ⟨gp, 4, none⟩ = some (.slice none 0 0) := HM9.out.cell 4
    have f4 := HM9.out.frozen 4
    have HMA : Hid (Bk (W9.setCell ⟨gp, 4, none⟩ (.slice A9 n9 c9)) gp 101 (dgC fr fp to_ tp (.slice A9 n9 c9))) := Lib.hid (HM9.out.set 4 _)
    have HSA : Hid (RS0 w W.heap.size B g 101 dgZ A _ 0 (W9.setCell ⟨gp, 4, none⟩ (.slice A9 n9 c9))) := Lib.hid (HS9.out.kept HM9.out (by decide) (by decide) (by decide) HG.out.1 (grownBy_setCell (World.grownBy.refl W9 (some gp)) (.inl rfl) _))
    have HOA : Hid (OB 5 (W9.setCell ⟨gp, 4, none⟩ (.slice A9 n9 c9)) w.heap.size A9 n9 c9 (udpDl l)) := Lib.hid (Ow.setCell HO9.out (p := ⟨gp, 4, none⟩) (Ne.symm (HM9.out.ow_ne HO9.out (by decide))) _)
    clear hO9 hR hk9
    go_wp2_with (first
     | (refine ld_box 101 _ rfl (.tmp 9) rfl rfl HMA.out Tryz.underlying101 rfl dg_size ?_)
     | (refine st_box 101 rfl (.tmp 6) (.tmp 60) rfl rfl rfl (cs := dgC fr fp to_ tp (.slice A9 n9 c9)) rfl HSA.out.ak dg_size rfl (dgC_all _ _ _ _ _ _ _) ?_; intro w2 hb2 g2 z2))
    refine bodyPost_ret (results_b1 rfl _ _ w.heap.size 101 (dgC fr fp to_ tp (.slice A9 n9 c9)) (0, 0) _ rfl hb2 Tryz.underlying101 rfl dg_size) rfl ?_
    exact ⟨A9, n9, c9, (by rw [HE.out, if_pos rfl, Hfp.out, Htp.out]; rfl), (fun _ => Ow.kept HOA.out g2 (.inr (Ne.symm (HSA.out.ak.ow_ne HOA.out (by decide))))), HSA.out.fin g2⟩
   ·skip
    go_wp2_with fail
    obtain ⟨s, hs⟩ : ∃ s, udpSum fr to_ (l.take k) = s := ⟨_, rfl⟩
    have hsum := udpsum_any fr to_ HFT.out.1 HFT.out.2 A k c B (l.take k) (by rw [List.length_take, HN.out]; omega) (by have := HNV.out; omega) (hb.take k) W6 (RB.take HRB6.out k) (Nat.le_trans HB.out HS6.out.bl.size)
    rw [hs] at hsum
    have HSS := Lib.hid hs
    refine hsum.mono ?_
    rintro e W7 ⟨rfl, hB7⟩
    have HS7 := Lib.hid (HS6.out.below hB7)
    have HM7 := Lib.hid (HM6.out.below hB7 HM6.out.lt)
    clear hsum hs hB7
    by_cases r4 : s = 0
    ·as_aux_lemma =>
     have HE : Hid (udpErr fr to_ l = 0) := Lib.hid (by rw [HE0.out, if_neg (by rw [Hnv.out]; omega), if_neg (by rw [Hnv.out, HN.out]; omega), if_neg (by rw [HKK.out, HSS.out]; exact fun e => e.2 r4)])
     obtain ⟨q, hq⟩ : ∃ q, q = k - 8 := ⟨_, rfl⟩
     have hwq : IntKind.i64.wrap ((k : Int) - 8) = (q : Int) := by rw [IntWalk.i64_in _ (by have := HNV.out; omega)]; omega
     have HQ := Lib.hid hq
     clear hq
     go_wp2_with fail
     refine (raw_at W.heap.size g l 8 q (by rw [HN.out]; have := HQ.out; omega) (by rw [HN.out]; have := HCP.out; omega) _ HS7.out.rd HS7.out.lt).mono ?_
     rintro e W9 ⟨A9, n9, c9, rfl, hO9, hR, hk9⟩
     have HS9 := Lib.hid (HS7.out.read hR hk9)
     have HM9 : Hid (Bk W9 gp 101 (dgC fr fp to_ tp (.slice none 0 0))) := Lib.hid (HM7.out.grown hk9 (by intro e; injection e with e; have := HG.out; omega))
     have HO9 : Hid (OB 5 W9 w.heap.size A9 n9 c9 (udpDl l)) := Lib.hid (by
      have := Ow.mono hO9 HS7.out.bl.size
      unfold udpDl
      rw [HKK.out, ← HQ.out]
      exact this)
     have c4 : W9.cell? ⟨gp, 4, none⟩ = some (.slice none 0 0) := HM9.out.cell 4
     have f4 := HM9.out.frozen 4
     have HMA : Hid (Bk (W9.setCell ⟨gp, 4, none⟩ (.slice A9 n9 c9)) gp 101 (dgC fr fp to_ tp (.slice A9 n9 c9))) := Lib.hid (HM9.out.set 4 _)
     have HSA : Hid (RS0 w W.heap.size B g 101 dgZ A _ 0 (W9.setCell ⟨gp, 4, none⟩ (.slice A9 n9 c9))) := Lib.hid (HS9.out.kept HM9.out (by decide) (by decide) (by decide) HG.out.1 (grownBy_setCell (World.grownBy.refl W9 (some gp)) (.inl rfl) _))
     have HOA : Hid (OB 5 (W9.setCell ⟨gp, 4, none⟩ (.slice A9 n9 c9)) w.heap.size A9 n9 c9 (udpDl l)) := Lib.hid (Ow.setCell HO9.out (p := ⟨gp, 4, none⟩) (Ne.symm (HM9.out.ow_ne HO9.out (by decide))) _)
     clear hO9 hR hk9
     go_wp2_with (first
      | (refine ld_box 101 _ rfl (.tmp 9) rfl rfl HMA.out Tryz.underlying101 rfl dg_size ?_)
      | (refine st_box 101 rfl (.tmp 6) (.tmp 60) rfl rfl rfl (cs := dgC fr fp to_ tp (.slice A9 n9 c9)) rfl HSA.out.ak dg_size rfl (dgC_all _ _ _ _ _ _ _) ?_; intro w2 hb2 g2 z2))
     refine bodyPost_ret (results_b1 rfl _ _ w.heap.size 101 (dgC fr fp to_ tp (.slice A9 n9 c9)) (0, 0) _ rfl hb2 Tryz.underlying101 rfl dg_size) rfl ?_
     exact ⟨A9, n9, c9, (by rw [HE.out, if_pos rfl, Hfp.out, Htp.out]; rfl), (fun _ => Ow.kept HOA.out g2 (.inr (Ne.symm (HSA.out.ak.ow_ne HOA.out (by decide))))), HSA.out.fin g2⟩
    ·as_aux_lemma =>
     have b3 : (tv != 0) = true := by simpa using r3
     have b4 : (s != 0) = true := by simpa using r4
     have HE : Hid (udpErr fr to_ l = 4) := Lib.hid (by rw [HE0.out, if_neg (by rw [Hnv.out]; omega), if_neg (by rw [Hnv.out, HN.out]; omega), if_pos (by rw [HKK.out, HSS.out, Htv.out]; exact ⟨r3, r4⟩)])
     go_wp2_with (refine st_box 101 rfl (.tmp 6) (.tmp 54) rfl rfl rfl (cs := dgZ) rfl HS7.out.ak dg_size rfl (dgC_all _ _ _ _ _ _ _) ?_; intro w2 hb2 g2 z2)
     refine bodyPost_ret (results_b1 rfl _ _ w.heap.size 101 dgZ (0, 0) _ rfl hb2 Tryz.underlying101 rfl dg_size) rfl ?_
     exact ⟨none, 0, 0, (by rw [HE.out]; rfl), (fun e => by rw [HE.out] at e; cases e), HS7.out.fin g2⟩
theorem udpd_any (fr to_ : Int) (hf : okA fr) (ht : okA to_) (A : Option Addr) (n c B : Nat) (l : List Int) (hn : l.length = n) (hcp : n ≤ c) (hmax : n ≤ 1000000) (hb : Bs l) (w : World) (hr : RB w B A l) (hB : B ≤ w.heap.size) :
  Calls Tryz.prog 30 #[.int .u32 fr, .int .u32 to_, .slice A n c] w (UdpDec fr to_ l w) := by
 rcases Nat.lt_or_ge n 8 with h | h
 ·exact udpd_few fr to_ A n c B l hn hmax h hb w hr hB
 ·exact udpd_long fr to_ hf ht A n c B l hn hcp hmax h hb w hr hB
end Go.Proofs.YtaeafkdfbcppgaaGreat
