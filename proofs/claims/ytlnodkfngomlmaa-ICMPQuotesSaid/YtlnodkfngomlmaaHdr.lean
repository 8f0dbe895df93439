/- Proved: the header that the reference writes. Conditions: the packet may be written. -/
import Derived.Test.YtlnodkfngomlmaaQuoL
import Derived.Test.YtlnodkfngomlmaaSpoil
import Derived.Test.YtlnodkfngomlmaaCln
set_option linter.unusedVariables false
set_option linter.unusedSimpArgs false
namespace Go.Proofs.Ytlnodkfngomlmaa
open Go.RowKit
theorem rfour_own (v : Int) (h0 : 0 ≤ v) (h1 : v ≤ 4294967295) (w : World) :
    Calls Try.prog 38 #[.int .u32 v] w fun e w' => e = .returned (.slice (some ⟨w.heap.size, 0, none⟩) 4 4) ∧ OB 5 w' w.heap.size (some ⟨w.heap.size, 0, none⟩) 4 4 (be 4 v) ∧ Below w.heap.size w w' :=
  (rfour_any v h0 h1 w).mono fun e w' ⟨he, hw⟩ => by
    subst hw
    have := ob_lit w w.heap.size (be 4 v) (Nat.le_refl _) (by simp [be_length])
    rw [be_length] at this
    exact ⟨he, this, (Below.refl _ _).alloc (Nat.le_refl _) _⟩
theorem rtwo_own (v : Int) (w : World) :
    Calls Try.prog 67 #[.int .i64 v] w fun e w' => e = .returned (.slice (some ⟨w.heap.size, 0, none⟩) 2 2) ∧ OB 5 w' w.heap.size (some ⟨w.heap.size, 0, none⟩) 2 2 (be 2 v) ∧ Below w.heap.size w w' :=
  (rtwo_any v w).mono fun e w' ⟨he, hw⟩ => by
    subst hw
    have := ob_lit w w.heap.size (be 2 v) (Nat.le_refl _) (by simp [be_length])
    rw [be_length] at this
    exact ⟨he, this, (Below.refl _ _).alloc (Nat.le_refl _) _⟩
theorem rtwo_eq (v fl : Int) (h : v = fl) (w : World) :
    Calls Try.prog 67 #[.int .i64 v] w fun e w' => e = .returned (.slice (some ⟨w.heap.size, 0, none⟩) 2 2) ∧ OB 5 w' w.heap.size (some ⟨w.heap.size, 0, none⟩) 2 2 (be 2 fl) ∧ Below w.heap.size w w' := by subst h; exact rtwo_own v w
def slN : Value → Nat
  | .slice _ n _ => n
  | _ => 0
theorem or_num (a b c : Nat) (h : a ||| b = c) (ha : a < 1099511627776) (hb : b < 1099511627776) (hc : c < 1099511627776) : bits .or .i64 (a : Int) (b : Int) = (c : Int) := by
  have e : ∀ c : Nat, c < 1099511627776 → (BitVec.ofInt 64 (c : Int)).toNat = c := fun c hc => by
    rw [BitVec.ofInt_natCast, BitVec.toNat_ofNat]; exact Nat.mod_eq_of_lt (by omega)
  show IntKind.i64.wrap ((BitVec.ofInt 64 (a : Int) ||| BitVec.ofInt 64 (b : Int)).toNat : Int) = _
  rw [BitVec.toNat_or, e a ha, e b hb, h, IntWalk.i64_in _ (by omega)]
theorem or_w (x : Nat) (h : x < 8192) : bits .or .i64 (x : Int) 16384 = (x : Int) + 16384 := by
  have := or_num x 16384 (x + 16384) (by rw [Nat.or_comm]; have := nat_join 14 16384 x (by decide) (by show _ < 16384; omega); omega) (by omega) (by omega) (by omega)
  simpa using this
theorem or_m (x : Nat) (h : x < 8192) : bits .or .i64 (x : Int) 8192 = (x : Int) + 8192 := by
  have := or_num x 8192 (x + 8192) (by rw [Nat.or_comm]; have := nat_join 13 8192 x (by decide) (by show _ < 8192; omega); omega) (by omega) (by omega) (by omega)
  simpa using this
theorem or_wm (x : Nat) (h : x < 8192) : bits .or .i64 ((x : Int) + 16384) 8192 = (x : Int) + 24576 := by
  have h1 := nat_join 14 16384 x (by decide) (by show _ < 16384; omega)
  have h2 := nat_join 13 8192 x (by decide) (by show _ < 8192; omega)
  have h3 := nat_join 14 16384 (8192 + x) (by decide) (by show _ < 16384; omega)
  have := or_num (x + 16384) 8192 (x + 24576) (by rw [show x + 16384 = 16384 ||| x by omega, Nat.or_assoc, Nat.or_comm x 8192, h2, h3]; omega) (by omega) (by omega) (by omega)
  simpa using this
set_option maxHeartbeats 4000000 in
set_option maxRecDepth 100000 in
theorem rheader_any (p : PkV) (hp : p.Ok) (hnum : numsP p) (oA dA : Option Addr) (on oc m dc dn B : Nat) (ol : List Int) (hn : ol.length = on) (hmo : on ≤ 40) (hb : Bs ol) (hmd : hdN on + dn ≤ 65535) (w : World) (hr : RB w B oA ol) (hB : B ≤ w.heap.size) :
    Calls Try.prog 55 #[.agg (pkC p (.slice oA on oc) (.slice dA m dc)), .int .i64 dn] w fun e w' => ∃ A c, e = .returned (.slice A (hdN on) c) ∧ OB 5 w' w.heap.size A (hdN on) c (hdrB p ol dn (sumOf (hdrB p ol dn 0))) ∧ Below w.heap.size w w' := by
  obtain ⟨s0, s1⟩ := hp.src
  obtain ⟨t0, t1⟩ := hp.dst
  obtain ⟨⟨v0, v1⟩, ⟨l0, l1⟩, ⟨r0, r1⟩, ⟨i0, i1⟩, ⟨o0, o1⟩, o8⟩ := hnum
  have HH := fun (q : PkV) (d : Value) (hq : pkC q (.slice oA on oc) d = pkC p (.slice oA on oc) d) (w : World) => (hq ▸ head_any q oA on oc d (by omega) w : Calls Try.prog 66 #[.agg (pkC p (.slice oA on oc) d)] w _)
  have HHD := Lib.hid (head_any p oA on oc (.slice dA m dc) (by omega))
  clear HH
  have hh := hdN_bd hmo
  have hl20 : 20 + on ≤ hdN on := by unfold hdN; omega
  obtain ⟨W, hW⟩ : ∃ W, w.alloc (.cells (pkC p (.slice oA on oc) (.slice dA m dc)) 42) = W := ⟨_, rfl⟩
  have hm : Bk W w.heap.size 42 (pkC p (.slice oA on oc) (.slice dA m dc)) := by rw [← hW]; exact Bk.new w _ _
  have hBW : Below w.heap.size w W := by rw [← hW]; exact (Below.refl _ _).alloc (Nat.le_refl _) _
  obtain ⟨gx, hgx⟩ : ∃ gx, w.heap.size = gx := ⟨_, rfl⟩
  rw [hgx] at hm hBW ⊢
  have HR := Lib.hid (show RB W gx oA ol from Rw.more (Rw.below hr (hBW.mono (by omega))) (by omega))
  have hz0 : gx < W.heap.size := hm.lt
  have HP := Lib.hid (rfl : hdrB p ol dn (sumOf (hdrB p ol dn 0)) = hdrB p ol dn (sumOf (hdrB p ol dn 0)))
  obtain ⟨F, hF⟩ : ∃ F, hdrB p ol dn (sumOf (hdrB p ol dn 0)) = F := ⟨_, rfl⟩
  have HSET := Lib.hid (fun s h0 h1 => hdr_set p ol dn s h0 h1)
  have HBS := Lib.hid (hdrB_bs p ol dn 0 hb)
  have HLN := Lib.hid (hdrB_len p ol dn 0)
  have HF := Lib.hid hF
  have HX : Hid (hdrB p ol dn 0 = [64 + (hdN on : Int) / 4, p.svc] ++ be 2 ((hdN on : Int) + dn) ++ be 2 p.id ++ be 2 (flP p) ++ [p.life, p.proto, 0, 0] ++ be 4 p.src ++ be 4 p.dst ++ ol ++ List.replicate (hdN on - 20 - on) 0) := Lib.hid (by
    unfold hdrB
    rw [hn, be_1, be_1 p.svc, be_1 p.life, be_1 p.proto, show p.svc % 256 = p.svc by omega, show p.life % 256 = p.life by omega, show p.proto % 256 = p.proto by omega, show ((64 + hdN on / 4 : Nat) : Int) % 256 = 64 + (hdN on : Int) / 4 by omega]
    push_cast
    simp [be])
  obtain ⟨Z, hZ⟩ : ∃ Z, hdrB p ol dn 0 = Z := ⟨_, rfl⟩
  rw [hZ] at HX HBS HLN HSET HF
  have HFIN : Hid (∀ s, sumOf Z = s → 0 ≤ s → s ≤ 65535 → (Z.set 10 (s / 256)).set 11 (s % 256) = F) := Lib.hid (fun s e h0 h1 => (HSET.out s h0 h1).trans (by rw [← e]; exact HF.out))
  clear hZ HSET
  have HFL : Hid (flP p = (if p.whole then 16384 else 0) + (if p.more then 8192 else 0) + p.off / 8) := Lib.hid rfl
  rw [hF]
  clear hF
  have HN := Lib.hid hn
  have HGX := Lib.hid hgx
  have HW := Lib.hid hW
  have HBW := Lib.hid hBW
  have HM := Lib.hid hm
  clear HF
  clear HP hn hgx hW hBW hr hb hp
  obtain ⟨h, hH⟩ : ∃ h, hdN on = h := ⟨_, rfl⟩
  rw [hH] at hh hl20 hmd HX HHD ⊢
  obtain ⟨x, hx⟩ : ∃ x : Nat, p.off / 8 = x := ⟨(p.off / 8).toNat, by omega⟩
  have hx8 : x < 8192 := by omega
  have E0 : IntKind.i64.wrap (p.off.tdiv 8) = (x : Int) := by rw [off8 _ o0 o1, hx]
  rw [hx] at HFL
  have HOW := Lib.hid (or_w x hx8)
  have HOM := Lib.hid (or_m x hx8)
  have HOWM := Lib.hid (or_wm x hx8)
  obtain ⟨fl, hfl⟩ : ∃ fl, flP p = fl := ⟨_, rfl⟩
  rw [hfl] at HX HFL
  have HE0 := Lib.hid E0
  clear hx hfl E0
  obtain ⟨svc, id, wh, mo, off, life, proto, src, dst⟩ := p
  simp only at s0 s1 t0 t1 v0 v1 l0 l1 r0 r1 i0 i1 o0 o1 o8 HE0
  unfold pkC at HW HM HHD ⊢
  simp only at HW HM HHD HX HFL ⊢
  go_enter Try.func55, Try.ntmps55
  go_wp2_with fail
  rw [HW.out, HGX.out]
  have KP : ∀ X, Below W.heap.size W X → Bk X gx 42 #[.int .i64 svc, .int .i64 id, .bool wh, .bool mo, .int .i64 off, .int .i64 life, .int .i64 proto, .int .u32 src, .int .u32 dst, .slice oA on oc, .slice dA m dc] := fun X hX => HM.out.below hX hz0
  have HKP := Lib.hid KP
  clear KP
  refine (HHD.out W).mono ?_
  rintro e w1 ⟨rfl, hB1⟩
  have hm1 := HKP.out w1 hB1
  have y2 : w1.cell? ⟨gx, 2, none⟩ = some (.bool wh) := hm1.cell 2
  have y3 : w1.cell? ⟨gx, 3, none⟩ = some (.bool mo) := hm1.cell 3
  have y4 : w1.cell? ⟨gx, 4, none⟩ = some (.int .i64 off) := hm1.cell 4
  have y0 : w1.cell? ⟨gx, 0, none⟩ = some (.int .i64 svc) := hm1.cell 0
  have e0 := HE0.out
  have e1 := HOW.out
  have e2 := HOM.out
  have e3 := HOWM.out
  have z1 := hB1.size
  have hfl : fl = (if wh = true then 16384 else 0) + (if mo = true then 8192 else 0) + (x : Int) := HFL.out
  clear hm1 HFL
  cases wh <;> cases mo
  all_goals
    simp only [if_true, if_false, Bool.false_eq_true] at hfl
    have HFL := Lib.hid hfl
    clear hfl
    go_wp2_with fail
    have C0 : Below W.heap.size W (w1.alloc (.cells #[.int .u8 (64 + (h : Int) / 4), .int .u8 svc] 5)) := hB1.alloc z1 _
    have R0 : OB 5 (w1.alloc (.cells #[.int .u8 (64 + (h : Int) / 4), .int .u8 svc] 5)) W.heap.size (some ⟨w1.heap.size, 0, none⟩) 2 2 [64 + (h : Int) / 4, svc] := ob_lit w1 W.heap.size [64 + (h : Int) / 4, svc] z1 (by simp)
    have q0 := C0.size

    refine (rtwo_own _ _).mono ?_
    rintro e w2 ⟨rfl, X2, B2⟩
    rw [World.size_alloc] at X2
    have C2 : Below W.heap.size W w2 := C0.trans (B2.mono q0)
    have q2 := C2.size
    have R2 : OB _ _ _ _ _ _ _ := Ow.stays R0 B2
    go_wp2_with (first
      | (at_builtin; refine ap8 rfl (.tmp 30) (.tmp 34) rfl W.heap.size rfl R2 rfl X2.rb (be_length 2 _) (by omega) q2 ?_; intro A3 c3 w3 R3 D3 g3 a3 o3 u3; have C3 := C2.trans D3; have q3 := C3.size; have y1 : w3.cell? ⟨gx, 1, none⟩ = some (.int .i64 id) := (HKP.out w3 C3).cell 1))
    refine (rtwo_own _ _).mono ?_
    rintro e w4 ⟨rfl, X4, B4⟩
    have C4 : Below W.heap.size W w4 := C3.trans (B4.mono q3)
    have q4 := C4.size
    have R4 : OB _ _ _ _ _ _ _ := Ow.stays R3 B4
    go_wp2_with (first
      | (at_builtin; refine ap8 rfl (.tmp 36) (.tmp 39) rfl W.heap.size rfl R4 rfl X4.rb (be_length 2 _) (by omega) q4 ?_; intro A5 c5 w5 R5 D5 g5 a5 o5 u5; have C5 := C4.trans D5; have q5 := C5.size))
    refine (rtwo_eq _ fl (by have := HFL.out; omega) _).mono ?_
    rintro e w6 ⟨rfl, X6, B6⟩
    have C6 : Below W.heap.size W w6 := C5.trans (B6.mono q5)
    have q6 := C6.size
    have R6 : OB _ _ _ _ _ _ _ := Ow.stays R5 B6
    go_wp2_with (first
      | (at_builtin; refine ap8 rfl (.tmp 41) (.tmp 43) rfl W.heap.size rfl R6 rfl X6.rb (be_length 2 _) (by omega) q6 ?_; intro A7 c7 w7 R7 D7 g7 a7 o7 u7; have C7 := C6.trans D7; have q7 := C7.size; have y5 : w7.cell? ⟨gx, 5, none⟩ = some (.int .i64 life) := (HKP.out w7 C7).cell 5; have y6 : w7.cell? ⟨gx, 6, none⟩ = some (.int .i64 proto) := (HKP.out w7 C7).cell 6)
      | (at_builtin; refine ap8_lit rfl (.tmp 45) (.tmp 52) rfl W.heap.size rfl R7 [life, proto, 0, 0] rfl rfl rfl (by omega) q7 ?_; intro A8 c8 w8 R8 D8 g8 a8 o8' u8; have C8 := C7.trans D8; have q8 := C8.size; have y7 : w8.cell? ⟨gx, 7, none⟩ = some (.int .u32 src) := (HKP.out w8 C8).cell 7))
    refine (rfour_own src s0 s1 _).mono ?_
    rintro e w9 ⟨rfl, X9, B9⟩
    have C9 : Below W.heap.size W w9 := C8.trans (B9.mono q8)
    have q9 := C9.size
    have R9 : OB _ _ _ _ _ _ _ := Ow.stays R8 B9
    go_wp2_with (first
      | (at_builtin; refine ap8 rfl (.tmp 54) (.tmp 57) rfl W.heap.size rfl R9 rfl X9.rb (be_length 4 _) (by omega) q9 ?_; intro A10 c10 w10 R10 D10 g10 a10 o10 u10; have C10 := C9.trans D10; have q10 := C10.size; have y8 : w10.cell? ⟨gx, 8, none⟩ = some (.int .u32 dst) := (HKP.out w10 C10).cell 8))
    refine (rfour_own dst t0 t1 _).mono ?_
    rintro e w11 ⟨rfl, X11, B11⟩
    have C11 : Below W.heap.size W w11 := C10.trans (B11.mono q10)
    have q11 := C11.size
    have R11 : OB _ _ _ _ _ _ _ := Ow.stays R10 B11
    have HRO : RB w11 gx oA ol := Rw.below HR.out (C11.mono (by omega))
    go_wp2_with (first
      | (at_builtin; refine ap8 rfl (.tmp 59) (.tmp 62) rfl W.heap.size rfl R11 rfl X11.rb (be_length 4 _) (by omega) q11 ?_; intro A12 c12 w12 R12 D12 g12 a12 o12 u12; have C12 := C11.trans D12; have q12 := C12.size; have y9 : w12.cell? ⟨gx, 9, none⟩ = some (.slice oA on oc) := (HKP.out w12 C12).cell 9)
      | (at_builtin; refine ap8 rfl (.tmp 64) (.tmp 66) rfl W.heap.size rfl R12 rfl (Rw.below HR.out (C12.mono (Nat.le_of_lt hz0))) HN.out (by omega) q12 ?_; intro A13 c13 w13 R13 D13 g13 a13 o13 u13; have C13 := C12.trans D13; have q13 := C13.size))
    obtain ⟨Lx, hLx⟩ : ∃ Lx, [64 + (h : Int) / 4, svc] ++ be 2 ((h : Int) + dn) ++ be 2 id ++ be 2 fl ++ [life, proto, 0, 0] ++ be 4 src ++ be 4 dst ++ ol = Lx := ⟨_, rfl⟩
    rw [hLx] at R13
    have HXL := Lib.hid (HX.out.trans (congrArg (· ++ List.replicate (h - 20 - on) 0) hLx))
    have hR13 : OB 5 w13 W.heap.size A13 (20 + on + 0) c13 (Lx ++ List.replicate 0 0) := by
      rw [List.replicate_zero, List.append_nil, show 20 + on + 0 = 2 + 2 + 2 + 2 + 4 + 4 + 4 + on by omega]; exact R13
    have hn13 : 2 + 2 + 2 + 2 + 4 + 4 + 4 + on = 20 + on + 0 := by omega
    rw [hn13]
    have HR0 := Lib.hid (And.intro hR13 C13)
    clear hR13 R13 hLx hn13
    go_loopw [7] (fun v7 wr => ∃ (j : Nat) (A : Option Addr) (c : Nat), 20 + on + j ≤ h ∧ v7 = .slice A (20 + on + j) c ∧ Hid (OB 5 wr W.heap.size A (20 + on + j) c (Lx ++ List.replicate j 0) ∧ Below W.heap.size W wr)) (fun v7 _ => h - slN v7)
    case atStart => exact ⟨0, A13, c13, by omega, rfl, HR0⟩
    case round =>
      obtain ⟨j, A, c, hj, rfl, HC⟩ := hrel
      have qr := HC.out.2.size
      have R := HC.out.1
      rcases Nat.lt_or_ge (20 + on + j) h with y | y
      · have y' : ((20 + on + j : Nat) : Int) < h := by omega
        go_wp2_with (at_builtin; refine ap8_one rfl (.tmp 72) (.tmp 73) rfl W.heap.size rfl R rfl (by omega) qr ?_; intro A14 c14 w14 R14 D14 g14 a14 o14 u14)
        have HC14 : Hid (OB 5 w14 W.heap.size A14 (20 + on + (j + 1)) c14 (Lx ++ List.replicate (j + 1) 0) ∧ Below W.heap.size W w14) := Lib.hid ⟨by
          rw [List.replicate_succ', ← List.append_assoc]; exact R14, HC.out.2.trans D14⟩
        go_roundw
        case rel => exact ⟨_, _, _, _, _, _, _, _, ⟨j + 1, A14, c14, by omega, rfl, HC14⟩, rfl⟩
        case measure => simp [slN]; omega
      · have hjn : 20 + on + j = h := by omega
        have hlz : Lx ++ List.replicate j 0 = Z := by rw [HXL.out, show h - 20 - on = j by omega]
        rw [hjn, hlz] at R
        rw [hjn]
        obtain ⟨s, hs⟩ : ∃ s, sumOf Z = s := ⟨_, rfl⟩
        have hpb := partC_bd Z HBS.out
        have hs01 : 0 ≤ s ∧ s ≤ 65535 := by rw [← hs]; unfold sumOf; omega
        obtain ⟨k0, k1⟩ := hs01
        have HSM := Lib.hid (rsum_any A h c _ Z R.length (by omega) HBS.out wr R.rb)
        rw [show 65535 - partC Z = s from hs] at HSM
        have HS := Lib.hid hs
        clear hs hpb hlz hjn
        obtain ⟨g, rfl, hg, hc10, hf10⟩ := R.lit_at (k := 10) (by omega)
        have R2 := R.store (k := 10) (by omega) (s / 256)
        obtain ⟨g', hgg, _, hc11, hf11⟩ := R2.lit_at (k := 11) (by omega)
        have hgg' : g' = g := by injection hgg with hgg; injection hgg with hgg; exact hgg.symm
        subst hgg'
        have R3 := R2.store (k := 11) (by omega) (s % 256)
        have i10 : (10 : Int) < h := by omega
        have i11 : (11 : Int) < h := by omega
        have hcx : wr.cell? ⟨g', 11, none⟩ = some (.int .u8 (Z[11]?.getD 0)) := by obtain ⟨g2, e2, _, h2, _⟩ := R.lit_at (k := 11) (by omega); injection e2 with e2; injection e2 with e2; subst e2; exact h2
        have RF := Lib.hid R3
        clear R R2 R3
        go_wp2_with (go_at_call 39; refine HSM.out.mono ?_; rintro e ws ⟨rfl, rfl⟩)
        go_ret
        refine ⟨some ⟨g', 0, none⟩, c, rfl, ?_, ?_⟩
        · rw [← HFIN.out s HS.out k0 k1]; exact Ow.mono RF.out (by omega)
        · exact ((HBW.out.trans (HC.out.2.mono (by omega))).setCell (by show gx ≤ g'; omega) _).setCell (by show gx ≤ g'; omega) _
end Go.Proofs.Ytlnodkfngomlmaa
