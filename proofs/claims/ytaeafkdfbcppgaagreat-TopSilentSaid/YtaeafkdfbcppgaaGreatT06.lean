/- Proved: whether a packet's options are well made, by ipv4.good and by the reference's Options, each by its walk; whether an error may be told about a packet, by icmp.May and by its reference, each by its walk; a packet that came in reads as its parts; what is wrong with a packet, by ipv4.wrong and by the re. Conditions: as each law says. -/
import Derived.Below
import Derived.Deep.LoopGhost
import Derived.Deep.RegionHeld3
import Derived.Deep.Slices
import Derived.LoopTactic
import Derived.OpenShut
import Derived.ProofKit
import Derived.SizedLaws
import Derived.WalkMore
import Derived.Test.YtaeafkdfbcppgaaGreatT02
set_option linter.unusedSectionVars false
set_option linter.unusedSimpArgs false
set_option linter.unusedVariables false
namespace Go.Proofs.YtaeafkdfbcppgaaGreat
open Go.RowKit
def b8 (l : List Int) (i : Nat) : Int := l[i]?.getD 0
theorem b8_bd {l : List Int} (h : Bs l) (i : Nat) : 0 ≤ b8 l i ∧ b8 l i < 256 := h.at_ i
def zeros (l : List Int) (i : Nat) : Bool := (l.drop i).all fun x => decide (x = 0)
theorem zeros_step {l : List Int} {i : Nat} (h : i < l.length) : zeros l i = (decide (b8 l i = 0) && zeros l (i + 1)) := by
 unfold zeros b8
 rw [List.drop_eq_getElem_cons h, List.getElem?_eq_getElem h]
 rfl
theorem zeros_end {l : List Int} {i : Nat} (h : l.length ≤ i) : zeros l i = true := by
 unfold zeros
 rw [List.drop_eq_nil_of_le h]; rfl
def goodF : Nat → List Int → Nat → Bool
 | 0, _, _ => true
 | k + 1, l, i => if i < l.length then
   (if b8 l i = 0 then zeros l i else if b8 l i = 1 then goodF k l (i + 1)
    else if l.length ≤ i + 1 ∨ b8 l (i + 1) < 2 ∨ (l.length : Int) < i + b8 l (i + 1) then false else goodF k l (i + (b8 l (i + 1)).toNat)) else true
def goodO (l : List Int) : Bool := goodF (l.length + 1) l 0
theorem goodF_end {k : Nat} {l : List Int} {i : Nat} (h : l.length ≤ i) : goodF k l i = true := by
 cases k with
 | zero => rfl
 | succ k => unfold goodF; rw [if_neg (by omega)]
theorem goodF_zero {k : Nat} {l : List Int} {i : Nat} (h : i < l.length) (h0 : b8 l i = 0) : goodF (k + 1) l i = zeros l i := by
 rw [goodF, if_pos h, if_pos h0]
theorem goodF_one {k : Nat} {l : List Int} {i : Nat} (h : i < l.length) (h1 : b8 l i = 1) : goodF (k + 1) l i = goodF k l (i + 1) := by
 rw [goodF, if_pos h, if_neg (by omega), if_pos h1]
theorem goodF_bad {k : Nat} {l : List Int} {i : Nat} (h : i < l.length) (h0 : b8 l i ≠ 0) (h1 : b8 l i ≠ 1) (h2 : l.length ≤ i + 1 ∨ b8 l (i + 1) < 2 ∨ (l.length : Int) < i + b8 l (i + 1)) : goodF (k + 1) l i = false := by
 rw [goodF, if_pos h, if_neg h0, if_neg h1, if_pos h2]
theorem goodF_more {k : Nat} {l : List Int} {i : Nat} (h : i < l.length) (h0 : b8 l i ≠ 0) (h1 : b8 l i ≠ 1) (h2 : i + 1 < l.length) (h3 : 2 ≤ b8 l (i + 1)) (h4 : (i : Int) + b8 l (i + 1) ≤ l.length) : goodF (k + 1) l i = goodF k l (i + (b8 l (i + 1)).toNat) := by
 rw [goodF, if_pos h, if_neg h0, if_neg h1, if_neg (by omega)]
set_option maxHeartbeats 4000000 in
set_option maxRecDepth 100000 in
theorem good_any (A : Option Addr) (n c B : Nat) (l : List Int) (hn : l.length = n) (hc : n ≤ c) (hmax : n ≤ 140737488355328) (hb : Bs l) (w : World) (hr : RB w B A l) :
  Calls Tryz.prog 74 #[.slice A n c] w fun e w' => e = .returned (.bool (goodO l)) ∧ w = w' := by
 have HN := Lib.hid hn
 obtain ⟨R, hR⟩ : ∃ R, goodO l = R := ⟨_, rfl⟩
 rw [hR]
 have HR := Lib.hid hR
 clear hn hR
 go_enter Tryz.func74, Tryz.ntmps74
 go_wp2
 go_step3
 go_wp2
 go_step3
 go_wp2
 go_loop [3] (fun i => ∃ j f : Nat, j ≤ n ∧ i = .int .i64 j ∧ Hid (goodF f l j = R) ∧ n ≤ j + f) (fun i => n - (intOf i).toNat)
 case atStart => exact ⟨0, n + 1, Nat.zero_le _, rfl, Lib.hid (by rw [← HN.out]; exact HR.out), by omega⟩
 case round =>
  obtain ⟨j, f, hj, rfl, HG, hf⟩ := hrel
  rcases Nat.lt_or_ge j n with c0 | c0
  ·obtain ⟨f, rfl⟩ : ∃ f', f = f' + 1 := ⟨f - 1, by omega⟩
   obtain ⟨b, off, rfl, _, hx⟩ := hr.at_ (k := j) (by rw [HN.out]; exact c0)
   have hx0 := b8_bd hb j
   obtain ⟨x, hxx⟩ : ∃ x, b8 l j = x := ⟨_, rfl⟩
   have hx' : w.cell? ⟨b, off + j, none⟩ = some (.int .u8 x) := by rw [← hxx]; exact hx
   rw [hxx] at hx0
   have HX := Lib.hid hxx
   have c1 : (j : Int) < n := by omega
   clear hx hxx
   rcases (by omega : x = 0 ∨ x = 1 ∨ (x ≠ 0 ∧ x ≠ 1)) with rfl | rfl | ⟨d0, d1⟩
   ·have HZ : Hid (zeros l j = R) := Lib.hid (by rw [← HG.out]; exact (goodF_zero (by rw [HN.out]; exact c0) HX.out).symm)
    clear HG
    have c2 : (j : Int) ≤ n := by omega
    have c3 : (n : Int) - j = ((n - j : Nat) : Int) := by omega
    go_wp2
    go_loop [54] (fun i => ∃ m : Nat, m ≤ n - j ∧ i = .int .i64 m ∧ Hid (zeros l (j + m) = R)) (fun i => n - (intOf i).toNat)
    case atStart => exact ⟨0, Nat.zero_le _, rfl, HZ⟩
    case round =>
     obtain ⟨m, hm, rfl, HM⟩ := hrel
     rcases Nat.lt_or_ge m (n - j) with e0 | e0
     ·obtain ⟨b', off', e', _, hy⟩ := hr.at_ (k := j + m) (by rw [HN.out]; omega)
      injection e' with e'; injection e' with ea eb; subst ea; subst eb
      obtain ⟨y, hyy⟩ : ∃ y, b8 l (j + m) = y := ⟨_, rfl⟩
      have hy' : w.cell? ⟨b, off + j + m, none⟩ = some (.int .u8 y) := by rw [← hyy, Nat.add_assoc]; exact hy
      have HY := Lib.hid hyy
      have HS := Lib.hid (zeros_step (l := l) (i := j + m) (by rw [HN.out]; omega))
      have e1 : (m : Int) < ((n - j : Nat) : Int) := by omega
      clear hy hyy
      rcases Decidable.em (y = 0) with rfl | e2
      ·have HM2 : Hid (zeros l (j + (m + 1)) = R) := Lib.hid (by rw [← HM.out, HS.out, HY.out]; simp [Nat.add_assoc])
       clear HS
       go_wp2
       go_round
       case rel => exact ⟨m + 1, by omega, by go_num, HM2⟩
       case measure => simp [intOf]; omega
      ·have HT : Hid (R = false) := Lib.hid (by rw [← HM.out, HS.out, HY.out, decide_eq_false e2]; rfl)
       have e3 : (y != 0) = true := by simpa using e2
       clear HS
       go_wp2
       try rw [Exit.noGoto_ret]
       go_ret
       exact ⟨by rw [HT.out]; rfl, rfl⟩
     ·have HT : Hid (R = true) := Lib.hid (by rw [← HM.out]; exact zeros_end (by rw [HN.out]; omega))
      have e1 : ¬ (m : Int) < ((n - j : Nat) : Int) := by omega
      go_wp2
      try rw [Exit.noGoto_ret]
      go_ret
      exact ⟨by rw [HT.out]; rfl, rfl⟩
   ·have HG2 : Hid (goodF f l (j + 1) = R) := Lib.hid (by rw [← HG.out]; exact (goodF_one (by rw [HN.out]; exact c0) HX.out).symm)
    clear HG
    go_wp2
    go_round
    case rel => exact ⟨j + 1, f, by omega, by go_num, HG2, by omega⟩
    case measure => simp [intOf]; omega
   ·rcases (by rw [HN.out]; omega : l.length ≤ j + 1 ∨ j + 1 < n) with e0 | e0
    ·have HT : Hid (R = false) := Lib.hid (by rw [← HG.out]; exact goodF_bad (by rw [HN.out]; exact c0) (by rw [HX.out]; exact d0) (by rw [HX.out]; exact d1) (.inl e0))
     have e1 : (n : Int) ≤ j + 1 := by rw [HN.out] at e0; omega
     have e2 : (x == 0) = false := by simpa using d0
     have e3 : (x == 1) = false := by simpa using d1
     clear HG e0
     go_wp2
     try rw [Exit.noGoto_ret]
     go_ret
     exact ⟨by rw [HT.out]; rfl, rfl⟩
    ·have e1 : ¬ (n : Int) ≤ j + 1 := by omega
     have e1' : (j : Int) + 1 < n := by omega
     have e2 : (x == 0) = false := by simpa using d0
     have e3 : (x == 1) = false := by simpa using d1
     obtain ⟨b', off', e', _, hy⟩ := hr.at_ (k := j + 1) (by rw [HN.out]; omega)
     injection e' with e'; injection e' with ea eb; subst ea; subst eb
     have hy0 := b8_bd hb (j + 1)
     obtain ⟨y, hyy⟩ : ∃ y, b8 l (j + 1) = y := ⟨_, rfl⟩
     have hy' : w.cell? ⟨b, off + (j + 1), none⟩ = some (.int .u8 y) := by rw [← hyy]; exact hy
     rw [hyy] at hy0
     have hjn : ((j : Int) + 1).toNat = j + 1 := by omega
     have HY := Lib.hid hyy
     clear hy hyy
     rcases (by omega : y < 2 ∨ (2 ≤ y ∧ (n : Int) < j + y) ∨ (2 ≤ y ∧ (j : Int) + y ≤ n)) with f0 | ⟨f0, f1⟩ | ⟨f0, f1⟩
     ·have HT : Hid (R = false) := Lib.hid (by rw [← HG.out]; exact goodF_bad (by rw [HN.out]; exact c0) (by rw [HX.out]; exact d0) (by rw [HX.out]; exact d1) (.inr (.inl (by rw [HY.out]; exact f0))))
      have f2 : decide (y < 2) = true := by simpa using f0
      clear HG
      go_wp2
      try rw [Exit.noGoto_ret]
      go_ret
      exact ⟨by rw [HT.out]; rfl, rfl⟩
     ·have HT : Hid (R = false) := Lib.hid (by rw [← HG.out]; exact goodF_bad (by rw [HN.out]; exact c0) (by rw [HX.out]; exact d0) (by rw [HX.out]; exact d1) (.inr (.inr (by rw [HY.out, HN.out]; exact f1))))
      have f2 : decide (y < 2) = false := by simp; omega
      clear HG
      go_wp2
      try rw [Exit.noGoto_ret]
      go_ret
      exact ⟨by rw [HT.out]; rfl, rfl⟩
     ·have HG2 : Hid (goodF f l (j + y.toNat) = R) := Lib.hid (by
       rw [← HG.out, goodF_more (by rw [HN.out]; exact c0) (by rw [HX.out]; exact d0) (by rw [HX.out]; exact d1) (by rw [HN.out]; exact e0) (by rw [HY.out]; exact f0) (by rw [HY.out, HN.out]; exact f1), HY.out])
      have f2 : decide (y < 2) = false := by simp; omega
      have f3 : ¬ (n : Int) < j + y := by omega
      have f4 : (j : Int) + y = ((j + y.toNat : Nat) : Int) := by omega
      clear HG
      go_wp2
      go_round
      case rel => exact ⟨j + y.toNat, f, by omega, by first | (rw [f4]) | go_num, HG2, by omega⟩
      case measure => simp [intOf]; omega
  ·have HT : Hid (R = true) := Lib.hid (by rw [← HG.out]; exact goodF_end (by rw [HN.out]; exact c0))
   have c1 : ¬ (j : Int) < n := by omega
   go_wp2
   try rw [Exit.noGoto_ret]
   go_ret
   exact ⟨by rw [HT.out]; rfl, rfl⟩
open Go.RowKit
structure PkV where
 svc : Int
 id : Int
 whole : Bool
 more : Bool
 off : Int
 life : Int
 proto : Int
 src : Int
 dst : Int
def pkC (p : PkV) (o d : Value) : Array Value := #[.int .i64 p.svc, .int .i64 p.id, .bool p.whole, .bool p.more, .int .i64 p.off, .int .i64 p.life, .int .i64 p.proto, .int .u32 p.src, .int .u32 p.dst, o, d]
structure PkV.Ok (p : PkV) : Prop where
 svc : -9223372036854775808 ≤ p.svc ∧ p.svc ≤ 9223372036854775807
 id : -9223372036854775808 ≤ p.id ∧ p.id ≤ 9223372036854775807
 off : -9223372036854775808 ≤ p.off ∧ p.off ≤ 9223372036854775807
 life : -9223372036854775808 ≤ p.life ∧ p.life ≤ 9223372036854775807
 proto : -9223372036854775808 ≤ p.proto ∧ p.proto ≤ 9223372036854775807
 src : 0 ≤ p.src ∧ p.src ≤ 4294967295
 dst : 0 ≤ p.dst ∧ p.dst ≤ 4294967295
open Go.RowKit
def hdN (n : Nat) : Nat := 20 + (n + 3) / 4 * 4
theorem hdN_int (n : Nat) : 20 + ((n : Int) + 3) / 4 * 4 = (hdN n : Int) := by unfold hdN; omega
theorem hdN_le (n : Nat) : hdN n ≤ n + 23 := by unfold hdN; omega
theorem size_any (A : Option Addr) (n c : Nat) (hmax : n ≤ 140737488355328) (w : World) :
  Calls Tryz.prog 122 #[.slice A n c] w fun e w' => e = .returned (.int .i64 (hdN n)) ∧ w = w' := by
 go_enter Tryz.func122, Tryz.ntmps122
 go_wp2
 go_ret
 exact ⟨by rw [← hdN_int]; rfl, rfl⟩
def fitsP (off : Int) (on dn : Nat) : Prop := hdN on + dn ≤ 65535 ∧ off + dn ≤ 65535 - (hdN on : Int)
instance (off : Int) (on dn : Nat) : Decidable (fitsP off on dn) := by unfold fitsP; exact inferInstance
set_option maxRecDepth 100000 in
theorem within_any (p : PkV) (hoff : 0 ≤ p.off ∧ p.off ≤ 65528) (oA dA : Option Addr) (on oc dn dc : Nat) (hmo : on ≤ 40) (hmd : dn ≤ 140737488355328) (w : World) :
  Calls Tryz.prog 75 #[.agg (pkC p (.slice oA on oc) (.slice dA dn dc))] w fun e w' => e = .returned (.bool (decide (fitsP p.off on dn))) ∧ Below w.heap.size w w' := by
 obtain ⟨o0, o1⟩ := hoff
 have hh := hdN_le on
 obtain ⟨h, hH⟩ : ∃ h, hdN on = h := ⟨_, rfl⟩
 have hh' : h ≤ 63 := by omega
 have HH := Lib.hid hH
 clear hH hh
 rcases Decidable.em (h + dn ≤ 65535) with d | d
 ·have HT : Hid (decide (fitsP p.off on dn) = decide (p.off + dn ≤ 65535 - (h : Int))) := Lib.hid (decide_eq_decide.2 (by unfold fitsP; rw [HH.out]; exact ⟨fun h => h.2, fun h => ⟨d, h⟩⟩))
  have d' : (h : Int) + dn ≤ 65535 := by omega
  unfold pkC
  go_enter Tryz.func75, Tryz.ntmps75
  go_wp2_with fail
  refine (size_any oA on oc (by omega) _).mono ?_
  rintro e w' ⟨rfl, rfl⟩
  rw [HH.out]
  go_wp2
  go_ret
  exact ⟨by rw [HT.out]; rfl, (Below.refl _ _).alloc (Nat.le_refl _) _⟩
 ·have HT : Hid (decide (fitsP p.off on dn) = false) := Lib.hid (decide_eq_false (by unfold fitsP; rw [HH.out]; exact fun h => d h.1))
  have d' : ¬ (h : Int) + dn ≤ 65535 := by omega
  unfold pkC
  go_enter Tryz.func75, Tryz.ntmps75
  go_wp2_with fail
  refine (size_any oA on oc (by omega) _).mono ?_
  rintro e w' ⟨rfl, rfl⟩
  rw [HH.out]
  go_wp2
  go_ret
  exact ⟨by rw [HT.out]; rfl, (Below.refl _ _).alloc (Nat.le_refl _) _⟩
def numsP (p : PkV) : Prop := (0 ≤ p.svc ∧ p.svc ≤ 255) ∧ (0 ≤ p.life ∧ p.life ≤ 255) ∧ (0 ≤ p.proto ∧ p.proto ≤ 255) ∧ (0 ≤ p.id ∧ p.id ≤ 65535) ∧ (0 ≤ p.off ∧ p.off ≤ 65528) ∧ p.off % 8 = 0
def errIs (p : PkV) (ol : List Int) (dn : Nat) (e : Int) : Prop :=
 (¬ numsP p ∧ e = 1) ∨ (numsP p ∧ (40 < ol.length ∨ goodO ol = false) ∧ e = 3) ∨ (numsP p ∧ ol.length ≤ 40 ∧ goodO ol = true ∧ ¬ fitsP p.off ol.length dn ∧ e = 5) ∨ (numsP p ∧ ol.length ≤ 40 ∧ goodO ol = true ∧ fitsP p.off ol.length dn ∧ e = 0)
theorem errIs_one {p : PkV} {ol : List Int} {dn : Nat} {e e' : Int} (h : errIs p ol dn e) (h' : errIs p ol dn e') : e = e' := by
 unfold errIs at h h'
 rcases h with ⟨a, rfl⟩ | ⟨a, b, rfl⟩ | ⟨a, b, c, d, rfl⟩ | ⟨a, b, c, d, rfl⟩ <;> rcases h' with ⟨a', rfl⟩ | ⟨a', b', rfl⟩ | ⟨a', b', c', d', rfl⟩ | ⟨a', b', c', d', rfl⟩ <;> first
  | rfl
  | exact absurd a' a
  | exact absurd a a'
  | (exfalso; rcases b' with b' | b'; omega; simp_all)
  | (exfalso; rcases b with b | b; omega; simp_all)
  | (exfalso; exact d d')
  | (exfalso; exact d' d)
open Go.RowKit
def upto (p : PkV) (j : Nat) : Prop := (0 < j → 0 ≤ p.svc ∧ p.svc ≤ 255) ∧ (1 < j → 0 ≤ p.life ∧ p.life ≤ 255) ∧ (2 < j → 0 ≤ p.proto ∧ p.proto ≤ 255) ∧ (3 < j → 0 ≤ p.id ∧ p.id ≤ 65535) ∧ (4 < j → 0 ≤ p.off ∧ p.off ≤ 65528)
def WrPost (p : PkV) (ol : List Int) (dn : Nat) (w : World) (e : Ending) (w' : World) : Prop := ∃ k, e = .returned (.int .i64 k) ∧ errIs p ol dn k ∧ Below w.heap.size w w'
set_option maxHeartbeats 4000000 in
set_option maxRecDepth 100000 in
theorem wrong_any (p : PkV) (hp : p.Ok) (oA dA : Option Addr) (on oc dn dc B : Nat) (ol : List Int) (hn : ol.length = on) (hc : on ≤ oc) (hmo : on ≤ 140737488355328) (hb : Bs ol) (hmd : dn ≤ 140737488355328) (w : World) (hr : RB w B oA ol) (hB : B ≤ w.heap.size) :
  Calls Tryz.prog 229 #[.agg (pkC p (.slice oA on oc) (.slice dA dn dc))] w (WrPost p ol dn w) := by
 obtain ⟨W, hW⟩ : ∃ W, w.alloc (.cells (pkC p (.slice oA on oc) (.slice dA dn dc)) 97) = W := ⟨_, rfl⟩
 have hm : Bk W w.heap.size 97 (pkC p (.slice oA on oc) (.slice dA dn dc)) := by rw [← hW]; exact Bk.new w _ _
 have hBW : Below w.heap.size w W := by rw [← hW]; exact (Below.refl _ _).alloc (Nat.le_refl _) _
 have HN := Lib.hid hn
 have HM := Lib.hid hm
 have HBW := Lib.hid hBW
 have HZ := Lib.hid hm.lt
 have HR := Lib.hid (show RB W B oA ol from Rw.below hr (hBW.mono hB))
 have HW : Hid (w.alloc (.cells #[.int .i64 p.svc, .int .i64 p.id, .bool p.whole, .bool p.more, .int .i64 p.off, .int .i64 p.life, .int .i64 p.proto, .int .u32 p.src, .int .u32 p.dst, .slice oA on oc, .slice dA dn dc] 97) = W) := Lib.hid hW
 clear hn hW hBW hm hr
 unfold pkC
 go_enter Tryz.func229, Tryz.ntmps229
 go_wp2
 rw [HW.out]
 go_loopw [21] (fun i wr => ∃ j : Nat, j ≤ 5 ∧ i = .int .i64 j ∧ Hid (upto p j) ∧ Hid (Below (w.heap.size + 1) W wr)) (fun i _ => 5 - (intOf i).toNat)
 case atStart => exact ⟨0, Nat.zero_le _, rfl, Lib.hid (by unfold upto; exact ⟨fun h => absurd h (by omega), fun h => absurd h (by omega), fun h => absurd h (by omega), fun h => absurd h (by omega), fun h => absurd h (by omega)⟩), Lib.hid (Below.refl _ _)⟩
 case round =>
  obtain ⟨j, hj, rfl, HU, HB⟩ := hrel
  have hz := HZ.out
  have hz1 := HB.out.size
  have HBw : Hid (Below w.heap.size w wr) := Lib.hid (HBW.out.trans (HB.out.mono (Nat.le_succ _)))
  have HMr : Hid (Bk wr w.heap.size 97 (pkC p (.slice oA on oc) (.slice dA dn dc))) := Lib.hid (HM.out.below HB.out (Nat.lt_succ_self _))
  rcases (by omega : j = 0 ∨ j = 1 ∨ j = 2 ∨ j = 3 ∨ j = 4 ∨ j = 5) with rfl | rfl | rfl | rfl | rfl | rfl
  ·have hidx : ∀ w', (Instr.index 475 (.agg #[.int .i64 p.svc, .int .i64 255, .int .i64 p.life, .int .i64 255, .int .i64 p.proto, .int .i64 255, .int .i64 p.id, .int .i64 65535, .int .i64 p.off, .int .i64 65528]) (.int .i64 0)).run Tryz.prog w' = .ok (.agg #[.int .i64 p.svc, .int .i64 255]) w' := fun w' => by kernel_rfl
   rcases (by omega : p.svc < 0 ∨ (0 ≤ p.svc ∧ 255 < p.svc) ∨ (0 ≤ p.svc ∧ p.svc ≤ 255)) with d | ⟨d, d2⟩ | ⟨d, d2⟩
   ·have HE : Hid (errIs p ol dn 1) := Lib.hid (.inl ⟨fun h => by have := h; unfold numsP at this; omega, rfl⟩)
    go_wp2
    go_ret
    exact ⟨1, rfl, HE.out, HBw.out.alloc (by omega) _⟩
   ·have HE : Hid (errIs p ol dn 1) := Lib.hid (.inl ⟨fun h => by have := h; unfold numsP at this; omega, rfl⟩)
    have d3 : ¬ p.svc < 0 := by omega
    go_wp2
    go_ret
    exact ⟨1, rfl, HE.out, HBw.out.alloc (by omega) _⟩
   ·have HU2 : Hid (upto p 1) := Lib.hid (by have h := HU.out; unfold upto at h ⊢; exact ⟨fun _ => ⟨d, d2⟩, fun h0 => absurd h0 (by omega), fun h0 => absurd h0 (by omega), fun h0 => absurd h0 (by omega), fun h0 => absurd h0 (by omega)⟩)
    have d3 : ¬ p.svc < 0 := by omega
    have d4 : ¬ 255 < p.svc := by omega
    go_wp2
    go_roundw
    case rel => exact ⟨1, by omega, rfl, HU2, Lib.hid (HB.out.alloc (by omega) _)⟩
    case measure => simp [intOf]
  ·have hidx : ∀ w', (Instr.index 475 (.agg #[.int .i64 p.svc, .int .i64 255, .int .i64 p.life, .int .i64 255, .int .i64 p.proto, .int .i64 255, .int .i64 p.id, .int .i64 65535, .int .i64 p.off, .int .i64 65528]) (.int .i64 1)).run Tryz.prog w' = .ok (.agg #[.int .i64 p.life, .int .i64 255]) w' := fun w' => by kernel_rfl
   rcases (by omega : p.life < 0 ∨ (0 ≤ p.life ∧ 255 < p.life) ∨ (0 ≤ p.life ∧ p.life ≤ 255)) with d | ⟨d, d2⟩ | ⟨d, d2⟩
   ·have HE : Hid (errIs p ol dn 1) := Lib.hid (.inl ⟨fun h => by have := h; unfold numsP at this; omega, rfl⟩)
    go_wp2
    go_ret
    exact ⟨1, rfl, HE.out, HBw.out.alloc (by omega) _⟩
   ·have HE : Hid (errIs p ol dn 1) := Lib.hid (.inl ⟨fun h => by have := h; unfold numsP at this; omega, rfl⟩)
    have d3 : ¬ p.life < 0 := by omega
    go_wp2
    go_ret
    exact ⟨1, rfl, HE.out, HBw.out.alloc (by omega) _⟩
   ·have HU2 : Hid (upto p 2) := Lib.hid (by have h := HU.out; unfold upto at h ⊢; exact ⟨fun _ => h.1 (by omega), fun _ => ⟨d, d2⟩, fun h0 => absurd h0 (by omega), fun h0 => absurd h0 (by omega), fun h0 => absurd h0 (by omega)⟩)
    have d3 : ¬ p.life < 0 := by omega
    have d4 : ¬ 255 < p.life := by omega
    go_wp2
    go_roundw
    case rel => exact ⟨2, by omega, rfl, HU2, Lib.hid (HB.out.alloc (by omega) _)⟩
    case measure => simp [intOf]
  ·have hidx : ∀ w', (Instr.index 475 (.agg #[.int .i64 p.svc, .int .i64 255, .int .i64 p.life, .int .i64 255, .int .i64 p.proto, .int .i64 255, .int .i64 p.id, .int .i64 65535, .int .i64 p.off, .int .i64 65528]) (.int .i64 2)).run Tryz.prog w' = .ok (.agg #[.int .i64 p.proto, .int .i64 255]) w' := fun w' => by kernel_rfl
   rcases (by omega : p.proto < 0 ∨ (0 ≤ p.proto ∧ 255 < p.proto) ∨ (0 ≤ p.proto ∧ p.proto ≤ 255)) with d | ⟨d, d2⟩ | ⟨d, d2⟩
   ·have HE : Hid (errIs p ol dn 1) := Lib.hid (.inl ⟨fun h => by have := h; unfold numsP at this; omega, rfl⟩)
    go_wp2
    go_ret
    exact ⟨1, rfl, HE.out, HBw.out.alloc (by omega) _⟩
   ·have HE : Hid (errIs p ol dn 1) := Lib.hid (.inl ⟨fun h => by have := h; unfold numsP at this; omega, rfl⟩)
    have d3 : ¬ p.proto < 0 := by omega
    go_wp2
    go_ret
    exact ⟨1, rfl, HE.out, HBw.out.alloc (by omega) _⟩
   ·have HU2 : Hid (upto p 3) := Lib.hid (by have h := HU.out; unfold upto at h ⊢; exact ⟨fun _ => h.1 (by omega), fun _ => h.2.1 (by omega), fun _ => ⟨d, d2⟩, fun h0 => absurd h0 (by omega), fun h0 => absurd h0 (by omega)⟩)
    have d3 : ¬ p.proto < 0 := by omega
    have d4 : ¬ 255 < p.proto := by omega
    go_wp2
    go_roundw
    case rel => exact ⟨3, by omega, rfl, HU2, Lib.hid (HB.out.alloc (by omega) _)⟩
    case measure => simp [intOf]
  ·have hidx : ∀ w', (Instr.index 475 (.agg #[.int .i64 p.svc, .int .i64 255, .int .i64 p.life, .int .i64 255, .int .i64 p.proto, .int .i64 255, .int .i64 p.id, .int .i64 65535, .int .i64 p.off, .int .i64 65528]) (.int .i64 3)).run Tryz.prog w' = .ok (.agg #[.int .i64 p.id, .int .i64 65535]) w' := fun w' => by kernel_rfl
   rcases (by omega : p.id < 0 ∨ (0 ≤ p.id ∧ 65535 < p.id) ∨ (0 ≤ p.id ∧ p.id ≤ 65535)) with d | ⟨d, d2⟩ | ⟨d, d2⟩
   ·have HE : Hid (errIs p ol dn 1) := Lib.hid (.inl ⟨fun h => by have := h; unfold numsP at this; omega, rfl⟩)
    go_wp2
    go_ret
    exact ⟨1, rfl, HE.out, HBw.out.alloc (by omega) _⟩
   ·have HE : Hid (errIs p ol dn 1) := Lib.hid (.inl ⟨fun h => by have := h; unfold numsP at this; omega, rfl⟩)
    have d3 : ¬ p.id < 0 := by omega
    go_wp2
    go_ret
    exact ⟨1, rfl, HE.out, HBw.out.alloc (by omega) _⟩
   ·have HU2 : Hid (upto p 4) := Lib.hid (by have h := HU.out; unfold upto at h ⊢; exact ⟨fun _ => h.1 (by omega), fun _ => h.2.1 (by omega), fun _ => h.2.2.1 (by omega), fun _ => ⟨d, d2⟩, fun h0 => absurd h0 (by omega)⟩)
    have d3 : ¬ p.id < 0 := by omega
    have d4 : ¬ 65535 < p.id := by omega
    go_wp2
    go_roundw
    case rel => exact ⟨4, by omega, rfl, HU2, Lib.hid (HB.out.alloc (by omega) _)⟩
    case measure => simp [intOf]
  ·have hidx : ∀ w', (Instr.index 475 (.agg #[.int .i64 p.svc, .int .i64 255, .int .i64 p.life, .int .i64 255, .int .i64 p.proto, .int .i64 255, .int .i64 p.id, .int .i64 65535, .int .i64 p.off, .int .i64 65528]) (.int .i64 4)).run Tryz.prog w' = .ok (.agg #[.int .i64 p.off, .int .i64 65528]) w' := fun w' => by kernel_rfl
   rcases (by omega : p.off < 0 ∨ (0 ≤ p.off ∧ 65528 < p.off) ∨ (0 ≤ p.off ∧ p.off ≤ 65528)) with d | ⟨d, d2⟩ | ⟨d, d2⟩
   ·have HE : Hid (errIs p ol dn 1) := Lib.hid (.inl ⟨fun h => by have := h; unfold numsP at this; omega, rfl⟩)
    go_wp2
    go_ret
    exact ⟨1, rfl, HE.out, HBw.out.alloc (by omega) _⟩
   ·have HE : Hid (errIs p ol dn 1) := Lib.hid (.inl ⟨fun h => by have := h; unfold numsP at this; omega, rfl⟩)
    have d3 : ¬ p.off < 0 := by omega
    go_wp2
    go_ret
    exact ⟨1, rfl, HE.out, HBw.out.alloc (by omega) _⟩
   ·have HU2 : Hid (upto p 5) := Lib.hid (by have h := HU.out; unfold upto at h ⊢; exact ⟨fun _ => h.1 (by omega), fun _ => h.2.1 (by omega), fun _ => h.2.2.1 (by omega), fun _ => h.2.2.2.1 (by omega), fun _ => ⟨d, d2⟩⟩)
    have d3 : ¬ p.off < 0 := by omega
    have d4 : ¬ 65528 < p.off := by omega
    go_wp2
    go_roundw
    case rel => exact ⟨5, by omega, rfl, HU2, Lib.hid (HB.out.alloc (by omega) _)⟩
    case measure => simp [intOf]
  ·have hu := HU.out
   unfold upto at hu
   have u0 := hu.1 (by omega)
   have u1 := hu.2.1 (by omega)
   have u2 := hu.2.2.1 (by omega)
   have u3 := hu.2.2.2.1 (by omega)
   have u4 := hu.2.2.2.2 (by omega)
   obtain ⟨u40, u41⟩ := u4
   have y0 := HMr.out.cell 0
   have y1 := HMr.out.cell 1
   have y2 := HMr.out.cell 2
   have y3 := HMr.out.cell 3
   have y4 := HMr.out.cell 4
   have y5 := HMr.out.cell 5
   have y6 := HMr.out.cell 6
   have y7 := HMr.out.cell 7
   have y8 := HMr.out.cell 8
   have y9 := HMr.out.cell 9
   have y10 := HMr.out.cell 10
   simp only [pkC, List.setIfInBounds_toArray, List.getElem?_toArray, List.getElem?_cons_zero, List.getElem?_cons_succ] at y0 y1 y2 y3 y4 y5 y6 y7 y8 y9 y10
   clear hu
   rcases Decidable.em (p.off % 8 = 0) with d | d
   ·have HNP : Hid (numsP p) := Lib.hid ⟨u0, u1, u2, u3, ⟨u40, u41⟩, d⟩
    have d1 : (p.off % 8 != 0) = false := by simpa using d
    rcases (by omega : 40 < on ∨ on ≤ 40) with e | e
    ·have HE : Hid (errIs p ol dn 3) := Lib.hid (.inr (.inl ⟨HNP.out, .inl (by rw [HN.out]; exact e), rfl⟩))
     have e1 : (40 : Int) < on := by omega
     go_wp2
     go_ret
     exact ⟨3, rfl, HE.out, HBw.out⟩
    ·have e1 : ¬ (40 : Int) < on := by omega
     have hgood := good_any oA on oc B ol HN.out hc hmo hb wr (Rw.below HR.out (HB.out.mono (by omega)))
     obtain ⟨G, hG⟩ : ∃ G, goodO ol = G := ⟨_, rfl⟩
     rw [hG] at hgood
     have HG := Lib.hid hG
     have HGD := Lib.hid hgood
     clear hG hgood
     go_wp2_with fail
     refine HGD.out.mono ?_
     rintro e2 w' ⟨rfl, rfl⟩
     rcases G with _ | _
     ·have HE : Hid (errIs p ol dn 3) := Lib.hid (.inr (.inl ⟨HNP.out, .inr HG.out, rfl⟩))
      go_wp2
      go_ret
      exact ⟨3, rfl, HE.out, HBw.out⟩
     ·have hwi := within_any p ⟨u40, u41⟩ oA dA on oc dn dc e hmd wr
      have HWI := Lib.hid hwi
      unfold pkC at HWI
      clear hwi
      go_wp2_with fail
      refine HWI.out.mono ?_
      rintro e2 w4 ⟨rfl, hB4⟩
      have HB4 : Hid (Below w.heap.size w w4) := Lib.hid (HBw.out.trans (hB4.mono (by omega)))
      clear hB4
      rcases Decidable.em (fitsP p.off on dn) with f | f
      ·have HE : Hid (errIs p ol dn 0) := Lib.hid (.inr (.inr (.inr ⟨HNP.out, by rw [HN.out]; exact e, HG.out, by rw [HN.out]; exact f, rfl⟩)))
       rw [decide_eq_true f]
       clear f
       go_wp2
       go_ret
       exact ⟨0, rfl, HE.out, HB4.out⟩
      ·have HE : Hid (errIs p ol dn 5) := Lib.hid (.inr (.inr (.inl ⟨HNP.out, by rw [HN.out]; exact e, HG.out, by rw [HN.out]; exact f, rfl⟩)))
       rw [decide_eq_false f]
       clear f
       go_wp2
       go_ret
       exact ⟨5, rfl, HE.out, HB4.out⟩
   ·have HE : Hid (errIs p ol dn 1) := Lib.hid (.inl ⟨fun h => d h.2.2.2.2.2, rfl⟩)
    have d1 : (p.off % 8 != 0) = true := by simpa using d
    go_wp2
    go_ret
    exact ⟨1, rfl, HE.out, HBw.out⟩
open Go.RowKit
theorem or_join (a b : Nat) (j : Nat) (ha : a % 2 ^ j = 0) (hb : b < 2 ^ j) (ha' : a < 1099511627776) (hb' : b < 1099511627776) : bits .or .i64 (a : Int) (b : Int) = ((a + b : Nat) : Int) := by
 have hx : a ||| b < 2 ^ 40 := Nat.or_lt_two_pow (by omega) (by omega)
 have e : ∀ c : Nat, c < 1099511627776 → (BitVec.ofInt 64 (c : Int)).toNat = c := fun c hc => by
  rw [BitVec.ofInt_natCast, BitVec.toNat_ofNat]; exact Nat.mod_eq_of_lt (by omega)
 show IntKind.i64.wrap ((BitVec.ofInt 64 (a : Int) ||| BitVec.ofInt 64 (b : Int)).toNat : Int) = _
 rw [BitVec.toNat_or, e a ha', e b hb', IntWalk.i64_in _ (by omega), nat_join j a b ha hb]
def flP (p : PkV) : Int := (if p.whole then 16384 else 0) + (if p.more then 8192 else 0) + p.off / 8
theorem fl_or (p : PkV) (h0 : 0 ≤ p.off) (h1 : p.off ≤ 65528) : bits .or .i64 (bits .or .i64 (if p.whole = true then 16384 else 0) (if p.more = true then 8192 else 0)) (p.off / 8) = flP p := by
 unfold flP
 have e1 : bits .or .i64 (if p.whole = true then 16384 else 0) (if p.more = true then 8192 else 0) = (((if p.whole then 16384 else 0) + (if p.more then 8192 else 0) : Nat) : Int) := by
  cases p.whole <;> cases p.more <;> decide
 rw [e1, show p.off / 8 = ((p.off / 8).toNat : Int) from by omega, or_join _ _ 13 (by cases p.whole <;> cases p.more <;> decide) (by show _ < 8192; omega) (by cases p.whole <;> cases p.more <;> decide) (by omega)]
 push_cast
 cases p.whole <;> cases p.more <;> simp
theorem or64 (q : Nat) (h : q < 64) : bits .or .i64 64 (q : Int) = ((64 + q : Nat) : Int) := or_join 64 q 6 (by decide) (by show _ < 64; omega) (by decide) (by omega)
theorem bcell {B b o : Nat} {u : Value} {w w2 : World} (h : Below B w w2) (hb : b < B) (hc : w.cell? ⟨b, o, none⟩ = some u) : w2.cell? ⟨b, o, none⟩ = some u := (h.cell (p := ⟨b, o, none⟩) hb).trans hc
theorem len_of {w : World} {base g : Nat} {l : List Int} (h : WrAt w base g l) (hl : l.length ≤ 1000000) : l.length ≤ 1000000 := hl
def zArr (z : Nat) : Array Value := (by8 (List.replicate z 0)).toArray
theorem zmk (z : Nat) (h : z ≤ 3) (W : World) : (Instr.makeSlice 37 (.int .i64 (z : Int)) (.int .i64 (z : Int))).run Tryz.prog W = .ok (.slice (some ⟨W.heap.size, 0, none⟩) z z) (W.alloc (.cells (zArr z) 5)) := by
 rcases (by omega : z = 0 ∨ z = 1 ∨ z = 2 ∨ z = 3) with rfl | rfl | rfl | rfl <;> kernel_rfl
theorem off8 (x : Int) (h0 : 0 ≤ x) (h1 : x ≤ 65528) : IntKind.i64.wrap (x.tdiv 8) = x / 8 := by rw [Int.tdiv_eq_ediv_of_nonneg h0, IntWalk.i64_in _ (by omega)]
def hdrB (p : PkV) (ol : List Int) (dn : Nat) (sum : Int) : List Int :=
 be 1 (64 + hdN ol.length / 4 : Nat) ++ be 1 p.svc ++ be 2 (hdN ol.length + dn : Nat) ++ be 2 p.id ++ be 2 (flP p) ++ be 1 p.life ++ be 1 p.proto ++ be 2 sum ++ be 4 p.src ++ be 4 p.dst ++ ol ++ List.replicate (hdN ol.length - 20 - ol.length) 0
theorem flag_any (b : Bool) (k r : Int) (hr : (if b = true then k else 0) = r) (w : World) : Calls Tryz.prog 231 #[.bool b, .int .i64 k] w fun e w' => e = .returned (.int .i64 r) ∧ w = w' := by
 subst hr
 cases b
 ·go_enter Tryz.func231, Tryz.ntmps231
  go_wp2
  go_ret
  exact ⟨rfl, rfl⟩
 ·go_enter Tryz.func231, Tryz.ntmps231
  go_wp2
  go_ret
  exact ⟨rfl, rfl⟩
set_option maxHeartbeats 4000000 in
set_option maxRecDepth 100000 in
theorem hdr_any (p : PkV) (hp : p.Ok) (h0 : 0 ≤ p.off) (h1 : p.off ≤ 65528) (oA dA : Option Addr) (on oc dn dc B : Nat) (ol : List Int) (hn : ol.length = on) (hmo : on ≤ 40) (hmd : dn ≤ 65535) (w : World) (hr : RB w B oA ol) (hB : B ≤ w.heap.size)
  (gn gp : Nat) (hgn : Bk w gn 3 #[.int .i64 (hdN on)]) (hgp : Bk w gp 97 (pkC p (.slice oA on oc) (.slice dA dn dc))) (sum : Int) :
  Calls Tryz.prog 230 #[.int .i64 sum, .pointer (some ⟨gn, 0, none⟩), .pointer (some ⟨gp, 0, none⟩)] w fun e w' => ∃ A n c, e = .returned (.slice A n c) ∧ OB 5 w' w.heap.size A n c (hdrB p ol dn sum) ∧ Below w.heap.size w w' := by
 obtain ⟨s0, s1⟩ := hp.src
 obtain ⟨t0, t1⟩ := hp.dst
 have hh := hdN_le on
 have hl20 : 20 + on ≤ hdN on := by unfold hdN; omega
 have hq4 : (hdN on) % 4 = 0 := by unfold hdN; omega
 obtain ⟨h, hH⟩ : ∃ h, hdN on = h := ⟨_, rfl⟩
 rw [hH] at hgn hh hl20 hq4
 obtain ⟨z, hz⟩ : ∃ z, h = 20 + on + z := ⟨h - 20 - on, by omega⟩
 have hzle : z ≤ 3 := by omega
 have HOR : Hid (bits .or .i64 64 ((h : Int) / 4) = ((64 + h / 4 : Nat) : Int)) := Lib.hid (by have := or64 (h / 4) (by omega); rwa [show ((h / 4 : Nat) : Int) = (h : Int) / 4 by omega] at this)
 have HZZ := Lib.hid hz
 clear hz
 obtain ⟨g, hg⟩ : ∃ g, w.heap.size = g := ⟨_, rfl⟩
 obtain ⟨W1, hW1⟩ : ∃ W1, w.alloc (.cells #[.slice none 0 0] 290) = W1 := ⟨_, rfl⟩
 have hWr1 : WrAt W1 g g [] := by rw [← hW1, ← hg]; exact wr_new w
 have hB1 : Below g w W1 := by rw [← hW1, ← hg]; exact (Below.refl _ _).alloc (Nat.le_refl _) _
 have hn1 := hgn.below hB1 (by rw [← hg]; exact hgn.lt)
 have hp1 := hgp.below hB1 (by rw [← hg]; exact hgp.lt)
 have hgnl : gn < g := by rw [← hg]; exact hgn.lt
 have hgpl : gp < g := by rw [← hg]; exact hgp.lt
 have HR := Lib.hid (show RB W1 g oA ol from Rw.more (Rw.below hr (hB1.mono (by omega))) (by omega))
 have HN := Lib.hid hn
 have HW1 := Lib.hid hW1
 have HG := Lib.hid hg
 have HB1 := Lib.hid hB1
 have HH := Lib.hid hH
 obtain ⟨R1, hR1⟩ : ∃ r : Int, (if p.whole = true then 16384 else 0) = r := ⟨_, rfl⟩
 obtain ⟨R2, hR2⟩ : ∃ r : Int, (if p.more = true then 8192 else 0) = r := ⟨_, rfl⟩
 have hfl := fl_or p h0 h1
 rw [hR1, hR2] at hfl
 have HF := Lib.hid hfl
 have HR1 := Lib.hid hR1
 have HR2 := Lib.hid hR2
 clear hfl hR1 hR2
 have HZ := Lib.hid (Nat.le_of_eq hg)
 have hlen : W1.heap.size = g + 1 := by rw [← hW1, ← hg]; simp
 have hz1 : g ≤ W1.heap.size := by omega
 clear hn hW1 hg hH hr hgn hgp hB1 hlen
 have a0 : (w.alloc (.cells #[.slice none 0 0] 290)).cell? ⟨gn, 0, none⟩ = some (.int .i64 h) := by rw [HW1.out]; exact hn1.cell 0
 go_enter Tryz.func230, Tryz.ntmps230
 go_wp2_with fail
 rw [HW1.out, HG.out]
 refine (byte_any _ g g [] (by simp) _ hWr1 (by omega)).mono ?_
 rintro e W2 ⟨rfl, hWr2, hK2⟩
 have hB2 : Below g W1 W2 := hK2.below (by omega) hWr1.wf
 have hn2 := hn1.below hB2 hgnl
 have hp2 := hp1.below hB2 hgpl
 have hz2 := hB2.size
 clear a0
 have y := hp2.cell 0
 simp only [pkC, List.getElem?_toArray, List.getElem?_cons_zero, List.getElem?_cons_succ] at y
 go_wp2_with fail
 refine (byte_any p.svc g g _ (by simp [be_length]) _ hWr2 (by omega)).mono ?_
 rintro e W3 ⟨rfl, hWr3, hK3⟩
 have hB3 : Below g W2 W3 := hK3.below (by omega) hWr2.wf
 have hn3 := hn2.below hB3 hgnl
 have hp3 := hp2.below hB3 hgpl
 have hz3 := hB3.size
 clear y
 have a0 := hn3.cell 0
 simp only [pkC, List.getElem?_toArray, List.getElem?_cons_zero, List.getElem?_cons_succ] at a0
 have y := hp3.cell 10
 simp only [pkC, List.getElem?_toArray, List.getElem?_cons_zero, List.getElem?_cons_succ] at y
 go_wp2_with fail
 refine (two_any _ g g _ (by simp [be_length]) _ hWr3 (by omega)).mono ?_
 rintro e W4 ⟨rfl, hWr4, hK4⟩
 have hB4 : Below g W3 W4 := hK4.below (by omega) hWr3.wf
 have hn4 := hn3.below hB4 hgnl
 have hp4 := hp3.below hB4 hgpl
 have hz4 := hB4.size
 clear a0 y
 have y := hp4.cell 1
 simp only [pkC, List.getElem?_toArray, List.getElem?_cons_zero, List.getElem?_cons_succ] at y
 go_wp2_with fail
 refine (two_any p.id g g _ (by simp [be_length]) _ hWr4 (by omega)).mono ?_
 rintro e W5 ⟨rfl, hWr5, hK5⟩
 have hB5 : Below g W4 W5 := hK5.below (by omega) hWr4.wf
 have hn5 := hn4.below hB5 hgnl
 have hp5 := hp4.below hB5 hgpl
 have hz5 := hB5.size
 clear y
 have y2 := (hp5.drew).cell 2
 have y3 := (hp5.drew).cell 3
 have y4 := (hp5.drew).cell 4
 simp only [pkC, List.getElem?_toArray, List.getElem?_cons_zero, List.getElem?_cons_succ] at y2 y3 y4
 have hWr5d : WrAt W5.drew g g _ := hWr5
 have hz5d : g ≤ W5.drew.heap.size := by show g ≤ W5.heap.size; omega
 have HL5 := Lib.hid (len_of hWr5 (by simp [be_length]))
 go_wp2_with fail
 go_region_held3 (fun w' => w'.cell? ⟨gp, 2, none⟩ = some (.bool p.whole) ∧ w'.cell? ⟨gp, 3, none⟩ = some (.bool p.more) ∧ w'.cell? ⟨gp, 4, none⟩ = some (.int .i64 p.off))
  (first | (with_reducible exact ⟨by assumption, by assumption, by assumption⟩) | go_keep)
  (first
   | (go_at_call 231; with_reducible refine (flag_any p.whole 16384 R1 HR1.out _).mono ?_; rintro e w' ⟨rfl, rfl⟩)
   | (go_at_call 231; with_reducible refine (flag_any p.more 8192 R2 HR2.out _).mono ?_; rintro e w' ⟨rfl, rfl⟩)
   | (go_at_call 124; refine (two_any _ g g _ HL5.out _ hWr5d hz5d).mono ?_; rintro e W6 ⟨rfl, hWr6, hK6⟩; have x2 := bcell (hK6.below hz5d hWr5d.wf) hgpl y2; have x3 := bcell (hK6.below hz5d hWr5d.wf) hgpl y3; have x4 := bcell (hK6.below hz5d hWr5d.wf) hgpl y4))
 have hB6 : Below g W5.drew W6 := hK6.below hz5d hWr5d.wf
 have hn6 := (hn5.drew).below hB6 hgnl
 have hp6 := (hp5.drew).below hB6 hgpl
 have hz6 : W5.heap.size ≤ W6.heap.size := hB6.size
 clear y2 y3 y4 x2 x3 x4 hWr5d
 have y := hp6.cell 5
 simp only [pkC, List.getElem?_toArray, List.getElem?_cons_zero, List.getElem?_cons_succ] at y
 go_wp2_with fail
 refine (byte_any p.life g g _ (by simp [be_length]) _ hWr6 (by omega)).mono ?_
 rintro e W7 ⟨rfl, hWr7, hK7⟩
 have hB7 : Below g W6 W7 := hK7.below (by omega) hWr6.wf
 have hn7 := hn6.below hB7 hgnl
 have hp7 := hp6.below hB7 hgpl
 have hz7 := hB7.size
 clear y
 have y := hp7.cell 6
 simp only [pkC, List.getElem?_toArray, List.getElem?_cons_zero, List.getElem?_cons_succ] at y
 go_wp2_with fail
 refine (byte_any p.proto g g _ (by simp [be_length]) _ hWr7 (by omega)).mono ?_
 rintro e W8 ⟨rfl, hWr8, hK8⟩
 have hB8 : Below g W7 W8 := hK8.below (by omega) hWr7.wf
 have hn8 := hn7.below hB8 hgnl
 have hp8 := hp7.below hB8 hgpl
 have hz8 := hB8.size
 clear y
 go_wp2_with fail
 refine (two_any sum g g _ (by simp [be_length]) _ hWr8 (by omega)).mono ?_
 rintro e W9 ⟨rfl, hWr9, hK9⟩
 have hB9 : Below g W8 W9 := hK9.below (by omega) hWr8.wf
 have hn9 := hn8.below hB9 hgnl
 have hp9 := hp8.below hB9 hgpl
 have hz9 := hB9.size
 have y := hp9.cell 7
 simp only [pkC, List.getElem?_toArray, List.getElem?_cons_zero, List.getElem?_cons_succ] at y
 go_wp2_with fail
 refine (four_any p.src s0 s1 g g _ (by simp [be_length]) _ hWr9 (by omega)).mono ?_
 rintro e W10 ⟨rfl, hWr10, hK10⟩
 have hB10 : Below g W9 W10 := hK10.below (by omega) hWr9.wf
 have hn10 := hn9.below hB10 hgnl
 have hp10 := hp9.below hB10 hgpl
 have hz10 := hB10.size
 clear y
 have y := hp10.cell 8
 simp only [pkC, List.getElem?_toArray, List.getElem?_cons_zero, List.getElem?_cons_succ] at y
 go_wp2_with fail
 refine (four_any p.dst t0 t1 g g _ (by simp [be_length]) _ hWr10 (by omega)).mono ?_
 rintro e W11 ⟨rfl, hWr11, hK11⟩
 have hB11 : Below g W10 W11 := hK11.below (by omega) hWr10.wf
 have hn11 := hn10.below hB11 hgnl
 have hp11 := hp10.below hB11 hgpl
 have hz11 := hB11.size
 clear y
 have hB1w : Below g W1 W11 := (((((((((hB2.trans hB3).trans hB4).trans hB5).trans ((Below.drew (Below.refl _ _)).trans hB6)).trans hB7).trans hB8).trans hB9).trans hB10).trans hB11)
 have r11 : RB W11 g oA ol := Rw.below HR.out hB1w
 have y := hp11.cell 9
 simp only [pkC, List.getElem?_toArray, List.getElem?_cons_zero, List.getElem?_cons_succ] at y
 go_wp2_with fail
 refine (raw_any oA on oc g ol HN.out (by omega) g g _ (by simp [be_length]) _ r11 hWr11 (by omega)).mono ?_
 rintro e W12 ⟨rfl, hWr12, hK12⟩
 have hB12 : Below g W11 W12 := hK12.below (by omega) hWr11.wf
 have hn12 := hn11.below hB12 hgnl
 have hp12 := hp11.below hB12 hgpl
 have hz12 := hB12.size
 clear y
 have a0 := hn12.cell 0
 simp only [pkC, List.getElem?_toArray, List.getElem?_cons_zero, List.getElem?_cons_succ] at a0
 have y := hp12.cell 9
 simp only [pkC, List.getElem?_toArray, List.getElem?_cons_zero, List.getElem?_cons_succ] at y
 have hw1 : IntKind.i64.wrap ((h : Int) - 20 - on) = (z : Int) := by have := HZZ.out; rw [IntWalk.i64_in _ (by omega)]; omega
 have hmk := zmk z hzle W12
 obtain ⟨W13, hW13⟩ : ∃ W13, W12.alloc (.cells (zArr z) 5) = W13 := ⟨_, rfl⟩
 have hB13 : Below W12.heap.size W12 W13 := by rw [← hW13]; exact (Below.refl _ _).alloc (Nat.le_refl _) _
 have hWr13 := hWr12.below hB13
 have r13 : RB W13 (W12.heap.size + 1) (some ⟨W12.heap.size, 0, none⟩) (List.replicate z 0) := by rw [← hW13]; exact rw_lit W12 5 (by8 (List.replicate z 0))
 have hz13 := hB13.size
 have HW13 := Lib.hid hW13
 clear hW13
 go_wp2_with fail
 rw [HW13.out]
 refine (raw_any _ z z _ (List.replicate z 0) (by simp) (by omega) g g _ (by simp [be_length]; have := HN.out; omega) _ r13 hWr13 (by omega)).mono ?_
 rintro e W14 ⟨rfl, hWr14, hK14⟩
 have hB14 : Below g W13 W14 := hK14.below (by omega) hWr13.wf
 have hz14 := hB14.size
 go_wp2_with fail
 refine (bytes_any g g _ (by simp [be_length]; have := HN.out; omega) _ hWr14).mono ?_
 rintro e W15 ⟨A', n', c', rfl, hO, hB15⟩
 have hB2w : Below g w W15 := ((((((HB1.out.trans hB1w).trans hB12).trans (hB13.mono (by omega))).trans hB14)).trans (hB15.mono (by omega)))
 have HB := Lib.hid hB2w
 have hL : OB 5 W15 g A' n' c' (hdrB p ol dn sum) := by
  have hh : OB 5 W15 g A' n' c' _ := Ow.mono hO (base' := g) (by omega)
  rw [HOR.out, off8 p.off h0 h1, HF.out] at hh
  unfold hdrB
  rw [HN.out, HH.out, show h - 20 - on = z from by have := HZZ.out; omega]
  have e1 : ((h : Int) + dn) = ((h + dn : Nat) : Int) := by omega
  rw [e1] at hh
  simpa using hh
 have HL := Lib.hid hL
 clear hO hL a0 y
 go_wp2
 go_ret
 exact ⟨A', n', c', rfl, by rw [HG.out]; exact HL.out, by rw [HG.out]; exact HB.out⟩
end Go.Proofs.YtaeafkdfbcppgaaGreat
