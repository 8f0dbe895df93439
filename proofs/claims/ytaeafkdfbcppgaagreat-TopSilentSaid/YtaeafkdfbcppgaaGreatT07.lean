/- Proved: reading at a place of a row of bytes: what octet.Reader hands out while there is enough, and what the reference's Get2 and Get4 read; rows of spans: what they hold, what keeps them, one that is stored, one more; reading from a row of bytes that may end too early: whatever is read, and that the error. Conditions: as each law says. -/
import Derived.Deep.RegionWith
import Derived.IntWalk
import Derived.Test.YtaeafkdfbcppgaaGreatT04
import Derived.Test.YtaeafkdfbcppgaaGreatT05
import Derived.Test.YtaeafkdfbcppgaaGreatT06
set_option linter.unusedSectionVars false
set_option linter.unusedSimpArgs false
set_option linter.unusedVariables false
namespace Go.Proofs.YtaeafkdfbcppgaaGreat
open Go.RowKit
def at8 (l : List Int) (k : Nat) : Int := l[k]?.getD 0
def rd2 (l : List Int) (k : Nat) : Int := at8 l k * 256 + at8 l (k + 1)
def rd4 (l : List Int) (k : Nat) : Int := at8 l k * 16777216 + at8 l (k + 1) * 65536 + at8 l (k + 2) * 256 + at8 l (k + 3)
theorem at8_bd {l : List Int} (h : Bs l) (k : Nat) : 0 ≤ at8 l k ∧ at8 l k < 256 := h.at_ k
theorem rd2_bd {l : List Int} (h : Bs l) (k : Nat) : 0 ≤ rd2 l k ∧ rd2 l k ≤ 65535 := by have := at8_bd h k; have := at8_bd h (k + 1); unfold rd2; omega
theorem rd4_bd {l : List Int} (h : Bs l) (k : Nat) : 0 ≤ rd4 l k ∧ rd4 l k ≤ 4294967295 := by
 have := at8_bd h k; have := at8_bd h (k + 1); have := at8_bd h (k + 2); have := at8_bd h (k + 3); unfold rd4; omega
theorem drop_at8 (l : List Int) (k : Nat) (h : k < l.length) : l.drop k = at8 l k :: l.drop (k + 1) := by
 rw [List.drop_eq_getElem_cons h]; unfold at8; rw [List.getElem?_eq_getElem h]; rfl
theorem numBE_at1 (l : List Int) (k : Nat) (h : k + 1 ≤ l.length) : numBE ((l.drop k).take 1) = at8 l k := by
 rw [drop_at8 l k (by omega)]; simp [numBE]
theorem numBE_at2 (l : List Int) (k : Nat) (h : k + 2 ≤ l.length) : numBE ((l.drop k).take 2) = rd2 l k := by
 rw [drop_at8 l k (by omega), drop_at8 l (k + 1) (by omega)]; simp [numBE, rd2]
theorem numBE_at4 (l : List Int) (k : Nat) (h : k + 4 ≤ l.length) : numBE ((l.drop k).take 4) = rd4 l k := by
 rw [drop_at8 l k (by omega), drop_at8 l (k + 1) (by omega), drop_at8 l (k + 1 + 1) (by omega), drop_at8 l (k + 1 + 1 + 1) (by omega)]
 simp [numBE, rd4, Nat.add_assoc]; omega
theorem rdOut_at (l : List Int) (k m : Nat) (h : k + m ≤ l.length) : rdOut (l.drop k) 0 (m : Nat) = (l.drop k).take m := by
 unfold rdOut; rw [if_pos ⟨rfl, by omega, by rw [List.length_drop]; omega⟩]; simp
theorem rdRest_at (l : List Int) (k m : Nat) (h : k + m ≤ l.length) : rdRest (l.drop k) 0 (m : Nat) = l.drop (k + m) := by
 unfold rdRest; rw [if_pos ⟨rfl, by omega, by rw [List.length_drop]; omega⟩]; simp
theorem rdErr_at (l : List Int) (k m : Nat) (h : k + m ≤ l.length) : rdErr (l.drop k) 0 (m : Nat) = 0 := by
 unfold rdErr; rw [if_pos ⟨rfl, by omega, by rw [List.length_drop]; omega⟩]
theorem byte_at (base g : Nat) (l : List Int) (k : Nat) (h : k + 1 ≤ l.length) (w : World) (hr : Rd w base g (l.drop k) 0) (hbase : base ≤ w.heap.size) :
  Calls Tryz.prog 72 #[.pointer (some ⟨g, 0, none⟩)] w fun e w' => e = .returned (.int .i64 (at8 l k)) ∧ Rd w' base g (l.drop (k + 1)) 0 ∧ w.grownBy w' (some g) := by
 have := rbyte_any base g (l.drop k) 0 w hr hbase
 have e1 := rdOut_at l k 1 h
 have e2 := rdRest_at l k 1 h
 have e3 := rdErr_at l k 1 h
 rw [show ((1 : Nat) : Int) = 1 from rfl] at e1 e2 e3
 rwa [e1, e2, e3, numBE_at1 l k h] at this
theorem two_at (base g : Nat) (l : List Int) (k : Nat) (h : k + 2 ≤ l.length) (w : World) (hr : Rd w base g (l.drop k) 0) (hbase : base ≤ w.heap.size) :
  Calls Tryz.prog 65 #[.pointer (some ⟨g, 0, none⟩)] w fun e w' => e = .returned (.int .i64 (rd2 l k)) ∧ Rd w' base g (l.drop (k + 2)) 0 ∧ w.grownBy w' (some g) := by
 have := rtwo16_any base g (l.drop k) 0 w hr hbase
 have e1 := rdOut_at l k 2 h
 have e2 := rdRest_at l k 2 h
 have e3 := rdErr_at l k 2 h
 rw [show ((2 : Nat) : Int) = 2 from rfl] at e1 e2 e3
 rwa [e1, e2, e3, numBE_at2 l k h] at this
theorem four_at (base g : Nat) (l : List Int) (k : Nat) (h : k + 4 ≤ l.length) (w : World) (hr : Rd w base g (l.drop k) 0) (hbase : base ≤ w.heap.size) :
  Calls Tryz.prog 70 #[.pointer (some ⟨g, 0, none⟩)] w fun e w' => e = .returned (.int .u32 (rd4 l k)) ∧ Rd w' base g (l.drop (k + 4)) 0 ∧ w.grownBy w' (some g) := by
 have := rfour32_any base g (l.drop k) 0 w hr hbase
 have e1 := rdOut_at l k 4 h
 have e2 := rdRest_at l k 4 h
 have e3 := rdErr_at l k 4 h
 rw [show ((4 : Nat) : Int) = 4 from rfl] at e1 e2 e3
 rwa [e1, e2, e3, numBE_at4 l k h] at this
theorem raw_at (base g : Nat) (l : List Int) (k m : Nat) (h : k + m ≤ l.length) (hl : l.length ≤ 1000000) (w : World) (hr : Rd w base g (l.drop k) 0) (hbase : base ≤ w.heap.size) :
  Calls Tryz.prog 64 #[.pointer (some ⟨g, 0, none⟩), .int .i64 m] w fun e w' => ∃ A n c, e = .returned (.slice A n c) ∧ OB 5 w' w.heap.size A n c ((l.drop k).take m) ∧ Rd w' base g (l.drop (k + m)) 0 ∧ w.grownBy w' (some g) := by
 have := rraw_any base g (l.drop k) (by rw [List.length_drop]; omega) 0 m w hr hbase
 rwa [rdOut_at l k m h, rdRest_at l k m h, rdErr_at l k m h] at this
open Go.RowKit
def tmC (t : Int × Int) : List Value := [.int .i64 t.1, .int .i64 t.2]
def tmsC (S : List (Int × Int)) : List Value := S.flatMap tmC
def Tm (E : TypeId) (w : World) (base : Nat) (A : Option Addr) (n c : Nat) (S : List (Int × Int)) : Prop := w.ownsRow base E 2 (.slice A n c) n (tmsC S)
section
variable {E : TypeId} {w w' : World} {base : Nat} {A : Option Addr} {n c : Nat} {S : List (Int × Int)}
theorem Tm.lt (h : Tm E w base A n c S) : ∀ g, blk A = some g → base ≤ g ∧ g < w.heap.size := fun g hg => World.ownsRow.lt h g (by rw [ownBlock_slice]; exact hg)
theorem Tm.of_block (h : Tm E w base A n c S) (hb : ∀ g, blk A = some g → w'.heap[g]? = w.heap[g]?) : Tm E w' base A n c S := by
 refine ⟨h.1, ?_⟩
 rcases h.2 with h1 | ⟨g, cap, cur, h1, h2, h3, h4⟩
 ·exact .inl h1
 ·have a := (Value.slice.inj h1).1
  exact .inr ⟨g, cap, cur, h1, h2, (hb g (by rw [a]; rfl)).trans h3, h4⟩
theorem Tm.chg {F : Nat → Prop} (h : Tm E w base A n c S) (hc : Chg F w w') (hF : ∀ g, blk A = some g → ¬ F g) : Tm E w' base A n c S := h.of_block fun g hg => hc.block g (h.lt g hg).2 (hF g hg)
end
section
variable {ops : Array Oper} {rest : List Oper} {o : Oper} {a : Act} {w : World} {Q : Exit → Act → World → Prop}
end
open Go.RowKit
def RdS (L c : Nat) (rest : List Int) (er : Int) : Prop := (er = 0 ∧ c ≤ L ∧ rest.length + c = L) ∨ (er = 2 ∧ L < c ∧ rest = [])
theorem RdS.start (l : List Int) : RdS l.length 0 l 0 := .inl ⟨rfl, by omega, by omega⟩
theorem RdS.step {L c : Nat} {rest : List Int} {er : Int} (h : RdS L c rest er) (k : Nat) : RdS L (c + k) (rdRest rest er k) (rdErr rest er k) := by
 unfold rdRest rdErr
 rcases h with ⟨rfl, h1, h2⟩ | ⟨rfl, h1, _⟩
 ·by_cases hk : c + k ≤ L
  ·have hc : (0 : Int) = 0 ∧ (0 : Int) ≤ (k : Nat) ∧ ((k : Nat) : Int) ≤ rest.length := ⟨rfl, by omega, by omega⟩
   rw [if_pos hc, if_pos hc]
   exact .inl ⟨rfl, hk, by rw [List.length_drop]; simp; omega⟩
  ·have hc : ¬ ((0 : Int) = 0 ∧ (0 : Int) ≤ (k : Nat) ∧ ((k : Nat) : Int) ≤ rest.length) := fun h => by omega
   rw [if_neg hc, if_neg hc]
   exact .inr ⟨rfl, by omega, rfl⟩
 ·have hc : ¬ ((2 : Int) = 0 ∧ (0 : Int) ≤ (k : Nat) ∧ ((k : Nat) : Int) ≤ rest.length) := fun h => by omega
  rw [if_neg hc, if_neg hc]
  exact .inr ⟨rfl, by omega, rfl⟩
theorem RdS.over {L c : Nat} {rest : List Int} {er : Int} (h : RdS L c rest er) (hc : L < c) : er = 2 := by
 rcases h with ⟨_, h1, _⟩ | ⟨h1, _, _⟩
 ·omega
 ·exact h1
theorem numBE_bd2 : ∀ (l : List Int), Bs l → l.length ≤ 2 → 0 ≤ numBE l ∧ numBE l ≤ 65535
 | [], _, _ => by simp [numBE]
 | [a], h, _ => by have := h a (by simp); simp [numBE]; omega
 | [a, b], h, _ => by have := h a (by simp); have := h b (by simp); simp [numBE]; omega
 | _ :: _ :: _ :: _, _, h => by simp at h
theorem two_s (base g L c : Nat) (rest : List Int) (er : Int) (h : RdS L c rest er) (w : World) (hr : Rd w base g rest er) (hbase : base ≤ w.heap.size) :
  Calls Tryz.prog 65 #[.pointer (some ⟨g, 0, none⟩)] w fun e w' => ∃ (x : Int) (rest' : List Int) (er' : Int), e = .returned (.int .i64 x) ∧ 0 ≤ x ∧ x ≤ 65535 ∧ RdS L (c + 2) rest' er' ∧ Rd w' base g rest' er' ∧ w.grownBy w' (some g) :=
 (rtwo16_any base g rest er w hr hbase).mono fun e w' ⟨h1, h2, h3⟩ => by
  have hb := numBE_bd2 (rdOut rest er 2) (rdOut_bs hr.bs er 2) (Nat.le_trans (rdOut_len _ _ _) (by decide))
  exact ⟨_, _, _, h1, hb.1, hb.2, h.step 2, h2, h3⟩
theorem rdRest_le (l : List Int) (er k : Int) : (rdRest l er k).length ≤ l.length := by
 unfold rdRest; split
 ·rw [List.length_drop]; omega
 ·simp
open Go.RowKit
def sumOf (l : List Int) : Int := 65535 - partC l
theorem sumv_any (A : Option Addr) (n c B : Nat) (l : List Int) (s : Int) (hs : sumOf l = s) (hn : l.length = n) (hmax : n ≤ 140737488355328) (hb : Bs l) (w : World) (hr : RB w B A l) :
  Calls Tryz.prog 73 #[.slice A n c] w fun e w' => e = .returned (.int .i64 s) ∧ w = w' := by
 rw [← hs]; exact sum_any A n c B l hn hmax hb w hr
def ipB (p : PkV) (ol dl : List Int) : List Int := hdrB p ol dl.length (sumOf (hdrB p ol dl.length 0)) ++ dl
theorem hdrB_bs (p : PkV) (ol : List Int) (dn : Nat) (s : Int) (hb : Bs ol) : Bs (hdrB p ol dn s) := by
 unfold hdrB
 refine Bs.append (Bs.append (Bs.append (Bs.append (Bs.append (Bs.append (Bs.append (Bs.append (Bs.append (Bs.append (Bs.append ?_ ?_) ?_) ?_) ?_) ?_) ?_) ?_) ?_) ?_) hb) ?_
 all_goals first | exact be_bs _ _ | (intro x hx; have := List.eq_of_mem_replicate hx; omega)
theorem hdrB_len (p : PkV) (ol : List Int) (dn : Nat) (s : Int) : (hdrB p ol dn s).length = hdN ol.length := by
 unfold hdrB
 simp [be_length]
 unfold hdN
 omega
def EncPost (p : PkV) (ol dl : List Int) (w : World) (e : Ending) (w' : World) : Prop :=
 ∃ k A n c, e = .returned (.tuple #[.slice A n c, .int .i64 k]) ∧ errIs p ol dl.length k ∧ (k ≠ 0 → A = none ∧ n = 0 ∧ c = 0) ∧ (k = 0 → OB 5 w' w.heap.size A n c (ipB p ol dl)) ∧ Below w.heap.size w w'
set_option maxHeartbeats 4000000 in
set_option maxRecDepth 100000 in
theorem enc_any (p : PkV) (hp : p.Ok) (oA dA : Option Addr) (on oc dn dc B : Nat) (ol dl : List Int) (hn : ol.length = on) (hc : on ≤ oc) (hmo : on ≤ 140737488355328) (hb : Bs ol) (hdn : dl.length = dn) (hmd : dn ≤ 140737488355328) (w : World) (hr : RB w B oA ol) (hrd : RB w B dA dl) (hB : B ≤ w.heap.size) :
  Calls Tryz.prog 161 #[.agg (pkC p (.slice oA on oc) (.slice dA dn dc))] w (EncPost p ol dl w) := by
 obtain ⟨W, hW⟩ : ∃ W, w.alloc (.cells (pkC p (.slice oA on oc) (.slice dA dn dc)) 97) = W := ⟨_, rfl⟩
 have hm : Bk W w.heap.size 97 (pkC p (.slice oA on oc) (.slice dA dn dc)) := by rw [← hW]; exact Bk.new w _ _
 have hBW : Below w.heap.size w W := by rw [← hW]; exact (Below.refl _ _).alloc (Nat.le_refl _) _
 have hrW : RB W B oA ol := Rw.below hr (hBW.mono hB)
 have hrdW : RB W B dA dl := Rw.below hrd (hBW.mono hB)
 have HN := Lib.hid hn
 have HDN := Lib.hid hdn
 have HM := Lib.hid hm
 have HBW := Lib.hid hBW
 have HZ := Lib.hid hm.lt
 have HR := Lib.hid hrW
 have HRD := Lib.hid hrdW
 have HW : Hid (w.alloc (.cells #[.int .i64 p.svc, .int .i64 p.id, .bool p.whole, .bool p.more, .int .i64 p.off, .int .i64 p.life, .int .i64 p.proto, .int .u32 p.src, .int .u32 p.dst, .slice oA on oc, .slice dA dn dc] 97) = W) := Lib.hid hW
 have HWR := Lib.hid (wrong_any p hp oA dA on oc dn dc B ol hn hc hmo hb hmd W hrW (by have := hBW.size; omega))
 clear hn hdn hW hBW hm hr hrd hrW hrdW
 unfold pkC at HWR
 unfold pkC
 go_enter Tryz.func161, Tryz.ntmps161
 go_wp2_with fail
 rw [HW.out]
 refine HWR.out.mono ?_
 rintro e1 W1 ⟨k, rfl, hE, hB1⟩
 have HE := Lib.hid hE
 have HB1 := Lib.hid hB1
 have hz := HZ.out
 have hz1 := hB1.size
 clear hB1
 rcases hE with ⟨a, rfl⟩ | ⟨a, b, rfl⟩ | ⟨a, b, c, d, rfl⟩ | ⟨a, b, c, d, rfl⟩
 ·clear a
  go_wp2
  go_ret2
  exact ⟨1, none, 0, 0, rfl, by rw [HDN.out]; exact HE.out, fun _ => ⟨rfl, rfl, rfl⟩, fun h => absurd h (by decide), HBW.out.trans (HB1.out.mono (by omega))⟩
 ·clear a b
  go_wp2
  go_ret2
  exact ⟨3, none, 0, 0, rfl, by rw [HDN.out]; exact HE.out, fun _ => ⟨rfl, rfl, rfl⟩, fun h => absurd h (by decide), HBW.out.trans (HB1.out.mono (by omega))⟩
 ·clear a b c d
  go_wp2
  go_ret2
  exact ⟨5, none, 0, 0, rfl, by rw [HDN.out]; exact HE.out, fun _ => ⟨rfl, rfl, rfl⟩, fun h => absurd h (by decide), HBW.out.trans (HB1.out.mono (by omega))⟩
 ·obtain ⟨_, _, _, _, ⟨o0, o1⟩, _⟩ := a
  rw [HN.out] at b
  have d2 := d.1
  rw [HN.out] at d2
  have hdn : dn ≤ 65535 := by omega
  have hm1 := HM.out.below HB1.out HZ.out
  have z9 := hm1.cell 9
  simp only [pkC, List.getElem?_toArray, List.getElem?_cons_zero, List.getElem?_cons_succ] at z9
  clear c d d2
  go_wp2_with fail
  refine (size_any oA on oc hmo _).mono ?_
  rintro e2 w' ⟨rfl, rfl⟩
  have hh := hdN_le on
  obtain ⟨gn, hgn⟩ : ∃ gn, W1.heap.size = gn := ⟨_, rfl⟩
  obtain ⟨gp, hgp⟩ : ∃ gp, w.heap.size = gp := ⟨_, rfl⟩
  obtain ⟨W2, hW2⟩ : ∃ W2, W1.alloc (.cells #[.int .i64 (hdN on)] 3) = W2 := ⟨_, rfl⟩
  have hB2 : Below gn W1 W2 := by rw [← hW2, ← hgn]; exact (Below.refl _ _).alloc (Nat.le_refl _) _
  have hn2 : Bk W2 gn 3 #[.int .i64 (hdN on)] := by rw [← hW2, ← hgn]; exact Bk.new W1 _ _
  have hp2 : Bk W2 gp 97 (pkC p (.slice oA on oc) (.slice dA dn dc)) := by rw [← hgp]; exact hm1.below hB2 (by rw [← hgn]; exact hm1.lt)
  have hr2 : RB W2 B oA ol := Rw.below (Rw.below HR.out (HB1.out.mono (by omega))) (hB2.mono (by omega))
  have hrd2 : RB W2 B dA dl := Rw.below (Rw.below HRD.out (HB1.out.mono (by omega))) (hB2.mono (by omega))
  obtain ⟨s, hs⟩ : ∃ s, sumOf (hdrB p ol dn 0) = s := ⟨_, rfl⟩
  have hz2 := hB2.size
  have HS := Lib.hid hs
  have HC0 := Lib.hid (hdr_any p hp o0 o1 oA dA on oc dn dc B ol HN.out b hdn W2.drew (Rw.drew hr2) (by show B ≤ W2.heap.size; omega) gn gp hn2.drew hp2.drew 0)
  have hB1z : B ≤ W2.drew.heap.size := by show B ≤ W2.heap.size; omega
  have HC1 : Hid (∀ W3, Below W2.drew.heap.size W2.drew W3 → ∀ sm : Int, Calls Tryz.prog 230 #[.int .i64 sm, .pointer (some ⟨gn, 0, none⟩), .pointer (some ⟨gp, 0, none⟩)] W3 fun e w' => ∃ A n c, e = .returned (.slice A n c) ∧ OB 5 w' W3.heap.size A n c (hdrB p ol dn sm) ∧ Below W3.heap.size W3 w') := Lib.hid (fun W3 h3 sm =>
   hdr_any p hp o0 o1 oA dA on oc dn dc B ol HN.out b hdn W3 (Rw.below (Rw.drew hr2) (h3.mono hB1z)) (Nat.le_trans hB1z h3.size) gn gp (hn2.drew.below h3 hn2.lt) (hp2.drew.below h3 hp2.lt) sm)
  have HLN : Hid (∀ sm, (hdrB p ol dn sm).length = hdN on) := Lib.hid (fun sm => by rw [hdrB_len, HN.out])
  have HBH : Hid (∀ sm, Bs (hdrB p ol dn sm)) := Lib.hid (fun sm => hdrB_bs p ol dn sm hb)
  have z10 := (hp2.drew).cell 10
  simp only [pkC, List.getElem?_toArray, List.getElem?_cons_zero, List.getElem?_cons_succ] at z10
  have HW2 := Lib.hid hW2
  have HGN := Lib.hid hgn
  have HGP := Lib.hid hgp
  have hgpl : gp < W2.drew.heap.size := hp2.lt
  have HRD2 := Lib.hid (show RB W2.drew B dA dl from Rw.drew hrd2)
  have hmx : hdN on ≤ 140737488355328 := by omega
  have hmx2 : hdN on + dn ≤ 140737488355328 := by omega
  have HB2 := Lib.hid hB2
  clear hW2 hgn hgp hs hr2 hrd2 hn2 hp2 hm1 z9 hB2
  go_wp2_with fail
  rw [HW2.out, HGN.out, HGP.out]
  go_region_held3 (fun w' => w'.cell? ⟨gp, 10, none⟩ = some (.slice dA dn dc))
   (first | (with_reducible assumption) | go_keep)
   (first
    | (go_at_call 230; with_reducible refine HC0.out.mono ?_; rintro e W3 ⟨A3, n3, c3, rfl, hO3, hB3⟩; have y10 := bcell hB3 hgpl z10; obtain rfl : hdN on = n3 := (HLN.out 0).symm.trans (OB.length hO3))
    | (go_at_call 73; refine (sumv_any A3 (hdN on) c3 _ _ s HS.out (HLN.out 0) hmx (HBH.out 0) _ (OB.rb hO3)).mono ?_; rintro e w' ⟨rfl, rfl⟩)
    | (go_at_call 230; with_reducible refine (HC1.out _ hB3 s).mono ?_; rintro e W4 ⟨A4, n4, c4, rfl, hO4, hB4⟩; have x10 := bcell hB4 (Nat.lt_of_lt_of_le hgpl hB3.size) y10; obtain rfl : hdN on = n4 := (HLN.out s).symm.trans (OB.length hO4))
    | (refine st8 rfl (.tmp 20) (.tmp 22) rfl W3.heap.size rfl hO4 rfl (Rw.below (Rw.below HRD2.out (hB3.mono hB1z)) (hB4.mono (Nat.le_trans hB1z hB3.size))) HDN.out hmx2 hB4.size ?_; intro A5 c5 W5 hO5 hB5 hg5 hA5 hz5 hc5; have v10 := bcell hB5 (Nat.lt_of_lt_of_le hgpl hB3.size) x10))
  have HO5 : Hid (OB 5 W5 w.heap.size A5 (hdN on + dn) c5 (ipB p ol dl)) := Lib.hid (by
   unfold ipB
   rw [HDN.out, HS.out]
   exact Ow.mono hO5 (by have := hB3.size; have h2 : W2.heap.size ≤ W3.heap.size := this; omega))
  have HBF : Hid (Below w.heap.size w W5) := Lib.hid (by
   have h3 := hB3.size
   have h3' : W2.heap.size ≤ W3.heap.size := h3
   have q1 := HBW.out.trans (HB1.out.mono (by omega))
   have q2 := q1.trans (HB2.out.mono (by have := HGN.out; omega))
   have q3 : Below w.heap.size w W3 := q2.drew.trans (hB3.mono (by show w.heap.size ≤ W2.heap.size; omega))
   exact (q3.trans (hB4.mono (by omega))).trans (hB5.mono (by omega)))
  clear hO3 hO4 hO5 hB3 hB4 hB5 hg5 hA5 z10 y10 x10 v10
  go_wp2
  go_ret2
  exact ⟨0, A5, _, c5, rfl, by rw [HDN.out]; exact HE.out, fun h => absurd rfl h, fun _ => HO5.out, HBF.out⟩
open Go.RowKit
theorem oclone_any (A : Option Addr) (n c B : Nat) (l : List Int) (hn : l.length = n) (hmax : n ≤ 140737488355328) (w : World) (hr : RB w B A l) (hB : B ≤ w.heap.size) :
  Calls Tryz.prog 26 #[.slice A n c] w fun e w' => ∃ A' c', e = .returned (.slice A' n c') ∧ OB 5 w' w.heap.size A' n c' l ∧ Below w.heap.size w w' := by
 have HN := Lib.hid hn
 clear hn
 have qs : ∀ (w : World) (a : Option Addr) (n c n' c' : Nat), (binOp .eql 37 (.slice a n c) (.slice none n' c')).run Tryz.prog w = .ok (.bool a.isNone) w := fun w a n c n' c' => Lib.run_eql_slice_nil w _ _ a n c n' c' Tryz.underlying37
 rcases A with _ | a
 ·have hl : n = 0 := by
   rcases Nat.eq_zero_or_pos l.length with h0 | h0
   ·rw [← HN.out]; exact h0
   ·obtain ⟨_, _, h, _⟩ := hr (by rw [by8_length]; exact h0); cases h
  subst hl
  have hl0 := Lib.hid (List.eq_nil_of_length_eq_zero HN.out)
  go_enter Tryz.func26, Tryz.ntmps26
  go_wp2
  go_ret
  exact ⟨none, 0, rfl, by rw [hl0.out]; exact Ow.none_ _ _ _, Below.refl _ _⟩
 ·go_enter Tryz.func26, Tryz.ntmps26
  go_wp2_with (at_builtin; refine ap8_new rfl (.tmp 5) (.tmp 6) rfl rfl rfl hr hB HN.out (by omega) ?_; intro A1 c1 w1 hO1 hB1 hz1 hc1)
  go_ret
  exact ⟨A1, c1, rfl, hO1, hB1⟩
theorem OB.set1 {E : TypeId} {w : World} {base g o : Nat} {A : Option Addr} {n c : Nat} {l : List Int} (h : OB E w base A n c l) (hne : blk A ≠ some g) (u : Value) : OB E (w.setCell ⟨g, o, none⟩ u) base A n c l := Ow.setCell (p := ⟨g, o, none⟩) h hne u
def OwnAt (w : World) (base : Nat) (A1 : Option Addr) (n1 c1 : Nat) (ol : List Int) (A2 : Option Addr) (n2 c2 : Nat) (dl : List Int) : Prop :=
 OB 5 w base A1 n1 c1 ol ∧ OB 5 w base A2 n2 c2 dl ∧ (blk A1 = none ∨ blk A1 ≠ blk A2)
set_option maxHeartbeats 4000000 in
set_option maxRecDepth 100000 in
theorem own_any (p : PkV) (oA dA : Option Addr) (on oc dn dc B : Nat) (ol dl : List Int) (hn : ol.length = on) (hmo : on ≤ 140737488355328) (hdn : dl.length = dn) (hmd : dn ≤ 140737488355328) (w : World) (hr : RB w B oA ol) (hrd : RB w B dA dl) (hB : B ≤ w.heap.size) :
  Calls Tryz.prog 100 #[.agg (pkC p (.slice oA on oc) (.slice dA dn dc))] w fun e w' => ∃ A1 c1 A2 c2, e = .returned (.agg (pkC p (.slice A1 on c1) (.slice A2 dn c2))) ∧ OwnAt w' w.heap.size A1 on c1 ol A2 dn c2 dl ∧ Below w.heap.size w w' := by
 obtain ⟨gp, hgp⟩ : ∃ gp, w.heap.size = gp := ⟨_, rfl⟩
 obtain ⟨W0, hW0⟩ : ∃ W0, w.alloc (.cells (pkC p (.slice oA on oc) (.slice dA dn dc)) 97) = W0 := ⟨_, rfl⟩
 obtain ⟨W, hW⟩ : ∃ W, W0.alloc (.cells #[.int .i64 0, .int .i64 0, .bool false, .bool false, .int .i64 0, .int .i64 0, .int .i64 0, .int .u32 0, .int .u32 0, .slice none 0 0, .slice none 0 0] 97) = W := ⟨_, rfl⟩
 have hz0 : W0.heap.size = gp + 1 := by rw [← hW0, ← hgp]; simp
 have hz : W.heap.size = gp + 1 + 1 := by rw [← hW, World.size_alloc, hz0]
 have hm : Bk W gp 97 (pkC p (.slice oA on oc) (.slice dA dn dc)) := by rw [← hW]; refine Bk.alloc ?_ _; rw [← hW0, ← hgp]; exact Bk.new w _ _
 have hq : Bk W (gp + 1) 97 #[.int .i64 0, .int .i64 0, .bool false, .bool false, .int .i64 0, .int .i64 0, .int .i64 0, .int .u32 0, .int .u32 0, .slice none 0 0, .slice none 0 0] := by rw [← hW, ← hz0]; exact Bk.new W0 _ _
 have hBW : Below gp w W := by rw [← hW, ← hW0, ← hgp]; exact ((Below.refl _ _).alloc (Nat.le_refl _) _).alloc (by simp) _
 have HW : Hid ((w.alloc (.cells #[.int .i64 p.svc, .int .i64 p.id, .bool p.whole, .bool p.more, .int .i64 p.off, .int .i64 p.life, .int .i64 p.proto, .int .u32 p.src, .int .u32 p.dst, .slice oA on oc, .slice dA dn dc] 97)).alloc (.cells #[.int .i64 0, .int .i64 0, .bool false, .bool false, .int .i64 0, .int .i64 0, .int .i64 0, .int .u32 0, .int .u32 0, .slice none 0 0, .slice none 0 0] 97) = W) := Lib.hid (by rw [← hW, ← hW0]; rfl)
 have hr0 : RB W.drew B oA ol := Rw.drew (Rw.below hr (hBW.mono (by omega)))
 have hrd0 : RB W.drew B dA dl := Rw.drew (Rw.below hrd (hBW.mono (by omega)))
 have hBz : B ≤ W.drew.heap.size := by show B ≤ W.heap.size; omega
 have y9 := (hm.drew).cell 9
 have y10 := (hm.drew).cell 10
 simp only [pkC, List.getElem?_toArray, List.getElem?_cons_zero, List.getElem?_cons_succ] at y9 y10
 have HN := Lib.hid hn
 have HDN := Lib.hid hdn
 have HGP := Lib.hid hgp
 have HM := Lib.hid hm.drew
 have HQ := Lib.hid hq.drew
 have HBW := Lib.hid hBW
 have HZ := Lib.hid hz
 have hlt : gp < W.drew.heap.size := hm.lt
 have HR := Lib.hid hr0
 have HRD : Hid (∀ W3, Below W.drew.heap.size W.drew W3 → RB W3 B dA dl) := Lib.hid (fun W3 h3 => Rw.below hrd0 (h3.mono hBz))
 clear hW hW0 hz0 hz hm hq hBW hn hdn hgp hr hrd hr0 hrd0
 unfold pkC
 go_enter Tryz.func100, Tryz.ntmps100
 go_wp2
 rw [HW.out, HGP.out]
 go_region_with (first
  | (go_at_call 26; with_reducible refine (oclone_any oA on oc B ol HN.out hmo _ HR.out hBz).mono ?_; rintro e W3 ⟨A3, c3, rfl, hO3, hB3⟩; have x10 := bcell hB3 hlt y10)
  | (go_at_call 26; (with_reducible refine (oclone_any dA dn dc B dl HDN.out hmd _ (HRD.out _ hB3) (Nat.le_trans hBz hB3.size)).mono ?_; rintro e W4 ⟨A4, c4, rfl, hO4, hB4⟩; have hm4 := (HM.out.below hB3 hlt).below hB4 (Nat.lt_of_lt_of_le hlt hB3.size); have v9 := hm4.cell 9; have v10 := hm4.cell 10; have f9 := hm4.frozen 9; have f10 := hm4.frozen 10; simp only [pkC, List.getElem?_toArray, List.getElem?_cons_zero, List.getElem?_cons_succ] at v9 v10)))
 all_goals
  have hq4 := (HQ.out.below hB3 (show gp + 1 < W.heap.size by have := HZ.out; omega)).below hB4 (Nat.lt_of_lt_of_le (show gp + 1 < W.drew.heap.size by show gp + 1 < W.heap.size; have := HZ.out; omega) hB3.size)
  obtain ⟨W5, hW5⟩ : ∃ W5, (W4.setCell ⟨gp, 9, none⟩ (.slice A3 on c3)).setCell ⟨gp, 10, none⟩ (.slice A4 dn c4) = W5 := ⟨_, rfl⟩
  have hm5 : Bk W5 gp 97 (pkC p (.slice A3 on c3) (.slice A4 dn c4)) := by rw [← hW5]; exact (hm4.set 9 _).set 10 _
  have hq5 : Bk W5 (gp + 1) 97 #[.int .i64 0, .int .i64 0, .bool false, .bool false, .int .i64 0, .int .i64 0, .int .i64 0, .int .u32 0, .int .u32 0, .slice none 0 0, .slice none 0 0] := by
   rw [← hW5]; exact (hq4.far (p := ⟨gp, 9, none⟩) (show gp + 1 ≠ gp by omega) _).far (p := ⟨gp, 10, none⟩) (show gp + 1 ≠ gp by omega) _
  have hz3 : W.heap.size ≤ W3.heap.size := hB3.size
  have hz4 := hB4.size
  have hO3' : OB 5 W5 (gp + 2) A3 on c3 ol := by
   rw [← hW5]
   have h4 := Ow.stays hO3 hB4
   have hne : blk A3 ≠ some gp := fun e => by have h5 := (Ow.lt h4 gp e).1; have h6 : W.heap.size ≤ gp := h5; have := HZ.out; omega
   exact Ow.mono (Ow.setCell (p := ⟨gp, 10, none⟩) (Ow.setCell (p := ⟨gp, 9, none⟩) h4 hne _) hne _) (by show gp + 2 ≤ W.heap.size; have := HZ.out; omega)
  have hO4' : OB 5 W5 (gp + 2) A4 dn c4 dl := by
   rw [← hW5]
   have hne : blk A4 ≠ some gp := fun e => by have h5 := (Ow.lt hO4 gp e).1; have := HZ.out; omega
   exact Ow.mono (Ow.setCell (p := ⟨gp, 10, none⟩) (Ow.setCell (p := ⟨gp, 9, none⟩) hO4 hne _) hne _) (by have := HZ.out; omega)
  have hne : blk A3 = none ∨ blk A3 ≠ blk A4 := by
   cases h3 : blk A3 with
   | none => exact .inl rfl
   | some y => exact .inr fun e => by have h4 := (Ow.lt hO3 y h3).2; have h5 := (Ow.lt hO4 y e.symm).1; omega
  have HOW : Hid (OwnAt W5 (gp + 2) A3 on c3 ol A4 dn c4 dl) := Lib.hid ⟨hO3', hO4', hne⟩
  have HB5 : Hid (Below gp w W5) := Lib.hid (by
   rw [← hW5]
   have q : Below gp w W4 := (HBW.out.drew.trans (hB3.mono (by show gp ≤ W.heap.size; have := HZ.out; omega))).trans (hB4.mono (by have := HZ.out; omega))
   exact (q.setCell (p := ⟨gp, 9, none⟩) (Nat.le_refl _) _).setCell (p := ⟨gp, 10, none⟩) (Nat.le_refl _) _)
  have HW5 := Lib.hid hW5
  have a0 := hm5.cell 0
  have b0 := hq5.cell 0
  have f0 := hq5.frozen 0
  have a1 := hm5.cell 1
  have b1 := hq5.cell 1
  have f1 := hq5.frozen 1
  have a2 := hm5.cell 2
  have b2 := hq5.cell 2
  have f2 := hq5.frozen 2
  have a3 := hm5.cell 3
  have b3 := hq5.cell 3
  have f3 := hq5.frozen 3
  have a4 := hm5.cell 4
  have b4 := hq5.cell 4
  have f4 := hq5.frozen 4
  have a5 := hm5.cell 5
  have b5 := hq5.cell 5
  have f5 := hq5.frozen 5
  have a6 := hm5.cell 6
  have b6 := hq5.cell 6
  have f6 := hq5.frozen 6
  have a7 := hm5.cell 7
  have b7 := hq5.cell 7
  have f7 := hq5.frozen 7
  have a8 := hm5.cell 8
  have b8 := hq5.cell 8
  have f8 := hq5.frozen 8
  have a9 := hm5.cell 9
  have b9 := hq5.cell 9
  have f9 := hq5.frozen 9
  have a10 := hm5.cell 10
  have b10 := hq5.cell 10
  have f10 := hq5.frozen 10
  simp only [pkC, List.getElem?_toArray, List.getElem?_cons_zero, List.getElem?_cons_succ] at a0 b0 a1 b1 a2 b2 a3 b3 a4 b4 a5 b5 a6 b6 a7 b7 a8 b8 a9 b9 a10 b10
  rw [HW5.out]
  have hne1 : gp ≠ gp + 1 := by omega
  have hne2 : gp + 1 ≠ gp := by omega
  clear hW5 hm5 hq5 hq4 hm4 hO3 hO4 hO3' hO4' hne hB3 hB4 y9 y10 x10 v9 v10
  go_wp2
  refine bodyPost_ret (v := .agg #[.int .i64 p.svc, .int .i64 p.id, .bool p.whole, .bool p.more, .int .i64 p.off, .int .i64 p.life, .int .i64 p.proto, .int .u32 p.src, .int .u32 p.dst, .slice A3 on c3, .slice A4 dn c4]) (by simp [results, Tryz.results100, go_sem, *]) rfl ⟨A3, c3, A4, c4, rfl, ?_, ?_⟩
  ·rw [HGP.out]
   obtain ⟨q1, q2, q3⟩ := HOW.out
   have n1 : blk A3 ≠ some (gp + 1) := fun e => by have := (Ow.lt q1 _ e).1; omega
   have n2 : blk A4 ≠ some (gp + 1) := fun e => by have := (Ow.lt q2 _ e).1; omega
   refine ⟨?_, ?_, q3⟩
   ·iterate 11 refine OB.set1 ?_ n1 _
    exact Ow.mono q1 (by omega)
   ·iterate 11 refine OB.set1 ?_ n2 _
    exact Ow.mono q2 (by omega)
  ·rw [HGP.out]
   iterate 11 refine Below.set1 ?_ (Nat.le_succ _) _
   exact HB5.out
end Go.Proofs.YtaeafkdfbcppgaaGreat
