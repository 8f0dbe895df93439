/- Proved: the header that ipv4.Encode's closure writes. Conditions: the packet may be written. -/
import Derived.Test.YtcjkhonapafndaaIpX
import Derived.Test.YtcjkhonapafndaaWriter
import Derived.Deep.RegionHeld3
import Derived.Deep.RegionLaw
set_option linter.unusedVariables false
set_option linter.unusedSimpArgs false
namespace Go.Proofs.Ytcjkhonapafndaa
open Go.RowKit

theorem or_join (a b : Nat) (j : Nat) (ha : a % 2 ^ j = 0) (hb : b < 2 ^ j) (ha' : a < 1099511627776) (hb' : b < 1099511627776) : bits .or .i64 (a : Int) (b : Int) = ((a + b : Nat) : Int) := by
  have hx : a ||| b < 2 ^ 40 := Nat.or_lt_two_pow (by omega) (by omega)
  have e : ∀ c : Nat, c < 1099511627776 → (BitVec.ofInt 64 (c : Int)).toNat = c := fun c hc => by
    rw [BitVec.ofInt_natCast, BitVec.toNat_ofNat]; exact Nat.mod_eq_of_lt (by omega)
  show IntKind.i64.wrap ((BitVec.ofInt 64 (a : Int) ||| BitVec.ofInt 64 (b : Int)).toNat : Int) = _
  rw [BitVec.toNat_or, e a ha', e b hb', IntWalk.i64_in _ (by omega), nat_join j a b ha hb]
/-- The bits of a packet's sixth and seventh byte. -/
def flP (p : PkV) : Int := (if p.whole then 16384 else 0) + (if p.more then 8192 else 0) + p.off / 8
theorem fl_or (p : PkV) (h0 : 0 ≤ p.off) (h1 : p.off ≤ 65528) : bits .or .i64 (bits .or .i64 (if p.whole = true then 16384 else 0) (if p.more = true then 8192 else 0)) (p.off / 8) = flP p := by
  unfold flP
  have e1 : bits .or .i64 (if p.whole = true then 16384 else 0) (if p.more = true then 8192 else 0) = (((if p.whole then 16384 else 0) + (if p.more then 8192 else 0) : Nat) : Int) := by
    cases p.whole <;> cases p.more <;> decide
  rw [e1, show p.off / 8 = ((p.off / 8).toNat : Int) from by omega, or_join _ _ 13 (by cases p.whole <;> cases p.more <;> decide) (by show _ < 8192; omega) (by cases p.whole <;> cases p.more <;> decide) (by omega)]
  push_cast
  cases p.whole <;> cases p.more <;> simp
theorem or64 (q : Nat) (h : q < 64) : bits .or .i64 64 (q : Int) = ((64 + q : Nat) : Int) := or_join 64 q 6 (by decide) (by show _ < 64; omega) (by decide) (by omega)
theorem bcell {B b o : Nat} {u : Value} {w w2 : World} (h : Below B w w2) (hb : b < B) (hc : w.cell? ⟨b, o, none⟩ = some u) : w2.cell? ⟨b, o, none⟩ = some u := (h.cell (p := ⟨b, o, none⟩) hb).trans hc
theorem len_of {w : World} {base g : Nat} {l : List Int} (h : WrAt w base g l) (hl : l.length ≤ 1000000) : l.length ≤ 1000000 := hl
def zArr (z : Nat) : Array Value := (by8 (List.replicate z 0)).toArray
theorem zmk (z : Nat) (h : z ≤ 3) (W : World) : (Instr.makeSlice 24 (.int .i64 (z : Int)) (.int .i64 (z : Int))).run Try.prog W = .ok (.slice (some ⟨W.heap.size, 0, none⟩) z z) (W.alloc (.cells (zArr z) 5)) := by
  rcases (by omega : z = 0 ∨ z = 1 ∨ z = 2 ∨ z = 3) with rfl | rfl | rfl | rfl <;> kernel_rfl
theorem off8 (x : Int) (h0 : 0 ≤ x) (h1 : x ≤ 65528) : IntKind.i64.wrap (x.tdiv 8) = x / 8 := by rw [Int.tdiv_eq_ediv_of_nonneg h0, IntWalk.i64_in _ (by omega)]
/-- A packet's header with some sum. -/
def hdrB (p : PkV) (ol : List Int) (dn : Nat) (sum : Int) : List Int :=
  be 1 (64 + hdN ol.length / 4 : Nat) ++ be 1 p.svc ++ be 2 (hdN ol.length + dn : Nat) ++ be 2 p.id ++ be 2 (flP p) ++ be 1 p.life ++ be 1 p.proto ++ be 2 sum ++ be 4 p.src ++ be 4 p.dst ++ ol ++ List.replicate (hdN ol.length - 20 - ol.length) 0
theorem flag_any (b : Bool) (k r : Int) (hr : (if b = true then k else 0) = r) (w : World) : Calls Try.prog 39 #[.bool b, .int .i64 k] w fun e w' => e = .returned (.int .i64 r) ∧ w = w' := by
  subst hr
  cases b
  · go_enter Try.func39, Try.ntmps39
    go_wp2
    go_ret
    exact ⟨rfl, rfl⟩
  · go_enter Try.func39, Try.ntmps39
    go_wp2
    go_ret
    exact ⟨rfl, rfl⟩
set_option maxHeartbeats 4000000 in
set_option maxRecDepth 100000 in
theorem hdr_any (p : PkV) (hp : p.Ok) (h0 : 0 ≤ p.off) (h1 : p.off ≤ 65528) (oA dA : Option Addr) (on oc dn dc B : Nat) (ol : List Int) (hn : ol.length = on) (hmo : on ≤ 40) (hmd : dn ≤ 65535) (w : World) (hr : RB w B oA ol) (hB : B ≤ w.heap.size)
    (gn gp : Nat) (hgn : Bk w gn 3 #[.int .i64 (hdN on)]) (hgp : Bk w gp 26 (pkC p (.slice oA on oc) (.slice dA dn dc))) (sum : Int) :
    Calls Try.prog 36 #[.int .i64 sum, .pointer (some ⟨gn, 0, none⟩), .pointer (some ⟨gp, 0, none⟩)] w fun e w' => ∃ A n c, e = .returned (.slice A n c) ∧ OB 5 w' w.heap.size A n c (hdrB p ol dn sum) ∧ Below w.heap.size w w' := by
  obtain ⟨s0, s1⟩ := hp.src
  obtain ⟨t0, t1⟩ := hp.dst
  have hh := hdN_le on
  have hl20 : 20 + on ≤ hdN on := by unfold hdN; omega
  have hq4 : (hdN on) % 4 = 0 := by unfold hdN; omega
  obtain ⟨h, hH⟩ : ∃ h, hdN on = h := ⟨_, rfl⟩
  rw [hH] at hgn hh hl20 hq4
  obtain ⟨z, hz⟩ : ∃ z, h = 20 + on + z := ⟨h - 20 - on, by omega⟩
  have hzle : z ≤ 3 := by omega
  have HOR : Hid (bits .or .i64 64 ((h : Int) / 4) = ((64 + h / 4 : Nat) : Int)) := Lib.hid (by have := or64 (h / 4) (by omega); rwa [show ((h / 4 : Nat) : Int) = (h : Int) / 4 by omega] at this)
  have HZZ := Lib.hid hz
  clear hz
  obtain ⟨g, hg⟩ : ∃ g, w.heap.size = g := ⟨_, rfl⟩
  obtain ⟨W1, hW1⟩ : ∃ W1, w.alloc (.cells #[.slice none 0 0] 73) = W1 := ⟨_, rfl⟩
  have hWr1 : WrAt W1 g g [] := by rw [← hW1, ← hg]; exact wr_new w
  have hB1 : Below g w W1 := by rw [← hW1, ← hg]; exact (Below.refl _ _).alloc (Nat.le_refl _) _
  have hn1 := hgn.below hB1 (by rw [← hg]; exact hgn.lt)
  have hp1 := hgp.below hB1 (by rw [← hg]; exact hgp.lt)
  have hgnl : gn < g := by rw [← hg]; exact hgn.lt
  have hgpl : gp < g := by rw [← hg]; exact hgp.lt
  have HR := Lib.hid (show RB W1 g oA ol from Rw.more (Rw.below hr (hB1.mono (by omega))) (by omega))
  have HN := Lib.hid hn
  have HW1 := Lib.hid hW1
  have HG := Lib.hid hg
  have HB1 := Lib.hid hB1
  have HH := Lib.hid hH
  obtain ⟨R1, hR1⟩ : ∃ r : Int, (if p.whole = true then 16384 else 0) = r := ⟨_, rfl⟩
  obtain ⟨R2, hR2⟩ : ∃ r : Int, (if p.more = true then 8192 else 0) = r := ⟨_, rfl⟩
  have hfl := fl_or p h0 h1
  rw [hR1, hR2] at hfl
  have HF := Lib.hid hfl
  have HR1 := Lib.hid hR1
  have HR2 := Lib.hid hR2
  clear hfl hR1 hR2
  have HZ := Lib.hid (Nat.le_of_eq hg)
  have hlen : W1.heap.size = g + 1 := by rw [← hW1, ← hg]; simp
  have hz1 : g ≤ W1.heap.size := by omega
  clear hn hW1 hg hH hr hgn hgp hB1 hlen
  have a0 : (w.alloc (.cells #[.slice none 0 0] 73)).cell? ⟨gn, 0, none⟩ = some (.int .i64 h) := by rw [HW1.out]; exact hn1.cell 0
  go_enter Try.func36, Try.ntmps36
  go_wp2_with fail
  rw [HW1.out, HG.out]
  refine (byte_any _ g g [] (by simp) _ hWr1 (by omega)).mono ?_
  rintro e W2 ⟨rfl, hWr2, hK2⟩
  have hB2 : Below g W1 W2 := hK2.below (by omega) hWr1.wf
  have hn2 := hn1.below hB2 hgnl
  have hp2 := hp1.below hB2 hgpl
  have hz2 := hB2.size
  clear a0
  have y := hp2.cell 0
  simp only [pkC, List.getElem?_toArray, List.getElem?_cons_zero, List.getElem?_cons_succ] at y
  go_wp2_with fail
  refine (byte_any p.svc g g _ (by simp [be_length]) _ hWr2 (by omega)).mono ?_
  rintro e W3 ⟨rfl, hWr3, hK3⟩
  have hB3 : Below g W2 W3 := hK3.below (by omega) hWr2.wf
  have hn3 := hn2.below hB3 hgnl
  have hp3 := hp2.below hB3 hgpl
  have hz3 := hB3.size
  clear y
  have a0 := hn3.cell 0
  simp only [pkC, List.getElem?_toArray, List.getElem?_cons_zero, List.getElem?_cons_succ] at a0
  have y := hp3.cell 10
  simp only [pkC, List.getElem?_toArray, List.getElem?_cons_zero, List.getElem?_cons_succ] at y
  go_wp2_with fail
  refine (two_any _ g g _ (by simp [be_length]) _ hWr3 (by omega)).mono ?_
  rintro e W4 ⟨rfl, hWr4, hK4⟩
  have hB4 : Below g W3 W4 := hK4.below (by omega) hWr3.wf
  have hn4 := hn3.below hB4 hgnl
  have hp4 := hp3.below hB4 hgpl
  have hz4 := hB4.size
  clear a0 y
  have y := hp4.cell 1
  simp only [pkC, List.getElem?_toArray, List.getElem?_cons_zero, List.getElem?_cons_succ] at y
  go_wp2_with fail
  refine (two_any p.id g g _ (by simp [be_length]) _ hWr4 (by omega)).mono ?_
  rintro e W5 ⟨rfl, hWr5, hK5⟩
  have hB5 : Below g W4 W5 := hK5.below (by omega) hWr4.wf
  have hn5 := hn4.below hB5 hgnl
  have hp5 := hp4.below hB5 hgpl
  have hz5 := hB5.size
  clear y
  have y2 := (hp5.drew).cell 2
  have y3 := (hp5.drew).cell 3
  have y4 := (hp5.drew).cell 4
  simp only [pkC, List.getElem?_toArray, List.getElem?_cons_zero, List.getElem?_cons_succ] at y2 y3 y4
  have hWr5d : WrAt W5.drew g g _ := hWr5
  have hz5d : g ≤ W5.drew.heap.size := by show g ≤ W5.heap.size; omega
  have HL5 := Lib.hid (len_of hWr5 (by simp [be_length]))
  go_wp2_with fail
  go_region_held3 (fun w' => w'.cell? ⟨gp, 2, none⟩ = some (.bool p.whole) ∧ w'.cell? ⟨gp, 3, none⟩ = some (.bool p.more) ∧ w'.cell? ⟨gp, 4, none⟩ = some (.int .i64 p.off))
    (first | (with_reducible exact ⟨by assumption, by assumption, by assumption⟩) | go_keep)
    (first
      | (go_at_call 39; with_reducible refine (flag_any p.whole 16384 R1 HR1.out _).mono ?_; rintro e w' ⟨rfl, rfl⟩)
      | (go_at_call 39; with_reducible refine (flag_any p.more 8192 R2 HR2.out _).mono ?_; rintro e w' ⟨rfl, rfl⟩)
      | (go_at_call 38; refine (two_any _ g g _ HL5.out _ hWr5d hz5d).mono ?_; rintro e W6 ⟨rfl, hWr6, hK6⟩; have x2 := bcell (hK6.below hz5d hWr5d.wf) hgpl y2; have x3 := bcell (hK6.below hz5d hWr5d.wf) hgpl y3; have x4 := bcell (hK6.below hz5d hWr5d.wf) hgpl y4))
  have hB6 : Below g W5.drew W6 := hK6.below hz5d hWr5d.wf
  have hn6 := (hn5.drew).below hB6 hgnl
  have hp6 := (hp5.drew).below hB6 hgpl
  have hz6 : W5.heap.size ≤ W6.heap.size := hB6.size
  clear y2 y3 y4 x2 x3 x4 hWr5d
  have y := hp6.cell 5
  simp only [pkC, List.getElem?_toArray, List.getElem?_cons_zero, List.getElem?_cons_succ] at y
  go_wp2_with fail
  refine (byte_any p.life g g _ (by simp [be_length]) _ hWr6 (by omega)).mono ?_
  rintro e W7 ⟨rfl, hWr7, hK7⟩
  have hB7 : Below g W6 W7 := hK7.below (by omega) hWr6.wf
  have hn7 := hn6.below hB7 hgnl
  have hp7 := hp6.below hB7 hgpl
  have hz7 := hB7.size
  clear y
  have y := hp7.cell 6
  simp only [pkC, List.getElem?_toArray, List.getElem?_cons_zero, List.getElem?_cons_succ] at y
  go_wp2_with fail
  refine (byte_any p.proto g g _ (by simp [be_length]) _ hWr7 (by omega)).mono ?_
  rintro e W8 ⟨rfl, hWr8, hK8⟩
  have hB8 : Below g W7 W8 := hK8.below (by omega) hWr7.wf
  have hn8 := hn7.below hB8 hgnl
  have hp8 := hp7.below hB8 hgpl
  have hz8 := hB8.size
  clear y
  go_wp2_with fail
  refine (two_any sum g g _ (by simp [be_length]) _ hWr8 (by omega)).mono ?_
  rintro e W9 ⟨rfl, hWr9, hK9⟩
  have hB9 : Below g W8 W9 := hK9.below (by omega) hWr8.wf
  have hn9 := hn8.below hB9 hgnl
  have hp9 := hp8.below hB9 hgpl
  have hz9 := hB9.size
  have y := hp9.cell 7
  simp only [pkC, List.getElem?_toArray, List.getElem?_cons_zero, List.getElem?_cons_succ] at y
  go_wp2_with fail
  refine (four_any p.src s0 s1 g g _ (by simp [be_length]) _ hWr9 (by omega)).mono ?_
  rintro e W10 ⟨rfl, hWr10, hK10⟩
  have hB10 : Below g W9 W10 := hK10.below (by omega) hWr9.wf
  have hn10 := hn9.below hB10 hgnl
  have hp10 := hp9.below hB10 hgpl
  have hz10 := hB10.size
  clear y
  have y := hp10.cell 8
  simp only [pkC, List.getElem?_toArray, List.getElem?_cons_zero, List.getElem?_cons_succ] at y
  go_wp2_with fail
  refine (four_any p.dst t0 t1 g g _ (by simp [be_length]) _ hWr10 (by omega)).mono ?_
  rintro e W11 ⟨rfl, hWr11, hK11⟩
  have hB11 : Below g W10 W11 := hK11.below (by omega) hWr10.wf
  have hn11 := hn10.below hB11 hgnl
  have hp11 := hp10.below hB11 hgpl
  have hz11 := hB11.size
  clear y
  have hB1w : Below g W1 W11 := (((((((((hB2.trans hB3).trans hB4).trans hB5).trans ((Below.drew (Below.refl _ _)).trans hB6)).trans hB7).trans hB8).trans hB9).trans hB10).trans hB11)
  have r11 : RB W11 g oA ol := Rw.below HR.out hB1w
  have y := hp11.cell 9
  simp only [pkC, List.getElem?_toArray, List.getElem?_cons_zero, List.getElem?_cons_succ] at y
  go_wp2_with fail
  refine (raw_any oA on oc g ol HN.out (by omega) g g _ (by simp [be_length]) _ r11 hWr11 (by omega)).mono ?_
  rintro e W12 ⟨rfl, hWr12, hK12⟩
  have hB12 : Below g W11 W12 := hK12.below (by omega) hWr11.wf
  have hn12 := hn11.below hB12 hgnl
  have hp12 := hp11.below hB12 hgpl
  have hz12 := hB12.size
  clear y
  have a0 := hn12.cell 0
  simp only [pkC, List.getElem?_toArray, List.getElem?_cons_zero, List.getElem?_cons_succ] at a0
  have y := hp12.cell 9
  simp only [pkC, List.getElem?_toArray, List.getElem?_cons_zero, List.getElem?_cons_succ] at y
  have hw1 : IntKind.i64.wrap ((h : Int) - 20 - on) = (z : Int) := by have := HZZ.out; rw [IntWalk.i64_in _ (by omega)]; omega
  have hmk := zmk z hzle W12
  obtain ⟨W13, hW13⟩ : ∃ W13, W12.alloc (.cells (zArr z) 5) = W13 := ⟨_, rfl⟩
  have hB13 : Below W12.heap.size W12 W13 := by rw [← hW13]; exact (Below.refl _ _).alloc (Nat.le_refl _) _
  have hWr13 := hWr12.below hB13
  have r13 : RB W13 (W12.heap.size + 1) (some ⟨W12.heap.size, 0, none⟩) (List.replicate z 0) := by rw [← hW13]; exact rw_lit W12 5 (by8 (List.replicate z 0))
  have hz13 := hB13.size
  have HW13 := Lib.hid hW13
  clear hW13
  go_wp2_with fail
  rw [HW13.out]
  refine (raw_any _ z z _ (List.replicate z 0) (by simp) (by omega) g g _ (by simp [be_length]; have := HN.out; omega) _ r13 hWr13 (by omega)).mono ?_
  rintro e W14 ⟨rfl, hWr14, hK14⟩
  have hB14 : Below g W13 W14 := hK14.below (by omega) hWr13.wf
  have hz14 := hB14.size
  go_wp2_with fail
  refine (bytes_any g g _ (by simp [be_length]; have := HN.out; omega) _ hWr14).mono ?_
  rintro e W15 ⟨A', n', c', rfl, hO, hB15⟩
  have hB2w : Below g w W15 := ((((((HB1.out.trans hB1w).trans hB12).trans (hB13.mono (by omega))).trans hB14)).trans (hB15.mono (by omega)))
  have HB := Lib.hid hB2w
  have hL : OB 5 W15 g A' n' c' (hdrB p ol dn sum) := by
    have hh : OB 5 W15 g A' n' c' _ := Ow.mono hO (base' := g) (by omega)
    rw [HOR.out, off8 p.off h0 h1, HF.out] at hh
    unfold hdrB
    rw [HN.out, HH.out, show h - 20 - on = z from by have := HZZ.out; omega]
    have e1 : ((h : Int) + dn) = ((h + dn : Nat) : Int) := by omega
    rw [e1] at hh
    simpa using hh
  have HL := Lib.hid hL
  clear hO hL a0 y
  go_wp2
  go_ret
  exact ⟨A', n', c', rfl, by rw [HG.out]; exact HL.out, by rw [HG.out]; exact HB.out⟩
end Go.Proofs.Ytcjkhonapafndaa
