/- Proved: any options behind a right header are read by the document's rules. Conditions: none, for every input. -/
import Derived.Test.YtifeomdmbjinoaaRows
import Derived.WalkKit
import Derived.ProofKit
import Derived.OpenShut
import Derived.ShutString
import Derived.ChangeOld
import Derived.Below
import Derived.SizedLaws
import Derived.Test.YtifeomdmbjinoaaSegRD
import Derived.Test.YtifeomdmbjinoaaSegX
import Derived.Test.YtifeomdmbjinoaaSegF
import Derived.Test.YtifeomdmbjinoaaSegFix
import Derived.Test.YtifeomdmbjinoaaSegV
namespace Go.Proofs.Ytifeomdmbjinoaa.segmentOptions
open Go.ChangeShapes Go.WideShapes Go.ChangeAt Go.RowKit
open Go.ChangeMaps (open_string shut_string)
set_option linter.unusedVariables false

theorem own : ownKnob Try.prog.godebug = none := by kernel_rfl
theorem laidOut : laidOutB Try.prog = true := by kernel_rfl

/-! ### the walk -/
set_option maxRecDepth 100000 in
set_option maxHeartbeats 40000000 in
theorem walk (v0 : Value) (a1 : Option Addr) (len1 cap1 : Nat) (z1 : List Int) (w : World) (w0 : ViewSeg w v0) (w1 : IsRow .u8 w a1 len1 cap1 z1 ∧ cap1 ≤ 140737488351232) :
    Calls Try.prog 7 #[v0, .slice a1 len1 cap1] w fun e w' => e = .returned (.bool true) ∧ Below w.heap.size w w' := by
  obtain ⟨s, A, n, cap, l, rfl, hwf, hd, hb, hn, hcap, hmax⟩ := w0
  obtain ⟨hI, hcap1⟩ := w1
  obtain ⟨lo, hro, hbo, hno, hco⟩ := hI.rb
  have HN := Lib.hid hn
  have HNO := Lib.hid hno
  have HWF0 := Lib.hid hwf
  clear hn hno hI hwf
  rcases (by omega : 2000 < n ∨ n ≤ 2000) with hd0' | hd0'
  · go_enter Try.func7, Try.ntmps7
    go_wp2_with fail
    go_ret
    exact ⟨rfl, (Below.refl _ _).alloc (Nat.le_refl _) _⟩
  rcases (by omega : 40 < len1 ∨ len1 ≤ 40) with hd1' | hd1'
  · go_enter Try.func7, Try.ntmps7
    go_wp2_with fail
    go_ret
    exact ⟨rfl, (Below.refl _ _).alloc (Nat.le_refl _) _⟩
  obtain ⟨W, hW⟩ : ∃ W, w.alloc (.cells #[.int .u32 (⟨s.fr, s.fp, s.to, s.tp, s.seq, s.ack, s.fl, s.win, 0, -1⟩ : Sg).fr, .int .i64 (⟨s.fr, s.fp, s.to, s.tp, s.seq, s.ack, s.fl, s.win, 0, -1⟩ : Sg).fp, .int .u32 (⟨s.fr, s.fp, s.to, s.tp, s.seq, s.ack, s.fl, s.win, 0, -1⟩ : Sg).to, .int .i64 (⟨s.fr, s.fp, s.to, s.tp, s.seq, s.ack, s.fl, s.win, 0, -1⟩ : Sg).tp, .int .u32 (⟨s.fr, s.fp, s.to, s.tp, s.seq, s.ack, s.fl, s.win, 0, -1⟩ : Sg).seq, .int .u32 (⟨s.fr, s.fp, s.to, s.tp, s.seq, s.ack, s.fl, s.win, 0, -1⟩ : Sg).ack, .int .i64 (⟨s.fr, s.fp, s.to, s.tp, s.seq, s.ack, s.fl, s.win, 0, -1⟩ : Sg).fl, .int .i64 (⟨s.fr, s.fp, s.to, s.tp, s.seq, s.ack, s.fl, s.win, 0, -1⟩ : Sg).win, .int .i64 (⟨s.fr, s.fp, s.to, s.tp, s.seq, s.ack, s.fl, s.win, 0, -1⟩ : Sg).mss, .int .i64 (⟨s.fr, s.fp, s.to, s.tp, s.seq, s.ack, s.fl, s.win, 0, -1⟩ : Sg).sc, .slice A n cap] 26) = W := ⟨_, rfl⟩
  have hm : Bk W w.heap.size 26 #[.int .u32 (⟨s.fr, s.fp, s.to, s.tp, s.seq, s.ack, s.fl, s.win, 0, -1⟩ : Sg).fr, .int .i64 (⟨s.fr, s.fp, s.to, s.tp, s.seq, s.ack, s.fl, s.win, 0, -1⟩ : Sg).fp, .int .u32 (⟨s.fr, s.fp, s.to, s.tp, s.seq, s.ack, s.fl, s.win, 0, -1⟩ : Sg).to, .int .i64 (⟨s.fr, s.fp, s.to, s.tp, s.seq, s.ack, s.fl, s.win, 0, -1⟩ : Sg).tp, .int .u32 (⟨s.fr, s.fp, s.to, s.tp, s.seq, s.ack, s.fl, s.win, 0, -1⟩ : Sg).seq, .int .u32 (⟨s.fr, s.fp, s.to, s.tp, s.seq, s.ack, s.fl, s.win, 0, -1⟩ : Sg).ack, .int .i64 (⟨s.fr, s.fp, s.to, s.tp, s.seq, s.ack, s.fl, s.win, 0, -1⟩ : Sg).fl, .int .i64 (⟨s.fr, s.fp, s.to, s.tp, s.seq, s.ack, s.fl, s.win, 0, -1⟩ : Sg).win, .int .i64 (⟨s.fr, s.fp, s.to, s.tp, s.seq, s.ack, s.fl, s.win, 0, -1⟩ : Sg).mss, .int .i64 (⟨s.fr, s.fp, s.to, s.tp, s.seq, s.ack, s.fl, s.win, 0, -1⟩ : Sg).sc, .slice A n cap] := by rw [← hW]; exact Bk.new w _ _
  have hB : Below w.heap.size w W := by rw [← hW]; exact (Below.refl _ _).alloc (Nat.le_refl _) _
  have hz : W.heap.size = w.heap.size + 1 := by rw [← hW]; simp
  have hd0 : RB W W.heap.size A l := Rw.more (Rw.below hd hB) hB.size
  have ho0 : RB W w.heap.size a1 lo := Rw.below hro hB
  have k0 := hm.cell 0
  have k1 := hm.cell 1
  have k2 := hm.cell 2
  have k3 := hm.cell 3
  have k4 := hm.cell 4
  have k5 := hm.cell 5
  have k6 := hm.cell 6
  have k7 := hm.cell 7
  have k8 := hm.cell 8
  have k9 := hm.cell 9
  have k10 := hm.cell 10
  simp only [List.getElem?_toArray, List.getElem?_cons_zero, List.getElem?_cons_succ] at k0 k1 k2 k3 k4 k5 k6 k7 k8 k9 k10
  have HW := Lib.hid hW
  have HZ := Lib.hid hz
  have HWF : Hid (Sg.wf (⟨s.fr, s.fp, s.to, s.tp, s.seq, s.ack, s.fl, s.win, 0, -1⟩ : Sg)) := Lib.hid (by obtain ⟨q1, q2, q3, q4, q5, q6, q7, q8, q9, q10⟩ := HWF0.out; exact ⟨q1, q2, q3, q4, q5, q6, q7, q8, show I64 0 by unfold I64; omega, show I64 (-1) by unfold I64; omega⟩)
  clear hW hz
  have hbnd : w.heap.size < W.heap.size := by have := HZ.out; omega
  obtain ⟨er, her⟩ : ∃ er, segErr (⟨s.fr, s.fp, s.to, s.tp, s.seq, s.ack, s.fl, s.win, 0, -1⟩ : Sg) n = er := ⟨_, rfl⟩
  have HG : Hid (segErr (⟨s.fr, s.fp, s.to, s.tp, s.seq, s.ack, s.fl, s.win, 0, -1⟩ : Sg) n = 0 → ((⟨s.fr, s.fp, s.to, s.tp, s.seq, s.ack, s.fl, s.win, 0, -1⟩ : Sg)).good ∧ 20 + (optB 0 (-1)).length + n ≤ 65515) := Lib.hid segErr_zero
  have HER := Lib.hid her
  have hfr : U32 s.fr := HWF.out.1
  have hto : U32 s.to := HWF.out.2.2.1
  clear her
  go_enter Try.func7, Try.ntmps7
  go_wp2_with fail
  rw [HW.out]
  refine (encode_any (⟨s.fr, s.fp, s.to, s.tp, s.seq, s.ack, s.fl, s.win, 0, -1⟩ : Sg) HWF.out A n cap l HN.out (by omega) hb _ hd0).mono ?_
  rintro e w4 ⟨A4, n4, c4, rfl, hO4, hB4⟩
  rw [HER.out]
  have hz4 := hB4.size
  have hBw4 : Below w.heap.size w w4 := hB.trans (hB4.mono (by omega))
  have HBW4 := Lib.hid hBw4
  have hm4 := hm.below hB4 hbnd
  have ho4 : RB w4 w.heap.size a1 lo := Rw.below ho0 (hB4.mono (by omega))
  clear k0 k1 k2 k3 k4 k5 k6 k7 k8 k9 k10 hBw4 ho0 hd0
  by_cases h0 : er = 0
  case neg =>
    have h1 : (er != 0) = true := by simpa using h0
    go_wp2_with fail
    refine (known_any _).mono ?_
    rintro e w6 ⟨rfl, hB6⟩
    go_wp2
    go_ret
    exact ⟨rfl, HBW4.out.trans (hB6.mono HBW4.out.size)⟩
  case pos =>
  have hz0 := HG.out (by rw [HER.out]; exact h0)
  subst h0
  obtain ⟨hg, hlen⟩ := hz0
  have hopt0 : (optB 0 (-1)).length = 0 := by decide
  have hal : segOut (⟨s.fr, s.fp, s.to, s.tp, s.seq, s.ack, s.fl, s.win, 0, -1⟩ : Sg) l = segAll (⟨s.fr, s.fp, s.to, s.tp, s.seq, s.ack, s.fl, s.win, 0, -1⟩ : Sg) l := by unfold segOut; rw [HN.out, HER.out, if_pos rfl]
  rw [hal] at hO4
  have HBS : Hid (Bs (segAll (⟨s.fr, s.fp, s.to, s.tp, s.seq, s.ack, s.fl, s.win, 0, -1⟩ : Sg) l)) := Lib.hid (segAll_bs hb)
  have hn4 : n4 = 20 + n := by rw [← hO4.length, segAll_len, HN.out]; show 20 + (optB 0 (-1)).length + n = _; rw [hopt0]
  obtain ⟨lb, hlb⟩ : ∃ lb, segAll (⟨s.fr, s.fp, s.to, s.tp, s.seq, s.ack, s.fl, s.win, 0, -1⟩ : Sg) l = lb := ⟨_, rfl⟩
  rw [hlb] at hO4 HBS
  have HLB := Lib.hid hO4.length
  have hn20 : ¬ (n4 : Int) < 20 := by omega
  have hn4b : n4 ≤ 2020 := by omega
  obtain ⟨g4, hg4⟩ : ∃ g4, A4 = some ⟨g4, 0, none⟩ := by obtain ⟨g, e, _⟩ := hO4.lit_at (k := 0) (by omega); exact ⟨g, e⟩
  have HG4 := Lib.hid hg4
  clear hal hn4 hlen hopt0 hg hlb hg4
  go_wp2_with fail
  go_loopw [1] (fun v1 wr => ∃ (A1 : Option Addr) (n1 c1 : Nat) (l1 : List Int), v1 = .slice A1 n1 c1 ∧ RB wr wr.heap.size A1 l1 ∧ l1.length = n1 ∧ Bs l1 ∧ n1 ≤ c1 ∧ n1 ≤ 40 ∧ Below w4.heap.size w4 wr) (fun v1 _ => 41 - slen v1)
  case atStart => exact ⟨a1, len1, cap1, lo, rfl, Rw.more ho4 (by have := HBW4.out.size; omega), HNO.out, hbo, hco, hd1', Below.refl _ _⟩
  case round =>
    obtain ⟨A1, n1, c1, l1, rfl, hr1, hn1, hb1, hc1, hn40, hBr⟩ := hrel
    have HN1 := Lib.hid hn1
    have HB1 := Lib.hid hb1
    have HBR := Lib.hid hBr
    clear hn1 hb1 hBr
    obtain ⟨wo, rfl⟩ : ∃ wo : World, wo = wr := ⟨_, rfl⟩
    by_cases h4 : n1 % 4 = 0
    case neg =>
      have t4 : ((n1 : Int) % 4 != 0) = true := by simp; omega
      go_wp2_with (first
        | (at_builtin; refine ap8_new rfl (.tmp 38) (.tmp 39) rfl rfl rfl hr1 (Nat.le_refl _) HN1.out (by omega) ?_; intro A5 c5 w5 hO5 hB5 hz5 hc5)
        | (at_builtin; refine ap8_lit rfl (.tmp 40) (.tmp 41) rfl wo.heap.size rfl hO5 [0] rfl rfl rfl (by omega) (by omega) ?_; intro A6 c6 w6 hO6 hB6 hg6 hA6 hz6 hc6))
      go_roundw
      case rel => exact ⟨A6, n1 + 1, c6, l1 ++ [0], rfl, hO6.rb, by rw [List.length_append, HN1.out]; rfl, HB1.out.append (by intro x hx; simp at hx; omega), hc6, by omega, (HBR.out.trans (hB5.mono HBR.out.size)).trans (hB6.mono HBR.out.size)⟩
      case measure => simp [slen]; omega
    case pos =>
      have t4 : ((n1 : Int) % 4 != 0) = false := by simp; omega
      have hm5 := hm4.below HBR.out (by have := hB4.size; omega)
      have hO5 : OB 5 wo W.heap.size A4 n4 c4 lb := Ow.stays hO4 HBR.out
      have hBW5 := HBW4.out.trans (HBR.out.mono HBW4.out.size)
      obtain rfl := HG4.out
      have hc4 := Ow.cap hO5
      have r20 : RB wo wo.heap.size (some ⟨g4, 0, none⟩) (lb.take 20) := hO5.rb.take 20
      obtain ⟨A', hA'⟩ : ∃ A', (if c4 = 20 then some (⟨g4, 0, none⟩ : Addr) else some ⟨g4, 20, none⟩) = A' := ⟨_, rfl⟩
      have r20b : RB wo wo.heap.size A' (lb.drop 20) := by
        have h5 := hO5.rb.cut c4 20 (by rw [HLB.out]; exact hc4)
        rw [Option.map_some, add_eq, Nat.zero_add] at h5
        rw [← hA']; exact h5
      have HT := Lib.hid (show (lb.take 20).length = 20 by rw [List.length_take, HLB.out]; omega)
      have HD := Lib.hid (show (lb.drop 20).length = n4 - 20 by rw [List.length_drop, HLB.out])
      have R20 := Lib.hid r20
      have R20B := Lib.hid r20b
      have HR1 := Lib.hid hr1
      have HBW5 := Lib.hid hBW5
      have HM5 := Lib.hid hm5
      have i20 : (20 : Int) ≤ n4 := by omega
      have hO0 : OB 5 (wo.alloc (.cells #[] 5)).drew wo.heap.size (some ⟨wo.heap.size, 0, none⟩) 0 0 [] := ob_empty wo wo.heap.size (Nat.le_refl _)
      have i20c : (20 : Int) ≤ c4 := by omega
      have q1 : RB (wo.alloc (.cells #[] 5)).drew wo.heap.size (some ⟨g4, 0, none⟩) (lb.take 20) := Rw.alloc (w := wo) R20.out (Nat.le_refl _) _
      have q2 : RB (wo.alloc (.cells #[] 5)).drew wo.heap.size A1 l1 := Rw.alloc (w := wo) HR1.out (Nat.le_refl _) _
      have q3 : RB (wo.alloc (.cells #[] 5)).drew wo.heap.size A' (lb.drop 20) := Rw.alloc (w := wo) R20B.out (Nat.le_refl _) _
      have HBA : Hid (Below w.heap.size w (wo.alloc (.cells #[] 5)).drew) := Lib.hid (bel_drewN (HBW5.out.alloc HBW5.out.size _) 1)
      clear hm4 hO4 ho4 hB4 r20 r20b hr1 hBW5 hm5 hO5
      go_wp2_with fail
      go_region_law (first
        | (refine st8 (l := []) (l2 := List.take 20 lb) (B := wo.heap.size) rfl (.tmp 43) (.tmp 45) rfl wo.heap.size rfl hO0 rfl q1 HT.out (by omega) (by simp) ?_; intro A6 c6 w6 hO6 hB6 hg6 hA6 hz6 hc6; have p2 := Rw.below q2 hB6; have p3 := Rw.below q3 hB6; have HBB := Lib.hid (HBA.out.trans (hB6.mono HBW5.out.size)); have hz6' : wo.heap.size ≤ w6.heap.size := by simp at hz6; omega)
        | (refine st8 (l2 := l1) (B := wo.heap.size) rfl (.tmp 46) (.tmp 47) rfl wo.heap.size rfl hO6 rfl p2 HN1.out (by omega) hz6' ?_; intro A7 c7 w7 hO7 hB7 hg7 hA7 hz7 hc7; have r3 := Rw.below p3 hB7; have HBC := Lib.hid (HBB.out.trans (hB7.mono HBW5.out.size)); have hz7' : wo.heap.size ≤ w7.heap.size := by omega)
        | (refine st8 (l2 := List.drop 20 lb) (B := wo.heap.size) rfl (.tmp 48) (.tmp 50) rfl wo.heap.size rfl hO7 rfl r3 HD.out (by omega) hz7' ?_; intro A8 c8 w8 hO8 hB8 hg8 hA8 hz8 hc8; have HBD := Lib.hid (HBC.out.trans (hB8.mono HBW5.out.size)); have hz8' : wo.heap.size ≤ w8.heap.size := by omega))
      have hlt0 : w.heap.size < wo.heap.size := by have := HBR.out.size; have := HBW4.out.size; omega
      have hm8 := (((HM5.out.alloc (.cells #[] 5)).drew.below hB6 hlt0).below hB7 hlt0).below hB8 hlt0
      obtain ⟨nx, hnx⟩ : ∃ nx, 20 + n1 + (n4 - 20) = nx := ⟨_, rfl⟩
      obtain ⟨lx, hlx⟩ : ∃ lx, [] ++ List.take 20 lb ++ l1 ++ List.drop 20 lb = lx := ⟨_, rfl⟩
      rw [hlx] at hO8
      rw [hnx] at hO8
      rw [hnx]
      have hbx : Bs lx := by rw [← hlx]; exact ((Bs.nil.append (HBS.out.take 20)).append HB1.out).append (HBS.out.drop 20)
      have hx20 : 20 ≤ nx := by omega
      have hx2100 : nx ≤ 2100 := by omega
      obtain ⟨gx, rfl, hgx, x12, f12⟩ := hO8.lit_at (k := 12) (by omega)
      have i12 : (12 : Int) < nx := by omega
      have i16 : (16 : Int) < nx := by omega
      have i17 : (17 : Int) < nx := by omega
      obtain ⟨v, hv⟩ : ∃ v : Int, ((20 : Int) + n1) / 4 * 16 = v := ⟨_, rfl⟩
      have hv0 : 0 ≤ v ∧ v < 256 := by omega
      have hO9 := hO8.store (k := 12) (by omega) v
      obtain ⟨g', eg, _, x16, f16⟩ := hO9.lit_at (k := 16) (by omega)
      injection eg with eg; injection eg with eg; subst eg
      have hO10 := hO9.store (k := 16) (by omega) 0
      obtain ⟨g', eg, _, x17, f17⟩ := hO10.lit_at (k := 17) (by omega)
      injection eg with eg; injection eg with eg; subst eg
      have hO11 := hO10.store (k := 17) (by omega) 0
      have HBE := Lib.hid (((HBD.out.setCell (p := ⟨gx, 12, none⟩) (show w.heap.size ≤ gx by omega) (.int .u8 v)).setCell (p := ⟨gx, 16, none⟩) (show w.heap.size ≤ gx by omega) (.int .u8 0)).setCell (p := ⟨gx, 17, none⟩) (show w.heap.size ≤ gx by omega) (.int .u8 0))
      have hm11 := ((hm8.far (p := ⟨gx, 12, none⟩) (show w.heap.size ≠ gx by omega) (.int .u8 v)).far (p := ⟨gx, 16, none⟩) (show w.heap.size ≠ gx by omega) (.int .u8 0)).far (p := ⟨gx, 17, none⟩) (show w.heap.size ≠ gx by omega) (.int .u8 0)
      have hne : w.heap.size ≠ gx := by omega
      have k0 := hm8.cell 0
      have k1 := hm8.cell 1
      have k2 := hm8.cell 2
      have k3 := hm8.cell 3
      have k4 := hm8.cell 4
      have k5 := hm8.cell 5
      have k6 := hm8.cell 6
      have k7 := hm8.cell 7
      have k8 := hm8.cell 8
      have k9 := hm8.cell 9
      have k10 := hm8.cell 10
      simp only [List.getElem?_toArray, List.getElem?_cons_zero, List.getElem?_cons_succ] at k0 k1 k2 k3 k4 k5 k6 k7 k8 k9 k10
      clear hO6 hB6 hg6 hA6 hz6 hc6 p2 p3 hO7 hB7 hg7 hA7 hz7 hc7 r3 hB8 hg8 hA8 hz8 hc8 q1 q2 q3 hO0 hA' hlx hnx
      go_wp2_with fail
      refine (fix_any (⟨s.fr, s.fp, s.to, s.tp, s.seq, s.ack, s.fl, s.win, 0, -1⟩ : Sg) HWF.out A n cap _ nx c8 wo.heap.size _ (by omega) (by omega) (((hbx.set 12 hv0.1 hv0.2).set 16 (by omega) (by omega)).set 17 (by omega) (by omega)) _ hO11 (by simp [World.setCell]; exact hz8')).mono ?_
      rintro e w12 ⟨lf, rfl, hO12, hbf, hG12⟩
      have hneg : some w.heap.size ≠ blk (some (⟨gx, 0, none⟩ : Addr)) := fun e => hne (by simpa [blk] using e)
      have hm12 := hm11.grown hG12 hneg
      have hrow12 : ∀ i, blk (some (⟨gx, 0, none⟩ : Addr)) = some i → w.heap.size ≤ i := by
        intro i hi
        have h1 : gx = i := by simpa [blk] using hi
        omega
      have hBw12 := HBE.out.grown hG12 HBE.out.size hrow12
      have HBF := Lib.hid hBw12
      have HLF := Lib.hid hO12.length
      have hcx := Ow.cap hO12
      have hrx := hO12.rb
      have k0 := hm12.cell 0
      have k2 := hm12.cell 2
      simp only [List.getElem?_toArray, List.getElem?_cons_zero, List.getElem?_cons_succ] at k0 k2
      have hltw : w.heap.size < w12.heap.size := hm12.lt
      clear k1 k3 k4 k5 k6 k7 k8 k9 k10 hO11 hO10 hO9 hO8 x12 f12 x16 f16 x17 f17 hm11 hm8 hv hG12 hBw12 hneg
      go_wp2_with fail
      refine (decode_any s.fr s.to hfr hto _ nx c8 _ lf HLF.out hbf _ hrx (Nat.le_refl _)).mono ?_
      rintro e w13 ⟨A2, n2, cq2, rfl, hO2, hB2⟩
      have hz2 := hB2.size
      obtain ⟨er, her⟩ : ∃ er, dErr s.fr s.to lf = er := ⟨_, rfl⟩
      obtain ⟨S, hS⟩ : ∃ S, decOf s.fr s.to lf = S := ⟨_, rfl⟩
      obtain ⟨dd, hdd⟩ : ∃ dd, decD s.fr s.to lf = dd := ⟨_, rfl⟩
      have hbd : Bs dd := by rw [← hdd]; exact decD_bs hbf
      have hld : dd.length ≤ 70000 := by rw [← hdd]; exact Nat.le_trans (decD_len s.fr s.to lf) (by rw [HLF.out]; omega)
      rw [hdd] at hO2
      rw [her, hS]
      have E0 := Lib.hid her
      have E1 := Lib.hid hS
      have E4 := Lib.hid hdd
      clear her hS hdd
      have b0 := bel_cell hB2 hltw k0
      have b2 := bel_cell hB2 hltw k2
      obtain ⟨w14, hw14⟩ : ∃ w14, w13.alloc (.cells #[.int .u32 S.fr, .int .i64 S.fp, .int .u32 S.to, .int .i64 S.tp, .int .u32 S.seq, .int .u32 S.ack, .int .i64 S.fl, .int .i64 S.win, .int .i64 S.mss, .int .i64 S.sc, .slice A2 n2 cq2] 26) = w14 := ⟨_, rfl⟩
      have hm14 : Bk w14 w13.heap.size 26 #[.int .u32 S.fr, .int .i64 S.fp, .int .u32 S.to, .int .i64 S.tp, .int .u32 S.seq, .int .u32 S.ack, .int .i64 S.fl, .int .i64 S.win, .int .i64 S.mss, .int .i64 S.sc, .slice A2 n2 cq2] := by rw [← hw14]; exact Bk.new w13 _ _
      have hB3 : Below w13.heap.size w13 w14 := by rw [← hw14]; exact (Below.refl _ _).alloc (Nat.le_refl _) _
      have b0' := (World.cell?_alloc_lt w13 (.cells #[.int .u32 S.fr, .int .i64 S.fp, .int .u32 S.to, .int .i64 S.tp, .int .u32 S.seq, .int .u32 S.ack, .int .i64 S.fl, .int .i64 S.win, .int .i64 S.mss, .int .i64 S.sc, .slice A2 n2 cq2] 26) ⟨w.heap.size, 0, none⟩ (show w.heap.size < w13.heap.size by omega)).trans b0
      have b2' := (World.cell?_alloc_lt w13 (.cells #[.int .u32 S.fr, .int .i64 S.fp, .int .u32 S.to, .int .i64 S.tp, .int .u32 S.seq, .int .u32 S.ack, .int .i64 S.fl, .int .i64 S.win, .int .i64 S.mss, .int .i64 S.sc, .slice A2 n2 cq2] 26) ⟨w.heap.size, 2, none⟩ (show w.heap.size < w13.heap.size by omega)).trans b2
      have HW14 := Lib.hid hw14
      have hlt14 := hm14.lt
      clear hw14
      have hp3 : RB w14 w12.heap.size _ lf := Rw.below (Rw.below hrx hB2) (hB3.mono hz2)
      clear k0 k2 b0 b2
      go_wp2_with fail
      rw [HW14.out]
      refine (rdecode_any s.fr s.to hfr hto _ nx c8 _ lf HLF.out hcx hbf _ hp3 (by omega)).mono ?_
      rintro e w15 ⟨A5, n5, cq5, rfl, hO4, hB4⟩
      have hz15 := hB4.size
      rw [E0.out, E1.out]
      rw [E4.out] at hO4
      have hm15 := hm14.below hB4 hlt14
      obtain ⟨w16, hw16⟩ : ∃ w16, w15.alloc (.cells #[.int .u32 S.fr, .int .i64 S.fp, .int .u32 S.to, .int .i64 S.tp, .int .u32 S.seq, .int .u32 S.ack, .int .i64 S.fl, .int .i64 S.win, .int .i64 S.mss, .int .i64 S.sc, .slice A5 n5 cq5] 26) = w16 := ⟨_, rfl⟩
      have hm16 : Bk w16 w15.heap.size 26 #[.int .u32 S.fr, .int .i64 S.fp, .int .u32 S.to, .int .i64 S.tp, .int .u32 S.seq, .int .u32 S.ack, .int .i64 S.fl, .int .i64 S.win, .int .i64 S.mss, .int .i64 S.sc, .slice A5 n5 cq5] := by rw [← hw16]; exact Bk.new w15 _ _
      have hB5 : Below w15.heap.size w15 w16 := by rw [← hw16]; exact (Below.refl _ _).alloc (Nat.le_refl _) _
      have hlt4 : w13.heap.size < w15.heap.size := by omega
      have d0 := (World.cell?_alloc_lt w15 (.cells #[.int .u32 S.fr, .int .i64 S.fp, .int .u32 S.to, .int .i64 S.tp, .int .u32 S.seq, .int .u32 S.ack, .int .i64 S.fl, .int .i64 S.win, .int .i64 S.mss, .int .i64 S.sc, .slice A5 n5 cq5] 26) ⟨w13.heap.size, 0, none⟩ hlt4).trans (hm15.cell 0)
      have d1 := (World.cell?_alloc_lt w15 (.cells #[.int .u32 S.fr, .int .i64 S.fp, .int .u32 S.to, .int .i64 S.tp, .int .u32 S.seq, .int .u32 S.ack, .int .i64 S.fl, .int .i64 S.win, .int .i64 S.mss, .int .i64 S.sc, .slice A5 n5 cq5] 26) ⟨w13.heap.size, 1, none⟩ hlt4).trans (hm15.cell 1)
      have d2 := (World.cell?_alloc_lt w15 (.cells #[.int .u32 S.fr, .int .i64 S.fp, .int .u32 S.to, .int .i64 S.tp, .int .u32 S.seq, .int .u32 S.ack, .int .i64 S.fl, .int .i64 S.win, .int .i64 S.mss, .int .i64 S.sc, .slice A5 n5 cq5] 26) ⟨w13.heap.size, 2, none⟩ hlt4).trans (hm15.cell 2)
      have d3 := (World.cell?_alloc_lt w15 (.cells #[.int .u32 S.fr, .int .i64 S.fp, .int .u32 S.to, .int .i64 S.tp, .int .u32 S.seq, .int .u32 S.ack, .int .i64 S.fl, .int .i64 S.win, .int .i64 S.mss, .int .i64 S.sc, .slice A5 n5 cq5] 26) ⟨w13.heap.size, 3, none⟩ hlt4).trans (hm15.cell 3)
      have d4 := (World.cell?_alloc_lt w15 (.cells #[.int .u32 S.fr, .int .i64 S.fp, .int .u32 S.to, .int .i64 S.tp, .int .u32 S.seq, .int .u32 S.ack, .int .i64 S.fl, .int .i64 S.win, .int .i64 S.mss, .int .i64 S.sc, .slice A5 n5 cq5] 26) ⟨w13.heap.size, 4, none⟩ hlt4).trans (hm15.cell 4)
      have d5 := (World.cell?_alloc_lt w15 (.cells #[.int .u32 S.fr, .int .i64 S.fp, .int .u32 S.to, .int .i64 S.tp, .int .u32 S.seq, .int .u32 S.ack, .int .i64 S.fl, .int .i64 S.win, .int .i64 S.mss, .int .i64 S.sc, .slice A5 n5 cq5] 26) ⟨w13.heap.size, 5, none⟩ hlt4).trans (hm15.cell 5)
      have d6 := (World.cell?_alloc_lt w15 (.cells #[.int .u32 S.fr, .int .i64 S.fp, .int .u32 S.to, .int .i64 S.tp, .int .u32 S.seq, .int .u32 S.ack, .int .i64 S.fl, .int .i64 S.win, .int .i64 S.mss, .int .i64 S.sc, .slice A5 n5 cq5] 26) ⟨w13.heap.size, 6, none⟩ hlt4).trans (hm15.cell 6)
      have d7 := (World.cell?_alloc_lt w15 (.cells #[.int .u32 S.fr, .int .i64 S.fp, .int .u32 S.to, .int .i64 S.tp, .int .u32 S.seq, .int .u32 S.ack, .int .i64 S.fl, .int .i64 S.win, .int .i64 S.mss, .int .i64 S.sc, .slice A5 n5 cq5] 26) ⟨w13.heap.size, 7, none⟩ hlt4).trans (hm15.cell 7)
      have d8 := (World.cell?_alloc_lt w15 (.cells #[.int .u32 S.fr, .int .i64 S.fp, .int .u32 S.to, .int .i64 S.tp, .int .u32 S.seq, .int .u32 S.ack, .int .i64 S.fl, .int .i64 S.win, .int .i64 S.mss, .int .i64 S.sc, .slice A5 n5 cq5] 26) ⟨w13.heap.size, 8, none⟩ hlt4).trans (hm15.cell 8)
      have d9 := (World.cell?_alloc_lt w15 (.cells #[.int .u32 S.fr, .int .i64 S.fp, .int .u32 S.to, .int .i64 S.tp, .int .u32 S.seq, .int .u32 S.ack, .int .i64 S.fl, .int .i64 S.win, .int .i64 S.mss, .int .i64 S.sc, .slice A5 n5 cq5] 26) ⟨w13.heap.size, 9, none⟩ hlt4).trans (hm15.cell 9)
      have d10 := (World.cell?_alloc_lt w15 (.cells #[.int .u32 S.fr, .int .i64 S.fp, .int .u32 S.to, .int .i64 S.tp, .int .u32 S.seq, .int .u32 S.ack, .int .i64 S.fl, .int .i64 S.win, .int .i64 S.mss, .int .i64 S.sc, .slice A5 n5 cq5] 26) ⟨w13.heap.size, 10, none⟩ hlt4).trans (hm15.cell 10)
      simp only [List.getElem?_toArray, List.getElem?_cons_zero, List.getElem?_cons_succ] at d0 d1 d2 d3 d4 d5 d6 d7 d8 d9 d10
      have HW16 := Lib.hid hw16
      have hlt5 := hm16.lt
      have hO2' : OB 5 w16 w12.heap.size A2 n2 cq2 dd := Ow.stays (Ow.stays (Ow.stays hO2 hB3) hB4) hB5
      have hO4' : OB 5 w16 w14.heap.size A5 n5 cq5 dd := Ow.stays hO4 hB5
      have l2 := Lib.hid hO2'.length
      have l4 := Lib.hid hO4'.length
      have hn2 : n2 ≤ 70000 := by rw [← l2.out]; exact hld
      clear hw16 b0' b2'
      go_wp2_with fail
      rw [HW16.out]
      refine (segments_any S A2 A5 n2 n5 cq2 cq5 w16.heap.size dd l2.out l4.out (by omega) hbd _ hO2'.rb hO4'.rb (Nat.le_refl _)).mono ?_
      rintro e w17 ⟨rfl, hB6, hz6⟩
      have HBG := Lib.hid ((((HBF.out.trans (hB2.mono HBF.out.size)).trans (hB3.mono (by omega))).trans (hB4.mono (by omega))).trans ((hB5.mono (by omega)).trans (hB6.mono (by omega))))
      clear d0 d1 d2 d3 d4 d5 d6 d7 d8 d9 d10
      go_wp2_with fail
      refine (known_any _).mono ?_
      rintro e w18 ⟨rfl, hB8⟩
      go_wp2
      go_ret
      exact ⟨rfl, HBG.out.trans (hB8.mono HBG.out.size)⟩

/-! ### the row -/
set_option maxRecDepth 100000 in
theorem lifted (os : Os) (started : os.Started) (H : Type) (enc : TypeId × Value → H) :
    ReturnsInHanded {} Try.checked os 7 .any (Rows.segmentOptionsSpec.pre6 enc Try.prog Try.f7 Rows.segmentOptionsRow.domain false) (Rows.segmentOptionsSpec.post enc Try.prog Try.f7 false true false false) := by
  refine returnsInHanded_of_change_sized (C := Try.checked) own started (by kernel_rfl) Try.func7
    (ChangeSpec.witness6 (enc := enc) (C := Try.checked) false ⟨#[], #[.agg #[.int .u32 0, .int .i64 0, .int .u32 0, .int .i64 0, .int .u32 0, .int .u32 0, .int .i64 0, .int .i64 0, .int .i64 0, .int .i64 0, .slice none 0 0], .slice none 0 0], []⟩ 8 (by kernel_rfl) (by kernel_rfl) (by kernel_rfl) (by kernel_rfl)) ?_
  intro W base args ds gs before hval0 hW hcnd hsz0 _
  have hval : ∀ (j : Nat) t v, Try.f7.params[j]? = some t → args[j]? = some v → Value.okWide Try.prog W .any base t v := hval0
  have hsz : (DataW.weightsEach Try.prog (Try.f7.params.toList ++ Rows.segmentOptionsSpec.plain.varTypes Try.prog) (ds ++ gs)).all (· ≤ reachBytes) = true := hsz0
  clear hsz0
  have hW' := hW
  obtain ⟨p, q, hA0, hV, rfl, hfz, hnd⟩ := hW
  have hA : DataW.TrodAll enc Try.prog W 0 (fun _ => true) true Try.f7.params.toList args.toList ds p := hA0
  rw [Try.params7] at hA hval hsz
  obtain ⟨v0, vs0, d0, ds0, p0, q0, hargs, rfl, rfl, h0, r0⟩ := trodAll_cons hA
  obtain ⟨v1, vs1, d1, ds1, p1, q1, rfl, rfl, rfl, h1, r1⟩ := trodAll_cons r0
  obtain ⟨rfl, rfl, rfl⟩ := trodAll_nil r1
  obtain rfl : args = #[v0, v1] := by cases args; simp_all
  obtain ⟨rfl, rfl⟩ := trodVars_none hV
  have k0 := h0
  have lt0 : ∀ x ∈ p0, x.block < W.heap.size := by obtain ⟨m, hm⟩ := k0; exact DataW.trod_lt m _ _ _ hm
  have w0 : ViewSeg W v0 := open_seg (hval 0 26 v0 rfl rfl) h0 (fun k hk => by have := List.all_eq_true.1 hsz k (DataW.weights_mem_each (j := 0) rfl rfl k hk); simpa using this)
  obtain ⟨a1, len1, cap1, rfl⟩ := okWide_slice Try.underlying24 (hval 1 24 v1 rfl rfl)
  have k1 := h1
  have lt1 : ∀ x ∈ p1, x.block < W.heap.size := by obtain ⟨m, hm⟩ := k1; exact DataW.trod_lt m _ _ _ hm
  obtain ⟨z1, w1⟩ : ∃ zs, IsRow .u8 W a1 len1 cap1 zs ∧ cap1 ≤ 140737488351232 := by
    obtain ⟨fuel, hf⟩ := h1
    rcases open_ints Try.underlying24 Try.underlying5 (by kernel_rfl) hf with ⟨hcs, _⟩ | ⟨x, l, c, zs, hcs, _, hl, hm, hz, hx, hcell, hwz⟩
    · simp [Value.cells] at hcs
      obtain ⟨rfl, rfl, rfl⟩ := hcs
      exact ⟨[], .inl ⟨rfl, rfl, rfl, rfl⟩, by omega⟩
    · simp [Value.cells] at hcs
      obtain ⟨rfl, rfl, rfl⟩ := hcs
      simp only [Prod.mk.injEq] at hx
      obtain ⟨rfl, rfl⟩ := hx
      simp only [if_true] at hz
      have hm2 := sized_slice hsz (j := 1) (t := 24) (e := 5) rfl rfl Try.underlying24
      rw [show Try.prog.bytesOf 5 = 1 from by kernel_rfl] at hm2
      simp only [lits, List.length_map, List.length_take, List.length_drop, reachBytes] at hm2
      exact ⟨zs, .inr ⟨_, rfl, hl, hm, hz, hcell, hwz⟩, by omega⟩
  clear hA0 hval0
  refine (walk v0 a1 len1 cap1 z1 W w0 w1).mono fun e W' ⟨he, bel⟩ => ?_
  subst he
  exact ⟨_, rfl, _, _, _, [], _, [], hW', trodAll_mk1 (shut_bool Try.underlying4 _), (trodAll_cons_mk (Below.trod laidOut (by kernel_rfl) (of_decide_eq_true (by kernel_rfl)) k0 bel lt0) (trodAll_cons_mk (Below.trod laidOut (by kernel_rfl) (of_decide_eq_true (by kernel_rfl)) k1 bel lt1) trodAll_mk0)), rfl, bel.frame _, fun h => by cases h⟩

theorem over : Rows.segmentOptionsRow.holds Try.pinned (OpenSpec.ofChange Rows.segmentOptionsSpec) :=
  OpenClaim.holds_of_wide 7 Try.f7 rfl rfl rfl rfl rfl rfl rfl ⟨rfl, rfl, rfl, rfl, rfl⟩ rfl rfl rfl rfl rfl (by kernel_rfl) Try.func7 (by kernel_rfl)
    (of_decide_eq_true (by kernel_rfl)) (by unfold Func.isWrapper; first | (rw [if_pos (by decide +kernel)]; kernel_rfl) | (rw [if_neg (by decide +kernel)]; exact ⟨rfl, rfl⟩))
    (fun os started H enc _ => lifted os started H enc)

theorem proved : Rows.SegmentOptionsSaid := over
#print axioms proved
end Go.Proofs.Ytifeomdmbjinoaa.segmentOptions
