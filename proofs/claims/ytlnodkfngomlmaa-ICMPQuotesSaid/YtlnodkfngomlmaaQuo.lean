/- Proved: what is told of a packet, by icmp.Quote and by the reference. Conditions: the packet lies in memory. -/
import Derived.Test.YtlnodkfngomlmaaHdr
import Derived.Deep.RegionHeld3
import Derived.Deep.RegionLaw
set_option linter.unusedVariables false
set_option linter.unusedSimpArgs false
namespace Go.Proofs.Ytlnodkfngomlmaa
open Go.RowKit
def QtPost (p : PkV) (ol dl : List Int) (w : World) (e : Ending) (w' : World) : Prop :=
  ∃ k A n c, e = .returned (.slice A n c) ∧ errIs p ol dl.length k ∧ (k ≠ 0 → A = none ∧ n = 0 ∧ c = 0) ∧ (k = 0 → OB 5 w' w.heap.size A n c (qtB p ol dl)) ∧ Below w.heap.size w w'
theorem ipB_take (p : PkV) (ol dl : List Int) (m : Nat) (hm : m = hdN ol.length + min 8 dl.length) : (ipB p ol dl).take m = qtB p ol dl := by
  unfold ipB qtB
  rw [hm, List.take_append, List.take_of_length_le (by rw [hdrB_len]; omega), hdrB_len]
  congr 1
  rw [show hdN ol.length + min 8 dl.length - hdN ol.length = min 8 dl.length by omega]
  rcases Nat.lt_or_ge dl.length 8 with h | h
  · rw [Nat.min_eq_right (by omega), List.take_of_length_le (Nat.le_refl _), List.take_of_length_le (by omega)]
  · rw [Nat.min_eq_left h]
theorem qtB_len (p : PkV) (ol dl : List Int) : (qtB p ol dl).length = hdN ol.length + min 8 dl.length := by
  unfold qtB; rw [List.length_append, hdrB_len, List.length_take]
theorem rq_fin {p : PkV} {ol dl : List Int} {w w2 w3 w4 : World} {dn m n c4 : Nat} {A4 : Option Addr} (hdn : dl.length = dn) (hm : m = min 8 dn) (hk : errIs p ol dn 0) (hX : Below w.heap.size w w2) (h3 : Below w2.heap.size w2 w3) (h4 : Below w2.heap.size w3 w4)
    (hO : OB 5 w4 w2.heap.size A4 n c4 (hdrB p ol dn (sumOf (hdrB p ol dn 0)) ++ dl.take m)) : QtPost p ol dl w (.returned (.slice A4 n c4)) w4 := by
  subst hdn
  refine ⟨0, A4, n, c4, rfl, hk, fun h => absurd rfl h, fun _ => ?_, (hX.trans (h3.mono hX.size)).trans (h4.mono hX.size)⟩
  have e : dl.take m = dl.take 8 := by
    rcases Nat.lt_or_ge dl.length 8 with h | h
    · rw [hm, Nat.min_eq_right (by omega), List.take_of_length_le (Nat.le_refl _), List.take_of_length_le (by omega)]
    · rw [hm, Nat.min_eq_left h]
  rw [e] at hO
  exact Ow.mono hO hX.size
set_option maxHeartbeats 4000000 in
set_option maxRecDepth 100000 in
theorem quote_any (p : PkV) (hp : p.Ok) (oA dA : Option Addr) (on oc dn dc B : Nat) (ol dl : List Int) (hn : ol.length = on) (hc : on ≤ oc) (hmo : on ≤ 140737488355328) (hb : Bs ol) (hdn : dl.length = dn) (hmd : dn ≤ 140737488355328) (w : World) (hr : RB w B oA ol) (hrd : RB w B dA dl) (hB : B ≤ w.heap.size) :
    Calls Try.prog 30 #[.agg (pkC p (.slice oA on oc) (.slice dA dn dc))] w (QtPost p ol dl w) := by
  obtain ⟨W, hW⟩ : ∃ W, w.alloc (.cells (pkC p (.slice oA on oc) (.slice dA dn dc)) 42) = W := ⟨_, rfl⟩
  obtain ⟨gx, hgx⟩ : ∃ gx, w.heap.size = gx := ⟨_, rfl⟩
  have hm : Bk W gx 42 (pkC p (.slice oA on oc) (.slice dA dn dc)) := by rw [← hW, ← hgx]; exact Bk.new w _ _
  have hBW : Below gx w W := by rw [← hW, ← hgx]; exact (Below.refl _ _).alloc (Nat.le_refl _) _
  have hz := hm.lt
  have HE := Lib.hid (enc_any p hp oA dA on oc dn dc B ol dl hn hc hmo hb hdn hmd W (Rw.below hr (hBW.mono (by omega))) (Rw.below hrd (hBW.mono (by omega))) (by omega))
  have HM := Lib.hid hm
  have HBW := Lib.hid hBW
  have HW := Lib.hid hW
  have HGX := Lib.hid hgx
  have HN := Lib.hid hn
  have HDN := Lib.hid hdn
  have c10 : W.cell? ⟨gx, 10, none⟩ = some (.slice dA dn dc) := hm.cell 10
  unfold pkC at HW HE ⊢
  clear hW hgx hm hBW hn hdn hr hrd hb
  go_enter Try.func30, Try.ntmps30
  go_wp2_with fail
  rw [HW.out, HGX.out]
  refine HE.out.mono ?_
  rintro e w2 ⟨k, A, n, c, rfl, hk, hno, hyes, hB2⟩
  have x10 : w2.cell? ⟨gx, 10, none⟩ = some (.slice dA dn dc) := (hB2.cell (p := ⟨gx, 10, none⟩) hz).trans c10
  have hBX : Below w.heap.size w w2 := by rw [HGX.out]; exact HBW.out.trans (hB2.mono (by omega))
  rcases Classical.em (k = 0) with hk0 | hk0
  · subst hk0
    have hO := hyes rfl
    have hol : ol.length ≤ 40 ∧ fitsP p.off ol.length dl.length := by
      rcases hk with ⟨_, h⟩ | ⟨_, _, h⟩ | ⟨_, _, _, _, h⟩ | ⟨_, h1, _, h2, _⟩
      · cases h
      · cases h
      · cases h
      · exact ⟨h1, h2⟩
    have hd65 : dn ≤ 65535 := by have := hol.2.1; have := HDN.out; omega
    have hnn : n = hdN on + dn := by
      have h1 := hO.length
      unfold ipB at h1
      rw [List.length_append, hdrB_len, HN.out, HDN.out] at h1
      omega
    have hh := hdN_le on
    have hh40 : hdN on ≤ 65 := by have := hol.1; have := HN.out; omega
    have HK := Lib.hid hk
    have hcap := Ow.cap hO
    obtain ⟨h, hH⟩ : ∃ h, hdN on = h := ⟨_, rfl⟩
    have HH := Lib.hid hH
    rw [hH] at hnn hh hh40
    have HO := Lib.hid hO
    clear hno hyes hol hO hk hH
    subst hnn
    rcases Nat.lt_or_ge 8 dn with y | y
    · have y1 : max (0 : Int) ((dn : Int) - 8) = (dn : Int) - 8 := by omega
      have y2 : IntKind.i64.wrap (((h + dn : Nat) : Int) - ((dn : Int) - 8)) = ((h + 8 : Nat) : Int) := by rw [IntWalk.i64_in _ (by omega)]; omega
      have y3 : ((h : Int) + dn) - ((dn : Int) - 8) = ((h + 8 : Nat) : Int) := by omega
      have HCL := Lib.hid (fun c' => clone_any A (h + 8) c' w2.heap.size (qtB p ol dl) (by rw [qtB_len, HN.out, HH.out, HDN.out]; omega) (by omega) w2 (by rw [← ipB_take p ol dl (h + 8) (by rw [HN.out, HH.out, HDN.out]; omega)]; exact RB.take HO.out.rb _) (Nat.le_refl _))
      go_wp2_with fail
      refine (HCL.out _).mono ?_
      rintro e w3 ⟨A3, c3, rfl, hO3, hB3⟩
      go_wp2
      go_ret
      exact ⟨0, A3, _, c3, rfl, HK.out, fun h => absurd rfl h, fun _ => Ow.mono hO3 hBX.size, hBX.trans (hB3.mono hBX.size)⟩
    · have y1 : max (0 : Int) ((dn : Int) - 8) = 0 := by omega
      have y2 : IntKind.i64.wrap (((h + dn : Nat) : Int) - 0) = ((h + dn : Nat) : Int) := by rw [IntWalk.i64_in _ (by omega)]; omega
      have HCL := Lib.hid (fun c' => clone_any A (h + dn) c' w2.heap.size (qtB p ol dl) (by rw [qtB_len, HN.out, HH.out, HDN.out]; omega) (by omega) w2 (by rw [← ipB_take p ol dl (h + dn) (by rw [HN.out, HH.out, HDN.out]; omega)]; exact RB.take HO.out.rb _) (Nat.le_refl _))
      go_wp2_with fail
      refine (HCL.out _).mono ?_
      rintro e w3 ⟨A3, c3, rfl, hO3, hB3⟩
      go_wp2
      go_ret
      exact ⟨0, A3, _, c3, rfl, HK.out, fun h => absurd rfl h, fun _ => Ow.mono hO3 hBX.size, hBX.trans (hB3.mono hBX.size)⟩
  · obtain ⟨rfl, rfl, rfl⟩ := hno hk0
    have k0 : (k != 0) = true := by simpa using hk0
    have k0' : (k == 0) = false := by simpa using hk0
    have HK := Lib.hid hk
    have HK0 := Lib.hid hk0
    clear hno hyes hk0 hk
    go_wp2
    go_ret
    exact ⟨k, none, 0, 0, rfl, HK.out, fun _ => ⟨rfl, rfl, rfl⟩, fun h => absurd h HK0.out, hBX⟩
set_option maxHeartbeats 4000000 in
set_option maxRecDepth 100000 in
theorem rquote_any (p : PkV) (hp : p.Ok) (oA dA : Option Addr) (on oc dn dc B : Nat) (ol dl : List Int) (hn : ol.length = on) (hc : on ≤ oc) (hmo : on ≤ 140737488355328) (hb : Bs ol) (hdn : dl.length = dn) (hdc : dn ≤ dc) (hmd : dn ≤ 140737488355328) (w : World) (hr : RB w B oA ol) (hrd : RB w B dA dl) (hB : B ≤ w.heap.size) :
    Calls Try.prog 31 #[.agg (pkC p (.slice oA on oc) (.slice dA dn dc))] w (QtPost p ol dl w) := by
  obtain ⟨W, hW⟩ : ∃ W, w.alloc (.cells (pkC p (.slice oA on oc) (.slice dA dn dc)) 42) = W := ⟨_, rfl⟩
  obtain ⟨gx, hgx⟩ : ∃ gx, w.heap.size = gx := ⟨_, rfl⟩
  have hm : Bk W gx 42 (pkC p (.slice oA on oc) (.slice dA dn dc)) := by rw [← hW, ← hgx]; exact Bk.new w _ _
  have hBW : Below gx w W := by rw [← hW, ← hgx]; exact (Below.refl _ _).alloc (Nat.le_refl _) _
  have hz := hm.lt
  have hBg : B ≤ gx := by omega
  have HMY := Lib.hid (rmay_any p hp oA dA on oc dn dc B ol hn hc hmo hb hmd W (Rw.below hr (hBW.mono (by omega))) (by omega))
  have HRO : Hid (RB W B oA ol) := Lib.hid (Rw.below hr (hBW.mono (by omega)))
  have HRD : Hid (RB W B dA dl) := Lib.hid (Rw.below hrd (hBW.mono (by omega)))
  have HPO := Lib.hid hp
  have HBB := Lib.hid hb
  have HM := Lib.hid hm
  have HBW := Lib.hid hBW
  have HW := Lib.hid hW
  have HGX := Lib.hid hgx
  have HN := Lib.hid hn
  have HDN := Lib.hid hdn
  unfold pkC at HW HMY ⊢
  clear hW hgx hm hBW hn hdn hr hrd hb hp
  go_enter Try.func31, Try.ntmps31
  go_wp2_with fail
  rw [HW.out, HGX.out]
  refine HMY.out.mono ?_
  rintro e w2 ⟨k, rfl, hk, hB2⟩
  have hm2 := HM.out.below hB2 hz
  have hz2 := hm2.lt
  have hzz : W.heap.size ≤ w2.heap.size := hB2.size
  have hBX : Below w.heap.size w w2 := by rw [HGX.out]; exact HBW.out.trans (hB2.mono (by omega))
  rcases Classical.em (k = 0) with hk0 | hk0
  · subst hk0
    have hol : numsP p ∧ ol.length ≤ 40 ∧ fitsP p.off ol.length dn := by
      rcases hk with ⟨_, h⟩ | ⟨_, _, h⟩ | ⟨_, _, _, _, h⟩ | ⟨h0, h1, _, h2, _⟩
      · cases h
      · cases h
      · cases h
      · exact ⟨h0, h1, h2⟩
    have hd65 : dn ≤ 65535 := by have h := hol.2.2.1; omega
    have hh : hdN on ≤ 60 := (hdN_bd (by have := hol.2.1; have := HN.out; omega)).2.1
    have HK := Lib.hid hk
    have HHD := Lib.hid (rheader_any p HPO.out hol.1 oA dA on oc dn dc dn B ol HN.out (by have := hol.2.1; have := HN.out; omega) HBB.out (by have h := hol.2.2.1; rw [HN.out] at h; exact h) w2.drew (show RB w2 B oA ol from Rw.below HRO.out (hB2.mono (by omega) : Below B W w2)) (by show B ≤ w2.heap.size; omega))
    have x0 : w2.cell? ⟨gx, 0, none⟩ = some (.int .i64 p.svc) := hm2.cell 0
    have x1 : w2.cell? ⟨gx, 1, none⟩ = some (.int .i64 p.id) := hm2.cell 1
    have x2 : w2.cell? ⟨gx, 2, none⟩ = some (.bool p.whole) := hm2.cell 2
    have x3 : w2.cell? ⟨gx, 3, none⟩ = some (.bool p.more) := hm2.cell 3
    have x4 : w2.cell? ⟨gx, 4, none⟩ = some (.int .i64 p.off) := hm2.cell 4
    have x5 : w2.cell? ⟨gx, 5, none⟩ = some (.int .i64 p.life) := hm2.cell 5
    have x6 : w2.cell? ⟨gx, 6, none⟩ = some (.int .i64 p.proto) := hm2.cell 6
    have x7 : w2.cell? ⟨gx, 7, none⟩ = some (.int .u32 p.src) := hm2.cell 7
    have x8 : w2.cell? ⟨gx, 8, none⟩ = some (.int .u32 p.dst) := hm2.cell 8
    have x9 : w2.cell? ⟨gx, 9, none⟩ = some (.slice oA on oc) := hm2.cell 9
    have x10 : w2.cell? ⟨gx, 10, none⟩ = some (.slice dA dn dc) := hm2.cell 10
    have HRD2 : Hid (RB w2 B dA dl) := Lib.hid (Rw.below HRD.out (hB2.mono (by omega) : Below B W w2))
    unfold pkC at HHD
    clear hol hm2 hk
    have HRD3 : Hid (∀ (w3 : World) (m : Nat), Below w2.drew.heap.size w2.drew w3 → RB w3 B dA (dl.take m)) := Lib.hid (fun w3 m h3 => Rw.below (show RB w2.drew B dA (dl.take m) from RB.take HRD2.out m) (h3.mono (show B ≤ w2.heap.size by omega)))
    rcases (by omega : 8 < dn ∨ dn = 8 ∨ dn < 8) with y | y | y
    · have y2 : (8 : Int) ≤ (dc : Int) := by omega
      have yi : (if (dn : Int) < 8 then (dn : Int) else 8) = 8 := by rw [if_neg (by omega)]
      have y0 : (0 : Int) ≤ (dn : Int) := by omega
      have y5 : (8 : Int) ≤ (dn : Int) := by omega
      have y6 : ¬ (dn : Int) < 8 := by omega
      have y9 : (dn : Int) ≤ (dc : Int) := by omega
      have HY := Lib.hid y
      clear y
      go_wp2
      go_region_held3 (fun w' => w'.cell? ⟨gx, 0, none⟩ = some (.int .i64 p.svc) ∧ w'.cell? ⟨gx, 1, none⟩ = some (.int .i64 p.id) ∧ w'.cell? ⟨gx, 2, none⟩ = some (.bool p.whole) ∧ w'.cell? ⟨gx, 3, none⟩ = some (.bool p.more) ∧ w'.cell? ⟨gx, 4, none⟩ = some (.int .i64 p.off) ∧ w'.cell? ⟨gx, 5, none⟩ = some (.int .i64 p.life) ∧ w'.cell? ⟨gx, 6, none⟩ = some (.int .i64 p.proto) ∧ w'.cell? ⟨gx, 7, none⟩ = some (.int .u32 p.src) ∧ w'.cell? ⟨gx, 8, none⟩ = some (.int .u32 p.dst) ∧ w'.cell? ⟨gx, 9, none⟩ = some (.slice oA on oc) ∧ w'.cell? ⟨gx, 10, none⟩ = some (.slice dA dn dc))
        (first | (with_reducible exact ⟨by assumption, by assumption, by assumption, by assumption, by assumption, by assumption, by assumption, by assumption, by assumption, by assumption, by assumption⟩) | go_keep)
        (first
          | (go_at_call 55; refine HHD.out.mono ?_; rintro e w3 ⟨A3, c3, rfl, hO3, hB3⟩; have p0 := bcell hB3 hz2 x0; have p1 := bcell hB3 hz2 x1; have p2 := bcell hB3 hz2 x2; have p3 := bcell hB3 hz2 x3; have p4 := bcell hB3 hz2 x4; have p5 := bcell hB3 hz2 x5; have p6 := bcell hB3 hz2 x6; have p7 := bcell hB3 hz2 x7; have p8 := bcell hB3 hz2 x8; have p9 := bcell hB3 hz2 x9; have p10 := bcell hB3 hz2 x10; have z3 := hB3.size)
          | (refine st8 rfl (.tmp 10) (.tmp 17) rfl w2.heap.size rfl hO3 rfl (HRD3.out w3 8 hB3) (by rw [List.length_take]; have := HDN.out; have := HY.out; omega) (by omega) z3 ?_; intro A4 c4 w4 hO4 hB4 hg4 hA4 hz4 hc4; have p0 := bcell hB4 hz2 p0; have p1 := bcell hB4 hz2 p1; have p2 := bcell hB4 hz2 p2; have p3 := bcell hB4 hz2 p3; have p4 := bcell hB4 hz2 p4; have p5 := bcell hB4 hz2 p5; have p6 := bcell hB4 hz2 p6; have p7 := bcell hB4 hz2 p7; have p8 := bcell hB4 hz2 p8; have p9 := bcell hB4 hz2 p9; have p10 := bcell hB4 hz2 p10))
      all_goals
        go_wp2
        go_ret
        exact rq_fin (m := 8) HDN.out (by have := HY.out; omega) HK.out hBX (show Below w2.heap.size w2 w3 from ⟨hB3.os, hB3.tape, hB3.output, hB3.size, hB3.block⟩) hB4 hO4
    · have y0 : (0 : Int) ≤ (dn : Int) := by omega
      have y9 : (dn : Int) ≤ (dc : Int) := by omega
      have y5 : (8 : Int) ≤ (dn : Int) := by omega
      have y6 : ¬ (dn : Int) < 8 := by omega
      have yi : (if (dn : Int) < 8 then (dn : Int) else 8) = 8 := by rw [if_neg (by omega)]
      have HY := Lib.hid y
      clear y
      have y2 : (8 : Int) ≤ (dc : Int) := by omega
      go_wp2
      go_region_held3 (fun w' => w'.cell? ⟨gx, 0, none⟩ = some (.int .i64 p.svc) ∧ w'.cell? ⟨gx, 1, none⟩ = some (.int .i64 p.id) ∧ w'.cell? ⟨gx, 2, none⟩ = some (.bool p.whole) ∧ w'.cell? ⟨gx, 3, none⟩ = some (.bool p.more) ∧ w'.cell? ⟨gx, 4, none⟩ = some (.int .i64 p.off) ∧ w'.cell? ⟨gx, 5, none⟩ = some (.int .i64 p.life) ∧ w'.cell? ⟨gx, 6, none⟩ = some (.int .i64 p.proto) ∧ w'.cell? ⟨gx, 7, none⟩ = some (.int .u32 p.src) ∧ w'.cell? ⟨gx, 8, none⟩ = some (.int .u32 p.dst) ∧ w'.cell? ⟨gx, 9, none⟩ = some (.slice oA on oc) ∧ w'.cell? ⟨gx, 10, none⟩ = some (.slice dA dn dc))
        (first | (with_reducible exact ⟨by assumption, by assumption, by assumption, by assumption, by assumption, by assumption, by assumption, by assumption, by assumption, by assumption, by assumption⟩) | go_keep)
        (first
          | (go_at_call 55; refine HHD.out.mono ?_; rintro e w3 ⟨A3, c3, rfl, hO3, hB3⟩; have p0 := bcell hB3 hz2 x0; have p1 := bcell hB3 hz2 x1; have p2 := bcell hB3 hz2 x2; have p3 := bcell hB3 hz2 x3; have p4 := bcell hB3 hz2 x4; have p5 := bcell hB3 hz2 x5; have p6 := bcell hB3 hz2 x6; have p7 := bcell hB3 hz2 x7; have p8 := bcell hB3 hz2 x8; have p9 := bcell hB3 hz2 x9; have p10 := bcell hB3 hz2 x10; have z3 := hB3.size)
          | (refine st8 rfl (.tmp 10) (.tmp 17) rfl w2.heap.size rfl hO3 rfl (HRD3.out w3 8 hB3) (by rw [List.length_take]; have := HDN.out; have := HY.out; omega) (by omega) z3 ?_; intro A4 c4 w4 hO4 hB4 hg4 hA4 hz4 hc4; have p0 := bcell hB4 hz2 p0; have p1 := bcell hB4 hz2 p1; have p2 := bcell hB4 hz2 p2; have p3 := bcell hB4 hz2 p3; have p4 := bcell hB4 hz2 p4; have p5 := bcell hB4 hz2 p5; have p6 := bcell hB4 hz2 p6; have p7 := bcell hB4 hz2 p7; have p8 := bcell hB4 hz2 p8; have p9 := bcell hB4 hz2 p9; have p10 := bcell hB4 hz2 p10))
      all_goals
        go_wp2
        go_ret
        exact rq_fin (m := 8) HDN.out (by have := HY.out; omega) HK.out hBX (show Below w2.heap.size w2 w3 from ⟨hB3.os, hB3.tape, hB3.output, hB3.size, hB3.block⟩) hB4 hO4
    · have y0 : (0 : Int) ≤ (dn : Int) := by omega
      have y2 : (dn : Int) ≤ (dc : Int) := by omega
      have yi : (if (dn : Int) < 8 then (dn : Int) else 8) = (dn : Int) := by rw [if_pos (by omega)]
      have hz8 : (0 : Int) ≤ (dn : Int) ∧ (dn : Int) ≤ (dc : Int) := ⟨y0, y2⟩
      have hneg : ¬ ((dn : Int) < 0) := by omega
      have hnle : ¬ ((dc : Int) < (dn : Int)) := by omega
      have HY := Lib.hid y
      clear y
      go_wp2
      go_region_held3 (fun w' => w'.cell? ⟨gx, 0, none⟩ = some (.int .i64 p.svc) ∧ w'.cell? ⟨gx, 1, none⟩ = some (.int .i64 p.id) ∧ w'.cell? ⟨gx, 2, none⟩ = some (.bool p.whole) ∧ w'.cell? ⟨gx, 3, none⟩ = some (.bool p.more) ∧ w'.cell? ⟨gx, 4, none⟩ = some (.int .i64 p.off) ∧ w'.cell? ⟨gx, 5, none⟩ = some (.int .i64 p.life) ∧ w'.cell? ⟨gx, 6, none⟩ = some (.int .i64 p.proto) ∧ w'.cell? ⟨gx, 7, none⟩ = some (.int .u32 p.src) ∧ w'.cell? ⟨gx, 8, none⟩ = some (.int .u32 p.dst) ∧ w'.cell? ⟨gx, 9, none⟩ = some (.slice oA on oc) ∧ w'.cell? ⟨gx, 10, none⟩ = some (.slice dA dn dc))
        (first | (with_reducible exact ⟨by assumption, by assumption, by assumption, by assumption, by assumption, by assumption, by assumption, by assumption, by assumption, by assumption, by assumption⟩) | go_keep)
        (first
          | (go_at_call 55; refine HHD.out.mono ?_; rintro e w3 ⟨A3, c3, rfl, hO3, hB3⟩; have p0 := bcell hB3 hz2 x0; have p1 := bcell hB3 hz2 x1; have p2 := bcell hB3 hz2 x2; have p3 := bcell hB3 hz2 x3; have p4 := bcell hB3 hz2 x4; have p5 := bcell hB3 hz2 x5; have p6 := bcell hB3 hz2 x6; have p7 := bcell hB3 hz2 x7; have p8 := bcell hB3 hz2 x8; have p9 := bcell hB3 hz2 x9; have p10 := bcell hB3 hz2 x10; have z3 := hB3.size)
          | (refine st8 rfl (.tmp 10) (.tmp 17) rfl w2.heap.size rfl hO3 rfl (HRD3.out w3 dn hB3) (by rw [List.length_take]; have := HDN.out; have := HY.out; omega) (by omega) z3 ?_; intro A4 c4 w4 hO4 hB4 hg4 hA4 hz4 hc4; have p0 := bcell hB4 hz2 p0; have p1 := bcell hB4 hz2 p1; have p2 := bcell hB4 hz2 p2; have p3 := bcell hB4 hz2 p3; have p4 := bcell hB4 hz2 p4; have p5 := bcell hB4 hz2 p5; have p6 := bcell hB4 hz2 p6; have p7 := bcell hB4 hz2 p7; have p8 := bcell hB4 hz2 p8; have p9 := bcell hB4 hz2 p9; have p10 := bcell hB4 hz2 p10))
      all_goals
        go_wp2
        go_ret
        exact rq_fin (m := dn) HDN.out (by have := HY.out; omega) HK.out hBX (show Below w2.heap.size w2 w3 from ⟨hB3.os, hB3.tape, hB3.output, hB3.size, hB3.block⟩) hB4 hO4
  · have k0 : (k != 0) = true := by simpa using hk0
    have k0' : (k == 0) = false := by simpa using hk0
    have HK := Lib.hid hk
    have HK0 := Lib.hid hk0
    clear hk0 hk
    go_wp2
    go_ret
    exact ⟨k, none, 0, 0, rfl, by rw [HDN.out]; exact HK.out, fun _ => ⟨rfl, rfl, rfl⟩, fun h => absurd h HK0.out, hBX⟩
end Go.Proofs.Ytlnodkfngomlmaa
