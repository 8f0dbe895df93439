/- Proved: wharfref7.Split by its walk: the same pieces as frag.Split, in rows that may be shared. Conditions: the packet lies in memory. -/
import Derived.Test.YtcjkhonapafndaaSpl
set_option linter.unusedVariables false
set_option linter.unusedSimpArgs false
namespace Go.Proofs.Ytcjkhonapafndaa
open Go.RowKit

/-- A packet whose rows may be read. -/
def PmRd (w : World) (base : Nat) (x : Pm) : Prop :=
  (RB w base x.oA x.ol ∨ OB 5 w base x.oA x.on x.oc x.ol) ∧ RB w base x.dA x.dl ∧ x.ol.length = x.on ∧ x.dl.length = x.dn ∧ x.on ≤ x.oc ∧ x.dn ≤ x.dc
def PmsRd (w : World) (base : Nat) (L : List Pm) : Prop := ∀ x ∈ L, PmRd w base x
theorem PmsRd.nil (w : World) (base : Nat) : PmsRd w base [] := fun _ h => by cases h
theorem PmRd.below {w w' : World} {base : Nat} {x : Pm} (h : PmRd w base x) (hs : base ≤ w.heap.size) (hb : Below w.heap.size w w') : PmRd w' base x :=
  ⟨h.1.imp (fun q => Rw.below q (hb.mono hs)) (fun q => Ow.stays q hb), Rw.below h.2.1 (hb.mono hs), h.2.2⟩
theorem PmsRd.below {w w' : World} {base : Nat} {L : List Pm} (h : PmsRd w base L) (hs : base ≤ w.heap.size) (hb : Below w.heap.size w w') : PmsRd w' base L := fun x hx => (h x hx).below hs hb
theorem PmRd.grown {w w' : World} {base base' : Nat} {v : Value} {n : Nat} {x : Pm} {L' : List Pm} (h : PmRd w base x) (hP : PsAt w base' v n L') (hbb : base ≤ base') (hs : base ≤ w.heap.size) (hg : w.grownBy w' v.ownBlock) : PmRd w' base x :=
  ⟨h.1.imp (fun q => Rw.grown q hg hs fun g hgg => Nat.le_trans hbb (hP.ty hgg).1) (fun q => Ow.kept q hg (hP.ne8 q)), Rw.grown h.2.1 hg hs fun g hgg => Nat.le_trans hbb (hP.ty hgg).1, h.2.2⟩
theorem PmsRd.grown {w w' : World} {base base' : Nat} {v : Value} {n : Nat} {L L' : List Pm} (h : PmsRd w base L) (hP : PsAt w base' v n L') (hbb : base ≤ base') (hs : base ≤ w.heap.size) (hg : w.grownBy w' v.ownBlock) : PmsRd w' base L := fun x hx => (h x hx).grown hP hbb hs hg
theorem PmsRd.snoc {w : World} {base : Nat} {L : List Pm} {x : Pm} (h : PmsRd w base L) (hx : PmRd w base x) : PmsRd w base (L ++ [x]) := fun y hy => by
  rcases List.mem_append.1 hy with hy | hy
  · exact h y hy
  · simp at hy; subst hy; exact hx
def RSplPost (p : PkV) (ol dl : List Int) (mtu : Int) (w : World) (e : Ending) (w' : World) : Prop :=
  ∃ k A n c L, e = .returned (.tuple #[.slice A n c, .int .i64 k]) ∧ splIs p ol dl mtu k (L.map Pm.plain) ∧ PsAt w' w.heap.size (.slice A n c) n L ∧ PmsRd w' w.heap.size L ∧ Below w.heap.size w w'
def ropts (a : Nat) (ol : List Int) : List Int := if a = 0 then ol else copO ol
def RSplRel (W : World) (base : Nat) (p : PkV) (mtu : Nat) (ol dl : List Int) (R : List Pc) (v7 : Value) (a : Nat) (wr : World) : Prop :=
  ∃ (f : Nat) (L : List Pm) (A7 : Option Addr) (n7 c7 : Nat), v7 = .slice A7 n7 c7 ∧ PsAt wr (base + 1) (.slice A7 n7 c7) n7 L ∧ PmsRd wr base L ∧
    L.map Pm.plain ++ piecesF f p mtu ol (ropts a ol) (dl.drop a) (p.off + a) = R ∧ dl.length - a < f ∧ n7 ≤ a ∧ Below (base + 1) W wr
/-- One piece more. -/
theorem rspl_next {W X8 X9 : World} {base mtu a nn n7 c7 ff : Nat} {p : PkV} {ol dl : List Int} {R : List Pc} {A7 : Option Addr} {v9 : Value} {L : List Pm} {x : Pm} {mo : Bool}
    (hP8 : PsAt X8 (base + 1) (.slice A7 n7 c7) n7 L) (hP9 : PsAt X9 (base + 1) v9 (n7 + 1) (L ++ [x])) (hg : X8.grownBy X9 (Value.slice A7 n7 c7).ownBlock)
    (hPM : PmsRd X8 base L) (hx : PmRd X8 base x) (hpl : x.plain = (piece p mo (p.off + (a : Nat)), ropts a ol, (dl.drop a).take nn))
    (hout : L.map Pm.plain ++ piecesF ff p mtu ol (ropts a ol) (dl.drop a) (p.off + (a : Nat)) = R)
    (hmo : (p.more || decide (nn < dl.length - a)) = mo) (hcut : cutN mtu (ropts a ol).length (dl.length - a) = nn)
    (hff : dl.length - a < ff) (ha : a < dl.length) (hnp : 0 < nn) (hn7 : n7 ≤ a) (hB : Below (base + 1) W X8) (hs : base + 1 ≤ X8.heap.size) : RSplRel W base p mtu ol dl R v9 (a + nn) X9 := by
  obtain ⟨A9, c9, rfl⟩ : ∃ A9 c9, v9 = .slice A9 (n7 + 1) c9 := by
    obtain ⟨A, c, h⟩ := hP9.sl; exact ⟨A, c, h⟩
  obtain ⟨f, rfl⟩ : ∃ f, ff = f + 1 := ⟨ff - 1, by omega⟩
  refine ⟨f, L ++ [x], A9, n7 + 1, c9, rfl, hP9, (hPM.snoc hx).grown hP8 (Nat.le_succ _) (by omega) hg, ?_, by omega, by omega, hB.trans ((Below.refl _ _).grown hg hs (fun b hb => (hP8.ty hb).1))⟩
  rw [← hout, piecesF_more (by rw [List.length_drop]; omega) (n := nn) (by rw [List.length_drop]; exact hcut), List.length_drop, hmo, List.map_append, List.append_assoc, List.drop_drop]
  simp only [List.map_cons, List.map_nil, hpl]
  rw [show ropts (a + nn) ol = copO ol by unfold ropts; rw [if_neg (by omega)]]
  simp [Int.add_assoc]
set_option maxHeartbeats 8000000 in
set_option maxRecDepth 100000 in
theorem rsplit_any (p : PkV) (hp : p.Ok) (oA dA : Option Addr) (on oc dn dc B : Nat) (ol dl : List Int) (mtu : Int) (hmt : -9223372036854775808 ≤ mtu ∧ mtu ≤ 9223372036854775807) (hn : ol.length = on) (hc : on ≤ oc) (hmo : on ≤ 140737488355328) (hb : Bs ol) (hdn : dl.length = dn) (hdc : dn ≤ dc) (hmd : dn ≤ 140737488355328) (w : World) (hr : RB w B oA ol) (hrd : RB w B dA dl) (hB : B ≤ w.heap.size) :
    Calls Try.prog 14 #[.agg (pkC p (.slice oA on oc) (.slice dA dn dc)), .int .i64 mtu] w (RSplPost p ol dl mtu w) := by
  obtain ⟨gp, hgp⟩ : ∃ gp, w.heap.size = gp := ⟨_, rfl⟩
  obtain ⟨W, hW⟩ : ∃ W, w.alloc (.cells (pkC p (.slice oA on oc) (.slice dA dn dc)) 26) = W := ⟨_, rfl⟩
  have hm : Bk W gp 26 (pkC p (.slice oA on oc) (.slice dA dn dc)) := by rw [← hW, ← hgp]; exact Bk.new w _ _
  have hBW : Below gp w W := by rw [← hW, ← hgp]; exact (Below.refl _ _).alloc (Nat.le_refl _) _
  have hr1 : RB W B oA ol := Rw.below hr (hBW.mono (by omega))
  have hrd1 : RB W B dA dl := Rw.below hrd (hBW.mono (by omega))
  have hlt := hm.lt
  have hBg : B ≤ gp := by omega
  have HN := Lib.hid hn
  have HDN := Lib.hid hdn
  have HGP := Lib.hid hgp
  have HM := Lib.hid hm
  have HBW := Lib.hid hBW
  have HR := Lib.hid hr1
  have HRD := Lib.hid hrd1
  have HW : Hid (w.alloc (.cells #[.int .i64 p.svc, .int .i64 p.id, .bool p.whole, .bool p.more, .int .i64 p.off, .int .i64 p.life, .int .i64 p.proto, .int .u32 p.src, .int .u32 p.dst, .slice oA on oc, .slice dA dn dc] 26) = W) := Lib.hid hW
  have HMAY := Lib.hid (rmay_any p hp oA dA on oc dn dc B ol hn hc hmo hb hmd W hr1 (by omega))
  clear hW hm hBW hr1 hrd1 hn hdn hgp hr hrd
  rcases (by omega : mtu < 68 ∨ (68 ≤ mtu ∧ 65535 < mtu) ∨ (68 ≤ mtu ∧ mtu ≤ 65535)) with d | ⟨d, d2⟩ | ⟨d, d2⟩
  · have HE : Hid (splIs p ol dl mtu 1 []) := Lib.hid (.inl ⟨.inl d, rfl, rfl⟩)
    unfold pkC
    go_enter Try.func14, Try.ntmps14
    go_wp2
    go_ret2
    exact ⟨1, none, 0, 0, [], rfl, HE.out, PsAt.none_ _ _, PmsRd.nil _ _, by rw [HW.out, HGP.out]; exact HBW.out⟩
  · have HE : Hid (splIs p ol dl mtu 1 []) := Lib.hid (.inl ⟨.inr d2, rfl, rfl⟩)
    have d3 : ¬ mtu < 68 := by omega
    unfold pkC
    go_enter Try.func14, Try.ntmps14
    go_wp2
    go_ret2
    exact ⟨1, none, 0, 0, [], rfl, HE.out, PsAt.none_ _ _, PmsRd.nil _ _, by rw [HW.out, HGP.out]; exact HBW.out⟩
  obtain ⟨m, rfl⟩ : ∃ m : Nat, mtu = m := ⟨mtu.toNat, by omega⟩
  have d3 : ¬ (m : Int) < 68 := by omega
  have d4 : ¬ 65535 < (m : Int) := by omega
  unfold pkC at HMAY
  unfold pkC
  go_enter Try.func14, Try.ntmps14
  have b0 := HM.out.cell 0
  have b1 := HM.out.cell 1
  have b2 := HM.out.cell 2
  have b3 := HM.out.cell 3
  have b4 := HM.out.cell 4
  have b5 := HM.out.cell 5
  have b6 := HM.out.cell 6
  have b7 := HM.out.cell 7
  have b8_ := HM.out.cell 8
  have b9 := HM.out.cell 9
  have b10 := HM.out.cell 10
  simp only [pkC, List.getElem?_toArray, List.getElem?_cons_zero, List.getElem?_cons_succ] at b0 b1 b2 b3 b4 b5 b6 b7 b8_ b9 b10
  go_wp2_with fail
  rw [HW.out, HGP.out]
  refine HMAY.out.mono ?_
  rintro e1 W1 ⟨k, rfl, hE, hB1⟩
  have HE : Hid (errIs p ol dl.length k) := Lib.hid (HDN.out ▸ hE)
  have HB1 := Lib.hid hB1
  have hz1 := hB1.size
  clear b0 b1 b2 b3 b4 b5 b6 b7 b8_ b9 b10
  rcases Decidable.em (k = 0) with rfl | hk
  · have hm1 := HM.out.below hB1 hlt
    have HM1 := Lib.hid hm1
    have hh := hdN_le on
    have hwf : IntKind.i64.wrap ((hdN on : Int) + dn) = (hdN on : Int) + dn := IntWalk.i64_in _ (by omega)
    have z0 := (hm1.drew).cell 0
    have z1 := (hm1.drew).cell 1
    have z2 := (hm1.drew).cell 2
    have z3 := (hm1.drew).cell 3
    have z4 := (hm1.drew).cell 4
    have z5 := (hm1.drew).cell 5
    have z6 := (hm1.drew).cell 6
    have z7 := (hm1.drew).cell 7
    have z8 := (hm1.drew).cell 8
    have z9 := (hm1.drew).cell 9
    have z10 := (hm1.drew).cell 10
    simp only [pkC, List.getElem?_toArray, List.getElem?_cons_zero, List.getElem?_cons_succ] at z0 z1 z2 z3 z4 z5 z6 z7 z8 z9 z10
    have hltw : gp < W1.drew.heap.size := by show gp < W1.heap.size; omega
    have HON : Hid (on ≤ 40) := Lib.hid (by
      rcases HE.out with ⟨_, h⟩ | ⟨_, _, h⟩ | ⟨_, _, _, _, h⟩ | ⟨_, h, _⟩
      · cases h
      · cases h
      · cases h
      · have := HN.out; omega)
    clear hE hB1 hm1
    go_wp2_with fail
    go_region_held3 (fun w' => w'.cell? ⟨gp, 0, none⟩ = some (.int .i64 p.svc) ∧ w'.cell? ⟨gp, 1, none⟩ = some (.int .i64 p.id) ∧ w'.cell? ⟨gp, 2, none⟩ = some (.bool p.whole) ∧ w'.cell? ⟨gp, 3, none⟩ = some (.bool p.more) ∧ w'.cell? ⟨gp, 4, none⟩ = some (.int .i64 p.off) ∧ w'.cell? ⟨gp, 5, none⟩ = some (.int .i64 p.life) ∧ w'.cell? ⟨gp, 6, none⟩ = some (.int .i64 p.proto) ∧ w'.cell? ⟨gp, 7, none⟩ = some (.int .u32 p.src) ∧ w'.cell? ⟨gp, 8, none⟩ = some (.int .u32 p.dst) ∧ w'.cell? ⟨gp, 9, none⟩ = some (.slice oA on oc) ∧ w'.cell? ⟨gp, 10, none⟩ = some (.slice dA dn dc))
      (first | (with_reducible exact ⟨by assumption, by assumption, by assumption, by assumption, by assumption, by assumption, by assumption, by assumption, by assumption, by assumption, by assumption⟩) | go_keep)
      (first
        | (go_at_call 32; refine (head_any p oA on oc _ hmo _).mono ?_; rintro e w' ⟨rfl, hB2⟩; have q0 := bcell hB2 hltw z0; have q1 := bcell hB2 hltw z1; have q2 := bcell hB2 hltw z2; have q3 := bcell hB2 hltw z3; have q4 := bcell hB2 hltw z4; have q5 := bcell hB2 hltw z5; have q6 := bcell hB2 hltw z6; have q7 := bcell hB2 hltw z7; have q8 := bcell hB2 hltw z8; have q9 := bcell hB2 hltw z9; have q10 := bcell hB2 hltw z10))
    generalize w' = W2 at *
    have hzX : gp < W2.heap.size := by have := hB2.size; have h : W1.drew.heap.size = W1.heap.size := rfl; omega
    have HMD : Hid (Bk W2 gp 26 (pkC p (.slice oA on oc) (.slice dA dn dc))) := Lib.hid (HM1.out.drew.below hB2 hltw)
    have HRX : Hid (RB W2 gp oA ol) := Lib.hid (Rw.below (Rw.more (Rw.drew (Rw.below HR.out (HB1.out.mono (by omega)))) hBg) (hB2.mono (Nat.le_of_lt hltw)))
    have HRDX : Hid (RB W2 gp dA dl) := Lib.hid (Rw.below (Rw.more (Rw.drew (Rw.below HRD.out (HB1.out.mono (by omega)))) hBg) (hB2.mono (Nat.le_of_lt hltw)))
    have HBX : Hid (Below gp w W2) := Lib.hid ((HBW.out.trans (HB1.out.mono (by omega))).drew.trans (hB2.mono (Nat.le_of_lt hltw)))
    clear hB2 z0 z1 z2 z3 z4 z5 z6 z7 z8 z9 z10 hltw hz1
    rcases Decidable.em ((hdN on : Int) + dn ≤ m) with f | f
    · have hP4 : PsAt (W2.alloc (.cells (pmC ⟨p, oA, on, oc, ol, dA, dn, dc, dl⟩).toArray 26)) gp (.slice (some ⟨W2.heap.size, 0, none⟩) 1 1) 1 [⟨p, oA, on, oc, ol, dA, dn, dc, dl⟩] :=
        ⟨by simp [pmC_len], .inr ⟨W2.heap.size, 1, (pmC ⟨p, oA, on, oc, ol, dA, dn, dc, dl⟩).toArray, rfl, by omega, heap_alloc_new W2 _, Nat.le_refl _, by decide, rfl, rfl⟩⟩
      have hS : splIs p ol dl m 0 [(p, ol, dl)] := .inr ⟨d, d2, .inr (.inr ⟨HE.out, .inl (by rw [HN.out, HDN.out]; exact f), rfl, by unfold splitP; rw [if_pos (by rw [HN.out, HDN.out]; omega)]⟩)⟩
      have hO4 : PmRd (W2.alloc (.cells (pmC ⟨p, oA, on, oc, ol, dA, dn, dc, dl⟩).toArray 26)) gp ⟨p, oA, on, oc, ol, dA, dn, dc, dl⟩ :=
        ⟨.inl (Rw.alloc HRX.out (by omega) _), Rw.alloc HRDX.out (by omega) _, HN.out, HDN.out, hc, hdc⟩
      have hBF : Below gp w (W2.alloc (.cells (pmC ⟨p, oA, on, oc, ol, dA, dn, dc, dl⟩).toArray 26)) := HBX.out.alloc (by omega) _
      have HP4 := Lib.hid hP4
      have HO4 := Lib.hid hO4
      have HS := Lib.hid hS
      have HBF := Lib.hid hBF
      clear hP4 hO4 hS hBF
      go_wp2
      go_ret2
      exact ⟨0, _, 1, 1, [⟨p, oA, on, oc, ol, dA, dn, dc, dl⟩], rfl, HS.out, by rw [HGP.out]; exact HP4.out, by rw [HGP.out]; exact fun x hx => by simp at hx; subst hx; exact HO4.out, by rw [HGP.out]; exact HBF.out⟩
    · cases hwh : p.whole with
      | true =>
        have HS : Hid (splIs p ol dl m 5 []) := Lib.hid (.inr ⟨d, d2, .inr (.inl ⟨HE.out, by rw [HN.out, HDN.out]; omega, hwh, rfl, rfl⟩)⟩)
        rw [hwh] at q2
        clear hwh
        go_wp2
        go_ret2
        exact ⟨5, none, 0, 0, [], rfl, HS.out, PsAt.none_ _ _, PmsRd.nil _ _, by rw [HGP.out]; exact HBX.out⟩
      | false =>
        have HWH := Lib.hid hwh
        rw [hwh] at q2
        clear hwh
        go_wp2
        clear q0 q1 q2 q3 q4 q5 q6 q7 q8 q9 q10
        obtain ⟨R, hR⟩ : ∃ R, splitP p m ol dl = R := ⟨_, rfl⟩
        have HRR := Lib.hid hR
        have hoff : 0 ≤ p.off ∧ p.off ≤ 65528 := by
          rcases HE.out with ⟨_, h⟩ | ⟨_, _, h⟩ | ⟨_, _, _, _, h⟩ | ⟨h, _⟩
          · cases h
          · cases h
          · cases h
          · exact h.2.2.2.2.1
        have hgood : goodO ol = true := by
          rcases HE.out with ⟨_, h⟩ | ⟨_, _, h⟩ | ⟨_, _, _, _, h⟩ | ⟨_, _, h, _⟩
          · cases h
          · cases h
          · cases h
          · exact h
        have hfit : hdN on + dn ≤ 65535 := by
          rcases HE.out with ⟨_, h⟩ | ⟨_, _, h⟩ | ⟨_, _, _, _, h⟩ | ⟨_, _, _, h, _⟩
          · cases h
          · cases h
          · cases h
          · have := h.1; rw [HN.out, HDN.out] at this; exact this
        have HSR : Hid (RSplRel W2 gp p m ol dl R (.slice none 0 0) 0 W2) := Lib.hid
          ⟨dn + 1, [], none, 0, 0, rfl, PsAt.none_ _ _, PmsRd.nil _ _,
            by rw [← hR]; unfold splitP; rw [if_neg (by rw [HN.out, HDN.out]; omega), HDN.out]; simp [ropts], by rw [HDN.out]; omega, Nat.le_refl _, Below.refl _ _⟩
        clear hR
        go_loopw [7, 8] (fun v7 v8 wr => ∃ a : Nat, a ≤ dn ∧ v8 = .int .i64 a ∧ Hid (RSplRel W2 gp p m ol dl R v7 a wr)) (fun _ v8 _ => dn - (intOf v8).toNat)
        case atStart => exact ⟨0, Nat.zero_le _, rfl, HSR⟩
        case round =>
          obtain ⟨a, ha, rfl, HC⟩ := hrel
          obtain ⟨ff, L, A7, n7, c7, rfl, hP, hPm, hout, hff, hn7, hBr⟩ := HC.out
          have HP := Lib.hid hP
          have HPM := Lib.hid hPm
          have HOUT := Lib.hid hout
          have HBR := Lib.hid hBr
          have hff' : dn - a < ff := by have := HDN.out; omega
          have hmr := HMD.out.below hBr (Nat.lt_succ_self _)
          have hzr := hBr.size
          have HMR := Lib.hid hmr
          have y0 := hmr.cell 0
          have y1 := hmr.cell 1
          have y2 := hmr.cell 2
          have y3 := hmr.cell 3
          have y4 := hmr.cell 4
          have y5 := hmr.cell 5
          have y6 := hmr.cell 6
          have y7 := hmr.cell 7
          have y8 := hmr.cell 8
          have y9 := hmr.cell 9
          have y10 := hmr.cell 10
          simp only [pkC, List.getElem?_toArray, List.getElem?_cons_zero, List.getElem?_cons_succ] at y0 y1 y2 y3 y4 y5 y6 y7 y8 y9 y10
          clear hP hPm hout hBr HC hff hmr
          rcases Nat.lt_or_ge a dn with hpos | hend
          · obtain ⟨gx, hgx⟩ : ∃ gx, wr.heap.size = gx := ⟨_, rfl⟩
            obtain ⟨X0, hX0⟩ : ∃ X0, wr.alloc (.cells (pkC p (.slice oA on oc) (.slice dA dn dc)) 26) = X0 := ⟨_, rfl⟩
            have hx0 : Bk X0 gx 26 (pkC p (.slice oA on oc) (.slice dA dn dc)) := by rw [← hX0, ← hgx]; exact Bk.new wr _ _
            have hBX0 : Below gx wr X0 := by rw [← hX0, ← hgx]; exact (Below.refl _ _).alloc (Nat.le_refl _) _
            have hgpx : gp < gx := by omega
            have HX0 : Hid (wr.alloc (.cells #[.int .i64 p.svc, .int .i64 p.id, .bool p.whole, .bool p.more, .int .i64 p.off, .int .i64 p.life, .int .i64 p.proto, .int .u32 p.src, .int .u32 p.dst, .slice oA on oc, .slice dA dn dc] 26) = X0) := Lib.hid hX0
            have HGX := Lib.hid hgx
            have HX := Lib.hid hx0
            have HBX0 := Lib.hid hBX0
            have hpos' : (a : Int) < dn := by omega
            have hltx := hx0.lt
            have hne1 : gp ≠ gx := by omega
            have hne2 : gx ≠ gp := by omega
            have hmr0 := HMR.out.below hBX0 hgpx
            have v9 := hmr0.cell 9
            have v3 := hmr0.cell 3
            have v4 := hmr0.cell 4
            have v10 := hmr0.cell 10
            simp only [pkC, List.getElem?_toArray, List.getElem?_cons_zero, List.getElem?_cons_succ] at v9 v3 v4 v10
            have x0 := hx0.cell 0
            have x1 := hx0.cell 1
            have x2 := hx0.cell 2
            have x3 := hx0.cell 3
            have x4 := hx0.cell 4
            have x5 := hx0.cell 5
            have x6 := hx0.cell 6
            have x7 := hx0.cell 7
            have x8 := hx0.cell 8
            have x9 := hx0.cell 9
            have x10 := hx0.cell 10
            simp only [pkC, List.getElem?_toArray, List.getElem?_cons_zero, List.getElem?_cons_succ] at x0 x1 x2 x3 x4 x5 x6 x7 x8 x9 x10
            have xf9 := hx0.frozen 9
            clear hgx hX0 hx0 hBX0 hmr0
            rcases Nat.eq_zero_or_pos a with h0 | h0
            · subst h0
              have hx := HX.out
              have HX1 : Hid (Bk X0 gx 26 (pkC p (.slice oA on oc) (.slice dA dn dc))) := HX
              have HOP : Hid (RB X0 gp oA ol ∨ OB 5 X0 gp oA on oc ol) := Lib.hid (.inl (Rw.below (Rw.below HRX.out (HBR.out.mono (Nat.le_succ _))) (HBX0.out.mono (Nat.le_of_lt hgpx))))
              have HB1x : Hid (Below gx wr X0) := HBX0
              have HOPL : Hid (ol.length = on) := HN
              have HROP : Hid (ropts 0 ol = ol) := Lib.hid (by simp [ropts])
              have HX40 := HON
              have HCP := Lib.hid hc
              have hX1 : gx < X0.heap.size := hltx
              go_wp2_with fail
              rw [HX0.out, HGX.out]
              clear hx v9 v3 v4 v10 x0 x1 x2 x3 x4 x5 x6 x7 x8 x9 x10 xf9
              have hh60 := hdN_40 HX40.out
              have hxm : on ≤ 140737488355328 := by have := HX40.out; omega
              obtain ⟨room, hroom⟩ : ∃ room, roomN m on = room := ⟨_, rfl⟩
              have hroom2 : (m : Int) - hdN on = room := by rw [← hroom]; unfold roomN; omega
              have hw1 : IntKind.i64.wrap ((m : Int) - hdN on) = room := by rw [IntWalk.i64_in _ (by omega)]; exact hroom2
              have HROOM := Lib.hid hroom
              have hr8 : 8 ≤ room := by omega
              have hrm : (room : Int) ≤ 65535 := by omega
              clear hroom hroom2
              obtain ⟨rn, hrn⟩ : ∃ rn, dn - 0 = rn := ⟨_, rfl⟩
              have hwr : IntKind.i64.wrap ((dn : Int) - (0 : Nat)) = (rn : Int) := by rw [IntWalk.i64_in _ (by omega)]; omega
              have HRN := Lib.hid hrn
              have hrpos : 0 < rn := by omega
              have hrl : rn ≤ 65535 := by omega
              have hrn2 : dn = rn := by omega
              clear hrn
              subst hrn2
              have HMR1 := Lib.hid (HMR.out.below HB1x.out hgpx)
              refine (head_any p oA on oc _ hxm _).mono ?_
              rintro e6 w6 ⟨rfl, hB6⟩
              have hz6 := hB6.size
              have HX6 := Lib.hid (HX1.out.below hB6 hX1)
              have HMR6 := Lib.hid (HMR1.out.below hB6 (by omega))
              have HB6 := Lib.hid hB6
              clear hB6
              have f0 := (HX6.out).cell 0
              have f1 := (HX6.out).cell 1
              have f2 := (HX6.out).cell 2
              have f3 := (HX6.out).cell 3
              have f4 := (HX6.out).cell 4
              have f5 := (HX6.out).cell 5
              have f6 := (HX6.out).cell 6
              have f7 := (HX6.out).cell 7
              have f8 := (HX6.out).cell 8
              have f9 := (HX6.out).cell 9
              have f10 := (HX6.out).cell 10
              simp only [pkC, List.getElem?_toArray, List.getElem?_cons_zero, List.getElem?_cons_succ] at f0 f1 f2 f3 f4 f5 f6 f7 f8 f9 f10
              have g10 := (HMR6.out).cell 10
              simp only [pkC, List.getElem?_toArray, List.getElem?_cons_zero, List.getElem?_cons_succ] at g10
              go_wp2_with fail
              refine (head_any p oA on oc _ hxm _).mono ?_
              rintro e7 w7 ⟨rfl, hB7⟩
              have hz7 := hB7.size
              have HX7 := Lib.hid (HX6.out.below hB7 (by omega))
              have HMR7 := Lib.hid (HMR6.out.below hB7 (by omega))
              have HB7 := Lib.hid hB7
              clear hB7 f0 f1 f2 f3 f4 f5 f6 f7 f8 f9 f10 g10
              have f0 := (HX7.out).cell 0
              have f1 := (HX7.out).cell 1
              have f2 := (HX7.out).cell 2
              have f3 := (HX7.out).cell 3
              have f4 := (HX7.out).cell 4
              have f5 := (HX7.out).cell 5
              have f6 := (HX7.out).cell 6
              have f7 := (HX7.out).cell 7
              have f8 := (HX7.out).cell 8
              have f9 := (HX7.out).cell 9
              have f10 := (HX7.out).cell 10
              simp only [pkC, List.getElem?_toArray, List.getElem?_cons_zero, List.getElem?_cons_succ] at f0 f1 f2 f3 f4 f5 f6 f7 f8 f9 f10
              have g3 := (HMR7.out).cell 3
              have g4 := (HMR7.out).cell 4
              have g10 := (HMR7.out).cell 10
              simp only [pkC, List.getElem?_toArray, List.getElem?_cons_zero, List.getElem?_cons_succ] at g3 g4 g10
              have o3 := HX7.out.frozen 3
              have o4 := HX7.out.frozen 4
              have o10 := HX7.out.frozen 10
              rcases Decidable.em (room < dn) with g | g
              · rcases Bool.eq_false_or_eq_true p.more with hmo | hmo
                · have HMO := Lib.hid hmo
                  clear hmo
                  have hcmp : ¬ (dn : Int) ≤ room := by omega
                  obtain ⟨nn, hnn⟩ : ∃ nn, room / 8 * 8 = nn := ⟨_, rfl⟩
                  have hq1 : (room : Int) / 8 * 8 = (nn : Int) := by omega
                  have hnr : nn < dn := by omega
                  have HCUT : Hid (cutN m on dn = nn) := Lib.hid (by unfold cutN; rw [HROOM.out, if_pos (by omega)]; exact hnn)
                  have hnp : 0 < nn := by omega
                  have hlt9 : (0 : Nat) + (nn : Int) < dn := by have := HRN.out; omega
                  clear hnn
                  have hlt10 : ((nn : Int) < dn) := by omega
                  have HPMO : Hid ((p.more || decide (nn < dn)) = true) := Lib.hid (by rw [HMO.out]; rfl)
                  rw [HMO.out] at g3 f3
                  have hwo : IntKind.i64.wrap (p.off + (0 : Nat)) = p.off + (0 : Nat) := IntWalk.i64_in _ (by omega)
                  have hwa : IntKind.i64.wrap (((0 : Nat) : Int) + (nn : Int)) = ((0 + nn : Nat) : Int) := by rw [IntWalk.i64_in _ (by have := HRN.out; omega)]; omega
                  obtain ⟨X8, hX8⟩ : ∃ X8, ((w7.setCell ⟨gx, 4, none⟩ (.int .i64 (p.off))).setCell ⟨gx, 3, none⟩ (.bool true)).setCell ⟨gx, 10, none⟩ (.slice dA nn dc) = X8 := ⟨_, rfl⟩
                  have hx8 : Bk X8 gx 26 (pkC (piece p true (p.off)) (.slice oA on oc) (.slice dA nn dc)) := by rw [← hX8]; exact ((HX7.out.set 4 _).set 3 _).set 10 _
                  have hB78 : Below gx w7 X8 := by rw [← hX8]; exact Below.set1 (Below.set1 (Below.set1 (Below.refl gx w7) (Nat.le_refl _) _) (Nat.le_refl _) _) (Nat.le_refl _) _
                  have hB18 : Below X0.heap.size X0 w7 := HB6.out.trans (HB7.out.mono (by omega))
                  have hBw8 : Below gx wr X8 := (HB1x.out.trans (hB18.mono (by omega))).trans hB78
                  have hs8 : gx < X8.heap.size := hx8.lt
                  have hop8 : RB X8 gp oA ol ∨ OB 5 X8 gp oA on oc ol := .inl (Rw.below (Rw.below (Rw.below HRX.out (HBR.out.mono (Nat.le_succ _))) (HB1x.out.mono (by omega))) ((hB18.mono (by omega)).trans (hB78.mono (by omega))))
                  have hrd8 : RB X8 gp dA (dl.take nn) := by
                    have h := Rw.below HRDX.out (HBR.out.mono (Nat.le_succ _))
                    have h2 := Rw.below h (hBw8.mono (Nat.le_of_lt hgpx))
                    exact RB.take h2 nn
                  have hP8 : PsAt X8 (gp + 1) (.slice A7 n7 c7) n7 L := World.ownsRow_below HP.out (HGX.out ▸ hBw8)
                  have hPM8 : PmsRd X8 gp L := HPM.out.below (by have := HGX.out; omega) (HGX.out ▸ hBw8)
                  have HPM8 := Lib.hid hPM8
                  have HBW8 := Lib.hid hBw8
                  have HOP8 := Lib.hid hop8
                  have HRD8 := Lib.hid hrd8
                  have HS8 := Lib.hid hs8
                  have hsz8 : n7 ≤ 100000 := by omega
                  have hgp8 : gp + 1 ≤ X8.heap.size := by omega
                  have HX8 := Lib.hid hX8
                  have HP8 := Lib.hid hP8
                  have HQ8 : Hid (w7.heap.size = X8.heap.size) := Lib.hid (by rw [← hX8]; simp)
                  clear hX8 hx8 hB78 hBw8 hop8 hrd8 hPM8 hP8 hs8
                  go_wp2_with (at_builtin; rw [HX8.out]; (refine ap_pk rfl (.tmp 90) (.tmp 92) rfl (gp + 1) rfl HP8.out ⟨piece p true (p.off), oA, on, oc, ol, dA, nn, dc, dl.take nn⟩ rfl (congrArg (fun n => Value.slice (some ⟨n, 0, none⟩) 1 1) HQ8.out) hsz8 hgp8 ?_); intro v8 X9 hP9 hg9)
                  have hx9 : PmRd X8 gp ⟨piece p true (p.off), oA, on, oc, ol, dA, nn, dc, dl.take nn⟩ := ⟨HOP8.out, HRD8.out, HOPL.out, by have h1 := HDN.out; have h2 := HRN.out; simp only [List.length_take, List.length_drop]; omega, HCP.out, by have := HRN.out; show nn ≤ dc; omega⟩
                  have hB9 : Below (gp + 1) W2 X8 := HBR.out.trans (HBW8.out.mono (by omega))
                  have HNX : Hid (RSplRel W2 gp p m ol dl R v8 (0 + nn) X9) := Lib.hid (rspl_next HP8.out hP9 hg9 HPM8.out hx9 (mo := true) (a := 0) (by simp only [Pm.plain, HROP.out] <;> simp) HOUT.out
                    (by rw [HDN.out, HRN.out]; exact HPMO.out) (by rw [HROP.out, HOPL.out, HDN.out, HRN.out]; exact HCUT.out) (by rw [HDN.out]; exact hff') (by rw [HDN.out]; exact hpos) hnp hn7 hB9 (by have := HS8.out; omega))
                  clear hg9 hP9 hx9 hB9
                  have hAN : (0 : Int) + (nn : Int) = ((0 + nn : Nat) : Int) := by omega
                  go_wp2
                  go_roundw
                  case rel =>
                    exact ⟨0 + nn, by have := HRN.out; omega, by go_num, HNX⟩
                  case measure => simp [intOf]; have := HRN.out; omega
                · have HMO := Lib.hid hmo
                  clear hmo
                  have hcmp : ¬ (dn : Int) ≤ room := by omega
                  obtain ⟨nn, hnn⟩ : ∃ nn, room / 8 * 8 = nn := ⟨_, rfl⟩
                  have hq1 : (room : Int) / 8 * 8 = (nn : Int) := by omega
                  have hnr : nn < dn := by omega
                  have HCUT : Hid (cutN m on dn = nn) := Lib.hid (by unfold cutN; rw [HROOM.out, if_pos (by omega)]; exact hnn)
                  have hnp : 0 < nn := by omega
                  have hlt9 : (0 : Nat) + (nn : Int) < dn := by have := HRN.out; omega
                  clear hnn
                  have hlt10 : ((nn : Int) < dn) := by omega
                  have HPMO : Hid ((p.more || decide (nn < dn)) = true) := Lib.hid (by rw [HMO.out, decide_eq_true hnr]; rfl)
                  rw [HMO.out] at g3 f3
                  have hwo : IntKind.i64.wrap (p.off + (0 : Nat)) = p.off + (0 : Nat) := IntWalk.i64_in _ (by omega)
                  have hwa : IntKind.i64.wrap (((0 : Nat) : Int) + (nn : Int)) = ((0 + nn : Nat) : Int) := by rw [IntWalk.i64_in _ (by have := HRN.out; omega)]; omega
                  obtain ⟨X8, hX8⟩ : ∃ X8, ((w7.setCell ⟨gx, 4, none⟩ (.int .i64 (p.off))).setCell ⟨gx, 3, none⟩ (.bool true)).setCell ⟨gx, 10, none⟩ (.slice dA nn dc) = X8 := ⟨_, rfl⟩
                  have hx8 : Bk X8 gx 26 (pkC (piece p true (p.off)) (.slice oA on oc) (.slice dA nn dc)) := by rw [← hX8]; exact ((HX7.out.set 4 _).set 3 _).set 10 _
                  have hB78 : Below gx w7 X8 := by rw [← hX8]; exact Below.set1 (Below.set1 (Below.set1 (Below.refl gx w7) (Nat.le_refl _) _) (Nat.le_refl _) _) (Nat.le_refl _) _
                  have hB18 : Below X0.heap.size X0 w7 := HB6.out.trans (HB7.out.mono (by omega))
                  have hBw8 : Below gx wr X8 := (HB1x.out.trans (hB18.mono (by omega))).trans hB78
                  have hs8 : gx < X8.heap.size := hx8.lt
                  have hop8 : RB X8 gp oA ol ∨ OB 5 X8 gp oA on oc ol := .inl (Rw.below (Rw.below (Rw.below HRX.out (HBR.out.mono (Nat.le_succ _))) (HB1x.out.mono (by omega))) ((hB18.mono (by omega)).trans (hB78.mono (by omega))))
                  have hrd8 : RB X8 gp dA (dl.take nn) := by
                    have h := Rw.below HRDX.out (HBR.out.mono (Nat.le_succ _))
                    have h2 := Rw.below h (hBw8.mono (Nat.le_of_lt hgpx))
                    exact RB.take h2 nn
                  have hP8 : PsAt X8 (gp + 1) (.slice A7 n7 c7) n7 L := World.ownsRow_below HP.out (HGX.out ▸ hBw8)
                  have hPM8 : PmsRd X8 gp L := HPM.out.below (by have := HGX.out; omega) (HGX.out ▸ hBw8)
                  have HPM8 := Lib.hid hPM8
                  have HBW8 := Lib.hid hBw8
                  have HOP8 := Lib.hid hop8
                  have HRD8 := Lib.hid hrd8
                  have HS8 := Lib.hid hs8
                  have hsz8 : n7 ≤ 100000 := by omega
                  have hgp8 : gp + 1 ≤ X8.heap.size := by omega
                  have HX8 := Lib.hid hX8
                  have HP8 := Lib.hid hP8
                  have HQ8 : Hid (w7.heap.size = X8.heap.size) := Lib.hid (by rw [← hX8]; simp)
                  clear hX8 hx8 hB78 hBw8 hop8 hrd8 hPM8 hP8 hs8
                  go_wp2_with (at_builtin; rw [HX8.out]; (refine ap_pk rfl (.tmp 90) (.tmp 92) rfl (gp + 1) rfl HP8.out ⟨piece p true (p.off), oA, on, oc, ol, dA, nn, dc, dl.take nn⟩ rfl (congrArg (fun n => Value.slice (some ⟨n, 0, none⟩) 1 1) HQ8.out) hsz8 hgp8 ?_); intro v8 X9 hP9 hg9)
                  have hx9 : PmRd X8 gp ⟨piece p true (p.off), oA, on, oc, ol, dA, nn, dc, dl.take nn⟩ := ⟨HOP8.out, HRD8.out, HOPL.out, by have h1 := HDN.out; have h2 := HRN.out; simp only [List.length_take, List.length_drop]; omega, HCP.out, by have := HRN.out; show nn ≤ dc; omega⟩
                  have hB9 : Below (gp + 1) W2 X8 := HBR.out.trans (HBW8.out.mono (by omega))
                  have HNX : Hid (RSplRel W2 gp p m ol dl R v8 (0 + nn) X9) := Lib.hid (rspl_next HP8.out hP9 hg9 HPM8.out hx9 (mo := true) (a := 0) (by simp only [Pm.plain, HROP.out] <;> simp) HOUT.out
                    (by rw [HDN.out, HRN.out]; exact HPMO.out) (by rw [HROP.out, HOPL.out, HDN.out, HRN.out]; exact HCUT.out) (by rw [HDN.out]; exact hff') (by rw [HDN.out]; exact hpos) hnp hn7 hB9 (by have := HS8.out; omega))
                  clear hg9 hP9 hx9 hB9
                  have hAN : (0 : Int) + (nn : Int) = ((0 + nn : Nat) : Int) := by omega
                  go_wp2
                  go_roundw
                  case rel =>
                    exact ⟨0 + nn, by have := HRN.out; omega, by go_num, HNX⟩
                  case measure => simp [intOf]; have := HRN.out; omega
              · rcases Bool.eq_false_or_eq_true p.more with hmo | hmo
                · have HMO := Lib.hid hmo
                  clear hmo
                  have hcmp : (dn : Int) ≤ room := by omega
                  have HCUT : Hid (cutN m on dn = dn) := Lib.hid (by unfold cutN; rw [HROOM.out, if_neg (by omega)])
                  have hnp : 0 < dn := hrpos
                  have hlt9 : ¬ (0 : Nat) + (dn : Int) < dn := by have := HRN.out; omega
                  have hlt12 : ((0 : Nat) : Int) + (dn : Int) ≤ (dc : Int) := by have := HRN.out; omega
                  have hlt11 : decide (((0 : Nat) : Int) + (dn : Int) < (dn : Int)) = false := decide_eq_false hlt9
                  have hlt10 : ¬ ((dn : Int) < dn) := by omega
                  have HPMO : Hid ((p.more || decide (dn < dn)) = true) := Lib.hid (by rw [HMO.out]; rfl)
                  rw [HMO.out] at g3 f3
                  have hwo : IntKind.i64.wrap (p.off + (0 : Nat)) = p.off + (0 : Nat) := IntWalk.i64_in _ (by omega)
                  have hwa : IntKind.i64.wrap (((0 : Nat) : Int) + (dn : Int)) = ((0 + dn : Nat) : Int) := by rw [IntWalk.i64_in _ (by have := HRN.out; omega)]; omega
                  obtain ⟨X8, hX8⟩ : ∃ X8, ((w7.setCell ⟨gx, 4, none⟩ (.int .i64 (p.off))).setCell ⟨gx, 3, none⟩ (.bool true)).setCell ⟨gx, 10, none⟩ (.slice dA dn dc) = X8 := ⟨_, rfl⟩
                  have hx8 : Bk X8 gx 26 (pkC (piece p true (p.off)) (.slice oA on oc) (.slice dA dn dc)) := by rw [← hX8]; exact ((HX7.out.set 4 _).set 3 _).set 10 _
                  have hB78 : Below gx w7 X8 := by rw [← hX8]; exact Below.set1 (Below.set1 (Below.set1 (Below.refl gx w7) (Nat.le_refl _) _) (Nat.le_refl _) _) (Nat.le_refl _) _
                  have hB18 : Below X0.heap.size X0 w7 := HB6.out.trans (HB7.out.mono (by omega))
                  have hBw8 : Below gx wr X8 := (HB1x.out.trans (hB18.mono (by omega))).trans hB78
                  have hs8 : gx < X8.heap.size := hx8.lt
                  have hop8 : RB X8 gp oA ol ∨ OB 5 X8 gp oA on oc ol := .inl (Rw.below (Rw.below (Rw.below HRX.out (HBR.out.mono (Nat.le_succ _))) (HB1x.out.mono (by omega))) ((hB18.mono (by omega)).trans (hB78.mono (by omega))))
                  have hrd8 : RB X8 gp dA (dl.take dn) := by
                    have h := Rw.below HRDX.out (HBR.out.mono (Nat.le_succ _))
                    have h2 := Rw.below h (hBw8.mono (Nat.le_of_lt hgpx))
                    exact RB.take h2 dn
                  have hP8 : PsAt X8 (gp + 1) (.slice A7 n7 c7) n7 L := World.ownsRow_below HP.out (HGX.out ▸ hBw8)
                  have hPM8 : PmsRd X8 gp L := HPM.out.below (by have := HGX.out; omega) (HGX.out ▸ hBw8)
                  have HPM8 := Lib.hid hPM8
                  have HBW8 := Lib.hid hBw8
                  have HOP8 := Lib.hid hop8
                  have HRD8 := Lib.hid hrd8
                  have HS8 := Lib.hid hs8
                  have hsz8 : n7 ≤ 100000 := by omega
                  have hgp8 : gp + 1 ≤ X8.heap.size := by omega
                  have HX8 := Lib.hid hX8
                  have HP8 := Lib.hid hP8
                  have HQ8 : Hid (w7.heap.size = X8.heap.size) := Lib.hid (by rw [← hX8]; simp)
                  clear hX8 hx8 hB78 hBw8 hop8 hrd8 hPM8 hP8 hs8
                  go_wp2_with (at_builtin; rw [HX8.out]; (refine ap_pk rfl (.tmp 90) (.tmp 92) rfl (gp + 1) rfl HP8.out ⟨piece p true (p.off), oA, on, oc, ol, dA, dn, dc, dl.take dn⟩ rfl (congrArg (fun n => Value.slice (some ⟨n, 0, none⟩) 1 1) HQ8.out) hsz8 hgp8 ?_); intro v8 X9 hP9 hg9)
                  have hx9 : PmRd X8 gp ⟨piece p true (p.off), oA, on, oc, ol, dA, dn, dc, dl.take dn⟩ := ⟨HOP8.out, HRD8.out, HOPL.out, by have h1 := HDN.out; have h2 := HRN.out; simp only [List.length_take, List.length_drop]; omega, HCP.out, by have := HRN.out; show dn ≤ dc; omega⟩
                  have hB9 : Below (gp + 1) W2 X8 := HBR.out.trans (HBW8.out.mono (by omega))
                  have HNX : Hid (RSplRel W2 gp p m ol dl R v8 (0 + dn) X9) := Lib.hid (rspl_next HP8.out hP9 hg9 HPM8.out hx9 (mo := true) (a := 0) (by simp only [Pm.plain, HROP.out] <;> simp) HOUT.out
                    (by rw [HDN.out, HRN.out]; exact HPMO.out) (by rw [HROP.out, HOPL.out, HDN.out, HRN.out]; exact HCUT.out) (by rw [HDN.out]; exact hff') (by rw [HDN.out]; exact hpos) hnp hn7 hB9 (by have := HS8.out; omega))
                  clear hg9 hP9 hx9 hB9
                  have hAN : (0 : Int) + (dn : Int) = ((0 + dn : Nat) : Int) := by omega
                  go_wp2
                  go_roundw
                  case rel =>
                    exact ⟨0 + dn, by have := HRN.out; omega, by go_num, HNX⟩
                  case measure => simp [intOf]; have := HRN.out; omega
                · have HMO := Lib.hid hmo
                  clear hmo
                  have hcmp : (dn : Int) ≤ room := by omega
                  have HCUT : Hid (cutN m on dn = dn) := Lib.hid (by unfold cutN; rw [HROOM.out, if_neg (by omega)])
                  have hnp : 0 < dn := hrpos
                  have hlt9 : ¬ (0 : Nat) + (dn : Int) < dn := by have := HRN.out; omega
                  have hlt12 : ((0 : Nat) : Int) + (dn : Int) ≤ (dc : Int) := by have := HRN.out; omega
                  have hlt11 : decide (((0 : Nat) : Int) + (dn : Int) < (dn : Int)) = false := decide_eq_false hlt9
                  have hlt10 : ¬ ((dn : Int) < dn) := by omega
                  have HPMO : Hid ((p.more || decide (dn < dn)) = false) := Lib.hid (by rw [HMO.out]; simp)
                  rw [HMO.out] at g3 f3
                  have hwo : IntKind.i64.wrap (p.off + (0 : Nat)) = p.off + (0 : Nat) := IntWalk.i64_in _ (by omega)
                  have hwa : IntKind.i64.wrap (((0 : Nat) : Int) + (dn : Int)) = ((0 + dn : Nat) : Int) := by rw [IntWalk.i64_in _ (by have := HRN.out; omega)]; omega
                  obtain ⟨X8, hX8⟩ : ∃ X8, ((w7.setCell ⟨gx, 4, none⟩ (.int .i64 (p.off))).setCell ⟨gx, 3, none⟩ (.bool false)).setCell ⟨gx, 10, none⟩ (.slice dA dn dc) = X8 := ⟨_, rfl⟩
                  have hx8 : Bk X8 gx 26 (pkC (piece p false (p.off)) (.slice oA on oc) (.slice dA dn dc)) := by rw [← hX8]; exact ((HX7.out.set 4 _).set 3 _).set 10 _
                  have hB78 : Below gx w7 X8 := by rw [← hX8]; exact Below.set1 (Below.set1 (Below.set1 (Below.refl gx w7) (Nat.le_refl _) _) (Nat.le_refl _) _) (Nat.le_refl _) _
                  have hB18 : Below X0.heap.size X0 w7 := HB6.out.trans (HB7.out.mono (by omega))
                  have hBw8 : Below gx wr X8 := (HB1x.out.trans (hB18.mono (by omega))).trans hB78
                  have hs8 : gx < X8.heap.size := hx8.lt
                  have hop8 : RB X8 gp oA ol ∨ OB 5 X8 gp oA on oc ol := .inl (Rw.below (Rw.below (Rw.below HRX.out (HBR.out.mono (Nat.le_succ _))) (HB1x.out.mono (by omega))) ((hB18.mono (by omega)).trans (hB78.mono (by omega))))
                  have hrd8 : RB X8 gp dA (dl.take dn) := by
                    have h := Rw.below HRDX.out (HBR.out.mono (Nat.le_succ _))
                    have h2 := Rw.below h (hBw8.mono (Nat.le_of_lt hgpx))
                    exact RB.take h2 dn
                  have hP8 : PsAt X8 (gp + 1) (.slice A7 n7 c7) n7 L := World.ownsRow_below HP.out (HGX.out ▸ hBw8)
                  have hPM8 : PmsRd X8 gp L := HPM.out.below (by have := HGX.out; omega) (HGX.out ▸ hBw8)
                  have HPM8 := Lib.hid hPM8
                  have HBW8 := Lib.hid hBw8
                  have HOP8 := Lib.hid hop8
                  have HRD8 := Lib.hid hrd8
                  have HS8 := Lib.hid hs8
                  have hsz8 : n7 ≤ 100000 := by omega
                  have hgp8 : gp + 1 ≤ X8.heap.size := by omega
                  have HX8 := Lib.hid hX8
                  have HP8 := Lib.hid hP8
                  have HQ8 : Hid (w7.heap.size = X8.heap.size) := Lib.hid (by rw [← hX8]; simp)
                  clear hX8 hx8 hB78 hBw8 hop8 hrd8 hPM8 hP8 hs8
                  go_wp2_with (at_builtin; rw [HX8.out]; (refine ap_pk rfl (.tmp 90) (.tmp 92) rfl (gp + 1) rfl HP8.out ⟨piece p false (p.off), oA, on, oc, ol, dA, dn, dc, dl.take dn⟩ rfl (congrArg (fun n => Value.slice (some ⟨n, 0, none⟩) 1 1) HQ8.out) hsz8 hgp8 ?_); intro v8 X9 hP9 hg9)
                  have hx9 : PmRd X8 gp ⟨piece p false (p.off), oA, on, oc, ol, dA, dn, dc, dl.take dn⟩ := ⟨HOP8.out, HRD8.out, HOPL.out, by have h1 := HDN.out; have h2 := HRN.out; simp only [List.length_take, List.length_drop]; omega, HCP.out, by have := HRN.out; show dn ≤ dc; omega⟩
                  have hB9 : Below (gp + 1) W2 X8 := HBR.out.trans (HBW8.out.mono (by omega))
                  have HNX : Hid (RSplRel W2 gp p m ol dl R v8 (0 + dn) X9) := Lib.hid (rspl_next HP8.out hP9 hg9 HPM8.out hx9 (mo := false) (a := 0) (by simp only [Pm.plain, HROP.out] <;> simp) HOUT.out
                    (by rw [HDN.out, HRN.out]; exact HPMO.out) (by rw [HROP.out, HOPL.out, HDN.out, HRN.out]; exact HCUT.out) (by rw [HDN.out]; exact hff') (by rw [HDN.out]; exact hpos) hnp hn7 hB9 (by have := HS8.out; omega))
                  clear hg9 hP9 hx9 hB9
                  have hAN : (0 : Int) + (dn : Int) = ((0 + dn : Nat) : Int) := by omega
                  go_wp2
                  go_roundw
                  case rel =>
                    exact ⟨0 + dn, by have := HRN.out; omega, by go_num, HNX⟩
                  case measure => simp [intOf]; have := HRN.out; omega
            · have ha0 : (0 : Int) < a := by omega
              have HCOP : Hid (Calls Try.prog 33 #[.slice oA on oc] X0 fun e w' => ∃ A n c, e = .returned (.slice A n c) ∧ OB 5 w' X0.heap.size A n c (copO ol) ∧ Below X0.heap.size X0 w') := Lib.hid (rcop_any oA on oc gp ol HN.out hc (by have := HON.out; omega) hb hgood X0 (Rw.below (Rw.below HRX.out (HBR.out.mono (Nat.le_succ _))) (HBX0.out.mono (Nat.le_of_lt hgpx))) (by omega))
              have v9' := v9
              rw [← HX0.out] at v9'
              go_wp2_with fail
              rw [HX0.out, HGX.out]
              refine HCOP.out.mono ?_
              rintro e5 w' ⟨A5, n5, c5, rfl, hO5, hB5⟩
              have hz5 := hB5.size
              have hx5 := HX.out.below hB5 hltx
              have HX5 := Lib.hid (hx5.set 9 (.slice A5 n5 c5))
              have xf9' := hx5.frozen 9
              have k0 := hx5.cell 0
              have k1 := hx5.cell 1
              have k2 := hx5.cell 2
              have k3 := hx5.cell 3
              have k4 := hx5.cell 4
              have k5 := hx5.cell 5
              have k6 := hx5.cell 6
              have k7 := hx5.cell 7
              have k8 := hx5.cell 8
              have k9 := hx5.cell 9
              have k10 := hx5.cell 10
              simp only [pkC, List.getElem?_toArray, List.getElem?_cons_zero, List.getElem?_cons_succ] at k0 k1 k2 k3 k4 k5 k6 k7 k8 k9 k10
              have hne5 : blk A5 ≠ some gx := fun e => absurd (Ow.lt hO5 gx e).1 (by omega)
              have HO5 := Lib.hid (OB.set1 (g := gx) (o := 9) hO5 hne5 (.slice A5 n5 c5))
              have HB5 := Lib.hid hB5
              clear hO5 hB5 hx5 v9' v9 v3 v4 v10 x0 x1 x2 x3 x4 x5 x6 x7 x8 x9 x10 xf9
              go_wp2_with fail
              obtain ⟨X1, hX1e⟩ : ∃ X1, w'.setCell ⟨gx, 9, none⟩ (.slice A5 n5 c5) = X1 := ⟨_, rfl⟩
              rw [hX1e]
              have HX1 : Hid (Bk X1 gx 26 (pkC p (.slice A5 n5 c5) (.slice dA dn dc))) := Lib.hid (hX1e ▸ HX5.out)
              have HOB : Hid (OB 5 X1 X0.heap.size A5 n5 c5 (copO ol)) := Lib.hid (hX1e ▸ HO5.out)
              have HOP : Hid (RB X1 gp A5 (copO ol) ∨ OB 5 X1 gp A5 n5 c5 (copO ol)) := Lib.hid (.inr (Ow.mono HOB.out (by omega)))
              have HB1x : Hid (Below gx wr X1) := Lib.hid (hX1e ▸ Below.set1 (HBX0.out.trans (HB5.out.mono (Nat.le_of_lt hltx))) (Nat.le_refl _) _)
              have HOPL : Hid ((copO ol).length = n5) := Lib.hid (OB.length HOB.out)
              have HROP : Hid (ropts a ol = copO ol) := Lib.hid (by simp [ropts]; omega)
              have HX40 : Hid (n5 ≤ 40) := Lib.hid (by have h1 := HOPL.out; have h2 := copO_len hgood; have h3 := HN.out; have h4 := HON.out; omega)
              have HCP : Hid (n5 ≤ c5) := Lib.hid (Ow.cap HOB.out)
              have hX1 : gx < X1.heap.size := HX1.out.lt
              clear hX1e HO5 HX5 hne5 k0 k1 k2 k3 k4 k5 k6 k7 k8 k9 k10 xf9'
              have hh60 := hdN_40 HX40.out
              have HNE : Hid (blk A5 ≠ some gx) := Lib.hid (fun e => absurd (Ow.lt HOB.out gx e).1 (by omega))
              have hxm : n5 ≤ 140737488355328 := by have := HX40.out; omega
              obtain ⟨room, hroom⟩ : ∃ room, roomN m n5 = room := ⟨_, rfl⟩
              have hroom2 : (m : Int) - hdN n5 = room := by rw [← hroom]; unfold roomN; omega
              have hw1 : IntKind.i64.wrap ((m : Int) - hdN n5) = room := by rw [IntWalk.i64_in _ (by omega)]; exact hroom2
              have HROOM := Lib.hid hroom
              have hr8 : 8 ≤ room := by omega
              have hrm : (room : Int) ≤ 65535 := by omega
              clear hroom hroom2
              obtain ⟨rn, hrn⟩ : ∃ rn, dn - a = rn := ⟨_, rfl⟩
              have hwr : IntKind.i64.wrap ((dn : Int) - (a : Nat)) = (rn : Int) := by rw [IntWalk.i64_in _ (by omega)]; omega
              have HRN := Lib.hid hrn
              have hrpos : 0 < rn := by omega
              have hrl : rn ≤ 65535 := by omega
              clear hrn
              have HMR1 := Lib.hid (HMR.out.below HB1x.out hgpx)
              refine (head_any p A5 n5 c5 _ hxm _).mono ?_
              rintro e6 w6 ⟨rfl, hB6⟩
              have hz6 := hB6.size
              have HX6 := Lib.hid (HX1.out.below hB6 hX1)
              have HMR6 := Lib.hid (HMR1.out.below hB6 (by omega))
              have HB6 := Lib.hid hB6
              clear hB6
              have f0 := (HX6.out).cell 0
              have f1 := (HX6.out).cell 1
              have f2 := (HX6.out).cell 2
              have f3 := (HX6.out).cell 3
              have f4 := (HX6.out).cell 4
              have f5 := (HX6.out).cell 5
              have f6 := (HX6.out).cell 6
              have f7 := (HX6.out).cell 7
              have f8 := (HX6.out).cell 8
              have f9 := (HX6.out).cell 9
              have f10 := (HX6.out).cell 10
              simp only [pkC, List.getElem?_toArray, List.getElem?_cons_zero, List.getElem?_cons_succ] at f0 f1 f2 f3 f4 f5 f6 f7 f8 f9 f10
              have g10 := (HMR6.out).cell 10
              simp only [pkC, List.getElem?_toArray, List.getElem?_cons_zero, List.getElem?_cons_succ] at g10
              go_wp2_with fail
              refine (head_any p A5 n5 c5 _ hxm _).mono ?_
              rintro e7 w7 ⟨rfl, hB7⟩
              have hz7 := hB7.size
              have HX7 := Lib.hid (HX6.out.below hB7 (by omega))
              have HMR7 := Lib.hid (HMR6.out.below hB7 (by omega))
              have HB7 := Lib.hid hB7
              clear hB7 f0 f1 f2 f3 f4 f5 f6 f7 f8 f9 f10 g10
              have f0 := (HX7.out).cell 0
              have f1 := (HX7.out).cell 1
              have f2 := (HX7.out).cell 2
              have f3 := (HX7.out).cell 3
              have f4 := (HX7.out).cell 4
              have f5 := (HX7.out).cell 5
              have f6 := (HX7.out).cell 6
              have f7 := (HX7.out).cell 7
              have f8 := (HX7.out).cell 8
              have f9 := (HX7.out).cell 9
              have f10 := (HX7.out).cell 10
              simp only [pkC, List.getElem?_toArray, List.getElem?_cons_zero, List.getElem?_cons_succ] at f0 f1 f2 f3 f4 f5 f6 f7 f8 f9 f10
              have g3 := (HMR7.out).cell 3
              have g4 := (HMR7.out).cell 4
              have g10 := (HMR7.out).cell 10
              simp only [pkC, List.getElem?_toArray, List.getElem?_cons_zero, List.getElem?_cons_succ] at g3 g4 g10
              have o3 := HX7.out.frozen 3
              have o4 := HX7.out.frozen 4
              have o10 := HX7.out.frozen 10
              rcases Decidable.em (room < rn) with g | g
              · rcases Bool.eq_false_or_eq_true p.more with hmo | hmo
                · have HMO := Lib.hid hmo
                  clear hmo
                  have hcmp : ¬ (rn : Int) ≤ room := by omega
                  obtain ⟨nn, hnn⟩ : ∃ nn, room / 8 * 8 = nn := ⟨_, rfl⟩
                  have hq1 : (room : Int) / 8 * 8 = (nn : Int) := by omega
                  have hnr : nn < rn := by omega
                  have HCUT : Hid (cutN m n5 rn = nn) := Lib.hid (by unfold cutN; rw [HROOM.out, if_pos (by omega)]; exact hnn)
                  have hnp : 0 < nn := by omega
                  have hlt9 : (a : Nat) + (nn : Int) < dn := by have := HRN.out; omega
                  clear hnn
                  have HPMO : Hid ((p.more || decide (nn < rn)) = true) := Lib.hid (by rw [HMO.out]; rfl)
                  rw [HMO.out] at g3 f3
                  have hwo : IntKind.i64.wrap (p.off + (a : Nat)) = p.off + (a : Nat) := IntWalk.i64_in _ (by omega)
                  have hwa : IntKind.i64.wrap (((a : Nat) : Int) + (nn : Int)) = ((a + nn : Nat) : Int) := by rw [IntWalk.i64_in _ (by have := HRN.out; omega)]; omega
                  obtain ⟨X8, hX8⟩ : ∃ X8, ((w7.setCell ⟨gx, 4, none⟩ (.int .i64 (p.off + (a : Nat)))).setCell ⟨gx, 3, none⟩ (.bool true)).setCell ⟨gx, 10, none⟩ (.slice (Option.map (fun x => Addr.add x a) dA) nn (dc - a)) = X8 := ⟨_, rfl⟩
                  have hx8 : Bk X8 gx 26 (pkC (piece p true (p.off + (a : Nat))) (.slice A5 n5 c5) (.slice (Option.map (fun x => Addr.add x a) dA) nn (dc - a))) := by rw [← hX8]; exact ((HX7.out.set 4 _).set 3 _).set 10 _
                  have hB78 : Below gx w7 X8 := by rw [← hX8]; exact Below.set1 (Below.set1 (Below.set1 (Below.refl gx w7) (Nat.le_refl _) _) (Nat.le_refl _) _) (Nat.le_refl _) _
                  have hB18 : Below X1.heap.size X1 w7 := HB6.out.trans (HB7.out.mono (by omega))
                  have hBw8 : Below gx wr X8 := (HB1x.out.trans (hB18.mono (by omega))).trans hB78
                  have hs8 : gx < X8.heap.size := hx8.lt
                  have hop8 : RB X8 gp A5 (copO ol) ∨ OB 5 X8 gp A5 n5 c5 (copO ol) := by
                    have h7 := Ow.mono (Ow.stays HOB.out hB18) (show gp ≤ X0.heap.size by omega)
                    rw [← hX8]
                    exact .inr (OB.set1 (g := gx) (OB.set1 (g := gx) (OB.set1 (g := gx) h7 HNE.out _) HNE.out _) HNE.out _)
                  have hrd8 : RB X8 gp (Option.map (fun x => Addr.add x a) dA) ((dl.drop a).take nn) := by
                    have h := Rw.below HRDX.out (HBR.out.mono (Nat.le_succ _))
                    have h2 := Rw.below h (hBw8.mono (Nat.le_of_lt hgpx))
                    exact RB.take (by have q := RB.cut h2 dc a (by have := HDN.out; omega); rw [if_neg (by omega)] at q; exact q) nn
                  have hP8 : PsAt X8 (gp + 1) (.slice A7 n7 c7) n7 L := World.ownsRow_below HP.out (HGX.out ▸ hBw8)
                  have hPM8 : PmsRd X8 gp L := HPM.out.below (by have := HGX.out; omega) (HGX.out ▸ hBw8)
                  have HPM8 := Lib.hid hPM8
                  have HBW8 := Lib.hid hBw8
                  have HOP8 := Lib.hid hop8
                  have HRD8 := Lib.hid hrd8
                  have HS8 := Lib.hid hs8
                  have hsz8 : n7 ≤ 100000 := by omega
                  have hgp8 : gp + 1 ≤ X8.heap.size := by omega
                  have HX8 := Lib.hid hX8
                  have HP8 := Lib.hid hP8
                  have HQ8 : Hid (w7.heap.size = X8.heap.size) := Lib.hid (by rw [← hX8]; simp)
                  clear hX8 hx8 hB78 hBw8 hop8 hrd8 hPM8 hP8 hs8
                  go_wp2_with (at_builtin; rw [HX8.out]; (refine ap_pk rfl (.tmp 90) (.tmp 92) rfl (gp + 1) rfl HP8.out ⟨piece p true (p.off + (a : Nat)), A5, n5, c5, (copO ol), (Option.map (fun x => Addr.add x a) dA), nn, (dc - a), (dl.drop a).take nn⟩ rfl (congrArg (fun n => Value.slice (some ⟨n, 0, none⟩) 1 1) HQ8.out) hsz8 hgp8 ?_); intro v8 X9 hP9 hg9)
                  have hx9 : PmRd X8 gp ⟨piece p true (p.off + (a : Nat)), A5, n5, c5, (copO ol), (Option.map (fun x => Addr.add x a) dA), nn, (dc - a), (dl.drop a).take nn⟩ := ⟨HOP8.out, HRD8.out, HOPL.out, by have h1 := HDN.out; have h2 := HRN.out; simp only [List.length_take, List.length_drop]; omega, HCP.out, by have := HRN.out; show nn ≤ (dc - a); omega⟩
                  have hB9 : Below (gp + 1) W2 X8 := HBR.out.trans (HBW8.out.mono (by omega))
                  have HNX : Hid (RSplRel W2 gp p m ol dl R v8 (a + nn) X9) := Lib.hid (rspl_next HP8.out hP9 hg9 HPM8.out hx9 (mo := true) (a := a) (by simp only [Pm.plain, HROP.out] <;> simp) HOUT.out
                    (by rw [HDN.out, HRN.out]; exact HPMO.out) (by rw [HROP.out, HOPL.out, HDN.out, HRN.out]; exact HCUT.out) (by rw [HDN.out]; exact hff') (by rw [HDN.out]; exact hpos) hnp hn7 hB9 (by have := HS8.out; omega))
                  clear hg9 hP9 hx9 hB9
                  have hAN : (a : Int) + (nn : Int) = ((a + nn : Nat) : Int) := by omega
                  go_wp2
                  go_roundw
                  case rel =>
                    exact ⟨a + nn, by have := HRN.out; omega, by go_num, HNX⟩
                  case measure => simp [intOf]; have := HRN.out; omega
                · have HMO := Lib.hid hmo
                  clear hmo
                  have hcmp : ¬ (rn : Int) ≤ room := by omega
                  obtain ⟨nn, hnn⟩ : ∃ nn, room / 8 * 8 = nn := ⟨_, rfl⟩
                  have hq1 : (room : Int) / 8 * 8 = (nn : Int) := by omega
                  have hnr : nn < rn := by omega
                  have HCUT : Hid (cutN m n5 rn = nn) := Lib.hid (by unfold cutN; rw [HROOM.out, if_pos (by omega)]; exact hnn)
                  have hnp : 0 < nn := by omega
                  have hlt9 : (a : Nat) + (nn : Int) < dn := by have := HRN.out; omega
                  clear hnn
                  have HPMO : Hid ((p.more || decide (nn < rn)) = true) := Lib.hid (by rw [HMO.out, decide_eq_true hnr]; rfl)
                  rw [HMO.out] at g3 f3
                  have hwo : IntKind.i64.wrap (p.off + (a : Nat)) = p.off + (a : Nat) := IntWalk.i64_in _ (by omega)
                  have hwa : IntKind.i64.wrap (((a : Nat) : Int) + (nn : Int)) = ((a + nn : Nat) : Int) := by rw [IntWalk.i64_in _ (by have := HRN.out; omega)]; omega
                  obtain ⟨X8, hX8⟩ : ∃ X8, ((w7.setCell ⟨gx, 4, none⟩ (.int .i64 (p.off + (a : Nat)))).setCell ⟨gx, 3, none⟩ (.bool true)).setCell ⟨gx, 10, none⟩ (.slice (Option.map (fun x => Addr.add x a) dA) nn (dc - a)) = X8 := ⟨_, rfl⟩
                  have hx8 : Bk X8 gx 26 (pkC (piece p true (p.off + (a : Nat))) (.slice A5 n5 c5) (.slice (Option.map (fun x => Addr.add x a) dA) nn (dc - a))) := by rw [← hX8]; exact ((HX7.out.set 4 _).set 3 _).set 10 _
                  have hB78 : Below gx w7 X8 := by rw [← hX8]; exact Below.set1 (Below.set1 (Below.set1 (Below.refl gx w7) (Nat.le_refl _) _) (Nat.le_refl _) _) (Nat.le_refl _) _
                  have hB18 : Below X1.heap.size X1 w7 := HB6.out.trans (HB7.out.mono (by omega))
                  have hBw8 : Below gx wr X8 := (HB1x.out.trans (hB18.mono (by omega))).trans hB78
                  have hs8 : gx < X8.heap.size := hx8.lt
                  have hop8 : RB X8 gp A5 (copO ol) ∨ OB 5 X8 gp A5 n5 c5 (copO ol) := by
                    have h7 := Ow.mono (Ow.stays HOB.out hB18) (show gp ≤ X0.heap.size by omega)
                    rw [← hX8]
                    exact .inr (OB.set1 (g := gx) (OB.set1 (g := gx) (OB.set1 (g := gx) h7 HNE.out _) HNE.out _) HNE.out _)
                  have hrd8 : RB X8 gp (Option.map (fun x => Addr.add x a) dA) ((dl.drop a).take nn) := by
                    have h := Rw.below HRDX.out (HBR.out.mono (Nat.le_succ _))
                    have h2 := Rw.below h (hBw8.mono (Nat.le_of_lt hgpx))
                    exact RB.take (by have q := RB.cut h2 dc a (by have := HDN.out; omega); rw [if_neg (by omega)] at q; exact q) nn
                  have hP8 : PsAt X8 (gp + 1) (.slice A7 n7 c7) n7 L := World.ownsRow_below HP.out (HGX.out ▸ hBw8)
                  have hPM8 : PmsRd X8 gp L := HPM.out.below (by have := HGX.out; omega) (HGX.out ▸ hBw8)
                  have HPM8 := Lib.hid hPM8
                  have HBW8 := Lib.hid hBw8
                  have HOP8 := Lib.hid hop8
                  have HRD8 := Lib.hid hrd8
                  have HS8 := Lib.hid hs8
                  have hsz8 : n7 ≤ 100000 := by omega
                  have hgp8 : gp + 1 ≤ X8.heap.size := by omega
                  have HX8 := Lib.hid hX8
                  have HP8 := Lib.hid hP8
                  have HQ8 : Hid (w7.heap.size = X8.heap.size) := Lib.hid (by rw [← hX8]; simp)
                  clear hX8 hx8 hB78 hBw8 hop8 hrd8 hPM8 hP8 hs8
                  go_wp2_with (at_builtin; rw [HX8.out]; (refine ap_pk rfl (.tmp 90) (.tmp 92) rfl (gp + 1) rfl HP8.out ⟨piece p true (p.off + (a : Nat)), A5, n5, c5, (copO ol), (Option.map (fun x => Addr.add x a) dA), nn, (dc - a), (dl.drop a).take nn⟩ rfl (congrArg (fun n => Value.slice (some ⟨n, 0, none⟩) 1 1) HQ8.out) hsz8 hgp8 ?_); intro v8 X9 hP9 hg9)
                  have hx9 : PmRd X8 gp ⟨piece p true (p.off + (a : Nat)), A5, n5, c5, (copO ol), (Option.map (fun x => Addr.add x a) dA), nn, (dc - a), (dl.drop a).take nn⟩ := ⟨HOP8.out, HRD8.out, HOPL.out, by have h1 := HDN.out; have h2 := HRN.out; simp only [List.length_take, List.length_drop]; omega, HCP.out, by have := HRN.out; show nn ≤ (dc - a); omega⟩
                  have hB9 : Below (gp + 1) W2 X8 := HBR.out.trans (HBW8.out.mono (by omega))
                  have HNX : Hid (RSplRel W2 gp p m ol dl R v8 (a + nn) X9) := Lib.hid (rspl_next HP8.out hP9 hg9 HPM8.out hx9 (mo := true) (a := a) (by simp only [Pm.plain, HROP.out] <;> simp) HOUT.out
                    (by rw [HDN.out, HRN.out]; exact HPMO.out) (by rw [HROP.out, HOPL.out, HDN.out, HRN.out]; exact HCUT.out) (by rw [HDN.out]; exact hff') (by rw [HDN.out]; exact hpos) hnp hn7 hB9 (by have := HS8.out; omega))
                  clear hg9 hP9 hx9 hB9
                  have hAN : (a : Int) + (nn : Int) = ((a + nn : Nat) : Int) := by omega
                  go_wp2
                  go_roundw
                  case rel =>
                    exact ⟨a + nn, by have := HRN.out; omega, by go_num, HNX⟩
                  case measure => simp [intOf]; have := HRN.out; omega
              · rcases Bool.eq_false_or_eq_true p.more with hmo | hmo
                · have HMO := Lib.hid hmo
                  clear hmo
                  have hcmp : (rn : Int) ≤ room := by omega
                  have HCUT : Hid (cutN m n5 rn = rn) := Lib.hid (by unfold cutN; rw [HROOM.out, if_neg (by omega)])
                  have hnp : 0 < rn := hrpos
                  have hlt9 : ¬ (a : Nat) + (rn : Int) < dn := by have := HRN.out; omega
                  have hlt12 : ((a : Nat) : Int) + (rn : Int) ≤ (dc : Int) := by have := HRN.out; omega
                  have hlt11 : decide (((a : Nat) : Int) + (rn : Int) < (dn : Int)) = false := decide_eq_false hlt9
                  have HPMO : Hid ((p.more || decide (rn < rn)) = true) := Lib.hid (by rw [HMO.out]; rfl)
                  rw [HMO.out] at g3 f3
                  have hwo : IntKind.i64.wrap (p.off + (a : Nat)) = p.off + (a : Nat) := IntWalk.i64_in _ (by omega)
                  have hwa : IntKind.i64.wrap (((a : Nat) : Int) + (rn : Int)) = ((a + rn : Nat) : Int) := by rw [IntWalk.i64_in _ (by have := HRN.out; omega)]; omega
                  obtain ⟨X8, hX8⟩ : ∃ X8, ((w7.setCell ⟨gx, 4, none⟩ (.int .i64 (p.off + (a : Nat)))).setCell ⟨gx, 3, none⟩ (.bool true)).setCell ⟨gx, 10, none⟩ (.slice (Option.map (fun x => Addr.add x a) dA) rn (dc - a)) = X8 := ⟨_, rfl⟩
                  have hx8 : Bk X8 gx 26 (pkC (piece p true (p.off + (a : Nat))) (.slice A5 n5 c5) (.slice (Option.map (fun x => Addr.add x a) dA) rn (dc - a))) := by rw [← hX8]; exact ((HX7.out.set 4 _).set 3 _).set 10 _
                  have hB78 : Below gx w7 X8 := by rw [← hX8]; exact Below.set1 (Below.set1 (Below.set1 (Below.refl gx w7) (Nat.le_refl _) _) (Nat.le_refl _) _) (Nat.le_refl _) _
                  have hB18 : Below X1.heap.size X1 w7 := HB6.out.trans (HB7.out.mono (by omega))
                  have hBw8 : Below gx wr X8 := (HB1x.out.trans (hB18.mono (by omega))).trans hB78
                  have hs8 : gx < X8.heap.size := hx8.lt
                  have hop8 : RB X8 gp A5 (copO ol) ∨ OB 5 X8 gp A5 n5 c5 (copO ol) := by
                    have h7 := Ow.mono (Ow.stays HOB.out hB18) (show gp ≤ X0.heap.size by omega)
                    rw [← hX8]
                    exact .inr (OB.set1 (g := gx) (OB.set1 (g := gx) (OB.set1 (g := gx) h7 HNE.out _) HNE.out _) HNE.out _)
                  have hrd8 : RB X8 gp (Option.map (fun x => Addr.add x a) dA) ((dl.drop a).take rn) := by
                    have h := Rw.below HRDX.out (HBR.out.mono (Nat.le_succ _))
                    have h2 := Rw.below h (hBw8.mono (Nat.le_of_lt hgpx))
                    exact RB.take (by have q := RB.cut h2 dc a (by have := HDN.out; omega); rw [if_neg (by omega)] at q; exact q) rn
                  have hP8 : PsAt X8 (gp + 1) (.slice A7 n7 c7) n7 L := World.ownsRow_below HP.out (HGX.out ▸ hBw8)
                  have hPM8 : PmsRd X8 gp L := HPM.out.below (by have := HGX.out; omega) (HGX.out ▸ hBw8)
                  have HPM8 := Lib.hid hPM8
                  have HBW8 := Lib.hid hBw8
                  have HOP8 := Lib.hid hop8
                  have HRD8 := Lib.hid hrd8
                  have HS8 := Lib.hid hs8
                  have hsz8 : n7 ≤ 100000 := by omega
                  have hgp8 : gp + 1 ≤ X8.heap.size := by omega
                  have HX8 := Lib.hid hX8
                  have HP8 := Lib.hid hP8
                  have HQ8 : Hid (w7.heap.size = X8.heap.size) := Lib.hid (by rw [← hX8]; simp)
                  clear hX8 hx8 hB78 hBw8 hop8 hrd8 hPM8 hP8 hs8
                  go_wp2_with (at_builtin; rw [HX8.out]; (refine ap_pk rfl (.tmp 90) (.tmp 92) rfl (gp + 1) rfl HP8.out ⟨piece p true (p.off + (a : Nat)), A5, n5, c5, (copO ol), (Option.map (fun x => Addr.add x a) dA), rn, (dc - a), (dl.drop a).take rn⟩ rfl (congrArg (fun n => Value.slice (some ⟨n, 0, none⟩) 1 1) HQ8.out) hsz8 hgp8 ?_); intro v8 X9 hP9 hg9)
                  have hx9 : PmRd X8 gp ⟨piece p true (p.off + (a : Nat)), A5, n5, c5, (copO ol), (Option.map (fun x => Addr.add x a) dA), rn, (dc - a), (dl.drop a).take rn⟩ := ⟨HOP8.out, HRD8.out, HOPL.out, by have h1 := HDN.out; have h2 := HRN.out; simp only [List.length_take, List.length_drop]; omega, HCP.out, by have := HRN.out; show rn ≤ (dc - a); omega⟩
                  have hB9 : Below (gp + 1) W2 X8 := HBR.out.trans (HBW8.out.mono (by omega))
                  have HNX : Hid (RSplRel W2 gp p m ol dl R v8 (a + rn) X9) := Lib.hid (rspl_next HP8.out hP9 hg9 HPM8.out hx9 (mo := true) (a := a) (by simp only [Pm.plain, HROP.out] <;> simp) HOUT.out
                    (by rw [HDN.out, HRN.out]; exact HPMO.out) (by rw [HROP.out, HOPL.out, HDN.out, HRN.out]; exact HCUT.out) (by rw [HDN.out]; exact hff') (by rw [HDN.out]; exact hpos) hnp hn7 hB9 (by have := HS8.out; omega))
                  clear hg9 hP9 hx9 hB9
                  have hAN : (a : Int) + (rn : Int) = ((a + rn : Nat) : Int) := by omega
                  go_wp2
                  go_roundw
                  case rel =>
                    exact ⟨a + rn, by have := HRN.out; omega, by go_num, HNX⟩
                  case measure => simp [intOf]; have := HRN.out; omega
                · have HMO := Lib.hid hmo
                  clear hmo
                  have hcmp : (rn : Int) ≤ room := by omega
                  have HCUT : Hid (cutN m n5 rn = rn) := Lib.hid (by unfold cutN; rw [HROOM.out, if_neg (by omega)])
                  have hnp : 0 < rn := hrpos
                  have hlt9 : ¬ (a : Nat) + (rn : Int) < dn := by have := HRN.out; omega
                  have hlt12 : ((a : Nat) : Int) + (rn : Int) ≤ (dc : Int) := by have := HRN.out; omega
                  have hlt11 : decide (((a : Nat) : Int) + (rn : Int) < (dn : Int)) = false := decide_eq_false hlt9
                  have HPMO : Hid ((p.more || decide (rn < rn)) = false) := Lib.hid (by rw [HMO.out]; simp)
                  rw [HMO.out] at g3 f3
                  have hwo : IntKind.i64.wrap (p.off + (a : Nat)) = p.off + (a : Nat) := IntWalk.i64_in _ (by omega)
                  have hwa : IntKind.i64.wrap (((a : Nat) : Int) + (rn : Int)) = ((a + rn : Nat) : Int) := by rw [IntWalk.i64_in _ (by have := HRN.out; omega)]; omega
                  obtain ⟨X8, hX8⟩ : ∃ X8, ((w7.setCell ⟨gx, 4, none⟩ (.int .i64 (p.off + (a : Nat)))).setCell ⟨gx, 3, none⟩ (.bool false)).setCell ⟨gx, 10, none⟩ (.slice (Option.map (fun x => Addr.add x a) dA) rn (dc - a)) = X8 := ⟨_, rfl⟩
                  have hx8 : Bk X8 gx 26 (pkC (piece p false (p.off + (a : Nat))) (.slice A5 n5 c5) (.slice (Option.map (fun x => Addr.add x a) dA) rn (dc - a))) := by rw [← hX8]; exact ((HX7.out.set 4 _).set 3 _).set 10 _
                  have hB78 : Below gx w7 X8 := by rw [← hX8]; exact Below.set1 (Below.set1 (Below.set1 (Below.refl gx w7) (Nat.le_refl _) _) (Nat.le_refl _) _) (Nat.le_refl _) _
                  have hB18 : Below X1.heap.size X1 w7 := HB6.out.trans (HB7.out.mono (by omega))
                  have hBw8 : Below gx wr X8 := (HB1x.out.trans (hB18.mono (by omega))).trans hB78
                  have hs8 : gx < X8.heap.size := hx8.lt
                  have hop8 : RB X8 gp A5 (copO ol) ∨ OB 5 X8 gp A5 n5 c5 (copO ol) := by
                    have h7 := Ow.mono (Ow.stays HOB.out hB18) (show gp ≤ X0.heap.size by omega)
                    rw [← hX8]
                    exact .inr (OB.set1 (g := gx) (OB.set1 (g := gx) (OB.set1 (g := gx) h7 HNE.out _) HNE.out _) HNE.out _)
                  have hrd8 : RB X8 gp (Option.map (fun x => Addr.add x a) dA) ((dl.drop a).take rn) := by
                    have h := Rw.below HRDX.out (HBR.out.mono (Nat.le_succ _))
                    have h2 := Rw.below h (hBw8.mono (Nat.le_of_lt hgpx))
                    exact RB.take (by have q := RB.cut h2 dc a (by have := HDN.out; omega); rw [if_neg (by omega)] at q; exact q) rn
                  have hP8 : PsAt X8 (gp + 1) (.slice A7 n7 c7) n7 L := World.ownsRow_below HP.out (HGX.out ▸ hBw8)
                  have hPM8 : PmsRd X8 gp L := HPM.out.below (by have := HGX.out; omega) (HGX.out ▸ hBw8)
                  have HPM8 := Lib.hid hPM8
                  have HBW8 := Lib.hid hBw8
                  have HOP8 := Lib.hid hop8
                  have HRD8 := Lib.hid hrd8
                  have HS8 := Lib.hid hs8
                  have hsz8 : n7 ≤ 100000 := by omega
                  have hgp8 : gp + 1 ≤ X8.heap.size := by omega
                  have HX8 := Lib.hid hX8
                  have HP8 := Lib.hid hP8
                  have HQ8 : Hid (w7.heap.size = X8.heap.size) := Lib.hid (by rw [← hX8]; simp)
                  clear hX8 hx8 hB78 hBw8 hop8 hrd8 hPM8 hP8 hs8
                  go_wp2_with (at_builtin; rw [HX8.out]; (refine ap_pk rfl (.tmp 90) (.tmp 92) rfl (gp + 1) rfl HP8.out ⟨piece p false (p.off + (a : Nat)), A5, n5, c5, (copO ol), (Option.map (fun x => Addr.add x a) dA), rn, (dc - a), (dl.drop a).take rn⟩ rfl (congrArg (fun n => Value.slice (some ⟨n, 0, none⟩) 1 1) HQ8.out) hsz8 hgp8 ?_); intro v8 X9 hP9 hg9)
                  have hx9 : PmRd X8 gp ⟨piece p false (p.off + (a : Nat)), A5, n5, c5, (copO ol), (Option.map (fun x => Addr.add x a) dA), rn, (dc - a), (dl.drop a).take rn⟩ := ⟨HOP8.out, HRD8.out, HOPL.out, by have h1 := HDN.out; have h2 := HRN.out; simp only [List.length_take, List.length_drop]; omega, HCP.out, by have := HRN.out; show rn ≤ (dc - a); omega⟩
                  have hB9 : Below (gp + 1) W2 X8 := HBR.out.trans (HBW8.out.mono (by omega))
                  have HNX : Hid (RSplRel W2 gp p m ol dl R v8 (a + rn) X9) := Lib.hid (rspl_next HP8.out hP9 hg9 HPM8.out hx9 (mo := false) (a := a) (by simp only [Pm.plain, HROP.out] <;> simp) HOUT.out
                    (by rw [HDN.out, HRN.out]; exact HPMO.out) (by rw [HROP.out, HOPL.out, HDN.out, HRN.out]; exact HCUT.out) (by rw [HDN.out]; exact hff') (by rw [HDN.out]; exact hpos) hnp hn7 hB9 (by have := HS8.out; omega))
                  clear hg9 hP9 hx9 hB9
                  have hAN : (a : Int) + (rn : Int) = ((a + rn : Nat) : Int) := by omega
                  go_wp2
                  go_roundw
                  case rel =>
                    exact ⟨a + rn, by have := HRN.out; omega, by go_num, HNX⟩
                  case measure => simp [intOf]; have := HRN.out; omega
          · have hae : a = dn := by omega
            have HL : Hid (L.map Pm.plain = R) := Lib.hid (by rw [← HOUT.out, piecesF_end (by rw [List.length_drop, HDN.out]; omega), List.append_nil])
            have HS : Hid (splIs p ol dl m 0 (L.map Pm.plain)) := Lib.hid (.inr ⟨d, d2, .inr (.inr ⟨HE.out, .inr HWH.out, rfl, by rw [HL.out, ← HRR.out]; rfl⟩)⟩)
            have HBF : Hid (Below gp w wr) := Lib.hid (HBX.out.trans (HBR.out.mono (Nat.le_succ _)))
            have hnl : ¬ (a : Int) < dn := by omega
            go_wp2
            go_ret2
            exact ⟨0, A7, n7, c7, L, rfl, HS.out, by rw [HGP.out]; exact HP.out.mono (Nat.le_succ _), by rw [HGP.out]; exact HPM.out, by rw [HGP.out]; exact HBF.out⟩
  · have HE2 : Hid (splIs p ol dl m k []) := Lib.hid (.inr ⟨d, d2, .inl ⟨HE.out, hk, rfl⟩⟩)
    have hk2 : (k != 0) = true := by simpa using hk
    go_wp2
    go_ret2
    exact ⟨k, none, 0, 0, [], rfl, HE2.out, PsAt.none_ _ _, PmsRd.nil _ _, by rw [HGP.out]; exact HBW.out.trans (HB1.out.mono (by omega))⟩
end Go.Proofs.Ytcjkhonapafndaa
