/- Proved: frag.Split by its walk. Conditions: the packet lies in memory. -/
import Derived.Test.YtcjkhonapafndaaPcs
import Derived.Deep.QuietTactic
import Derived.BigQuiet
set_option linter.unusedVariables false
set_option linter.unusedSimpArgs false
namespace Go.Proofs.Ytcjkhonapafndaa
open Go.RowKit

theorem fsize_any (A : Option Addr) (n c : Nat) (hmax : n ≤ 140737488355328) (w : World) :
    Calls Try.prog 28 #[.slice A n c] w fun e w' => e = .returned (.int .i64 (hdN n)) ∧ w' = w := by
  go_enter Try.func28, Try.ntmps28
  go_wp2
  go_ret
  exact ⟨by rw [← hdN_int]; rfl, rfl⟩
theorem World.ownsRow_below {w w' : World} {base : Nat} {E : TypeId} {size : Nat} {v : Value} {n : Nat} {xs : List Value} (h : w.ownsRow base E size v n xs) (hb : Below w.heap.size w w') : w'.ownsRow base E size v n xs := by
  refine ⟨h.1, ?_⟩
  rcases h.2 with h2 | ⟨g, cap, cur, h1, h2, h3, h4⟩
  · exact .inl h2
  · exact .inr ⟨g, cap, cur, h1, h2, (hb.block g (Array.getElem?_eq_some_iff.1 h3).1).trans h3, h4⟩
theorem PsAt.sl {w : World} {base : Nat} {v : Value} {n : Nat} {L : List Pm} (h : PsAt w base v n L) : ∃ A c, v = .slice A n c := by
  rcases h.2 with ⟨h1, h2⟩ | ⟨g, cap, cur, h1, _⟩
  · exact ⟨none, 0, by rw [h1, h2]⟩
  · exact ⟨_, _, h1⟩
theorem PsAt.mono {w : World} {base base' : Nat} {v : Value} {n : Nat} {L : List Pm} (h : PsAt w base v n L) (hb : base' ≤ base) : PsAt w base' v n L := by
  refine ⟨h.1, ?_⟩
  rcases h.2 with h2 | ⟨g, cap, cur, h1, h2, h3, h4⟩
  · exact .inl h2
  · exact .inr ⟨g, cap, cur, h1, Nat.le_trans hb h2, h3, h4⟩
theorem PmsOk.mono {w : World} {base base' : Nat} {L : List Pm} (h : PmsOk w base L) (hb : base' ≤ base) : PmsOk w base' L :=
  ⟨fun x hx => ⟨Ow.mono (h.1 x hx).1 hb, Ow.mono (h.1 x hx).2.1 hb, (h.1 x hx).2.2⟩, h.2⟩
theorem PsAt.ty {w : World} {base : Nat} {v : Value} {n : Nat} {L : List Pm} (h : PsAt w base v n L) {b : Nat} (hb : v.ownBlock = some b) : base ≤ b ∧ b < w.heap.size ∧ ∃ cs, w.heap[b]? = some (.cells cs 26 (0, 0)) := by
  rcases h.2 with ⟨h1, _⟩ | ⟨g, cap, cur, h1, h2, h3, _⟩
  · rw [h1] at hb; cases hb
  · rw [h1] at hb
    have e : g = b := by injection hb
    subst e
    exact ⟨h2, (Array.getElem?_eq_some_iff.1 h3).1, cur, h3⟩
theorem PsAt.ne8 {w : World} {base base' : Nat} {v : Value} {n : Nat} {L : List Pm} (h : PsAt w base v n L) {A : Option Addr} {k c : Nat} {l : List Int} (ho : OB 5 w base' A k c l) : blk A = none ∨ blk A ≠ v.ownBlock := by
  cases hA : blk A with
  | none => exact .inl rfl
  | some b =>
    refine .inr fun e => ?_
    obtain ⟨_, _, cs, h1⟩ := h.ty e.symm
    rcases Ow.cases_ ho with ⟨rfl, _⟩ | ⟨g, cur, rfl, _, h3, _⟩
    · cases hA
    · have e2 : g = b := by simpa [blk] using hA
      subst e2
      rw [h1] at h3
      injection h3 with h3; injection h3 with _ h3
      exact absurd h3 (by decide)
theorem PmsOk.grown {w w' : World} {base base' : Nat} {v : Value} {n : Nat} {L L' : List Pm} (h : PmsOk w base L) (hP : PsAt w base' v n L') (hg : w.grownBy w' v.ownBlock) : PmsOk w' base L :=
  ⟨fun x hx => (h.1 x hx).keep hg (hP.ne8 (h.1 x hx).1) (hP.ne8 (h.1 x hx).2.1), h.2⟩
def splIs (p : PkV) (ol dl : List Int) (mtu : Int) (k : Int) (R : List Pc) : Prop :=
  ((mtu < 68 ∨ 65535 < mtu) ∧ k = 1 ∧ R = []) ∨ (68 ≤ mtu ∧ mtu ≤ 65535 ∧
    ((errIs p ol dl.length k ∧ k ≠ 0 ∧ R = []) ∨
     (errIs p ol dl.length 0 ∧ mtu < hdN ol.length + dl.length ∧ p.whole = true ∧ k = 5 ∧ R = []) ∨
     (errIs p ol dl.length 0 ∧ (((hdN ol.length : Int) + dl.length ≤ mtu) ∨ p.whole = false) ∧ k = 0 ∧ R = splitP p mtu.toNat ol dl)))
def SplPost (p : PkV) (ol dl : List Int) (mtu : Int) (w : World) (e : Ending) (w' : World) : Prop :=
  ∃ k A n c L, e = .returned (.tuple #[.slice A n c, .int .i64 k]) ∧ splIs p ol dl mtu k (L.map Pm.plain) ∧ PsAt w' w.heap.size (.slice A n c) n L ∧ PmsOk w' w.heap.size L ∧ Below w.heap.size w w'
theorem PsAt.none_ (w : World) (base : Nat) : PsAt w base (.slice none 0 0) 0 [] := World.ownsRow_nil w base _ 11
theorem PmsOk.nil (w : World) (base : Nat) : PmsOk w base [] := ⟨(fun _ h => by cases h), List.Pairwise.nil⟩
def SplRel (W : World) (base : Nat) (p : PkV) (mtu : Nat) (B : Nat) (ol dl : List Int) (R : List Pc) (v8 v9 v10 v11 : Value) (rn : Nat) (wr : World) : Prop :=
  ∃ (f : Nat) (L : List Pm) (A8 : Option Addr) (n8 c8 : Nat) (oA : Option Addr) (on oc : Nat) (opts : List Int) (rA : Option Addr) (rc : Nat) (rest : List Int) (at_ : Int),
    v8 = .slice A8 n8 c8 ∧ v9 = .slice oA on oc ∧ v10 = .slice rA rn rc ∧ v11 = .int .i64 at_ ∧
    PsAt wr (base + 1) (.slice A8 n8 c8) n8 L ∧ PmsOk wr (base + 1) L ∧ RB wr wr.heap.size oA opts ∧ opts.length = on ∧ on ≤ oc ∧ on ≤ 40 ∧ Bs opts ∧
    RB wr base rA rest ∧ rest.length = rn ∧ rn ≤ rc ∧ L.map Pm.plain ++ piecesF f p mtu ol opts rest at_ = R ∧ rn < f ∧ 0 ≤ at_ ∧ at_ + rn = p.off + dl.length ∧ n8 + rn ≤ dl.length ∧ Below (base + 1) W wr
set_option maxHeartbeats 8000000 in
set_option maxRecDepth 100000 in
theorem split_any (p : PkV) (hp : p.Ok) (oA dA : Option Addr) (on oc dn dc B : Nat) (ol dl : List Int) (mtu : Int) (hmt : -9223372036854775808 ≤ mtu ∧ mtu ≤ 9223372036854775807) (hn : ol.length = on) (hc : on ≤ oc) (hmo : on ≤ 140737488355328) (hb : Bs ol) (hdn : dl.length = dn) (hdc : dn ≤ dc) (hmd : dn ≤ 140737488355328) (hbd : Bs dl) (w : World) (hr : RB w B oA ol) (hrd : RB w B dA dl) (hB : B ≤ w.heap.size) :
    Calls Try.prog 13 #[.agg (pkC p (.slice oA on oc) (.slice dA dn dc)), .int .i64 mtu] w (SplPost p ol dl mtu w) := by
  obtain ⟨gp, hgp⟩ : ∃ gp, w.heap.size = gp := ⟨_, rfl⟩
  obtain ⟨W, hW⟩ : ∃ W, w.alloc (.cells (pkC p (.slice oA on oc) (.slice dA dn dc)) 26) = W := ⟨_, rfl⟩
  have hm : Bk W gp 26 (pkC p (.slice oA on oc) (.slice dA dn dc)) := by rw [← hW, ← hgp]; exact Bk.new w _ _
  have hBW : Below gp w W := by rw [← hW, ← hgp]; exact (Below.refl _ _).alloc (Nat.le_refl _) _
  have hr1 : RB W B oA ol := Rw.below hr (hBW.mono (by omega))
  have hrd1 : RB W B dA dl := Rw.below hrd (hBW.mono (by omega))
  have hlt := hm.lt
  have hBg : B ≤ gp := by omega
  have HN := Lib.hid hn
  have HDN := Lib.hid hdn
  have HGP := Lib.hid hgp
  have HM := Lib.hid hm
  have HBW := Lib.hid hBW
  have HR := Lib.hid hr1
  have HRD := Lib.hid hrd1
  have HW : Hid (w.alloc (.cells #[.int .i64 p.svc, .int .i64 p.id, .bool p.whole, .bool p.more, .int .i64 p.off, .int .i64 p.life, .int .i64 p.proto, .int .u32 p.src, .int .u32 p.dst, .slice oA on oc, .slice dA dn dc] 26) = W) := Lib.hid hW
  have HENC := Lib.hid (enc_any p hp oA dA on oc dn dc B ol dl hn hc hmo hb hdn hmd W hr1 hrd1 (by omega))
  clear hW hm hBW hr1 hrd1 hn hdn hgp hr hrd
  rcases (by omega : mtu < 68 ∨ (68 ≤ mtu ∧ 65535 < mtu) ∨ (68 ≤ mtu ∧ mtu ≤ 65535)) with d | ⟨d, d2⟩ | ⟨d, d2⟩
  · have HE : Hid (splIs p ol dl mtu 1 []) := Lib.hid (.inl ⟨.inl d, rfl, rfl⟩)
    unfold pkC
    go_enter Try.func13, Try.ntmps13
    go_wp2
    go_ret2
    exact ⟨1, none, 0, 0, [], rfl, HE.out, PsAt.none_ _ _, PmsOk.nil _ _, by rw [HW.out, HGP.out]; exact HBW.out⟩
  · have HE : Hid (splIs p ol dl mtu 1 []) := Lib.hid (.inl ⟨.inr d2, rfl, rfl⟩)
    have d3 : ¬ mtu < 68 := by omega
    unfold pkC
    go_enter Try.func13, Try.ntmps13
    go_wp2
    go_ret2
    exact ⟨1, none, 0, 0, [], rfl, HE.out, PsAt.none_ _ _, PmsOk.nil _ _, by rw [HW.out, HGP.out]; exact HBW.out⟩
  obtain ⟨m, rfl⟩ : ∃ m : Nat, mtu = m := ⟨mtu.toNat, by omega⟩
  have d3 : ¬ (m : Int) < 68 := by omega
  have d4 : ¬ 65535 < (m : Int) := by omega
  unfold pkC at HENC
  unfold pkC
  go_enter Try.func13, Try.ntmps13
  go_wp2_with fail
  rw [HW.out, HGP.out]
  refine HENC.out.mono ?_
  rintro e1 W1 ⟨k, A1, n1, c1, rfl, hE, hk0, hk1, hB1⟩
  have HE := Lib.hid hE
  have HB1 := Lib.hid hB1
  have hz1 := hB1.size
  rcases Decidable.em (k = 0) with rfl | hk
  · have hm1 := HM.out.below hB1 hlt
    have HM1 := Lib.hid hm1
    have hh := hdN_le on
    have hwf : IntKind.i64.wrap ((hdN on : Int) + dn) = (hdN on : Int) + dn := IntWalk.i64_in _ (by omega)
    have z0 := (hm1.drew).cell 0
    have z1 := (hm1.drew).cell 1
    have z2 := (hm1.drew).cell 2
    have z3 := (hm1.drew).cell 3
    have z4 := (hm1.drew).cell 4
    have z5 := (hm1.drew).cell 5
    have z6 := (hm1.drew).cell 6
    have z7 := (hm1.drew).cell 7
    have z8 := (hm1.drew).cell 8
    have z9 := (hm1.drew).cell 9
    have z10 := (hm1.drew).cell 10
    simp only [pkC, List.getElem?_toArray, List.getElem?_cons_zero, List.getElem?_cons_succ] at z0 z1 z2 z3 z4 z5 z6 z7 z8 z9 z10
    clear hk0 hk1 hE hB1 hm1
    go_wp2_with fail
    go_region_held3 (fun w' => w'.cell? ⟨gp, 9, none⟩ = some (.slice oA on oc) ∧ w'.cell? ⟨gp, 10, none⟩ = some (.slice dA dn dc))
      (first | (with_reducible exact ⟨by assumption, by assumption⟩) | go_keep)
      (first
        | (go_at_call 28; refine (fsize_any oA on oc hmo _).mono ?_; rintro e w' ⟨rfl, rfl⟩))
    have HON : Hid (on ≤ 40) := Lib.hid (by
      rcases HE.out with ⟨_, h⟩ | ⟨_, _, h⟩ | ⟨_, _, _, _, h⟩ | ⟨_, h, _⟩
      · cases h
      · cases h
      · cases h
      · have := HN.out; omega)
    rcases Decidable.em ((hdN on : Int) + dn ≤ m) with f | f
    · go_wp2_with fail
      refine (own_any p oA dA on oc dn dc B ol dl HN.out hmo HDN.out hmd W1.drew (Rw.drew (Rw.below HR.out (HB1.out.mono (by omega)))) (Rw.drew (Rw.below HRD.out (HB1.out.mono (by omega)))) (by show B ≤ W1.heap.size; omega)).mono ?_
      rintro e3 W3 ⟨A3, c3, A4, c4, rfl, hO3, hB3⟩
      unfold pkC
      have hB4 : Below W3.heap.size W3 (W3.alloc (.cells (pmC ⟨p, A3, on, c3, ol, A4, dn, c4, dl⟩).toArray 26)) := (Below.refl _ _).alloc (Nat.le_refl _) _
      have hP4 : PsAt (W3.alloc (.cells (pmC ⟨p, A3, on, c3, ol, A4, dn, c4, dl⟩).toArray 26)) gp (.slice (some ⟨W3.heap.size, 0, none⟩) 1 1) 1 [⟨p, A3, on, c3, ol, A4, dn, c4, dl⟩] :=
        ⟨by simp [pmC_len], .inr ⟨W3.heap.size, 1, (pmC ⟨p, A3, on, c3, ol, A4, dn, c4, dl⟩).toArray, rfl, by have h := hB3.size; have h' : W1.heap.size ≤ W3.heap.size := h; omega, heap_alloc_new W3 _, Nat.le_refl _, by decide, rfl, rfl⟩⟩
      have hS : splIs p ol dl m 0 [(p, ol, dl)] := .inr ⟨d, d2, .inr (.inr ⟨HE.out, .inl (by rw [HN.out, HDN.out]; exact f), rfl, by unfold splitP; rw [if_pos (by rw [HN.out, HDN.out]; omega)]⟩)⟩
      have hO4 : PmOk (W3.alloc (.cells (pmC ⟨p, A3, on, c3, ol, A4, dn, c4, dl⟩).toArray 26)) gp ⟨p, A3, on, c3, ol, A4, dn, c4, dl⟩ := by
        have := hO3.below hB4
        have h9 : gp ≤ W1.drew.heap.size := by show gp ≤ W1.heap.size; omega
        exact ⟨Ow.mono this.1 h9, Ow.mono this.2.1 h9, this.2.2⟩
      have hBF : Below gp w (W3.alloc (.cells (pmC ⟨p, A3, on, c3, ol, A4, dn, c4, dl⟩).toArray 26)) := by
        have q1 := (HBW.out.trans (HB1.out.mono (by omega))).drew
        have h := hB3.size
        have h' : W1.heap.size ≤ W3.heap.size := h
        exact (q1.trans (hB3.mono (by show gp ≤ W1.heap.size; omega))).trans (hB4.mono (by omega))
      have HP4 := Lib.hid hP4
      have HO4 := Lib.hid hO4
      have HS := Lib.hid hS
      have HBF := Lib.hid hBF
      clear hB4 hP4 hO4 hS hBF hO3 hB3
      go_wp2
      go_ret2
      exact ⟨0, _, 1, 1, [⟨p, A3, on, c3, ol, A4, dn, c4, dl⟩], rfl, HS.out, by rw [HGP.out]; exact HP4.out, by rw [HGP.out]; exact ⟨fun x hx => by simp at hx; subst hx; exact HO4.out, List.pairwise_singleton _ _⟩, by rw [HGP.out]; exact HBF.out⟩
    · cases hwh : p.whole with
      | true =>
        have HS : Hid (splIs p ol dl m 5 []) := Lib.hid (.inr ⟨d, d2, .inr (.inl ⟨HE.out, by rw [HN.out, HDN.out]; omega, hwh, rfl, rfl⟩)⟩)
        rw [hwh] at z2
        clear hwh
        go_wp2
        go_ret2
        exact ⟨5, none, 0, 0, [], rfl, HS.out, PsAt.none_ _ _, PmsOk.nil _ _, by rw [HGP.out]; exact (HBW.out.trans (HB1.out.mono (by omega))).drew⟩
      | false =>
        have HWH := Lib.hid hwh
        rw [hwh] at z2
        clear hwh
        have t4 := (HM1.out.drew.drew).cell 4
        have t9 := (HM1.out.drew.drew).cell 9
        have t10 := (HM1.out.drew.drew).cell 10
        simp only [pkC, List.getElem?_toArray, List.getElem?_cons_zero, List.getElem?_cons_succ] at t4 t9 t10
        have HMD := Lib.hid (HM1.out.drew.drew)
        have HRX := Lib.hid (show RB W1.drew.drew gp oA ol from Rw.more (Rw.drew (Rw.drew (Rw.below HR.out (HB1.out.mono (by omega))))) hBg)
        have HRDX := Lib.hid (show RB W1.drew.drew gp dA dl from Rw.more (Rw.drew (Rw.drew (Rw.below HRD.out (HB1.out.mono (by omega))))) hBg)
        have HBX := Lib.hid (show Below gp w W1.drew.drew from (HBW.out.trans (HB1.out.mono (by omega))).drew.drew)
        have hzX : gp < W1.drew.drew.heap.size := by show gp < W1.heap.size; omega
        go_wp2
        go_region_held3 (fun w' => w'.cell? ⟨gp, 4, none⟩ = some (.int .i64 p.off) ∧ w'.cell? ⟨gp, 9, none⟩ = some (.slice oA on oc) ∧ w'.cell? ⟨gp, 10, none⟩ = some (.slice dA dn dc))
          (first | (with_reducible exact ⟨by assumption, by assumption, by assumption⟩) | go_keep)
          (fail)
        clear z0 z1 z2 z3 z4 z5 z6 z7 z8 z9 z10 t4 t9 t10
        generalize W1.drew.drew = W2 at *
        go_wp2
        obtain ⟨R, hR⟩ : ∃ R, splitP p m ol dl = R := ⟨_, rfl⟩
        have HRR := Lib.hid hR
        have hoff : 0 ≤ p.off ∧ p.off ≤ 65528 := by
          rcases HE.out with ⟨_, h⟩ | ⟨_, _, h⟩ | ⟨_, _, _, _, h⟩ | ⟨h, _⟩
          · cases h
          · cases h
          · cases h
          · exact h.2.2.2.2.1
        have hfit : hdN on + dn ≤ 65535 := by
          rcases HE.out with ⟨_, h⟩ | ⟨_, _, h⟩ | ⟨_, _, _, _, h⟩ | ⟨_, _, _, h, _⟩
          · cases h
          · cases h
          · cases h
          · have := h.1; rw [HN.out, HDN.out] at this; exact this
        have HSR : Hid (SplRel W2 gp p m B ol dl R (.slice none 0 0) (.slice oA on oc) (.slice dA dn dc) (.int .i64 p.off) dn W2) := Lib.hid
          ⟨dn + 1, [], none, 0, 0, oA, on, oc, ol, dA, dc, dl, p.off, rfl, rfl, rfl, rfl, PsAt.none_ _ _, PmsOk.nil _ _, Rw.more HRX.out (by omega), HN.out, hc, HON.out, hb, HRDX.out, HDN.out, hdc,
            by rw [← hR]; unfold splitP; rw [if_neg (by rw [HN.out, HDN.out]; omega), HDN.out]; rfl, by omega, hoff.1, by rw [HDN.out], by rw [HDN.out]; omega, Below.refl _ _⟩
        clear hR
        go_loopw [8, 9, 10, 11] (fun v8 v9 v10 v11 wr => ∃ rn : Nat, rn ≤ dn ∧ Hid (SplRel W2 gp p m B ol dl R v8 v9 v10 v11 rn wr)) (fun _ _ v10 _ _ => (match v10 with | .slice _ n _ => n | _ => 0))
        case atStart => exact ⟨dn, Nat.le_refl _, HSR⟩
        case round =>
          obtain ⟨rn, hrn, HC⟩ := hrel
          obtain ⟨ff, L, A8, n8, c8, xA, xn, xc, opts, rA, rc, rest, at_, rfl, rfl, rfl, rfl, hP, hPm, hro, hxn, hxc, hx40, hxb, hrr, hrl, hrc, hout, hff, hat, hatn, hn8, hBr⟩ := HC.out
          have HP := Lib.hid hP
          have HPM := Lib.hid hPm
          have HRO := Lib.hid hro
          have HXN := Lib.hid hxn
          have HRE := Lib.hid hrr
          have HRL := Lib.hid hrl
          have HOUT := Lib.hid hout
          have HBR := Lib.hid hBr
          have HATN := Lib.hid hatn
          have HN8 := Lib.hid hn8
          have hmr := HMD.out.below hBr (Nat.lt_succ_self _)
          have hzr := hBr.size
          have HMR := Lib.hid hmr
          clear hP hPm hro hxn hrr hrl hout hBr hatn hn8 HC
          rcases Nat.eq_zero_or_pos rn with rfl | hpos
          · have HL : Hid (L.map Pm.plain = R) := Lib.hid (by rw [← HOUT.out, piecesF_end HRL.out, List.append_nil])
            have HS : Hid (splIs p ol dl m 0 (L.map Pm.plain)) := Lib.hid (.inr ⟨d, d2, .inr (.inr ⟨HE.out, .inr HWH.out, rfl, by rw [HL.out, ← HRR.out]; rfl⟩)⟩)
            have HBF : Hid (Below gp w wr) := Lib.hid (HBX.out.trans (HBR.out.mono (Nat.le_succ _)))
            clear hmr
            go_wp2
            go_ret2
            exact ⟨0, A8, n8, c8, L, rfl, HS.out, by rw [HGP.out]; exact HP.out.mono (Nat.le_succ _), by rw [HGP.out]; exact HPM.out.mono (Nat.le_succ _), by rw [HGP.out]; exact HBF.out⟩
          · have y0 := hmr.cell 0
            have y1 := hmr.cell 1
            have y2 := hmr.cell 2
            have y3 := hmr.cell 3
            have y4 := hmr.cell 4
            have y5 := hmr.cell 5
            have y6 := hmr.cell 6
            have y7 := hmr.cell 7
            have y8 := hmr.cell 8
            have y9 := hmr.cell 9
            have y10 := hmr.cell 10
            simp only [pkC, List.getElem?_toArray, List.getElem?_cons_zero, List.getElem?_cons_succ] at y0 y1 y2 y3 y4 y5 y6 y7 y8 y9 y10
            have hh60 := hdN_40 hx40
            obtain ⟨room, hroom⟩ : ∃ room, roomN m xn = room := ⟨_, rfl⟩
            have hroom2 : (m : Int) - hdN xn = room := by rw [← hroom]; unfold roomN; omega
            have hw1 : IntKind.i64.wrap ((m : Int) - hdN xn) = room := by rw [IntWalk.i64_in _ (by omega)]; exact hroom2
            have HROOM := Lib.hid hroom
            have hr8 : 8 ≤ room := by omega
            have hrm : (room : Int) ≤ 65535 := by omega
            have hatl : at_ ≤ 200000 := by have := HATN.out; have := HDN.out; omega
            obtain ⟨gx, hgx⟩ : ∃ gx, wr.heap.size = gx := ⟨_, rfl⟩
            obtain ⟨X0, hX0⟩ : ∃ X0, wr.alloc (.cells (pkC p (.slice oA on oc) (.slice dA dn dc)) 26) = X0 := ⟨_, rfl⟩
            have hx0 : Bk X0 gx 26 (pkC p (.slice oA on oc) (.slice dA dn dc)) := by rw [← hX0, ← hgx]; exact Bk.new wr _ _
            have hBX0 : Below gx wr X0 := by rw [← hX0, ← hgx]; exact (Below.refl _ _).alloc (Nat.le_refl _) _
            have hgpx : gp < gx := by omega
            have HX0 : Hid (wr.alloc (.cells #[.int .i64 p.svc, .int .i64 p.id, .bool p.whole, .bool p.more, .int .i64 p.off, .int .i64 p.life, .int .i64 p.proto, .int .u32 p.src, .int .u32 p.dst, .slice oA on oc, .slice dA dn dc] 26) = X0) := Lib.hid hX0
            have HGX := Lib.hid hgx
            have HX := Lib.hid hx0
            have HBX0 := Lib.hid hBX0
            have hpos' : (0 : Int) < rn := by omega
            clear hroom hroom2 hgx hX0 hx0 hBX0 hmr
            rcases Decidable.em (room < rn) with g | g
            · cases hmo : p.more with
              | true =>
                have HMO := Lib.hid hmo
                clear hmo
                have hcmp : (room : Int) < rn := by omega
                obtain ⟨nn, hnn⟩ : ∃ nn, room / 8 * 8 = nn := ⟨_, rfl⟩
                have hq1 : (room : Int) / 8 * 8 = (nn : Int) := by omega
                have hnr : nn < rn := by omega
                have hcut : cutN m xn rn = nn := by unfold cutN; rw [HROOM.out, if_pos (by omega)]; exact hnn
                have hnp : 0 < nn := by omega
                clear hnn
                have HCUT := Lib.hid hcut
                clear hcut
                have hpm : (p.more || decide (nn < rn)) = true := by rw [HMO.out]; rfl
                have HPtrue := Lib.hid hpm
                clear hpm
                go_wp2_with fail
                rw [HX0.out, HGX.out]
                refine (fsize_any xA xn xc (by omega) _).mono ?_
                rintro e4 w' ⟨rfl, hw'⟩
                rw [hw']
                clear hw'
                have f0 := (HX.out.drew).cell 3
                have q3 := (HMR.out.below HBX0.out hgpx).drew.cell 3
                have q4 := (HX.out.drew).frozen 3
                have q5 := (HX.out.drew).frozen 4
                have q6 := (HX.out.drew).frozen 9
                have q7 := (HX.out.drew).frozen 10
                have r3 := (HX.out.drew).cell 3
                have r4 := (HX.out.drew).cell 4
                have r9 := (HX.out.drew).cell 9
                have r10 := (HX.out.drew).cell 10
                simp only [pkC, List.getElem?_toArray, List.getElem?_cons_zero, List.getElem?_cons_succ] at f0 q3 r3 r4 r9 r10
                rw [HMO.out] at q3
                have u4 := HX.out.frozen 3
                have u5 := HX.out.frozen 4
                have u6 := HX.out.frozen 9
                have u7 := HX.out.frozen 10
                have v3 := HX.out.cell 3
                have v4 := HX.out.cell 4
                have v9 := HX.out.cell 9
                have v10 := HX.out.cell 10
                have p3 := (HMR.out.below HBX0.out hgpx).cell 3
                simp only [pkC, List.getElem?_toArray, List.getElem?_cons_zero, List.getElem?_cons_succ] at v3 v4 v9 v10 p3
                rw [HMO.out] at p3
                have hnrc : nn ≤ rc := by omega
                have hne1 : gp ≠ gx := by omega
                have hne2 : gx ≠ gp := by omega
                go_wp2_with fail
                go_region
                have HNRC := Lib.hid hnrc
                obtain ⟨X1, hX1⟩ : ∃ X1, ((((X0.setCell ⟨gx, 9, none⟩ (.slice xA xn xc)).setCell ⟨gx, 10, none⟩ (.slice rA nn rc)).setCell ⟨gx, 4, none⟩ (.int .i64 at_)).setCell ⟨gx, 3, none⟩ (.bool true)).drew = X1 := ⟨_, rfl⟩
                have hx1 : Bk X1 gx 26 (pkC (piece p true at_) (.slice xA xn xc) (.slice rA nn rc)) := by rw [← hX1]; exact ((((HX.out.set 9 _).set 10 _).set 4 _).set 3 _).drew
                have hB01 : Below gx X0 X1 := by rw [← hX1]; exact (Below.set1 (Below.set1 (Below.set1 (Below.set1 (Below.refl gx X0) (Nat.le_refl _) _) (Nat.le_refl _) _) (Nat.le_refl _) _) (Nat.le_refl _) _).drew
                have hBw1 : Below gx wr X1 := HBX0.out.trans hB01
                have ro1 : RB X1 gx xA opts := Rw.below (show RB wr gx xA opts from HGX.out ▸ HRO.out) hBw1
                have rr1 : RB X1 gx rA (rest.take nn) := RB.take (Rw.below (show RB wr gx rA rest from Rw.more HRE.out (Nat.le_of_lt hgpx)) hBw1) nn
                have hgx1 := hx1.lt
                have HX1 := Lib.hid hX1
                have HBW1 := Lib.hid hBw1
                have HRO1 := Lib.hid ro1
                have HRR1 := Lib.hid rr1
                have a0 := hx1.cell 0
                have a1 := hx1.cell 1
                have a2 := hx1.cell 2
                have a3 := hx1.cell 3
                have a4 := hx1.cell 4
                have a5 := hx1.cell 5
                have a6 := hx1.cell 6
                have a7 := hx1.cell 7
                have a8 := hx1.cell 8
                have a9 := hx1.cell 9
                have a10 := hx1.cell 10
                simp only [piece, pkC, List.getElem?_toArray, List.getElem?_cons_zero, List.getElem?_cons_succ] at a0 a1 a2 a3 a4 a5 a6 a7 a8 a9 a10
                clear hX1 hx1 hB01 hBw1 ro1 rr1 f0 q3 q4 q5 q6 q7 r3 r4 r9 r10 u4 u5 u6 u7 v3 v4 v9 v10 p3 y0 y1 y2 y3 y4 y5 y6 y7 y8 y9 y10 hnrc
                rw [HX1.out]
                go_wp2_with fail
                refine (own_any (piece p true at_) xA rA xn xc nn rc gx opts (rest.take nn) HXN.out (by omega) (by rw [List.length_take, HRL.out]; omega) (by omega) X1 HRO1.out HRR1.out (by omega)).mono ?_
                rintro e5 X2 ⟨A3, c3, A4, c4, rfl, hO2, hB2⟩
                simp only [pkC, piece]
                have hz2 := hB2.size
                have hBw2 : Below gx wr X2 := HBW1.out.trans (hB2.mono (by omega))
                have hP2 : PsAt X2 (gp + 1) (.slice A8 n8 c8) n8 L := World.ownsRow_below HP.out (HGX.out ▸ hBw2)
                have hPM2 : PmsOk X2 (gp + 1) L := HPM.out.below (HGX.out ▸ hBw2)
                have HO2 := Lib.hid hO2
                have HPM2 := Lib.hid hPM2
                have HBW2 := Lib.hid hBw2
                have HLT2 : Hid (∀ y ∈ L, ∀ b, (blk y.oA = some b ∨ blk y.dA = some b) → b < X1.heap.size) := Lib.hid (fun y hy b hb => by have := HPM.out.lt y hy b hb; have := HGX.out; omega)
                have hsz8 : n8 ≤ 100000 := by have := HN8.out; have := HDN.out; omega
                have hgp2 : gp + 1 ≤ X2.heap.size := by omega
                clear a0 a1 a2 a3 a4 a5 a6 a7 a8 a9 a10
                clear hO2 hPM2 hB2 hBw2
                go_wp2_with (at_builtin; refine ap_pk rfl (.tmp 82) (.tmp 85) rfl (gp + 1) rfl hP2 ⟨piece p true at_, A3, xn, c3, opts, A4, nn, c4, rest.take nn⟩ rfl rfl hsz8 hgp2 ?_; intro v8 X3 hP3 hg3)
                have hpms : PmsOk X2 (gp + 1) (L ++ [⟨piece p true at_, A3, xn, c3, opts, A4, nn, c4, rest.take nn⟩]) := HPM2.out.snoc (mid := X1.heap.size) HO2.out (by omega) HLT2.out
                have hpms3 := hpms.grown hP2 hg3
                have hsl := hP3.sl
                obtain ⟨A8', c8', rfl⟩ := hsl
                have hz3 := hg3.size
                have hB23 : Below (gp + 1) X2 X3 := (Below.refl _ _).grown hg3 hgp2 (fun b hb => (hP2.ty hb).1)
                have hB3 : Below (gp + 1) W2 X3 := (HBR.out.trans (HBW2.out.mono (by have := HGX.out; omega))).trans hB23
                have hm3 := HMD.out.below hB3 (Nat.lt_succ_self _)
                have z9 := hm3.drew.cell 9
                simp only [pkC, List.getElem?_toArray, List.getElem?_cons_zero, List.getElem?_cons_succ] at z9
                have hlt3 : gp < X3.drew.heap.size := hm3.lt
                have hgood : goodO ol = true := by
                  rcases HE.out with ⟨_, h⟩ | ⟨_, _, h⟩ | ⟨_, _, _, _, h⟩ | ⟨_, _, h, _⟩
                  · cases h
                  · cases h
                  · cases h
                  · exact h
                have ro3 : RB X3.drew gp oA ol := Rw.drew (Rw.below HRX.out (hB3.mono (Nat.le_succ _)))
                have HCOP : Hid (Calls Try.prog 30 #[.slice oA on oc] X3.drew fun e w' => ∃ A n c, e = .returned (.slice A n c) ∧ OB 5 w' X3.drew.heap.size A n c (copO ol) ∧ Below X3.drew.heap.size X3.drew w') := Lib.hid (cop_any oA on oc gp ol HN.out hc (by have := HON.out; omega) hb hgood X3.drew ro3 (Nat.le_of_lt hlt3))
                have hwat : IntKind.i64.wrap (at_ + (nn : Int)) = at_ + nn := IntWalk.i64_in _ (by omega)
                have HP3 := Lib.hid hP3
                have HPM3 := Lib.hid hpms3
                have HB3 := Lib.hid hB3
                have HB23 := Lib.hid hB23
                have hnle : nn ≤ rn := by omega
                clear hP2 hP3 hg3 hpms hpms3 hB23 hB3 hm3 ro3
                have hrcn : ¬ rc = nn := by omega
                go_wp2_with fail
                go_region_held3 (fun w' => w'.cell? ⟨gp, 9, none⟩ = some (.slice oA on oc))
                  (first | (with_reducible assumption) | go_keep)
                  (first
                    | (go_at_call 30; with_reducible refine HCOP.out.mono ?_; rintro e6 X4 ⟨A5, n5, c5, rfl, hO5, hB5⟩; have w9 := bcell hB5 hlt3 z9))
                have HO5 := Lib.hid hO5
                have HB5 := Lib.hid hB5
                clear hO5 hB5
                go_wp2
                go_roundw
                case rel =>
                  obtain ⟨f', rfl⟩ : ∃ f', ff = f' + 1 := ⟨ff - 1, by omega⟩
                  have hl5 := HO5.out.length
                  have hc5 := Ow.cap HO5.out
                  have hcl := copO_len hgood
                  have hon := HN.out
                  have hon4 := HON.out
                  have hatn := HATN.out
                  have hn8 := HN8.out
                  have hrl := HRL.out
                  have hgx := HGX.out
                  have hsz5 : X3.heap.size ≤ X4.heap.size := HB5.out.size
                  have hb5 : Below X3.heap.size X3 X4 := ((Below.refl _ X3).drew).trans HB5.out
                  have HRZ := Lib.hid (Rw.below (Rw.below (Rw.below HRE.out (HBW2.out.mono (by omega))) (HB23.out.mono (Nat.le_succ _))) (hb5.mono (by omega)) : RB X4 gp rA rest)
                  have hpl : (L ++ [(⟨piece p true at_, A3, xn, c3, opts, A4, nn, c4, rest.take nn⟩ : Pm)]).map Pm.plain ++ piecesF f' p m ol (copO ol) (rest.drop nn) (at_ + nn) = R := by
                    rw [List.map_append, List.append_assoc, ← HOUT.out, piecesF_more (n := nn) (by rw [HRL.out]; exact hpos) (by rw [HXN.out, HRL.out]; exact HCUT.out), HRL.out, HPtrue.out]; rfl
                  have hps : PsAt X4 (gp + 1) (.slice A8' (n8 + 1) c8') (n8 + 1) (L ++ [⟨piece p true at_, A3, xn, c3, opts, A4, nn, c4, rest.take nn⟩]) := World.ownsRow_below HP3.out hb5
                  have hpm4 : PmsOk X4 (gp + 1) (L ++ [⟨piece p true at_, A3, xn, c3, opts, A4, nn, c4, rest.take nn⟩]) := HPM3.out.below hb5
                  have hbs : Bs (copO ol) := by unfold copO; exact copF_bs _ _ _ hb
                  refine ⟨(rn - nn), by omega, Lib.hid ⟨f', L ++ [⟨piece p true at_, A3, xn, c3, opts, A4, nn, c4, rest.take nn⟩], A8', n8 + 1, c8', A5, n5, c5, copO ol, (Option.map (fun x => Addr.add x nn) rA), (rc - nn), rest.drop nn, at_ + nn, ?_, ?_, ?_, ?_, hps, hpm4, OB.rb HO5.out, hl5, hc5, by omega, hbs, (by have h := RB.cut HRZ.out rc nn (by rw [HRL.out]; omega); rw [if_neg hrcn] at h; exact h), by have h := List.length_drop (i := nn) (l := rest); omega, by omega, hpl, by omega, by omega, by omega, by omega, HB3.out.trans (hb5.mono (by omega))⟩⟩
                  all_goals (first | rfl | (trace_state; go_num))
                case measure => (first | (show _ < _; simp; omega) | (trace_state; simp_all))
              | false =>
                have HMO := Lib.hid hmo
                clear hmo
                have hcmp : (room : Int) < rn := by omega
                obtain ⟨nn, hnn⟩ : ∃ nn, room / 8 * 8 = nn := ⟨_, rfl⟩
                have hq1 : (room : Int) / 8 * 8 = (nn : Int) := by omega
                have hnr : nn < rn := by omega
                have hcut : cutN m xn rn = nn := by unfold cutN; rw [HROOM.out, if_pos (by omega)]; exact hnn
                have hnp : 0 < nn := by omega
                clear hnn
                have HCUT := Lib.hid hcut
                clear hcut
                have hpm : (p.more || decide (nn < rn)) = true := by rw [HMO.out, decide_eq_true hnr]; rfl
                have HPtrue := Lib.hid hpm
                clear hpm
                go_wp2_with fail
                rw [HX0.out, HGX.out]
                refine (fsize_any xA xn xc (by omega) _).mono ?_
                rintro e4 w' ⟨rfl, hw'⟩
                rw [hw']
                clear hw'
                have f0 := (HX.out.drew).cell 3
                have q3 := (HMR.out.below HBX0.out hgpx).drew.cell 3
                have q4 := (HX.out.drew).frozen 3
                have q5 := (HX.out.drew).frozen 4
                have q6 := (HX.out.drew).frozen 9
                have q7 := (HX.out.drew).frozen 10
                have r3 := (HX.out.drew).cell 3
                have r4 := (HX.out.drew).cell 4
                have r9 := (HX.out.drew).cell 9
                have r10 := (HX.out.drew).cell 10
                simp only [pkC, List.getElem?_toArray, List.getElem?_cons_zero, List.getElem?_cons_succ] at f0 q3 r3 r4 r9 r10
                rw [HMO.out] at q3
                have u4 := HX.out.frozen 3
                have u5 := HX.out.frozen 4
                have u6 := HX.out.frozen 9
                have u7 := HX.out.frozen 10
                have v3 := HX.out.cell 3
                have v4 := HX.out.cell 4
                have v9 := HX.out.cell 9
                have v10 := HX.out.cell 10
                have p3 := (HMR.out.below HBX0.out hgpx).cell 3
                simp only [pkC, List.getElem?_toArray, List.getElem?_cons_zero, List.getElem?_cons_succ] at v3 v4 v9 v10 p3
                rw [HMO.out] at p3
                have hnrc : nn ≤ rc := by omega
                have hne1 : gp ≠ gx := by omega
                have hne2 : gx ≠ gp := by omega
                go_wp2_with fail
                go_region
                have HNRC := Lib.hid hnrc
                obtain ⟨X1, hX1⟩ : ∃ X1, ((((X0.setCell ⟨gx, 9, none⟩ (.slice xA xn xc)).setCell ⟨gx, 10, none⟩ (.slice rA nn rc)).setCell ⟨gx, 4, none⟩ (.int .i64 at_)).setCell ⟨gx, 3, none⟩ (.bool true)).drew = X1 := ⟨_, rfl⟩
                have hx1 : Bk X1 gx 26 (pkC (piece p true at_) (.slice xA xn xc) (.slice rA nn rc)) := by rw [← hX1]; exact ((((HX.out.set 9 _).set 10 _).set 4 _).set 3 _).drew
                have hB01 : Below gx X0 X1 := by rw [← hX1]; exact (Below.set1 (Below.set1 (Below.set1 (Below.set1 (Below.refl gx X0) (Nat.le_refl _) _) (Nat.le_refl _) _) (Nat.le_refl _) _) (Nat.le_refl _) _).drew
                have hBw1 : Below gx wr X1 := HBX0.out.trans hB01
                have ro1 : RB X1 gx xA opts := Rw.below (show RB wr gx xA opts from HGX.out ▸ HRO.out) hBw1
                have rr1 : RB X1 gx rA (rest.take nn) := RB.take (Rw.below (show RB wr gx rA rest from Rw.more HRE.out (Nat.le_of_lt hgpx)) hBw1) nn
                have hgx1 := hx1.lt
                have HX1 := Lib.hid hX1
                have HBW1 := Lib.hid hBw1
                have HRO1 := Lib.hid ro1
                have HRR1 := Lib.hid rr1
                have a0 := hx1.cell 0
                have a1 := hx1.cell 1
                have a2 := hx1.cell 2
                have a3 := hx1.cell 3
                have a4 := hx1.cell 4
                have a5 := hx1.cell 5
                have a6 := hx1.cell 6
                have a7 := hx1.cell 7
                have a8 := hx1.cell 8
                have a9 := hx1.cell 9
                have a10 := hx1.cell 10
                simp only [piece, pkC, List.getElem?_toArray, List.getElem?_cons_zero, List.getElem?_cons_succ] at a0 a1 a2 a3 a4 a5 a6 a7 a8 a9 a10
                clear hX1 hx1 hB01 hBw1 ro1 rr1 f0 q3 q4 q5 q6 q7 r3 r4 r9 r10 u4 u5 u6 u7 v3 v4 v9 v10 p3 y0 y1 y2 y3 y4 y5 y6 y7 y8 y9 y10 hnrc
                rw [HX1.out]
                go_wp2_with fail
                refine (own_any (piece p true at_) xA rA xn xc nn rc gx opts (rest.take nn) HXN.out (by omega) (by rw [List.length_take, HRL.out]; omega) (by omega) X1 HRO1.out HRR1.out (by omega)).mono ?_
                rintro e5 X2 ⟨A3, c3, A4, c4, rfl, hO2, hB2⟩
                simp only [pkC, piece]
                have hz2 := hB2.size
                have hBw2 : Below gx wr X2 := HBW1.out.trans (hB2.mono (by omega))
                have hP2 : PsAt X2 (gp + 1) (.slice A8 n8 c8) n8 L := World.ownsRow_below HP.out (HGX.out ▸ hBw2)
                have hPM2 : PmsOk X2 (gp + 1) L := HPM.out.below (HGX.out ▸ hBw2)
                have HO2 := Lib.hid hO2
                have HPM2 := Lib.hid hPM2
                have HBW2 := Lib.hid hBw2
                have HLT2 : Hid (∀ y ∈ L, ∀ b, (blk y.oA = some b ∨ blk y.dA = some b) → b < X1.heap.size) := Lib.hid (fun y hy b hb => by have := HPM.out.lt y hy b hb; have := HGX.out; omega)
                have hsz8 : n8 ≤ 100000 := by have := HN8.out; have := HDN.out; omega
                have hgp2 : gp + 1 ≤ X2.heap.size := by omega
                clear a0 a1 a2 a3 a4 a5 a6 a7 a8 a9 a10
                clear hO2 hPM2 hB2 hBw2
                go_wp2_with (at_builtin; refine ap_pk rfl (.tmp 82) (.tmp 85) rfl (gp + 1) rfl hP2 ⟨piece p true at_, A3, xn, c3, opts, A4, nn, c4, rest.take nn⟩ rfl rfl hsz8 hgp2 ?_; intro v8 X3 hP3 hg3)
                have hpms : PmsOk X2 (gp + 1) (L ++ [⟨piece p true at_, A3, xn, c3, opts, A4, nn, c4, rest.take nn⟩]) := HPM2.out.snoc (mid := X1.heap.size) HO2.out (by omega) HLT2.out
                have hpms3 := hpms.grown hP2 hg3
                have hsl := hP3.sl
                obtain ⟨A8', c8', rfl⟩ := hsl
                have hz3 := hg3.size
                have hB23 : Below (gp + 1) X2 X3 := (Below.refl _ _).grown hg3 hgp2 (fun b hb => (hP2.ty hb).1)
                have hB3 : Below (gp + 1) W2 X3 := (HBR.out.trans (HBW2.out.mono (by have := HGX.out; omega))).trans hB23
                have hm3 := HMD.out.below hB3 (Nat.lt_succ_self _)
                have z9 := hm3.drew.cell 9
                simp only [pkC, List.getElem?_toArray, List.getElem?_cons_zero, List.getElem?_cons_succ] at z9
                have hlt3 : gp < X3.drew.heap.size := hm3.lt
                have hgood : goodO ol = true := by
                  rcases HE.out with ⟨_, h⟩ | ⟨_, _, h⟩ | ⟨_, _, _, _, h⟩ | ⟨_, _, h, _⟩
                  · cases h
                  · cases h
                  · cases h
                  · exact h
                have ro3 : RB X3.drew gp oA ol := Rw.drew (Rw.below HRX.out (hB3.mono (Nat.le_succ _)))
                have HCOP : Hid (Calls Try.prog 30 #[.slice oA on oc] X3.drew fun e w' => ∃ A n c, e = .returned (.slice A n c) ∧ OB 5 w' X3.drew.heap.size A n c (copO ol) ∧ Below X3.drew.heap.size X3.drew w') := Lib.hid (cop_any oA on oc gp ol HN.out hc (by have := HON.out; omega) hb hgood X3.drew ro3 (Nat.le_of_lt hlt3))
                have hwat : IntKind.i64.wrap (at_ + (nn : Int)) = at_ + nn := IntWalk.i64_in _ (by omega)
                have HP3 := Lib.hid hP3
                have HPM3 := Lib.hid hpms3
                have HB3 := Lib.hid hB3
                have HB23 := Lib.hid hB23
                have hnle : nn ≤ rn := by omega
                clear hP2 hP3 hg3 hpms hpms3 hB23 hB3 hm3 ro3
                have hrcn : ¬ rc = nn := by omega
                go_wp2_with fail
                go_region_held3 (fun w' => w'.cell? ⟨gp, 9, none⟩ = some (.slice oA on oc))
                  (first | (with_reducible assumption) | go_keep)
                  (first
                    | (go_at_call 30; with_reducible refine HCOP.out.mono ?_; rintro e6 X4 ⟨A5, n5, c5, rfl, hO5, hB5⟩; have w9 := bcell hB5 hlt3 z9))
                have HO5 := Lib.hid hO5
                have HB5 := Lib.hid hB5
                clear hO5 hB5
                go_wp2
                go_roundw
                case rel =>
                  obtain ⟨f', rfl⟩ : ∃ f', ff = f' + 1 := ⟨ff - 1, by omega⟩
                  have hl5 := HO5.out.length
                  have hc5 := Ow.cap HO5.out
                  have hcl := copO_len hgood
                  have hon := HN.out
                  have hon4 := HON.out
                  have hatn := HATN.out
                  have hn8 := HN8.out
                  have hrl := HRL.out
                  have hgx := HGX.out
                  have hsz5 : X3.heap.size ≤ X4.heap.size := HB5.out.size
                  have hb5 : Below X3.heap.size X3 X4 := ((Below.refl _ X3).drew).trans HB5.out
                  have HRZ := Lib.hid (Rw.below (Rw.below (Rw.below HRE.out (HBW2.out.mono (by omega))) (HB23.out.mono (Nat.le_succ _))) (hb5.mono (by omega)) : RB X4 gp rA rest)
                  have hpl : (L ++ [(⟨piece p true at_, A3, xn, c3, opts, A4, nn, c4, rest.take nn⟩ : Pm)]).map Pm.plain ++ piecesF f' p m ol (copO ol) (rest.drop nn) (at_ + nn) = R := by
                    rw [List.map_append, List.append_assoc, ← HOUT.out, piecesF_more (n := nn) (by rw [HRL.out]; exact hpos) (by rw [HXN.out, HRL.out]; exact HCUT.out), HRL.out, HPtrue.out]; rfl
                  have hps : PsAt X4 (gp + 1) (.slice A8' (n8 + 1) c8') (n8 + 1) (L ++ [⟨piece p true at_, A3, xn, c3, opts, A4, nn, c4, rest.take nn⟩]) := World.ownsRow_below HP3.out hb5
                  have hpm4 : PmsOk X4 (gp + 1) (L ++ [⟨piece p true at_, A3, xn, c3, opts, A4, nn, c4, rest.take nn⟩]) := HPM3.out.below hb5
                  have hbs : Bs (copO ol) := by unfold copO; exact copF_bs _ _ _ hb
                  refine ⟨(rn - nn), by omega, Lib.hid ⟨f', L ++ [⟨piece p true at_, A3, xn, c3, opts, A4, nn, c4, rest.take nn⟩], A8', n8 + 1, c8', A5, n5, c5, copO ol, (Option.map (fun x => Addr.add x nn) rA), (rc - nn), rest.drop nn, at_ + nn, ?_, ?_, ?_, ?_, hps, hpm4, OB.rb HO5.out, hl5, hc5, by omega, hbs, (by have h := RB.cut HRZ.out rc nn (by rw [HRL.out]; omega); rw [if_neg hrcn] at h; exact h), by have h := List.length_drop (i := nn) (l := rest); omega, by omega, hpl, by omega, by omega, by omega, by omega, HB3.out.trans (hb5.mono (by omega))⟩⟩
                  all_goals (first | rfl | (trace_state; go_num))
                case measure => (first | (show _ < _; simp; omega) | (trace_state; simp_all))
            · cases hmo : p.more with
              | true =>
                have HMO := Lib.hid hmo
                clear hmo
                have hcmp : ¬ (room : Int) < rn := by omega
                obtain ⟨nn, hnn⟩ : ∃ nn, rn = nn := ⟨_, rfl⟩
                have hcut : cutN m xn rn = nn := by unfold cutN; rw [HROOM.out, if_neg (by omega)]; exact hnn
                have hnr : nn = rn := hnn.symm
                subst hnr
                have hnp : 0 < nn := hpos
                have HCUT := Lib.hid hcut
                clear hcut
                have hpm : (p.more || decide (nn < nn)) = true := by rw [HMO.out]; rfl
                have HPtrue := Lib.hid hpm
                clear hpm
                go_wp2_with fail
                rw [HX0.out, HGX.out]
                refine (fsize_any xA xn xc (by omega) _).mono ?_
                rintro e4 w' ⟨rfl, hw'⟩
                rw [hw']
                clear hw'
                have f0 := (HX.out.drew).cell 3
                have q3 := (HMR.out.below HBX0.out hgpx).drew.cell 3
                have q4 := (HX.out.drew).frozen 3
                have q5 := (HX.out.drew).frozen 4
                have q6 := (HX.out.drew).frozen 9
                have q7 := (HX.out.drew).frozen 10
                have r3 := (HX.out.drew).cell 3
                have r4 := (HX.out.drew).cell 4
                have r9 := (HX.out.drew).cell 9
                have r10 := (HX.out.drew).cell 10
                simp only [pkC, List.getElem?_toArray, List.getElem?_cons_zero, List.getElem?_cons_succ] at f0 q3 r3 r4 r9 r10
                rw [HMO.out] at q3
                have u4 := HX.out.frozen 3
                have u5 := HX.out.frozen 4
                have u6 := HX.out.frozen 9
                have u7 := HX.out.frozen 10
                have v3 := HX.out.cell 3
                have v4 := HX.out.cell 4
                have v9 := HX.out.cell 9
                have v10 := HX.out.cell 10
                have p3 := (HMR.out.below HBX0.out hgpx).cell 3
                simp only [pkC, List.getElem?_toArray, List.getElem?_cons_zero, List.getElem?_cons_succ] at v3 v4 v9 v10 p3
                rw [HMO.out] at p3
                have hnrc : nn ≤ rc := by omega
                have hne1 : gp ≠ gx := by omega
                have hne2 : gx ≠ gp := by omega
                go_wp2_with fail
                go_region
                have HNRC := Lib.hid hnrc
                obtain ⟨X1, hX1⟩ : ∃ X1, ((((X0.setCell ⟨gx, 9, none⟩ (.slice xA xn xc)).setCell ⟨gx, 10, none⟩ (.slice rA nn rc)).setCell ⟨gx, 4, none⟩ (.int .i64 at_)).setCell ⟨gx, 3, none⟩ (.bool true)).drew = X1 := ⟨_, rfl⟩
                have hx1 : Bk X1 gx 26 (pkC (piece p true at_) (.slice xA xn xc) (.slice rA nn rc)) := by rw [← hX1]; exact ((((HX.out.set 9 _).set 10 _).set 4 _).set 3 _).drew
                have hB01 : Below gx X0 X1 := by rw [← hX1]; exact (Below.set1 (Below.set1 (Below.set1 (Below.set1 (Below.refl gx X0) (Nat.le_refl _) _) (Nat.le_refl _) _) (Nat.le_refl _) _) (Nat.le_refl _) _).drew
                have hBw1 : Below gx wr X1 := HBX0.out.trans hB01
                have ro1 : RB X1 gx xA opts := Rw.below (show RB wr gx xA opts from HGX.out ▸ HRO.out) hBw1
                have rr1 : RB X1 gx rA (rest.take nn) := RB.take (Rw.below (show RB wr gx rA rest from Rw.more HRE.out (Nat.le_of_lt hgpx)) hBw1) nn
                have hgx1 := hx1.lt
                have HX1 := Lib.hid hX1
                have HBW1 := Lib.hid hBw1
                have HRO1 := Lib.hid ro1
                have HRR1 := Lib.hid rr1
                have a0 := hx1.cell 0
                have a1 := hx1.cell 1
                have a2 := hx1.cell 2
                have a3 := hx1.cell 3
                have a4 := hx1.cell 4
                have a5 := hx1.cell 5
                have a6 := hx1.cell 6
                have a7 := hx1.cell 7
                have a8 := hx1.cell 8
                have a9 := hx1.cell 9
                have a10 := hx1.cell 10
                simp only [piece, pkC, List.getElem?_toArray, List.getElem?_cons_zero, List.getElem?_cons_succ] at a0 a1 a2 a3 a4 a5 a6 a7 a8 a9 a10
                clear hX1 hx1 hB01 hBw1 ro1 rr1 f0 q3 q4 q5 q6 q7 r3 r4 r9 r10 u4 u5 u6 u7 v3 v4 v9 v10 p3 y0 y1 y2 y3 y4 y5 y6 y7 y8 y9 y10 hnrc
                rw [HX1.out]
                go_wp2_with fail
                refine (own_any (piece p true at_) xA rA xn xc nn rc gx opts (rest.take nn) HXN.out (by omega) (by rw [List.length_take, HRL.out]; omega) (by omega) X1 HRO1.out HRR1.out (by omega)).mono ?_
                rintro e5 X2 ⟨A3, c3, A4, c4, rfl, hO2, hB2⟩
                simp only [pkC, piece]
                have hz2 := hB2.size
                have hBw2 : Below gx wr X2 := HBW1.out.trans (hB2.mono (by omega))
                have hP2 : PsAt X2 (gp + 1) (.slice A8 n8 c8) n8 L := World.ownsRow_below HP.out (HGX.out ▸ hBw2)
                have hPM2 : PmsOk X2 (gp + 1) L := HPM.out.below (HGX.out ▸ hBw2)
                have HO2 := Lib.hid hO2
                have HPM2 := Lib.hid hPM2
                have HBW2 := Lib.hid hBw2
                have HLT2 : Hid (∀ y ∈ L, ∀ b, (blk y.oA = some b ∨ blk y.dA = some b) → b < X1.heap.size) := Lib.hid (fun y hy b hb => by have := HPM.out.lt y hy b hb; have := HGX.out; omega)
                have hsz8 : n8 ≤ 100000 := by have := HN8.out; have := HDN.out; omega
                have hgp2 : gp + 1 ≤ X2.heap.size := by omega
                clear a0 a1 a2 a3 a4 a5 a6 a7 a8 a9 a10
                clear hO2 hPM2 hB2 hBw2
                go_wp2_with (at_builtin; refine ap_pk rfl (.tmp 82) (.tmp 85) rfl (gp + 1) rfl hP2 ⟨piece p true at_, A3, xn, c3, opts, A4, nn, c4, rest.take nn⟩ rfl rfl hsz8 hgp2 ?_; intro v8 X3 hP3 hg3)
                have hpms : PmsOk X2 (gp + 1) (L ++ [⟨piece p true at_, A3, xn, c3, opts, A4, nn, c4, rest.take nn⟩]) := HPM2.out.snoc (mid := X1.heap.size) HO2.out (by omega) HLT2.out
                have hpms3 := hpms.grown hP2 hg3
                have hsl := hP3.sl
                obtain ⟨A8', c8', rfl⟩ := hsl
                have hz3 := hg3.size
                have hB23 : Below (gp + 1) X2 X3 := (Below.refl _ _).grown hg3 hgp2 (fun b hb => (hP2.ty hb).1)
                have hB3 : Below (gp + 1) W2 X3 := (HBR.out.trans (HBW2.out.mono (by have := HGX.out; omega))).trans hB23
                have hm3 := HMD.out.below hB3 (Nat.lt_succ_self _)
                have z9 := hm3.drew.cell 9
                simp only [pkC, List.getElem?_toArray, List.getElem?_cons_zero, List.getElem?_cons_succ] at z9
                have hlt3 : gp < X3.drew.heap.size := hm3.lt
                have hgood : goodO ol = true := by
                  rcases HE.out with ⟨_, h⟩ | ⟨_, _, h⟩ | ⟨_, _, _, _, h⟩ | ⟨_, _, h, _⟩
                  · cases h
                  · cases h
                  · cases h
                  · exact h
                have ro3 : RB X3.drew gp oA ol := Rw.drew (Rw.below HRX.out (hB3.mono (Nat.le_succ _)))
                have HCOP : Hid (Calls Try.prog 30 #[.slice oA on oc] X3.drew fun e w' => ∃ A n c, e = .returned (.slice A n c) ∧ OB 5 w' X3.drew.heap.size A n c (copO ol) ∧ Below X3.drew.heap.size X3.drew w') := Lib.hid (cop_any oA on oc gp ol HN.out hc (by have := HON.out; omega) hb hgood X3.drew ro3 (Nat.le_of_lt hlt3))
                have hwat : IntKind.i64.wrap (at_ + (nn : Int)) = at_ + nn := IntWalk.i64_in _ (by omega)
                have HP3 := Lib.hid hP3
                have HPM3 := Lib.hid hpms3
                have HB3 := Lib.hid hB3
                have HB23 := Lib.hid hB23
                have hnle : nn ≤ nn := by omega
                clear hP2 hP3 hg3 hpms hpms3 hB23 hB3 hm3 ro3
                rcases Decidable.em (rc = nn) with hrcn | hrcn
                · have hrcn2 : nn = rc := hrcn.symm
                  subst hrcn2
                  go_wp2_with fail
                  go_region_held3 (fun w' => w'.cell? ⟨gp, 9, none⟩ = some (.slice oA on oc))
                    (first | (with_reducible assumption) | go_keep)
                    (first
                      | (go_at_call 30; with_reducible refine HCOP.out.mono ?_; rintro e6 X4 ⟨A5, n5, c5, rfl, hO5, hB5⟩; have w9 := bcell hB5 hlt3 z9))
                  have HO5 := Lib.hid hO5
                  have HB5 := Lib.hid hB5
                  clear hO5 hB5
                  go_wp2
                  go_roundw
                  case rel =>
                    obtain ⟨f', rfl⟩ : ∃ f', ff = f' + 1 := ⟨ff - 1, by omega⟩
                    have hl5 := HO5.out.length
                    have hc5 := Ow.cap HO5.out
                    have hcl := copO_len hgood
                    have hon := HN.out
                    have hon4 := HON.out
                    have hatn := HATN.out
                    have hn8 := HN8.out
                    have hrl := HRL.out
                    have hgx := HGX.out
                    have hsz5 : X3.heap.size ≤ X4.heap.size := HB5.out.size
                    have hb5 : Below X3.heap.size X3 X4 := ((Below.refl _ X3).drew).trans HB5.out
                    have HRZ := Lib.hid (Rw.below (Rw.below (Rw.below HRE.out (HBW2.out.mono (by omega))) (HB23.out.mono (Nat.le_succ _))) (hb5.mono (by omega)) : RB X4 gp rA rest)
                    have hpl : (L ++ [(⟨piece p true at_, A3, xn, c3, opts, A4, nn, c4, rest.take nn⟩ : Pm)]).map Pm.plain ++ piecesF f' p m ol (copO ol) (rest.drop nn) (at_ + nn) = R := by
                      rw [List.map_append, List.append_assoc, ← HOUT.out, piecesF_more (n := nn) (by rw [HRL.out]; exact hpos) (by rw [HXN.out, HRL.out]; exact HCUT.out), HRL.out, HPtrue.out]; rfl
                    have hps : PsAt X4 (gp + 1) (.slice A8' (n8 + 1) c8') (n8 + 1) (L ++ [⟨piece p true at_, A3, xn, c3, opts, A4, nn, c4, rest.take nn⟩]) := World.ownsRow_below HP3.out hb5
                    have hpm4 : PmsOk X4 (gp + 1) (L ++ [⟨piece p true at_, A3, xn, c3, opts, A4, nn, c4, rest.take nn⟩]) := HPM3.out.below hb5
                    have hbs : Bs (copO ol) := by unfold copO; exact copF_bs _ _ _ hb
                    refine ⟨0, by omega, Lib.hid ⟨f', L ++ [⟨piece p true at_, A3, xn, c3, opts, A4, nn, c4, rest.take nn⟩], A8', n8 + 1, c8', A5, n5, c5, copO ol, rA, 0, rest.drop nn, at_ + nn, ?_, ?_, ?_, ?_, hps, hpm4, OB.rb HO5.out, hl5, hc5, by omega, hbs, (by have h := RB.cut HRZ.out nn nn (by rw [HRL.out]; omega); rw [if_pos rfl] at h; exact h), by have h := List.length_drop (i := nn) (l := rest); omega, by omega, hpl, by omega, by omega, by omega, by omega, HB3.out.trans (hb5.mono (by omega))⟩⟩
                    all_goals (first | rfl | (trace_state; go_num))
                  case measure => (first | (show _ < _; simp; omega) | (trace_state; simp_all))
                · go_wp2_with fail
                  go_region_held3 (fun w' => w'.cell? ⟨gp, 9, none⟩ = some (.slice oA on oc))
                    (first | (with_reducible assumption) | go_keep)
                    (first
                      | (go_at_call 30; with_reducible refine HCOP.out.mono ?_; rintro e6 X4 ⟨A5, n5, c5, rfl, hO5, hB5⟩; have w9 := bcell hB5 hlt3 z9))
                  have HO5 := Lib.hid hO5
                  have HB5 := Lib.hid hB5
                  clear hO5 hB5
                  go_wp2
                  go_roundw
                  case rel =>
                    obtain ⟨f', rfl⟩ : ∃ f', ff = f' + 1 := ⟨ff - 1, by omega⟩
                    have hl5 := HO5.out.length
                    have hc5 := Ow.cap HO5.out
                    have hcl := copO_len hgood
                    have hon := HN.out
                    have hon4 := HON.out
                    have hatn := HATN.out
                    have hn8 := HN8.out
                    have hrl := HRL.out
                    have hgx := HGX.out
                    have hsz5 : X3.heap.size ≤ X4.heap.size := HB5.out.size
                    have hb5 : Below X3.heap.size X3 X4 := ((Below.refl _ X3).drew).trans HB5.out
                    have HRZ := Lib.hid (Rw.below (Rw.below (Rw.below HRE.out (HBW2.out.mono (by omega))) (HB23.out.mono (Nat.le_succ _))) (hb5.mono (by omega)) : RB X4 gp rA rest)
                    have hpl : (L ++ [(⟨piece p true at_, A3, xn, c3, opts, A4, nn, c4, rest.take nn⟩ : Pm)]).map Pm.plain ++ piecesF f' p m ol (copO ol) (rest.drop nn) (at_ + nn) = R := by
                      rw [List.map_append, List.append_assoc, ← HOUT.out, piecesF_more (n := nn) (by rw [HRL.out]; exact hpos) (by rw [HXN.out, HRL.out]; exact HCUT.out), HRL.out, HPtrue.out]; rfl
                    have hps : PsAt X4 (gp + 1) (.slice A8' (n8 + 1) c8') (n8 + 1) (L ++ [⟨piece p true at_, A3, xn, c3, opts, A4, nn, c4, rest.take nn⟩]) := World.ownsRow_below HP3.out hb5
                    have hpm4 : PmsOk X4 (gp + 1) (L ++ [⟨piece p true at_, A3, xn, c3, opts, A4, nn, c4, rest.take nn⟩]) := HPM3.out.below hb5
                    have hbs : Bs (copO ol) := by unfold copO; exact copF_bs _ _ _ hb
                    refine ⟨0, by omega, Lib.hid ⟨f', L ++ [⟨piece p true at_, A3, xn, c3, opts, A4, nn, c4, rest.take nn⟩], A8', n8 + 1, c8', A5, n5, c5, copO ol, (Option.map (fun x => Addr.add x nn) rA), (rc - nn), rest.drop nn, at_ + nn, ?_, ?_, ?_, ?_, hps, hpm4, OB.rb HO5.out, hl5, hc5, by omega, hbs, (by have h := RB.cut HRZ.out rc nn (by rw [HRL.out]; omega); rw [if_neg hrcn] at h; exact h), by have h := List.length_drop (i := nn) (l := rest); omega, by omega, hpl, by omega, by omega, by omega, by omega, HB3.out.trans (hb5.mono (by omega))⟩⟩
                    all_goals (first | rfl | (trace_state; go_num))
                  case measure => (first | (show _ < _; simp; omega) | (trace_state; simp_all))
              | false =>
                have HMO := Lib.hid hmo
                clear hmo
                have hcmp : ¬ (room : Int) < rn := by omega
                obtain ⟨nn, hnn⟩ : ∃ nn, rn = nn := ⟨_, rfl⟩
                have hcut : cutN m xn rn = nn := by unfold cutN; rw [HROOM.out, if_neg (by omega)]; exact hnn
                have hnr : nn = rn := hnn.symm
                subst hnr
                have hnp : 0 < nn := hpos
                have HCUT := Lib.hid hcut
                clear hcut
                have hpm : (p.more || decide (nn < nn)) = false := by rw [HMO.out]; simp
                have HPfalse := Lib.hid hpm
                clear hpm
                go_wp2_with fail
                rw [HX0.out, HGX.out]
                refine (fsize_any xA xn xc (by omega) _).mono ?_
                rintro e4 w' ⟨rfl, hw'⟩
                rw [hw']
                clear hw'
                have f0 := (HX.out.drew).cell 3
                have q3 := (HMR.out.below HBX0.out hgpx).drew.cell 3
                have q4 := (HX.out.drew).frozen 3
                have q5 := (HX.out.drew).frozen 4
                have q6 := (HX.out.drew).frozen 9
                have q7 := (HX.out.drew).frozen 10
                have r3 := (HX.out.drew).cell 3
                have r4 := (HX.out.drew).cell 4
                have r9 := (HX.out.drew).cell 9
                have r10 := (HX.out.drew).cell 10
                simp only [pkC, List.getElem?_toArray, List.getElem?_cons_zero, List.getElem?_cons_succ] at f0 q3 r3 r4 r9 r10
                rw [HMO.out] at q3
                have u4 := HX.out.frozen 3
                have u5 := HX.out.frozen 4
                have u6 := HX.out.frozen 9
                have u7 := HX.out.frozen 10
                have v3 := HX.out.cell 3
                have v4 := HX.out.cell 4
                have v9 := HX.out.cell 9
                have v10 := HX.out.cell 10
                have p3 := (HMR.out.below HBX0.out hgpx).cell 3
                simp only [pkC, List.getElem?_toArray, List.getElem?_cons_zero, List.getElem?_cons_succ] at v3 v4 v9 v10 p3
                rw [HMO.out] at p3
                have hnrc : nn ≤ rc := by omega
                have hne1 : gp ≠ gx := by omega
                have hne2 : gx ≠ gp := by omega
                go_wp2_with fail
                go_region
                have HNRC := Lib.hid hnrc
                obtain ⟨X1, hX1⟩ : ∃ X1, ((((X0.setCell ⟨gx, 9, none⟩ (.slice xA xn xc)).setCell ⟨gx, 10, none⟩ (.slice rA nn rc)).setCell ⟨gx, 4, none⟩ (.int .i64 at_)).setCell ⟨gx, 3, none⟩ (.bool false)).drew = X1 := ⟨_, rfl⟩
                have hx1 : Bk X1 gx 26 (pkC (piece p false at_) (.slice xA xn xc) (.slice rA nn rc)) := by rw [← hX1]; exact ((((HX.out.set 9 _).set 10 _).set 4 _).set 3 _).drew
                have hB01 : Below gx X0 X1 := by rw [← hX1]; exact (Below.set1 (Below.set1 (Below.set1 (Below.set1 (Below.refl gx X0) (Nat.le_refl _) _) (Nat.le_refl _) _) (Nat.le_refl _) _) (Nat.le_refl _) _).drew
                have hBw1 : Below gx wr X1 := HBX0.out.trans hB01
                have ro1 : RB X1 gx xA opts := Rw.below (show RB wr gx xA opts from HGX.out ▸ HRO.out) hBw1
                have rr1 : RB X1 gx rA (rest.take nn) := RB.take (Rw.below (show RB wr gx rA rest from Rw.more HRE.out (Nat.le_of_lt hgpx)) hBw1) nn
                have hgx1 := hx1.lt
                have HX1 := Lib.hid hX1
                have HBW1 := Lib.hid hBw1
                have HRO1 := Lib.hid ro1
                have HRR1 := Lib.hid rr1
                have a0 := hx1.cell 0
                have a1 := hx1.cell 1
                have a2 := hx1.cell 2
                have a3 := hx1.cell 3
                have a4 := hx1.cell 4
                have a5 := hx1.cell 5
                have a6 := hx1.cell 6
                have a7 := hx1.cell 7
                have a8 := hx1.cell 8
                have a9 := hx1.cell 9
                have a10 := hx1.cell 10
                simp only [piece, pkC, List.getElem?_toArray, List.getElem?_cons_zero, List.getElem?_cons_succ] at a0 a1 a2 a3 a4 a5 a6 a7 a8 a9 a10
                clear hX1 hx1 hB01 hBw1 ro1 rr1 f0 q3 q4 q5 q6 q7 r3 r4 r9 r10 u4 u5 u6 u7 v3 v4 v9 v10 p3 y0 y1 y2 y3 y4 y5 y6 y7 y8 y9 y10 hnrc
                rw [HX1.out]
                go_wp2_with fail
                refine (own_any (piece p false at_) xA rA xn xc nn rc gx opts (rest.take nn) HXN.out (by omega) (by rw [List.length_take, HRL.out]; omega) (by omega) X1 HRO1.out HRR1.out (by omega)).mono ?_
                rintro e5 X2 ⟨A3, c3, A4, c4, rfl, hO2, hB2⟩
                simp only [pkC, piece]
                have hz2 := hB2.size
                have hBw2 : Below gx wr X2 := HBW1.out.trans (hB2.mono (by omega))
                have hP2 : PsAt X2 (gp + 1) (.slice A8 n8 c8) n8 L := World.ownsRow_below HP.out (HGX.out ▸ hBw2)
                have hPM2 : PmsOk X2 (gp + 1) L := HPM.out.below (HGX.out ▸ hBw2)
                have HO2 := Lib.hid hO2
                have HPM2 := Lib.hid hPM2
                have HBW2 := Lib.hid hBw2
                have HLT2 : Hid (∀ y ∈ L, ∀ b, (blk y.oA = some b ∨ blk y.dA = some b) → b < X1.heap.size) := Lib.hid (fun y hy b hb => by have := HPM.out.lt y hy b hb; have := HGX.out; omega)
                have hsz8 : n8 ≤ 100000 := by have := HN8.out; have := HDN.out; omega
                have hgp2 : gp + 1 ≤ X2.heap.size := by omega
                clear a0 a1 a2 a3 a4 a5 a6 a7 a8 a9 a10
                clear hO2 hPM2 hB2 hBw2
                go_wp2_with (at_builtin; refine ap_pk rfl (.tmp 82) (.tmp 85) rfl (gp + 1) rfl hP2 ⟨piece p false at_, A3, xn, c3, opts, A4, nn, c4, rest.take nn⟩ rfl rfl hsz8 hgp2 ?_; intro v8 X3 hP3 hg3)
                have hpms : PmsOk X2 (gp + 1) (L ++ [⟨piece p false at_, A3, xn, c3, opts, A4, nn, c4, rest.take nn⟩]) := HPM2.out.snoc (mid := X1.heap.size) HO2.out (by omega) HLT2.out
                have hpms3 := hpms.grown hP2 hg3
                have hsl := hP3.sl
                obtain ⟨A8', c8', rfl⟩ := hsl
                have hz3 := hg3.size
                have hB23 : Below (gp + 1) X2 X3 := (Below.refl _ _).grown hg3 hgp2 (fun b hb => (hP2.ty hb).1)
                have hB3 : Below (gp + 1) W2 X3 := (HBR.out.trans (HBW2.out.mono (by have := HGX.out; omega))).trans hB23
                have hm3 := HMD.out.below hB3 (Nat.lt_succ_self _)
                have z9 := hm3.drew.cell 9
                simp only [pkC, List.getElem?_toArray, List.getElem?_cons_zero, List.getElem?_cons_succ] at z9
                have hlt3 : gp < X3.drew.heap.size := hm3.lt
                have hgood : goodO ol = true := by
                  rcases HE.out with ⟨_, h⟩ | ⟨_, _, h⟩ | ⟨_, _, _, _, h⟩ | ⟨_, _, h, _⟩
                  · cases h
                  · cases h
                  · cases h
                  · exact h
                have ro3 : RB X3.drew gp oA ol := Rw.drew (Rw.below HRX.out (hB3.mono (Nat.le_succ _)))
                have HCOP : Hid (Calls Try.prog 30 #[.slice oA on oc] X3.drew fun e w' => ∃ A n c, e = .returned (.slice A n c) ∧ OB 5 w' X3.drew.heap.size A n c (copO ol) ∧ Below X3.drew.heap.size X3.drew w') := Lib.hid (cop_any oA on oc gp ol HN.out hc (by have := HON.out; omega) hb hgood X3.drew ro3 (Nat.le_of_lt hlt3))
                have hwat : IntKind.i64.wrap (at_ + (nn : Int)) = at_ + nn := IntWalk.i64_in _ (by omega)
                have HP3 := Lib.hid hP3
                have HPM3 := Lib.hid hpms3
                have HB3 := Lib.hid hB3
                have HB23 := Lib.hid hB23
                have hnle : nn ≤ nn := by omega
                clear hP2 hP3 hg3 hpms hpms3 hB23 hB3 hm3 ro3
                rcases Decidable.em (rc = nn) with hrcn | hrcn
                · have hrcn2 : nn = rc := hrcn.symm
                  subst hrcn2
                  go_wp2_with fail
                  go_region_held3 (fun w' => w'.cell? ⟨gp, 9, none⟩ = some (.slice oA on oc))
                    (first | (with_reducible assumption) | go_keep)
                    (first
                      | (go_at_call 30; with_reducible refine HCOP.out.mono ?_; rintro e6 X4 ⟨A5, n5, c5, rfl, hO5, hB5⟩; have w9 := bcell hB5 hlt3 z9))
                  have HO5 := Lib.hid hO5
                  have HB5 := Lib.hid hB5
                  clear hO5 hB5
                  go_wp2
                  go_roundw
                  case rel =>
                    obtain ⟨f', rfl⟩ : ∃ f', ff = f' + 1 := ⟨ff - 1, by omega⟩
                    have hl5 := HO5.out.length
                    have hc5 := Ow.cap HO5.out
                    have hcl := copO_len hgood
                    have hon := HN.out
                    have hon4 := HON.out
                    have hatn := HATN.out
                    have hn8 := HN8.out
                    have hrl := HRL.out
                    have hgx := HGX.out
                    have hsz5 : X3.heap.size ≤ X4.heap.size := HB5.out.size
                    have hb5 : Below X3.heap.size X3 X4 := ((Below.refl _ X3).drew).trans HB5.out
                    have HRZ := Lib.hid (Rw.below (Rw.below (Rw.below HRE.out (HBW2.out.mono (by omega))) (HB23.out.mono (Nat.le_succ _))) (hb5.mono (by omega)) : RB X4 gp rA rest)
                    have hpl : (L ++ [(⟨piece p false at_, A3, xn, c3, opts, A4, nn, c4, rest.take nn⟩ : Pm)]).map Pm.plain ++ piecesF f' p m ol (copO ol) (rest.drop nn) (at_ + nn) = R := by
                      rw [List.map_append, List.append_assoc, ← HOUT.out, piecesF_more (n := nn) (by rw [HRL.out]; exact hpos) (by rw [HXN.out, HRL.out]; exact HCUT.out), HRL.out, HPfalse.out]; rfl
                    have hps : PsAt X4 (gp + 1) (.slice A8' (n8 + 1) c8') (n8 + 1) (L ++ [⟨piece p false at_, A3, xn, c3, opts, A4, nn, c4, rest.take nn⟩]) := World.ownsRow_below HP3.out hb5
                    have hpm4 : PmsOk X4 (gp + 1) (L ++ [⟨piece p false at_, A3, xn, c3, opts, A4, nn, c4, rest.take nn⟩]) := HPM3.out.below hb5
                    have hbs : Bs (copO ol) := by unfold copO; exact copF_bs _ _ _ hb
                    refine ⟨0, by omega, Lib.hid ⟨f', L ++ [⟨piece p false at_, A3, xn, c3, opts, A4, nn, c4, rest.take nn⟩], A8', n8 + 1, c8', A5, n5, c5, copO ol, rA, 0, rest.drop nn, at_ + nn, ?_, ?_, ?_, ?_, hps, hpm4, OB.rb HO5.out, hl5, hc5, by omega, hbs, (by have h := RB.cut HRZ.out nn nn (by rw [HRL.out]; omega); rw [if_pos rfl] at h; exact h), by have h := List.length_drop (i := nn) (l := rest); omega, by omega, hpl, by omega, by omega, by omega, by omega, HB3.out.trans (hb5.mono (by omega))⟩⟩
                    all_goals (first | rfl | (trace_state; go_num))
                  case measure => (first | (show _ < _; simp; omega) | (trace_state; simp_all))
                · go_wp2_with fail
                  go_region_held3 (fun w' => w'.cell? ⟨gp, 9, none⟩ = some (.slice oA on oc))
                    (first | (with_reducible assumption) | go_keep)
                    (first
                      | (go_at_call 30; with_reducible refine HCOP.out.mono ?_; rintro e6 X4 ⟨A5, n5, c5, rfl, hO5, hB5⟩; have w9 := bcell hB5 hlt3 z9))
                  have HO5 := Lib.hid hO5
                  have HB5 := Lib.hid hB5
                  clear hO5 hB5
                  go_wp2
                  go_roundw
                  case rel =>
                    obtain ⟨f', rfl⟩ : ∃ f', ff = f' + 1 := ⟨ff - 1, by omega⟩
                    have hl5 := HO5.out.length
                    have hc5 := Ow.cap HO5.out
                    have hcl := copO_len hgood
                    have hon := HN.out
                    have hon4 := HON.out
                    have hatn := HATN.out
                    have hn8 := HN8.out
                    have hrl := HRL.out
                    have hgx := HGX.out
                    have hsz5 : X3.heap.size ≤ X4.heap.size := HB5.out.size
                    have hb5 : Below X3.heap.size X3 X4 := ((Below.refl _ X3).drew).trans HB5.out
                    have HRZ := Lib.hid (Rw.below (Rw.below (Rw.below HRE.out (HBW2.out.mono (by omega))) (HB23.out.mono (Nat.le_succ _))) (hb5.mono (by omega)) : RB X4 gp rA rest)
                    have hpl : (L ++ [(⟨piece p false at_, A3, xn, c3, opts, A4, nn, c4, rest.take nn⟩ : Pm)]).map Pm.plain ++ piecesF f' p m ol (copO ol) (rest.drop nn) (at_ + nn) = R := by
                      rw [List.map_append, List.append_assoc, ← HOUT.out, piecesF_more (n := nn) (by rw [HRL.out]; exact hpos) (by rw [HXN.out, HRL.out]; exact HCUT.out), HRL.out, HPfalse.out]; rfl
                    have hps : PsAt X4 (gp + 1) (.slice A8' (n8 + 1) c8') (n8 + 1) (L ++ [⟨piece p false at_, A3, xn, c3, opts, A4, nn, c4, rest.take nn⟩]) := World.ownsRow_below HP3.out hb5
                    have hpm4 : PmsOk X4 (gp + 1) (L ++ [⟨piece p false at_, A3, xn, c3, opts, A4, nn, c4, rest.take nn⟩]) := HPM3.out.below hb5
                    have hbs : Bs (copO ol) := by unfold copO; exact copF_bs _ _ _ hb
                    refine ⟨0, by omega, Lib.hid ⟨f', L ++ [⟨piece p false at_, A3, xn, c3, opts, A4, nn, c4, rest.take nn⟩], A8', n8 + 1, c8', A5, n5, c5, copO ol, (Option.map (fun x => Addr.add x nn) rA), (rc - nn), rest.drop nn, at_ + nn, ?_, ?_, ?_, ?_, hps, hpm4, OB.rb HO5.out, hl5, hc5, by omega, hbs, (by have h := RB.cut HRZ.out rc nn (by rw [HRL.out]; omega); rw [if_neg hrcn] at h; exact h), by have h := List.length_drop (i := nn) (l := rest); omega, by omega, hpl, by omega, by omega, by omega, by omega, HB3.out.trans (hb5.mono (by omega))⟩⟩
                    all_goals (first | rfl | (trace_state; go_num))
                  case measure => (first | (show _ < _; simp; omega) | (trace_state; simp_all))
  · have HE2 : Hid (splIs p ol dl m k []) := Lib.hid (.inr ⟨d, d2, .inl ⟨HE.out, hk, rfl⟩⟩)
    have hk2 : (k != 0) = true := by simpa using hk
    obtain ⟨rfl, rfl, rfl⟩ := hk0 hk
    clear hk0 hk1 hE hB1
    go_wp2
    go_ret2
    exact ⟨k, none, 0, 0, [], rfl, HE2.out, PsAt.none_ _ _, PmsOk.nil _ _, by rw [HGP.out]; exact HBW.out.trans (HB1.out.mono (by omega))⟩
end Go.Proofs.Ytcjkhonapafndaa
