/- Proved: a packet's bytes, by ipv4.Encode, or what is wrong with it. Conditions: the packet lies in memory. -/
import Derived.Test.YtcjkhonapafndaaIpE
set_option linter.unusedVariables false
set_option linter.unusedSimpArgs false
namespace Go.Proofs.Ytcjkhonapafndaa
open Go.RowKit

def sumOf (l : List Int) : Int := 65535 - partC l
theorem sumv_any (A : Option Addr) (n c B : Nat) (l : List Int) (s : Int) (hs : sumOf l = s) (hn : l.length = n) (hmax : n ≤ 140737488355328) (hb : Bs l) (w : World) (hr : RB w B A l) :
    Calls Try.prog 43 #[.slice A n c] w fun e w' => e = .returned (.int .i64 s) ∧ w = w' := by
  rw [← hs]; exact sum_any A n c B l hn hmax hb w hr
/-- A packet's bytes. -/
def ipB (p : PkV) (ol dl : List Int) : List Int := hdrB p ol dl.length (sumOf (hdrB p ol dl.length 0)) ++ dl
theorem hdrB_bs (p : PkV) (ol : List Int) (dn : Nat) (s : Int) (hb : Bs ol) : Bs (hdrB p ol dn s) := by
  unfold hdrB
  refine Bs.append (Bs.append (Bs.append (Bs.append (Bs.append (Bs.append (Bs.append (Bs.append (Bs.append (Bs.append (Bs.append ?_ ?_) ?_) ?_) ?_) ?_) ?_) ?_) ?_) ?_) hb) ?_
  all_goals first | exact be_bs _ _ | (intro x hx; have := List.eq_of_mem_replicate hx; omega)
theorem hdrB_len (p : PkV) (ol : List Int) (dn : Nat) (s : Int) : (hdrB p ol dn s).length = hdN ol.length := by
  unfold hdrB
  simp [be_length]
  unfold hdN
  omega
def EncPost (p : PkV) (ol dl : List Int) (w : World) (e : Ending) (w' : World) : Prop :=
  ∃ k A n c, e = .returned (.tuple #[.slice A n c, .int .i64 k]) ∧ errIs p ol dl.length k ∧ (k ≠ 0 → A = none ∧ n = 0 ∧ c = 0) ∧ (k = 0 → OB 5 w' w.heap.size A n c (ipB p ol dl)) ∧ Below w.heap.size w w'
set_option maxHeartbeats 4000000 in
set_option maxRecDepth 100000 in
theorem enc_any (p : PkV) (hp : p.Ok) (oA dA : Option Addr) (on oc dn dc B : Nat) (ol dl : List Int) (hn : ol.length = on) (hc : on ≤ oc) (hmo : on ≤ 140737488355328) (hb : Bs ol) (hdn : dl.length = dn) (hmd : dn ≤ 140737488355328) (w : World) (hr : RB w B oA ol) (hrd : RB w B dA dl) (hB : B ≤ w.heap.size) :
    Calls Try.prog 19 #[.agg (pkC p (.slice oA on oc) (.slice dA dn dc))] w (EncPost p ol dl w) := by
  obtain ⟨W, hW⟩ : ∃ W, w.alloc (.cells (pkC p (.slice oA on oc) (.slice dA dn dc)) 26) = W := ⟨_, rfl⟩
  have hm : Bk W w.heap.size 26 (pkC p (.slice oA on oc) (.slice dA dn dc)) := by rw [← hW]; exact Bk.new w _ _
  have hBW : Below w.heap.size w W := by rw [← hW]; exact (Below.refl _ _).alloc (Nat.le_refl _) _
  have hrW : RB W B oA ol := Rw.below hr (hBW.mono hB)
  have hrdW : RB W B dA dl := Rw.below hrd (hBW.mono hB)
  have HN := Lib.hid hn
  have HDN := Lib.hid hdn
  have HM := Lib.hid hm
  have HBW := Lib.hid hBW
  have HZ := Lib.hid hm.lt
  have HR := Lib.hid hrW
  have HRD := Lib.hid hrdW
  have HW : Hid (w.alloc (.cells #[.int .i64 p.svc, .int .i64 p.id, .bool p.whole, .bool p.more, .int .i64 p.off, .int .i64 p.life, .int .i64 p.proto, .int .u32 p.src, .int .u32 p.dst, .slice oA on oc, .slice dA dn dc] 26) = W) := Lib.hid hW
  have HWR := Lib.hid (wrong_any p hp oA dA on oc dn dc B ol hn hc hmo hb hmd W hrW (by have := hBW.size; omega))
  clear hn hdn hW hBW hm hr hrd hrW hrdW
  unfold pkC at HWR
  unfold pkC
  go_enter Try.func19, Try.ntmps19
  go_wp2_with fail
  rw [HW.out]
  refine HWR.out.mono ?_
  rintro e1 W1 ⟨k, rfl, hE, hB1⟩
  have HE := Lib.hid hE
  have HB1 := Lib.hid hB1
  have hz := HZ.out
  have hz1 := hB1.size
  clear hB1
  rcases hE with ⟨a, rfl⟩ | ⟨a, b, rfl⟩ | ⟨a, b, c, d, rfl⟩ | ⟨a, b, c, d, rfl⟩
  · clear a
    go_wp2
    go_ret2
    exact ⟨1, none, 0, 0, rfl, by rw [HDN.out]; exact HE.out, fun _ => ⟨rfl, rfl, rfl⟩, fun h => absurd h (by decide), HBW.out.trans (HB1.out.mono (by omega))⟩
  · clear a b
    go_wp2
    go_ret2
    exact ⟨3, none, 0, 0, rfl, by rw [HDN.out]; exact HE.out, fun _ => ⟨rfl, rfl, rfl⟩, fun h => absurd h (by decide), HBW.out.trans (HB1.out.mono (by omega))⟩
  · clear a b c d
    go_wp2
    go_ret2
    exact ⟨5, none, 0, 0, rfl, by rw [HDN.out]; exact HE.out, fun _ => ⟨rfl, rfl, rfl⟩, fun h => absurd h (by decide), HBW.out.trans (HB1.out.mono (by omega))⟩
  · obtain ⟨_, _, _, _, ⟨o0, o1⟩, _⟩ := a
    rw [HN.out] at b
    have d2 := d.1
    rw [HN.out] at d2
    have hdn : dn ≤ 65535 := by omega
    have hm1 := HM.out.below HB1.out HZ.out
    have z9 := hm1.cell 9
    simp only [pkC, List.getElem?_toArray, List.getElem?_cons_zero, List.getElem?_cons_succ] at z9
    clear c d d2
    go_wp2_with fail
    refine (size_any oA on oc hmo _).mono ?_
    rintro e2 w' ⟨rfl, rfl⟩
    have hh := hdN_le on
    obtain ⟨gn, hgn⟩ : ∃ gn, W1.heap.size = gn := ⟨_, rfl⟩
    obtain ⟨gp, hgp⟩ : ∃ gp, w.heap.size = gp := ⟨_, rfl⟩
    obtain ⟨W2, hW2⟩ : ∃ W2, W1.alloc (.cells #[.int .i64 (hdN on)] 3) = W2 := ⟨_, rfl⟩
    have hB2 : Below gn W1 W2 := by rw [← hW2, ← hgn]; exact (Below.refl _ _).alloc (Nat.le_refl _) _
    have hn2 : Bk W2 gn 3 #[.int .i64 (hdN on)] := by rw [← hW2, ← hgn]; exact Bk.new W1 _ _
    have hp2 : Bk W2 gp 26 (pkC p (.slice oA on oc) (.slice dA dn dc)) := by rw [← hgp]; exact hm1.below hB2 (by rw [← hgn]; exact hm1.lt)
    have hr2 : RB W2 B oA ol := Rw.below (Rw.below HR.out (HB1.out.mono (by omega))) (hB2.mono (by omega))
    have hrd2 : RB W2 B dA dl := Rw.below (Rw.below HRD.out (HB1.out.mono (by omega))) (hB2.mono (by omega))
    obtain ⟨s, hs⟩ : ∃ s, sumOf (hdrB p ol dn 0) = s := ⟨_, rfl⟩
    have hz2 := hB2.size
    have HS := Lib.hid hs
    have HC0 := Lib.hid (hdr_any p hp o0 o1 oA dA on oc dn dc B ol HN.out b hdn W2.drew (Rw.drew hr2) (by show B ≤ W2.heap.size; omega) gn gp hn2.drew hp2.drew 0)
    have hB1z : B ≤ W2.drew.heap.size := by show B ≤ W2.heap.size; omega
    have HC1 : Hid (∀ W3, Below W2.drew.heap.size W2.drew W3 → ∀ sm : Int, Calls Try.prog 36 #[.int .i64 sm, .pointer (some ⟨gn, 0, none⟩), .pointer (some ⟨gp, 0, none⟩)] W3 fun e w' => ∃ A n c, e = .returned (.slice A n c) ∧ OB 5 w' W3.heap.size A n c (hdrB p ol dn sm) ∧ Below W3.heap.size W3 w') := Lib.hid (fun W3 h3 sm =>
      hdr_any p hp o0 o1 oA dA on oc dn dc B ol HN.out b hdn W3 (Rw.below (Rw.drew hr2) (h3.mono hB1z)) (Nat.le_trans hB1z h3.size) gn gp (hn2.drew.below h3 hn2.lt) (hp2.drew.below h3 hp2.lt) sm)
    have HLN : Hid (∀ sm, (hdrB p ol dn sm).length = hdN on) := Lib.hid (fun sm => by rw [hdrB_len, HN.out])
    have HBH : Hid (∀ sm, Bs (hdrB p ol dn sm)) := Lib.hid (fun sm => hdrB_bs p ol dn sm hb)
    have z10 := (hp2.drew).cell 10
    simp only [pkC, List.getElem?_toArray, List.getElem?_cons_zero, List.getElem?_cons_succ] at z10
    have HW2 := Lib.hid hW2
    have HGN := Lib.hid hgn
    have HGP := Lib.hid hgp
    have hgpl : gp < W2.drew.heap.size := hp2.lt
    have HRD2 := Lib.hid (show RB W2.drew B dA dl from Rw.drew hrd2)
    have hmx : hdN on ≤ 140737488355328 := by omega
    have hmx2 : hdN on + dn ≤ 140737488355328 := by omega
    have HB2 := Lib.hid hB2
    clear hW2 hgn hgp hs hr2 hrd2 hn2 hp2 hm1 z9 hB2
    go_wp2_with fail
    rw [HW2.out, HGN.out, HGP.out]
    go_region_held3 (fun w' => w'.cell? ⟨gp, 10, none⟩ = some (.slice dA dn dc))
      (first | (with_reducible assumption) | go_keep)
      (first
        | (go_at_call 36; with_reducible refine HC0.out.mono ?_; rintro e W3 ⟨A3, n3, c3, rfl, hO3, hB3⟩; have y10 := bcell hB3 hgpl z10; obtain rfl : hdN on = n3 := (HLN.out 0).symm.trans (OB.length hO3))
        | (go_at_call 43; refine (sumv_any A3 (hdN on) c3 _ _ s HS.out (HLN.out 0) hmx (HBH.out 0) _ (OB.rb hO3)).mono ?_; rintro e w' ⟨rfl, rfl⟩)
        | (go_at_call 36; with_reducible refine (HC1.out _ hB3 s).mono ?_; rintro e W4 ⟨A4, n4, c4, rfl, hO4, hB4⟩; have x10 := bcell hB4 (Nat.lt_of_lt_of_le hgpl hB3.size) y10; obtain rfl : hdN on = n4 := (HLN.out s).symm.trans (OB.length hO4))
        | (refine st8 rfl (.tmp 20) (.tmp 22) rfl W3.heap.size rfl hO4 rfl (Rw.below (Rw.below HRD2.out (hB3.mono hB1z)) (hB4.mono (Nat.le_trans hB1z hB3.size))) HDN.out hmx2 hB4.size ?_; intro A5 c5 W5 hO5 hB5 hg5 hA5 hz5 hc5; have v10 := bcell hB5 (Nat.lt_of_lt_of_le hgpl hB3.size) x10))
    have HO5 : Hid (OB 5 W5 w.heap.size A5 (hdN on + dn) c5 (ipB p ol dl)) := Lib.hid (by
      unfold ipB
      rw [HDN.out, HS.out]
      exact Ow.mono hO5 (by have := hB3.size; have h2 : W2.heap.size ≤ W3.heap.size := this; omega))
    have HBF : Hid (Below w.heap.size w W5) := Lib.hid (by
      have h3 := hB3.size
      have h3' : W2.heap.size ≤ W3.heap.size := h3
      have q1 := HBW.out.trans (HB1.out.mono (by omega))
      have q2 := q1.trans (HB2.out.mono (by have := HGN.out; omega))
      have q3 : Below w.heap.size w W3 := q2.drew.trans (hB3.mono (by show w.heap.size ≤ W2.heap.size; omega))
      exact (q3.trans (hB4.mono (by omega))).trans (hB5.mono (by omega)))
    clear hO3 hO4 hO5 hB3 hB4 hB5 hg5 hA5 z10 y10 x10 v10
    go_wp2
    go_ret2
    exact ⟨0, A5, _, c5, rfl, by rw [HDN.out]; exact HE.out, fun h => absurd rfl h, fun _ => HO5.out, HBF.out⟩
end Go.Proofs.Ytcjkhonapafndaa
