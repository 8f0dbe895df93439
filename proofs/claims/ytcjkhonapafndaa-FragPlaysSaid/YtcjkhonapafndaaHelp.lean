/- Proved: what the laws' own helpers long, packets and lists of package wharflaw7 do, each by its walk. Conditions: the rows lie in memory. -/
import Derived.Test.YtcjkhonapafndaaRspl
import Derived.Test.YtcjkhonapafndaaMem
import Derived.Test.YtcjkhonapafndaaSpoil
set_option linter.unusedVariables false
set_option linter.unusedSimpArgs false
namespace Go.Proofs.Ytcjkhonapafndaa
open Go.RowKit

theorem PsAt.cell {w : World} {base : Nat} {A : Option Addr} {n c : Nat} {L : List Pm} (h : PsAt w base (.slice A n c) n L) {k : Nat} {x : Pm} (hk : L[k]? = some x) :
    ∃ g, A = some ⟨g, 0, none⟩ ∧ base ≤ g ∧ g < w.heap.size ∧ ∀ j u, (pmC x)[j]? = some u → w.cell? ⟨g, k * 11 + j, none⟩ = some u := by
  have hkl : k < L.length := by
    rcases Nat.lt_or_ge k L.length with h1 | h1
    · exact h1
    · rw [List.getElem?_eq_none h1] at hk; cases hk
  have hln := h.len
  rcases h.2 with ⟨h1, h2⟩ | ⟨g, cap, cur, h1, h2, h3, h4, h5, h6, h7⟩
  · omega
  · injection h1 with a b d
    subst a
    refine ⟨g, rfl, h2, (Array.getElem?_eq_some_iff.1 h3).1, fun j u hu => ?_⟩
    have hj : j < 11 := by
      rcases Nat.lt_or_ge j 11 with h1 | h1
      · exact h1
      · rw [List.getElem?_eq_none (by rw [pmC_len]; exact h1)] at hu; cases hu
    rw [cell_of_row w g (k * 11 + j) cur _ (0, 0) h3]
    have := flat_get L k j x hk hj
    rw [hu, ← h7, List.getElem?_take, if_pos (by omega)] at this
    simpa using this
theorem PmRd.rbs {w : World} {base : Nat} {x : Pm} (h : PmRd w base x) (hb : base ≤ w.heap.size) : RB w w.heap.size x.oA x.ol ∧ RB w w.heap.size x.dA x.dl :=
  ⟨h.1.elim (fun q => Rw.more q hb) (fun q => OB.rb q), Rw.more h.2.1 hb⟩
theorem PmOk.rd {w : World} {base base' : Nat} {x : Pm} (h : PmOk w base x) (hb : w.heap.size ≤ base') : PmRd w base' x :=
  ⟨.inl (Rw.more (OB.rb h.1) hb), Rw.more (OB.rb h.2.1) hb, OB.length h.1, OB.length h.2.1, Ow.cap h.1, Ow.cap h.2.1⟩

set_option maxHeartbeats 2000000 in
set_option maxRecDepth 100000 in
theorem long_any (p : PkV) (oA dA : Option Addr) (on oc dn dc : Nat) (w : World) :
    Calls Try.prog 11 #[.agg (pkC p (.slice oA on oc) (.slice dA dn dc))] w fun e w' => e = .returned (.bool (decide (6000 < (dn : Int)) || decide (100 < (on : Int)))) ∧ Below w.heap.size w w' := by
  have hB : Below w.heap.size w (w.alloc (.cells (pkC p (.slice oA on oc) (.slice dA dn dc)) 26)) := (Below.refl _ _).alloc (Nat.le_refl _) _
  simp only [pkC] at hB ⊢
  have HB := Lib.hid hB
  clear hB
  go_enter Try.func11, Try.ntmps11
  go_wp2
  all_goals
    go_ret
    exact ⟨rfl, HB.out⟩

set_option maxHeartbeats 4000000 in
set_option maxRecDepth 100000 in
theorem packets_any (p : PkV) (oA oA' dA dA' : Option Addr) (on oc oc' dn dc dc' : Nat) (ol dl : List Int) (hn : ol.length = on) (hmo : on ≤ 140737488355328) (hb : Bs ol) (hdn : dl.length = dn) (hmd : dn ≤ 140737488355328) (hbd : Bs dl) (w : World)
    (h1 : RB w w.heap.size oA ol) (h2 : RB w w.heap.size oA' ol) (h3 : RB w w.heap.size dA dl) (h4 : RB w w.heap.size dA' dl) :
    Calls Try.prog 27 #[.agg (pkC p (.slice oA on oc) (.slice dA dn dc)), .agg (pkC p (.slice oA' on oc') (.slice dA' dn dc'))] w fun e w' => e = .returned (.bool true) ∧ Below w.heap.size w w' := by
  obtain ⟨gp, hgp⟩ : ∃ gp, w.heap.size = gp := ⟨_, rfl⟩
  obtain ⟨W, hW⟩ : ∃ W, (w.alloc (.cells (pkC p (.slice oA on oc) (.slice dA dn dc)) 26)).alloc (.cells (pkC p (.slice oA' on oc') (.slice dA' dn dc')) 26) = W := ⟨_, rfl⟩
  have hm1 : Bk W gp 26 (pkC p (.slice oA on oc) (.slice dA dn dc)) := by rw [← hW, ← hgp]; exact (Bk.new w _ _).alloc _
  have hm2 : Bk W (gp + 1) 26 (pkC p (.slice oA' on oc') (.slice dA' dn dc')) := by
    rw [← hW]
    have := Bk.new (w.alloc (.cells (pkC p (.slice oA on oc) (.slice dA dn dc)) 26)) 26 (pkC p (.slice oA' on oc') (.slice dA' dn dc'))
    rwa [World.size_alloc, hgp] at this
  have hB : Below gp w W := by rw [← hW, ← hgp]; exact ((Below.refl _ _).alloc (Nat.le_refl _) _).alloc (by simp) _
  have r1 : RB W gp oA ol := Rw.below (hgp ▸ h1) hB
  have r2 : RB W gp oA' ol := Rw.below (hgp ▸ h2) hB
  have r3 : RB W gp dA dl := Rw.below (hgp ▸ h3) hB
  have r4 : RB W gp dA' dl := Rw.below (hgp ▸ h4) hB
  have HW : Hid ((w.alloc (.cells #[.int .i64 p.svc, .int .i64 p.id, .bool p.whole, .bool p.more, .int .i64 p.off, .int .i64 p.life, .int .i64 p.proto, .int .u32 p.src, .int .u32 p.dst, .slice oA on oc, .slice dA dn dc] 26)).alloc
    (.cells #[.int .i64 p.svc, .int .i64 p.id, .bool p.whole, .bool p.more, .int .i64 p.off, .int .i64 p.life, .int .i64 p.proto, .int .u32 p.src, .int .u32 p.dst, .slice oA' on oc', .slice dA' dn dc'] 26) = W) := Lib.hid hW
  have HGP := Lib.hid hgp
  have HB := Lib.hid hB
  have HN := Lib.hid hn
  have HDN := Lib.hid hdn
  have e1 : (p.svc == p.svc) = true := by simp
  have H1 := Lib.hid hm1
  have H2 := Lib.hid hm2
  clear hW hgp hB h1 h2 h3 h4 hm1 hm2 hn hdn
  unfold pkC
  go_enter Try.func27, Try.ntmps27
  go_wp2_with fail
  rw [HW.out]
  refine (same_any oA oA' on oc on oc' gp gp ol ol HN.out HN.out (by omega) (by omega) hb hb _ r1 r2).mono ?_
  rintro e w' ⟨rfl, k, rfl⟩
  have c1 := (H1.out.drewN k).cell 10
  have c2 := (H2.out.drewN k).cell 10
  simp only [pkC, List.getElem?_toArray, List.getElem?_cons_zero, List.getElem?_cons_succ] at c1 c2
  rw [HGP.out]
  go_wp2_with fail
  refine (same_any dA dA' dn dc dn dc' gp gp dl dl HDN.out HDN.out (by omega) (by omega) hbd hbd _ (Rw.drewN r3 k) (Rw.drewN r4 k)).mono ?_
  rintro e w' ⟨rfl, k2, rfl⟩
  go_wp2
  go_ret
  exact ⟨rfl, by rw [HGP.out]; exact bel_drewN HB.out (k + k2)⟩

set_option maxHeartbeats 4000000 in
set_option maxRecDepth 100000 in
theorem lists_any (A A' : Option Addr) (n n' c c' base base' : Nat) (L L' : List Pm) (he : L.map Pm.plain = L'.map Pm.plain) (w : World) (h : PsAt w base (.slice A n c) n L) (h' : PsAt w base' (.slice A' n' c') n' L')
    (hr : PmsRd w w.heap.size L) (hr' : PmsRd w w.heap.size L') (hm : ∀ x ∈ L, x.on ≤ 140737488355328 ∧ x.dn ≤ 140737488355328 ∧ Bs x.ol ∧ Bs x.dl) (hn : n ≤ 1000000) :
    Calls Try.prog 15 #[.slice A n c, .slice A' n' c'] w fun e w' => e = .returned (.bool true) ∧ Below w.heap.size w w' := by
  have hln := h.len
  have hln' := h'.len
  have hnn : n' = n := by
    have := congrArg List.length he
    simp at this
    omega
  subst hnn
  have HE := Lib.hid he
  have HP := Lib.hid h
  have HP' := Lib.hid h'
  have HR := Lib.hid hr
  have HR' := Lib.hid hr'
  have HM := Lib.hid hm
  have HLN := Lib.hid hln
  have HLN' := Lib.hid hln'
  clear he h h' hr hr' hm hln hln'
  go_enter Try.func15, Try.ntmps15
  go_wp2
  go_loopw [5] (fun i wr => ∃ k : Nat, k ≤ n' ∧ i = .int .i64 k ∧ Hid (Below w.heap.size w wr)) (fun i _ => n' - (intOf i).toNat)
  case atStart => exact ⟨0, Nat.zero_le _, rfl, Lib.hid (Below.refl _ _)⟩
  case round =>
    obtain ⟨k, hk, rfl, HB⟩ := hrel
    rcases Nat.lt_or_ge k n' with c1 | c1
    · obtain ⟨x, hx⟩ : ∃ x, L[k]? = some x := ⟨_, List.getElem?_eq_getElem (by rw [HLN.out]; exact c1)⟩
      obtain ⟨x', hx'⟩ : ∃ x, L'[k]? = some x := ⟨_, List.getElem?_eq_getElem (by rw [HLN'.out]; exact c1)⟩
      have hxx : x.plain = x'.plain := by
        have e1 : (L.map Pm.plain)[k]? = some x.plain := by rw [List.getElem?_map, hx]; rfl
        have e2 : (L'.map Pm.plain)[k]? = some x'.plain := by rw [List.getElem?_map, hx']; rfl
        rw [HE.out, e2] at e1
        exact (Option.some.inj e1).symm
      have hmem := List.mem_of_getElem? hx
      have hmem' := List.mem_of_getElem? hx'
      obtain ⟨g, rfl, hg, hgl, hc⟩ := HP.out.cell hx
      obtain ⟨g', rfl, hg', hgl', hc'⟩ := HP'.out.cell hx'
      obtain ⟨q1, q2⟩ := ((HR.out x hmem).below (Nat.le_refl _) HB.out).rbs HB.out.size
      obtain ⟨q1', q2'⟩ := ((HR'.out x' hmem').below (Nat.le_refl _) HB.out).rbs HB.out.size
      obtain ⟨_, _, n1, n2, n3, n4⟩ := HR.out x hmem
      obtain ⟨_, _, n1', n2', n3', n4'⟩ := HR'.out x' hmem'
      obtain ⟨m1, m2, m3, m4⟩ := HM.out x hmem
      have hcc : ∀ j u, (pmC x)[j]? = some u → wr.drew.cell? ⟨g, k * 11 + j, none⟩ = some u := fun j u hu => (HB.out.cell (p := ⟨g, k * 11 + j, none⟩) hgl).trans (hc j u hu)
      have hcc' : ∀ j u, (pmC x')[j]? = some u → wr.drew.cell? ⟨g', k * 11 + j, none⟩ = some u := fun j u hu => (HB.out.cell (p := ⟨g', k * 11 + j, none⟩) hgl').trans (hc' j u hu)
      obtain ⟨p, oA, on, oc, ol, dA, dn, dc, dl⟩ := x
      obtain ⟨p', oA', on', oc', ol', dA', dn', dc', dl'⟩ := x'
      simp only [Pm.plain, Prod.mk.injEq] at hxx
      obtain ⟨rfl, rfl, rfl⟩ := hxx
      simp only at q1 q2 q1' q2' n1 n2 n3 n4 n1' n2' n3' n4' m1 m2 m3 m4
      obtain rfl : on' = on := by omega
      obtain rfl : dn' = dn := by omega
      have a0 : wr.drew.cell? ⟨g, k * 11, none⟩ = some (.int .i64 p.svc) := hcc 0 _ rfl
      have b0 : wr.drew.cell? ⟨g', k * 11, none⟩ = some (.int .i64 p.svc) := hcc' 0 _ rfl
      have hgl1 : g < wr.drew.heap.size := Nat.lt_of_lt_of_le hgl HB.out.size
      have hgl2 : g' < wr.drew.heap.size := Nat.lt_of_lt_of_le hgl' HB.out.size
      have a1 := hcc 1 _ rfl
      have b1 := hcc' 1 _ rfl
      have a2 := hcc 2 _ rfl
      have b2 := hcc' 2 _ rfl
      have a3 := hcc 3 _ rfl
      have b3 := hcc' 3 _ rfl
      have a4 := hcc 4 _ rfl
      have b4 := hcc' 4 _ rfl
      have a5 := hcc 5 _ rfl
      have b5 := hcc' 5 _ rfl
      have a6 := hcc 6 _ rfl
      have b6 := hcc' 6 _ rfl
      have a7 := hcc 7 _ rfl
      have b7 := hcc' 7 _ rfl
      have a8 := hcc 8 _ rfl
      have b8 := hcc' 8 _ rfl
      have a9 := hcc 9 _ rfl
      have b9 := hcc' 9 _ rfl
      have a10 := hcc 10 _ rfl
      have b10 := hcc' 10 _ rfl
      have HPK := Lib.hid (packets_any p oA oA' dA dA' on' oc oc' dn' dc dc' ol dl n1 m1 m3 n2 m2 m4)
      have HQ := Lib.hid (And.intro (And.intro q1 q1') (And.intro q2 q2'))
      clear q1 q1' q2 q2' n1 n2 n1' n2' hc hc' hcc hcc' hx hx' hmem hmem' m3 m4
      unfold pkC at HPK
      have c1' : (k : Int) < n' := by omega
      go_wp2_with fail
      go_region_held3 (fun w' => w'.cell? ⟨g, k * 11, none⟩ = some (.int .i64 p.svc) ∧ w'.cell? ⟨g, k * 11 + 1, none⟩ = some (.int .i64 p.id) ∧ w'.cell? ⟨g, k * 11 + 2, none⟩ = some (.bool p.whole) ∧ w'.cell? ⟨g, k * 11 + 3, none⟩ = some (.bool p.more) ∧ w'.cell? ⟨g, k * 11 + 4, none⟩ = some (.int .i64 p.off) ∧ w'.cell? ⟨g, k * 11 + 5, none⟩ = some (.int .i64 p.life) ∧ w'.cell? ⟨g, k * 11 + 6, none⟩ = some (.int .i64 p.proto) ∧ w'.cell? ⟨g, k * 11 + 7, none⟩ = some (.int .u32 p.src) ∧ w'.cell? ⟨g, k * 11 + 8, none⟩ = some (.int .u32 p.dst) ∧ w'.cell? ⟨g, k * 11 + 9, none⟩ = some (.slice oA on' oc) ∧ w'.cell? ⟨g, k * 11 + 10, none⟩ = some (.slice dA dn' dc) ∧ w'.cell? ⟨g', k * 11, none⟩ = some (.int .i64 p.svc) ∧ w'.cell? ⟨g', k * 11 + 1, none⟩ = some (.int .i64 p.id) ∧ w'.cell? ⟨g', k * 11 + 2, none⟩ = some (.bool p.whole) ∧ w'.cell? ⟨g', k * 11 + 3, none⟩ = some (.bool p.more) ∧ w'.cell? ⟨g', k * 11 + 4, none⟩ = some (.int .i64 p.off) ∧ w'.cell? ⟨g', k * 11 + 5, none⟩ = some (.int .i64 p.life) ∧ w'.cell? ⟨g', k * 11 + 6, none⟩ = some (.int .i64 p.proto) ∧ w'.cell? ⟨g', k * 11 + 7, none⟩ = some (.int .u32 p.src) ∧ w'.cell? ⟨g', k * 11 + 8, none⟩ = some (.int .u32 p.dst) ∧ w'.cell? ⟨g', k * 11 + 9, none⟩ = some (.slice oA' on' oc') ∧ w'.cell? ⟨g', k * 11 + 10, none⟩ = some (.slice dA' dn' dc'))
        (first | (with_reducible exact ⟨by assumption, by assumption, by assumption, by assumption, by assumption, by assumption, by assumption, by assumption, by assumption, by assumption, by assumption, by assumption, by assumption, by assumption, by assumption, by assumption, by assumption, by assumption, by assumption, by assumption, by assumption, by assumption⟩) | go_keep)
        (first
          | (go_at_call 27; refine (HPK.out wr.drew HQ.out.1.1 HQ.out.1.2 HQ.out.2.1 HQ.out.2.2).mono ?_; rintro e w' ⟨rfl, hB2⟩; have p0 := bcell hB2 hgl1 a0; have r0 := bcell hB2 hgl2 b0; have p1 := bcell hB2 hgl1 a1; have r1 := bcell hB2 hgl2 b1; have p2 := bcell hB2 hgl1 a2; have r2 := bcell hB2 hgl2 b2; have p3 := bcell hB2 hgl1 a3; have r3 := bcell hB2 hgl2 b3; have p4 := bcell hB2 hgl1 a4; have r4 := bcell hB2 hgl2 b4; have p5 := bcell hB2 hgl1 a5; have r5 := bcell hB2 hgl2 b5; have p6 := bcell hB2 hgl1 a6; have r6 := bcell hB2 hgl2 b6; have p7 := bcell hB2 hgl1 a7; have r7 := bcell hB2 hgl2 b7; have p8 := bcell hB2 hgl1 a8; have r8 := bcell hB2 hgl2 b8; have p9 := bcell hB2 hgl1 a9; have r9 := bcell hB2 hgl2 b9; have p10 := bcell hB2 hgl1 a10; have r10 := bcell hB2 hgl2 b10))
      have HB3 : Hid (Below w.heap.size w w') := Lib.hid (HB.out.drew.trans (hB2.mono HB.out.size))
      go_wp2
      go_roundw
      case rel => exact ⟨k + 1, by omega, by go_num, HB3⟩
      case measure => simp [intOf]; omega
    · have c1' : ¬ (k : Int) < n' := by omega
      go_wp2
      go_ret
      exact ⟨rfl, HB.out⟩
end Go.Proofs.Ytcjkhonapafndaa
