/- Proved: a piece's whole, whatever the Store holds. Conditions: the Store lies in memory with at most eight wholes. -/
import Derived.Test.YtcjkhonapafndaaMin
import Derived.StillTailTactics
set_option linter.unusedVariables false
set_option linter.unusedSimpArgs false
namespace Go.Proofs.Ytcjkhonapafndaa
open Go.RowKit
def newRec (k : K4) (now : Int) : Rec := ⟨k, now, none, -1, [], []⟩
def MinRr (K1 : List Rec) (x : Rec) (K2 : List Rec) : Prop := (∀ y ∈ K1, x.bg < y.bg) ∧ ∀ y ∈ K2, x.bg ≤ y.bg
theorem MinR.rr {K1 K2 : List WR} {x : WR} (h : MinR K1 x K2) : MinRr (K1.map (·.r)) x.r (K2.map (·.r)) :=
  ⟨fun y hy => by obtain ⟨z, hz, rfl⟩ := List.mem_map.1 hy; exact h.1 z hz, fun y hy => by obtain ⟨z, hz, rfl⟩ := List.mem_map.1 hy; exact h.2 z hz⟩
/-- What of does to the row of those that are put together. -/
def OfR (L : List Rec) (k : K4) (now : Int) (K1 : List Rec) (r : Rec) (K2 : List Rec) : Prop :=
  (L = K1 ++ r :: K2 ∧ r.k = k) ∨ ((∀ x ∈ L, x.k ≠ k) ∧ K2 = [] ∧ r = newRec k now ∧ ((L.length < 8 ∧ K1 = L) ∨ (L.length = 8 ∧ ∃ A x B, L = A ++ x :: B ∧ MinRr A x B ∧ K1 = A ++ B)))
def OfPost (w : World) (ps : Nat) (mv : Option Nat) (aA : Option Addr) (Ws : List WR) (k : K4) (now : Int) (e : Ending) (w' : World) : Prop :=
  ∃ (mv' : Option Nat) (aA' : Option Addr) (ac' : Nat) (K1 : List WR) (x : WR) (K2 : List WR), StW w' ps mv' aA' ac' (K1 ++ x :: K2) ∧ e = .returned (ptr x.g) ∧ OfR (Ws.map (·.r)) k now (K1.map (·.r)) x.r (K2.map (·.r)) ∧
    (∀ b, foot ps mv' aA' (K1 ++ x :: K2) b → foot ps mv aA Ws b ∨ w.heap.size ≤ b) ∧ Chg (ownB ps mv aA) w w' ∧ (∀ y ∈ K1 ++ x :: K2, y ∈ Ws ∨ ∀ b, y.F b → w.heap.size ≤ b)
theorem map_ents {Ws K1 K2 : List WR} {x : WR} (h : Ws = K1 ++ x :: K2) (hn : NoDup (Ws.map entW)) : getL (Ws.map entW) x.r.k = some (ptr x.g) := by
  have hj : (Ws.map entW)[K1.length]? = some (x.r.k, ptr x.g) := by
    rw [h, List.getElem?_map, List.getElem?_append_right (Nat.le_refl _), Nat.sub_self]; rfl
  exact getL_at hn hj
theorem ents_none {Ws : List WR} {k : K4} (h : ∀ y ∈ Ws, y.r.k ≠ k) : ∀ p ∈ Ws.map entW, p.1 ≠ k := fun p hp => by
  obtain ⟨y, hy, rfl⟩ := List.mem_map.1 hp
  exact h y hy
theorem Pt.chg {F : Nat → Prop} {w w' : World} {base n c : Nat} {A : Option Addr} {K : List Nat} (h : Pt w base A n c K) (hc : Chg F w w') (hb : ∀ b, blk A = some b → ¬ F b) : Pt w' base A n c K := Ow.chg h hc hb
theorem newWh (w : World) (g : Nat) (k : K4) (now : Int) (h : Bk w g 86 (whA k.1 k.2.1 k.2.2.1 k.2.2.2 now (.pointer none) (-1) (.slice none 0 0) (.slice none 0 0))) : WhAt w (fun b => b = g) g (newRec k now) :=
  ⟨.pointer none, none, none, 0, 0, 0, 0, h, Ow.none_ _ _ _, Tm.none_ _ _ _, rfl, rfl, fun b hb => by simp [blk] at hb, fun b hb => by simp [blk] at hb⟩
/-- A whole more. -/
theorem StW.snoc {w w' : World} {ps ac ac' b gw : Nat} {aA aA' : Option Addr} {Ws : List WR} {k : K4} {now : Int} (h : StW w ps (some b) aA ac Ws) (hC : Chg (ownB ps (some b) aA) w w')
    (hbk : Bk w' ps 46 #[.map (some b), .slice aA' (Ws.length + 1) ac']) (hI : IM mkK okK w' b (Ws.map entW ++ [(k, ptr gw)])) (hP : Pt w' 0 aA' (Ws.length + 1) ac' (Ws.map (·.g) ++ [gw]))
    (hx : Bk w' gw 86 (whA k.1 k.2.1 k.2.2.1 k.2.2.2 now (.pointer none) (-1) (.slice none 0 0) (.slice none 0 0))) (hg : w.heap.size ≤ gw) (hA : blk aA' = blk aA ∨ ∃ ga, blk aA' = some ga ∧ w.heap.size ≤ ga ∧ ga ≠ gw) :
    StW w' ps (some b) aA' ac' (Ws ++ [⟨gw, fun b => b = gw, newRec k now⟩]) := by
  have hbl : b < w.heap.size := h.foot_lt (.inl (.inr (.inl rfl)))
  have hpl : ps < w.heap.size := h.bk.lt
  have hal : ∀ c, blk aA = some c → c < w.heap.size := fun c hc => h.foot_lt (.inl (.inr (.inr hc)))
  have hold : ∀ y ∈ Ws, ∀ c, blk aA' = some c → ¬ y.F c := fun y hy c hc => by
    rcases hA with hA | ⟨ga, hA, h1, _⟩
    · rw [hA] at hc; exact h.no' hy (.inr (.inr hc))
    · rw [hA] at hc; injection hc with hc; subst hc
      intro hf
      have := h.lt y hy _ hf
      omega
  refine ⟨by rw [List.length_append]; exact hbk, .inr ⟨b, rfl, by rw [List.map_append]; exact hI⟩, by rw [List.length_append, List.map_append]; exact hP, ?_, ?_, ?_, ?_, ?_, ?_⟩
  · intro y hy
    rcases List.mem_append.1 hy with hy | hy
    · exact (h.wh y hy).chg hC (fun c hc ho => h.no' hy ho hc)
    · simp at hy; subst hy; exact newWh w' gw k now hx
  · refine List.pairwise_append.2 ⟨h.ap, List.pairwise_singleton _ _, fun y hy z hz c hc hz' => ?_⟩
    simp at hz; subst hz
    have := h.lt y hy c hc
    have h2 : c = gw := hz'
    omega
  · intro y hy c hc
    rcases List.mem_append.1 hy with hy | hy
    · exact Nat.lt_of_lt_of_le (h.lt y hy c hc) hC.size
    · simp at hy; subst hy
      have h2 : c = gw := hc
      rw [h2]; exact hx.lt
  · intro y hy
    rcases List.mem_append.1 hy with hy | hy
    · exact ⟨h.no' hy (.inl rfl), fun c hc => h.no' hy (.inr (.inl hc)), hold y hy⟩
    · simp at hy; subst hy
      refine ⟨fun e => ?_, fun c hc e => ?_, fun c hc e => ?_⟩
      · have h2 : ps = gw := e; omega
      · injection hc with hc
        have h2 : c = gw := e; omega
      · have h2 : c = gw := e
        rcases hA with hA | ⟨ga, hA, h1, h3⟩
        · rw [hA] at hc; have := hal c hc; omega
        · rw [hA] at hc; injection hc with hc; omega
  · intro c hc
    injection hc with hc
    subst hc
    refine ⟨(h.ne.1 b rfl).1, fun e => ?_⟩
    rcases hA with hA | ⟨ga, hA, h1, _⟩
    · rw [hA] at e; exact (h.ne.1 b rfl).2 e
    · rw [hA] at e; injection e with e; omega
  · intro e
    rcases hA with hA | ⟨ga, hA, h1, _⟩
    · rw [hA] at e; exact h.ne.2 e
    · rw [hA] at e; injection e with e; omega
set_option maxHeartbeats 4000000 in
set_option maxRecDepth 100000 in
theorem of_room (ps b : Nat) (aA : Option Addr) (ac : Nat) (Ws : List WR) (p : PkV) (hp : p.Ok) (o dd : Value) (now : Int) (w : World) (h : StW w ps (some b) aA ac Ws) (hno : ∀ x ∈ Ws, x.r.k ≠ pkK p) (hlen : Ws.length < 8) :
    Calls Try.prog 44 #[.pointer (some ⟨ps, 0, none⟩), .agg (pkC p o dd), .int .i64 now] w (OfPost w ps (some b) aA Ws (pkK p) now) := by
  obtain ⟨svc, id, wh, mo, off, life, proto, src, dst⟩ := p
  have hk := hp.key
  unfold pkK at hk hno ⊢
  unfold pkC
  simp only at hk hno ⊢
  obtain ⟨n, hn⟩ : ∃ n, Ws.length = n := ⟨_, rfl⟩
  rw [hn] at hlen
  have hpl := h.bk.lt
  have hS2 : StW ((w.alloc (.cells #[.int .i64 svc, .int .i64 id, .bool wh, .bool mo, .int .i64 off, .int .i64 life, .int .i64 proto, .int .u32 src, .int .u32 dst, o, dd] 26)).alloc (.cells #[.int .u32 src, .int .u32 dst, .int .i64 proto, .int .i64 id] 82)) ps (some b) aA ac Ws := h.below (((Below.refl _ _).alloc (Nat.le_refl _) _).alloc (by rw [World.size_alloc]; omega) _)
  have hI : IM mkK okK w b (Ws.map entW) := by
    rcases h.mp with ⟨h1, _⟩ | ⟨b', h1, h2⟩
    · cases h1
    · injection h1 with h1; subst h1; exact h2
  have hI2 := (hI.alloc (.cells #[.int .i64 svc, .int .i64 id, .bool wh, .bool mo, .int .i64 off, .int .i64 life, .int .i64 proto, .int .u32 src, .int .u32 dst, o, dd] 26)).alloc (.cells #[.int .u32 src, .int .u32 dst, .int .i64 proto, .int .i64 id] 82)
  have c0 : ((w.alloc (.cells #[.int .i64 svc, .int .i64 id, .bool wh, .bool mo, .int .i64 off, .int .i64 life, .int .i64 proto, .int .u32 src, .int .u32 dst, o, dd] 26)).alloc (.cells #[.int .u32 src, .int .u32 dst, .int .i64 proto, .int .i64 id] 82)).cell? ⟨ps, 0, none⟩ = some (.map (some b)) := hS2.bk.cell 0
  have c1 : ((w.alloc (.cells #[.int .i64 svc, .int .i64 id, .bool wh, .bool mo, .int .i64 off, .int .i64 life, .int .i64 proto, .int .u32 src, .int .u32 dst, o, dd] 26)).alloc (.cells #[.int .u32 src, .int .u32 dst, .int .i64 proto, .int .i64 id] 82)).cell? ⟨ps, 1, none⟩ = some (.slice aA n ac) := by rw [← hn]; exact hS2.bk.cell 1
  have hlk : ∀ k, (Instr.lookup 43 (.map (some b)) (.agg #[.int .u32 src, .int .u32 dst, .int .i64 proto, .int .i64 id]) false).run Try.prog (((w.alloc (.cells #[.int .i64 svc, .int .i64 id, .bool wh, .bool mo, .int .i64 off, .int .i64 life, .int .i64 proto, .int .u32 src, .int .u32 dst, o, dd] 26)).alloc (.cells #[.int .u32 src, .int .u32 dst, .int .i64 proto, .int .i64 id] 82)).drewN k) = .ok (.pointer none) (((w.alloc (.cells #[.int .i64 svc, .int .i64 id, .bool wh, .bool mo, .int .i64 off, .int .i64 life, .int .i64 proto, .int .u32 src, .int .u32 dst, o, dd] 26)).alloc (.cells #[.int .u32 src, .int .u32 dst, .int .i64 proto, .int .i64 id] 82)).drewN k) := fun k => by
    have h := (hI2.drewN k).look keyK mapUK (zeroW _) hk false
    rw [getL_none (ents_none hno)] at h
    exact h
  have hl1 := hlk 1
  have hl0 := hlk 0
  have HS := Lib.hid h
  have HK := Lib.hid hk
  have HNO := Lib.hid hno
  have HN := Lib.hid hn
  have HLEN := Lib.hid hlen
  have tl : decide ((8 : Int) ≤ (n : Int)) = false := decide_eq_false (by omega)
  have tl2 : decide (8 ≤ n) = false := decide_eq_false (by omega)
  have tl3 : ¬ (8 : Int) ≤ (n : Int) := by omega
  have qm : ∀ (w : World) (r : Option Nat), (binOp .eql 43 (.map r) (.map none)).run Try.prog w = .ok (.bool r.isNone) w := fun w r => run_eql_map_nil w _ _ _ r mapUK
  clear h hk hno hn hI hI2 hS2 hlen
  go_enter Try.func44, Try.ntmps44
  go_wp2
  go_quiet (fail)
  obtain ⟨W, hW⟩ : ∃ W, ((w.alloc (.cells #[.int .i64 svc, .int .i64 id, .bool wh, .bool mo, .int .i64 off, .int .i64 life, .int .i64 proto, .int .u32 src, .int .u32 dst, o, dd] 26)).alloc (.cells #[.int .u32 src, .int .u32 dst, .int .i64 proto, .int .i64 id] 82)).drewN nq = W := ⟨_, rfl⟩
  rw [hW]
  have hsW : W.heap.size = w.heap.size + 1 + 1 := by rw [← hW]; show ((w.alloc _).alloc _).heap.size = _; rw [World.size_alloc, World.size_alloc]
  have hBW : Below w.heap.size w W := by rw [← hW]; exact bel_drewN (((Below.refl _ _).alloc (Nat.le_refl _) _).alloc (by rw [World.size_alloc]; omega) _) nq
  have hSW : StW W ps (some b) aA ac Ws := HS.out.below hBW
  have hkW : Bk W (w.heap.size + 1) 82 #[.int .u32 src, .int .u32 dst, .int .i64 proto, .int .i64 id] := by
    rw [← hW]
    have := Bk.new (w.alloc (.cells #[.int .i64 svc, .int .i64 id, .bool wh, .bool mo, .int .i64 off, .int .i64 life, .int .i64 proto, .int .u32 src, .int .u32 dst, o, dd] 26)) 82 #[.int .u32 src, .int .u32 dst, .int .i64 proto, .int .i64 id]
    rw [World.size_alloc] at this
    exact this
  obtain ⟨gk, hgk⟩ : ∃ gk, w.heap.size + 1 = gk := ⟨_, rfl⟩
  rw [hgk] at hkW hsW ⊢
  have HSW := Lib.hid hSW
  have HKW := Lib.hid hkW
  have HZW := Lib.hid hsW
  have HBW := Lib.hid hBW
  have HGK := Lib.hid hgk
  have b1 : W.cell? ⟨ps, 1, none⟩ = some (.slice aA n ac) := by rw [← HN.out]; exact hSW.bk.cell 1
  clear c0 c1 hW hl0 hl1 hlk hsW hBW hSW hkW hgk
  have k0 : W.cell? ⟨gk, 0, none⟩ = some (.int .u32 src) := HKW.out.cell 0
  have k1 : W.cell? ⟨gk, 1, none⟩ = some (.int .u32 dst) := HKW.out.cell 1
  have k2 : W.cell? ⟨gk, 2, none⟩ = some (.int .i64 proto) := HKW.out.cell 2
  have k3 : W.cell? ⟨gk, 3, none⟩ = some (.int .i64 id) := HKW.out.cell 3
  have e0 : (W.alloc (.cells #[.int .u32 src, .int .u32 dst, .int .i64 proto, .int .i64 id, .int .i64 now, .pointer none, .int .i64 (-1), .slice none 0 0, .slice none 0 0] 86)).cell? ⟨ps, 0, none⟩ = some (.map (some b)) := (HSW.out.bk.alloc _).cell 0
  have HS3 := HSW
  have HK3 := HKW
  have HV : Hid (Chg (ownB ps (some b) aA) W W) := Lib.hid (Chg.refl _ _)
  have HL0 : Hid (Ws.length = n) := HN
  have HKN : Hid (∀ y ∈ Ws, y.r.k ≠ (src, dst, proto, id)) := HNO
  go_wp2
  obtain ⟨X, hX⟩ : ∃ X, (W.alloc (.cells #[.int .u32 src, .int .u32 dst, .int .i64 proto, .int .i64 id, .int .i64 now, .pointer none, .int .i64 (-1), .slice none 0 0, .slice none 0 0] 86)) = X := ⟨_, rfl⟩
  obtain ⟨gw, hgw⟩ : ∃ gw, W.heap.size = gw := ⟨_, rfl⟩
  rw [hX, hgw]
  have hsX : X.heap.size = gw + 1 := by rw [← hX, World.size_alloc, hgw]
  have hSX : StW X ps (some b) aA ac Ws := by rw [← hX]; exact HS3.out.below ((Below.refl _ _).alloc (Nat.le_refl _) _)
  have hwX : Bk X gw 86 (whA src dst proto id now (.pointer none) (-1) (.slice none 0 0) (.slice none 0 0)) := by
    rw [← hX, ← hgw]; exact Bk.new W _ _
  have hkX : Bk X gk 82 #[.int .u32 src, .int .u32 dst, .int .i64 proto, .int .i64 id] := by rw [← hX]; exact HK3.out.alloc _
  have hCX : Chg (ownB ps (some b) aA) W X := by rw [← hX]; exact (Chg.refl _ _).alloc _
  have hIX : IM mkK okK X b (Ws.map entW) := by
    rcases hSX.mp with ⟨h1, _⟩ | ⟨b', h1, h2⟩
    · cases h1
    · injection h1 with h1; subst h1; exact h2
  have hpX : ps < gw := by rw [← hgw]; exact HS3.out.bk.lt
  have hbX : b < gw := by rw [← hgw]; exact HS3.out.foot_lt (.inl (.inr (.inl rfl)))
  have haX : ∀ c, blk aA = some c → c < gw := fun c hc => by rw [← hgw]; exact HS3.out.foot_lt (.inl (.inr (.inr hc)))
  have hbp : b ≠ ps := (HS3.out.ne.1 b rfl).1
  obtain ⟨W3, hst, hI3, hg3, hs3⟩ := hIX.drew.store keyK mapUK HK.out (.pointer (some ⟨gw, 0, none⟩))
  have hst' : (Instr.mapUpdate 43 (.map (some b)) (.agg #[.int .u32 src, .int .u32 dst, .int .i64 proto, .int .i64 id]) (.pointer (some ⟨gw, 0, none⟩))).run Try.prog X.drew = .ok () W3 := hst
  have HI3 := Lib.hid hI3
  have HG3 := Lib.hid hg3
  have HSX := Lib.hid hSX
  have HWX := Lib.hid hwX
  have HCX := Lib.hid hCX
  have HPX := Lib.hid hpX
  have HBX := Lib.hid hbX
  have HAX := Lib.hid haX
  have HBP := Lib.hid hbp
  have HX3 : Hid (W3.heap.size = gw + 1) := Lib.hid (by rw [hs3]; exact hsX)
  have x0 : X.cell? ⟨ps, 0, none⟩ = some (.map (some b)) := hSX.bk.cell 0
  have y0 : X.cell? ⟨gk, 0, none⟩ = some (.int .u32 src) := hkX.cell 0
  have y1 : X.cell? ⟨gk, 1, none⟩ = some (.int .u32 dst) := hkX.cell 1
  have y2 : X.cell? ⟨gk, 2, none⟩ = some (.int .i64 proto) := hkX.cell 2
  have y3 : X.cell? ⟨gk, 3, none⟩ = some (.int .i64 id) := hkX.cell 3
  have b3 : Bk W3 ps 46 #[.map (some b), .slice aA n ac] := by
    have h1 := hSX.bk
    rw [HL0.out] at h1
    exact (h1.drew).grown hg3 (fun e => hbp (Option.some.inj e).symm)
  have z1 : W3.cell? ⟨ps, 1, none⟩ = some (.slice aA n ac) := b3.cell 1
  have z2 : W3.frozen? ⟨ps, 1, none⟩ = false := b3.frozen 1
  have HPT : Hid (Ow 79 W3 0 aA n ac (ptrs (Ws.map (·.g)))) := Lib.hid (by
    have h1 := hSX.pt
    rw [HL0.out] at h1
    exact Ow.kept (show Ow 79 X.drew 0 aA n ac (ptrs (Ws.map (·.g))) from h1) hg3 (.inr (hSX.ne.1 b rfl).2))
  have HGW := Lib.hid hgw
  have hsz : n ≤ 100000 := by have := HLEN.out; omega
  clear hs3 hsX hX hgw hSX hwX hkX hCX hIX hpX hbX haX hbp hI3 hg3 hst e0 k0 k1 k2 k3 b1
  refine wp_region_still_tail 6 (by kernel_rfl) (by kernel_rfl) ?_
  change wpStill _ _ (World.drew _) (fun a' => wpList _ _ _ _ a' (World.drew _)) _ _
  simp only [List.take_succ_cons, List.take_zero, List.drop_succ_cons, List.drop_zero]
  repeat still_step
  try refine wpStill_nil ?_
  go_wp2_with (at_builtin; refine ap_ptr rfl (.tmp 64) (.tmp 66) rfl 0 rfl HPT.out gw rfl hsz (Nat.zero_le _) ?_; intro A4 c4 W4 hO4 hG4 hA4; have b4 := b3.grown hG4 (fun e => HSW.out.ne.2 e.symm); have z3 : W4.cell? ⟨ps, 1, none⟩ = some (.slice aA n ac) := b4.cell 1; have z4 := b4.frozen 1)
  go_ret
  have hgs : W4.grownBy (W4.setCell ⟨ps, 1, none⟩ (.slice A4 (n + 1) c4)) (some ps) := grownBy_setCell (World.grownBy.refl W4 (some ps)) (.inl rfl) _
  have hgw := HGW.out
  have hZ := HZW.out
  have hgk := HGK.out
  have hps := HPX.out
  have hb' := HBX.out
  have hne1 := (HSW.out.ne.1 b rfl)
  have hA4' : blk A4 = blk aA ∨ ∃ ga, blk A4 = some ga ∧ W.heap.size ≤ ga ∧ ga ≠ gw := by
    rcases hA4 with h | h
    · exact .inl h
    · exact .inr ⟨_, h, by have := HX3.out; omega, by have := HX3.out; omega⟩
  have hApS : blk A4 ≠ some ps := by
    rcases hA4' with h | ⟨ga, h, h1, _⟩
    · rw [h]; exact HSW.out.ne.2
    · rw [h]; intro e; injection e with e; omega
  have hAb : blk A4 ≠ some b := by
    rcases hA4' with h | ⟨ga, h, h1, _⟩
    · rw [h]; exact hne1.2
    · rw [h]; intro e; injection e with e; omega
  have hCV : Chg (ownB ps (some b) aA) W (W4.setCell ⟨ps, 1, none⟩ (.slice A4 (n + 1) c4)) :=
    (((HCX.out.drewN 1).trans (Chg.of_grown (F := ownB ps (some b) aA) HG3.out (fun c hc => .inr (.inl hc))) (fun c hc => .inl hc)).trans (Chg.of_grown (F := ownB ps (some b) aA) hG4 (fun c hc => .inr (.inr hc))) (fun c hc => .inl hc)).setCell (p := ⟨ps, 1, none⟩) (.inl (.inl rfl)) _
  have hxf : Bk (W4.setCell ⟨ps, 1, none⟩ (.slice A4 (n + 1) c4)) gw 86 (whA src dst proto id now (.pointer none) (-1) (.slice none 0 0) (.slice none 0 0)) :=
    (((HWX.out.drew).grown HG3.out (fun e => by have := Option.some.inj e; omega)).grown hG4 (fun e => by have := HAX.out gw e.symm; omega)).grown hgs (fun e => by have := Option.some.inj e; omega)
  have hIf : IM mkK okK (W4.setCell ⟨ps, 1, none⟩ (.slice A4 (n + 1) c4)) b (Ws.map entW ++ [((src, dst, proto, id), ptr gw)]) := by
    have h1 := HI3.out
    rw [putL_new (ents_none HKN.out)] at h1
    exact (h1.kept hG4 (fun e => hne1.2 e.symm)).kept hgs (fun e => hne1.1 (Option.some.inj e))
  have hPf : Pt (W4.setCell ⟨ps, 1, none⟩ (.slice A4 (n + 1) c4)) 0 A4 (Ws.length + 1) c4 (Ws.map (·.g) ++ [gw]) := by
    rw [HL0.out]
    exact Ow.kept hO4 hgs (.inr hApS)
  have hbf : Bk (W4.setCell ⟨ps, 1, none⟩ (.slice A4 (n + 1) c4)) ps 46 #[.map (some b), .slice A4 (Ws.length + 1) c4] := by
    rw [HL0.out]
    exact b4.set 1 _
  have hSf := StW.snoc (k := (src, dst, proto, id)) (now := now) HS3.out hCV hbf hIf hPf hxf (by omega) hA4'
  have hCw : Chg (ownB ps (some b) aA) w (W4.setCell ⟨ps, 1, none⟩ (.slice A4 (n + 1) c4)) := ((Chg.of_below (F := ownB ps (some b) aA) HBW.out).trans HV.out (fun c hc => .inl hc)).trans hCV (fun c hc => .inl hc)
  have hwv : w.heap.size ≤ W.heap.size := Nat.le_trans HBW.out.size HV.out.size
  refine ⟨some b, A4, c4, Ws, ⟨gw, fun b => b = gw, newRec (src, dst, proto, id) now⟩, [], hSf, rfl, ?_, ?_, hCw, ?_⟩
  · exact .inr ⟨fun y hy => by obtain ⟨z, hz, rfl⟩ := List.mem_map.1 hy; exact HNO.out z hz, rfl, rfl, .inl ⟨by rw [List.length_map]; have := HN.out; have := HLEN.out; omega, rfl⟩⟩
  · intro c hc
    rcases hc with (rfl | hc | hc) | ⟨y, hy, hc⟩
    · exact .inl (.inl (.inl rfl))
    · exact .inl (.inl (.inr (.inl hc)))
    · rcases hA4' with h | ⟨ga, h, h1, _⟩
      · rw [h] at hc; exact .inl (.inl (.inr (.inr hc)))
      · rw [h] at hc; injection hc with hc; exact .inr (by omega)
    · rcases List.mem_append.1 hy with hy | hy
      · exact .inl (.inr ⟨y, hy, hc⟩)
      · simp at hy; subst hy
        have h2 : c = gw := hc
        exact .inr (by omega)
  · intro y hy
    rcases List.mem_append.1 hy with hy | hy
    · exact .inl hy
    · simp at hy; subst hy
      exact .inr (fun c hc => by have h2 : c = gw := hc; omega)
set_option maxHeartbeats 4000000 in
set_option maxRecDepth 100000 in
theorem of_full (ps b : Nat) (aA : Option Addr) (ac : Nat) (Ws : List WR) (p : PkV) (hp : p.Ok) (o dd : Value) (now : Int) (w : World) (h : StW w ps (some b) aA ac Ws) (hno : ∀ x ∈ Ws, x.r.k ≠ pkK p) (hlen : Ws.length = 8) :
    Calls Try.prog 44 #[.pointer (some ⟨ps, 0, none⟩), .agg (pkC p o dd), .int .i64 now] w (OfPost w ps (some b) aA Ws (pkK p) now) := by
  obtain ⟨svc, id, wh, mo, off, life, proto, src, dst⟩ := p
  have hk := hp.key
  unfold pkK at hk hno ⊢
  unfold pkC
  simp only at hk hno ⊢
  obtain ⟨n, hn⟩ : ∃ n, Ws.length = n := ⟨_, rfl⟩
  rw [hn] at hlen
  have hpl := h.bk.lt
  have hS2 : StW ((w.alloc (.cells #[.int .i64 svc, .int .i64 id, .bool wh, .bool mo, .int .i64 off, .int .i64 life, .int .i64 proto, .int .u32 src, .int .u32 dst, o, dd] 26)).alloc (.cells #[.int .u32 src, .int .u32 dst, .int .i64 proto, .int .i64 id] 82)) ps (some b) aA ac Ws := h.below (((Below.refl _ _).alloc (Nat.le_refl _) _).alloc (by rw [World.size_alloc]; omega) _)
  have hI : IM mkK okK w b (Ws.map entW) := by
    rcases h.mp with ⟨h1, _⟩ | ⟨b', h1, h2⟩
    · cases h1
    · injection h1 with h1; subst h1; exact h2
  have hI2 := (hI.alloc (.cells #[.int .i64 svc, .int .i64 id, .bool wh, .bool mo, .int .i64 off, .int .i64 life, .int .i64 proto, .int .u32 src, .int .u32 dst, o, dd] 26)).alloc (.cells #[.int .u32 src, .int .u32 dst, .int .i64 proto, .int .i64 id] 82)
  have c0 : ((w.alloc (.cells #[.int .i64 svc, .int .i64 id, .bool wh, .bool mo, .int .i64 off, .int .i64 life, .int .i64 proto, .int .u32 src, .int .u32 dst, o, dd] 26)).alloc (.cells #[.int .u32 src, .int .u32 dst, .int .i64 proto, .int .i64 id] 82)).cell? ⟨ps, 0, none⟩ = some (.map (some b)) := hS2.bk.cell 0
  have c1 : ((w.alloc (.cells #[.int .i64 svc, .int .i64 id, .bool wh, .bool mo, .int .i64 off, .int .i64 life, .int .i64 proto, .int .u32 src, .int .u32 dst, o, dd] 26)).alloc (.cells #[.int .u32 src, .int .u32 dst, .int .i64 proto, .int .i64 id] 82)).cell? ⟨ps, 1, none⟩ = some (.slice aA n ac) := by rw [← hn]; exact hS2.bk.cell 1
  have hlk : ∀ k, (Instr.lookup 43 (.map (some b)) (.agg #[.int .u32 src, .int .u32 dst, .int .i64 proto, .int .i64 id]) false).run Try.prog (((w.alloc (.cells #[.int .i64 svc, .int .i64 id, .bool wh, .bool mo, .int .i64 off, .int .i64 life, .int .i64 proto, .int .u32 src, .int .u32 dst, o, dd] 26)).alloc (.cells #[.int .u32 src, .int .u32 dst, .int .i64 proto, .int .i64 id] 82)).drewN k) = .ok (.pointer none) (((w.alloc (.cells #[.int .i64 svc, .int .i64 id, .bool wh, .bool mo, .int .i64 off, .int .i64 life, .int .i64 proto, .int .u32 src, .int .u32 dst, o, dd] 26)).alloc (.cells #[.int .u32 src, .int .u32 dst, .int .i64 proto, .int .i64 id] 82)).drewN k) := fun k => by
    have h := (hI2.drewN k).look keyK mapUK (zeroW _) hk false
    rw [getL_none (ents_none hno)] at h
    exact h
  have hl1 := hlk 1
  have hl0 := hlk 0
  have HS := Lib.hid h
  have HK := Lib.hid hk
  have HNO := Lib.hid hno
  have HN := Lib.hid hn
  have HLEN := Lib.hid hlen
  obtain rfl : n = 8 := hlen
  have hlen : True := trivial
  have qm : ∀ (w : World) (r : Option Nat), (binOp .eql 43 (.map r) (.map none)).run Try.prog w = .ok (.bool r.isNone) w := fun w r => run_eql_map_nil w _ _ _ r mapUK
  clear h hk hno hn hI hI2 hS2 hlen
  go_enter Try.func44, Try.ntmps44
  go_wp2
  go_quiet (fail)
  obtain ⟨W, hW⟩ : ∃ W, ((w.alloc (.cells #[.int .i64 svc, .int .i64 id, .bool wh, .bool mo, .int .i64 off, .int .i64 life, .int .i64 proto, .int .u32 src, .int .u32 dst, o, dd] 26)).alloc (.cells #[.int .u32 src, .int .u32 dst, .int .i64 proto, .int .i64 id] 82)).drewN nq = W := ⟨_, rfl⟩
  rw [hW]
  have hsW : W.heap.size = w.heap.size + 1 + 1 := by rw [← hW]; show ((w.alloc _).alloc _).heap.size = _; rw [World.size_alloc, World.size_alloc]
  have hBW : Below w.heap.size w W := by rw [← hW]; exact bel_drewN (((Below.refl _ _).alloc (Nat.le_refl _) _).alloc (by rw [World.size_alloc]; omega) _) nq
  have hSW : StW W ps (some b) aA ac Ws := HS.out.below hBW
  have hkW : Bk W (w.heap.size + 1) 82 #[.int .u32 src, .int .u32 dst, .int .i64 proto, .int .i64 id] := by
    rw [← hW]
    have := Bk.new (w.alloc (.cells #[.int .i64 svc, .int .i64 id, .bool wh, .bool mo, .int .i64 off, .int .i64 life, .int .i64 proto, .int .u32 src, .int .u32 dst, o, dd] 26)) 82 #[.int .u32 src, .int .u32 dst, .int .i64 proto, .int .i64 id]
    rw [World.size_alloc] at this
    exact this
  obtain ⟨gk, hgk⟩ : ∃ gk, w.heap.size + 1 = gk := ⟨_, rfl⟩
  rw [hgk] at hkW hsW ⊢
  have HSW := Lib.hid hSW
  have HKW := Lib.hid hkW
  have HZW := Lib.hid hsW
  have HBW := Lib.hid hBW
  have HGK := Lib.hid hgk
  have b1 : W.cell? ⟨ps, 1, none⟩ = some (.slice aA 8 ac) := by rw [show 8 = Ws.length from HN.out.symm]; exact hSW.bk.cell 1
  clear c0 c1 hW hl0 hl1 hlk hsW hBW hSW hkW hgk
  have HMIN : Hid (Calls Try.prog 60 #[.slice aA 8 ac, .func (.func 61) #[] #[]] W fun e w' => ∃ K1 x K2, Ws = K1 ++ x :: K2 ∧ MinR K1 x K2 ∧ e = .returned (.pointer (some ⟨x.g, 0, none⟩)) ∧ Below W.heap.size W w') := Lib.hid (by
    have h := min_st ps (some b) aA ac Ws W HSW.out (fun e => by have := HN.out; rw [e] at this; cases this) (by have := HN.out; omega)
    rw [HN.out] at h
    exact h)
  go_wp2_with (first
    | (go_at_call 60; refine HMIN.out.mono ?_; rintro e w2 ⟨K1, x, K2, hWs, hmr, rfl, hB2⟩; have HWS := Lib.hid hWs; have HMR := Lib.hid hmr; have HB2 := Lib.hid hB2; obtain ⟨xg, hxg⟩ : ∃ xg, x.g = xg := ⟨_, rfl⟩; rw [hxg]; have HXG := Lib.hid hxg; have hS2 : StW w2 ps (some b) aA ac (K1 ++ x :: K2) := (by have := HSW.out.below hB2; rw [hWs] at this; exact this); have HF := Lib.hid (forget_st ps (some b) aA ac K1 K2 x w2 hS2 (by rw [← hWs]; have := HN.out; omega)); rw [hxg] at HF; clear hWs hmr hB2 hxg hS2)
    | (go_at_call 47; refine HF.out.mono ?_; rintro e w3 ⟨rfl, hS3, hx3, hC3⟩; have hk3 : Bk w3 gk 82 #[.int .u32 src, .int .u32 dst, .int .i64 proto, .int .i64 id] := ((HKW.out.below HB2.out HKW.out.lt).chg hC3 (fun e => by (have := HS.out.foot_lt (.inl e); have := HGK.out; omega))); have k0 : w3.cell? ⟨gk, 0, none⟩ = some (.int .u32 src) := hk3.cell 0; have k1 : w3.cell? ⟨gk, 1, none⟩ = some (.int .u32 dst) := hk3.cell 1; have k2 : w3.cell? ⟨gk, 2, none⟩ = some (.int .i64 proto) := hk3.cell 2; have k3 : w3.cell? ⟨gk, 3, none⟩ = some (.int .i64 id) := hk3.cell 3; have e0 : (w3.alloc (.cells #[.int .u32 src, .int .u32 dst, .int .i64 proto, .int .i64 id, .int .i64 now, .pointer none, .int .i64 (-1), .slice none 0 0, .slice none 0 0] 86)).cell? ⟨ps, 0, none⟩ = some (.map (some b)) := (hS3.bk.alloc _).cell 0; have HS3 := Lib.hid hS3; have HC3 := Lib.hid hC3; have HK3 := Lib.hid hk3; clear hS3 hx3 hC3 hk3))
  have HV : Hid (Chg (ownB ps (some b) aA) W w3) := Lib.hid ((Chg.of_below (F := ownB ps (some b) aA) HB2.out).trans HC3.out (fun x hx => .inl hx))
  have HL0 : Hid ((K1 ++ K2).length = 7) := Lib.hid (by have h1 := HN.out; rw [HWS.out] at h1; simp at h1 ⊢; omega)
  have HKN : Hid (∀ y ∈ K1 ++ K2, y.r.k ≠ (src, dst, proto, id)) := Lib.hid (fun y hy => HNO.out y (by rw [HWS.out]; simp at hy ⊢; rcases hy with hy | hy; exact .inl hy; exact .inr (.inr hy)))
  obtain ⟨X, hX⟩ : ∃ X, (w3.alloc (.cells #[.int .u32 src, .int .u32 dst, .int .i64 proto, .int .i64 id, .int .i64 now, .pointer none, .int .i64 (-1), .slice none 0 0, .slice none 0 0] 86)) = X := ⟨_, rfl⟩
  obtain ⟨gw, hgw⟩ : ∃ gw, w3.heap.size = gw := ⟨_, rfl⟩
  rw [hX, hgw]
  have hsX : X.heap.size = gw + 1 := by rw [← hX, World.size_alloc, hgw]
  have hSX : StW X ps (some b) aA ac (K1 ++ K2) := by rw [← hX]; exact HS3.out.below ((Below.refl _ _).alloc (Nat.le_refl _) _)
  have hwX : Bk X gw 86 (whA src dst proto id now (.pointer none) (-1) (.slice none 0 0) (.slice none 0 0)) := by
    rw [← hX, ← hgw]; exact Bk.new w3 _ _
  have hkX : Bk X gk 82 #[.int .u32 src, .int .u32 dst, .int .i64 proto, .int .i64 id] := by rw [← hX]; exact HK3.out.alloc _
  have hCX : Chg (ownB ps (some b) aA) w3 X := by rw [← hX]; exact (Chg.refl _ _).alloc _
  have hIX : IM mkK okK X b ((K1 ++ K2).map entW) := by
    rcases hSX.mp with ⟨h1, _⟩ | ⟨b', h1, h2⟩
    · cases h1
    · injection h1 with h1; subst h1; exact h2
  have hpX : ps < gw := by rw [← hgw]; exact HS3.out.bk.lt
  have hbX : b < gw := by rw [← hgw]; exact HS3.out.foot_lt (.inl (.inr (.inl rfl)))
  have haX : ∀ c, blk aA = some c → c < gw := fun c hc => by rw [← hgw]; exact HS3.out.foot_lt (.inl (.inr (.inr hc)))
  have hbp : b ≠ ps := (HS3.out.ne.1 b rfl).1
  obtain ⟨W3, hst, hI3, hg3, hs3⟩ := hIX.drew.store keyK mapUK HK.out (.pointer (some ⟨gw, 0, none⟩))
  have hst' : (Instr.mapUpdate 43 (.map (some b)) (.agg #[.int .u32 src, .int .u32 dst, .int .i64 proto, .int .i64 id]) (.pointer (some ⟨gw, 0, none⟩))).run Try.prog X.drew = .ok () W3 := hst
  have HI3 := Lib.hid hI3
  have HG3 := Lib.hid hg3
  have HSX := Lib.hid hSX
  have HWX := Lib.hid hwX
  have HCX := Lib.hid hCX
  have HPX := Lib.hid hpX
  have HBX := Lib.hid hbX
  have HAX := Lib.hid haX
  have HBP := Lib.hid hbp
  have HX3 : Hid (W3.heap.size = gw + 1) := Lib.hid (by rw [hs3]; exact hsX)
  have x0 : X.cell? ⟨ps, 0, none⟩ = some (.map (some b)) := hSX.bk.cell 0
  have y0 : X.cell? ⟨gk, 0, none⟩ = some (.int .u32 src) := hkX.cell 0
  have y1 : X.cell? ⟨gk, 1, none⟩ = some (.int .u32 dst) := hkX.cell 1
  have y2 : X.cell? ⟨gk, 2, none⟩ = some (.int .i64 proto) := hkX.cell 2
  have y3 : X.cell? ⟨gk, 3, none⟩ = some (.int .i64 id) := hkX.cell 3
  have b3 : Bk W3 ps 46 #[.map (some b), .slice aA 7 ac] := by
    have h1 := hSX.bk
    rw [HL0.out] at h1
    exact (h1.drew).grown hg3 (fun e => hbp (Option.some.inj e).symm)
  have z1 : W3.cell? ⟨ps, 1, none⟩ = some (.slice aA 7 ac) := b3.cell 1
  have z2 : W3.frozen? ⟨ps, 1, none⟩ = false := b3.frozen 1
  have HPT : Hid (Ow 79 W3 0 aA 7 ac (ptrs ((K1 ++ K2).map (·.g)))) := Lib.hid (by
    have h1 := hSX.pt
    rw [HL0.out] at h1
    exact Ow.kept (show Ow 79 X.drew 0 aA 7 ac (ptrs ((K1 ++ K2).map (·.g))) from h1) hg3 (.inr (hSX.ne.1 b rfl).2))
  have HGW := Lib.hid hgw
  have hsz : 7 ≤ 100000 := by omega
  clear hs3 hsX hX hgw hSX hwX hkX hCX hIX hpX hbX haX hbp hI3 hg3 hst e0 k0 k1 k2 k3 b1
  refine wp_region_still_tail 6 (by kernel_rfl) (by kernel_rfl) ?_
  change wpStill _ _ (World.drew _) (fun a' => wpList _ _ _ _ a' (World.drew _)) _ _
  simp only [List.take_succ_cons, List.take_zero, List.drop_succ_cons, List.drop_zero]
  repeat still_step
  try refine wpStill_nil ?_
  go_wp2_with (at_builtin; refine ap_ptr rfl (.tmp 64) (.tmp 66) rfl 0 rfl HPT.out gw rfl hsz (Nat.zero_le _) ?_; intro A4 c4 W4 hO4 hG4 hA4; have b4 := b3.grown hG4 (fun e => HSW.out.ne.2 e.symm); have z3 : W4.cell? ⟨ps, 1, none⟩ = some (.slice aA 7 ac) := b4.cell 1; have z4 := b4.frozen 1)
  go_ret
  have hgs : W4.grownBy (W4.setCell ⟨ps, 1, none⟩ (.slice A4 (7 + 1) c4)) (some ps) := grownBy_setCell (World.grownBy.refl W4 (some ps)) (.inl rfl) _
  have hgw := HGW.out
  have hZ := HZW.out
  have hgk := HGK.out
  have hps := HPX.out
  have hb' := HBX.out
  have hne1 := (HSW.out.ne.1 b rfl)
  have hA4' : blk A4 = blk aA ∨ ∃ ga, blk A4 = some ga ∧ w3.heap.size ≤ ga ∧ ga ≠ gw := by
    rcases hA4 with h | h
    · exact .inl h
    · exact .inr ⟨_, h, by have := HX3.out; omega, by have := HX3.out; omega⟩
  have hApS : blk A4 ≠ some ps := by
    rcases hA4' with h | ⟨ga, h, h1, _⟩
    · rw [h]; exact HSW.out.ne.2
    · rw [h]; intro e; injection e with e; omega
  have hAb : blk A4 ≠ some b := by
    rcases hA4' with h | ⟨ga, h, h1, _⟩
    · rw [h]; exact hne1.2
    · rw [h]; intro e; injection e with e; omega
  have hCV : Chg (ownB ps (some b) aA) w3 (W4.setCell ⟨ps, 1, none⟩ (.slice A4 (7 + 1) c4)) :=
    (((HCX.out.drewN 1).trans (Chg.of_grown (F := ownB ps (some b) aA) HG3.out (fun c hc => .inr (.inl hc))) (fun c hc => .inl hc)).trans (Chg.of_grown (F := ownB ps (some b) aA) hG4 (fun c hc => .inr (.inr hc))) (fun c hc => .inl hc)).setCell (p := ⟨ps, 1, none⟩) (.inl (.inl rfl)) _
  have hxf : Bk (W4.setCell ⟨ps, 1, none⟩ (.slice A4 (7 + 1) c4)) gw 86 (whA src dst proto id now (.pointer none) (-1) (.slice none 0 0) (.slice none 0 0)) :=
    (((HWX.out.drew).grown HG3.out (fun e => by have := Option.some.inj e; omega)).grown hG4 (fun e => by have := HAX.out gw e.symm; omega)).grown hgs (fun e => by have := Option.some.inj e; omega)
  have hIf : IM mkK okK (W4.setCell ⟨ps, 1, none⟩ (.slice A4 (7 + 1) c4)) b ((K1 ++ K2).map entW ++ [((src, dst, proto, id), ptr gw)]) := by
    have h1 := HI3.out
    rw [putL_new (ents_none HKN.out)] at h1
    exact (h1.kept hG4 (fun e => hne1.2 e.symm)).kept hgs (fun e => hne1.1 (Option.some.inj e))
  have hPf : Pt (W4.setCell ⟨ps, 1, none⟩ (.slice A4 (7 + 1) c4)) 0 A4 ((K1 ++ K2).length + 1) c4 ((K1 ++ K2).map (·.g) ++ [gw]) := by
    rw [HL0.out]
    exact Ow.kept hO4 hgs (.inr hApS)
  have hbf : Bk (W4.setCell ⟨ps, 1, none⟩ (.slice A4 (7 + 1) c4)) ps 46 #[.map (some b), .slice A4 ((K1 ++ K2).length + 1) c4] := by
    rw [HL0.out]
    exact b4.set 1 _
  have hSf := StW.snoc (k := (src, dst, proto, id)) (now := now) HS3.out hCV hbf hIf hPf hxf (by omega) hA4'
  have hCw : Chg (ownB ps (some b) aA) w (W4.setCell ⟨ps, 1, none⟩ (.slice A4 (7 + 1) c4)) := ((Chg.of_below (F := ownB ps (some b) aA) HBW.out).trans HV.out (fun c hc => .inl hc)).trans hCV (fun c hc => .inl hc)
  have hwv : w.heap.size ≤ w3.heap.size := Nat.le_trans HBW.out.size HV.out.size
  refine ⟨some b, A4, c4, (K1 ++ K2), ⟨gw, fun b => b = gw, newRec (src, dst, proto, id) now⟩, [], hSf, rfl, ?_, ?_, hCw, ?_⟩
  · refine .inr ⟨fun y hy => by obtain ⟨z, hz, rfl⟩ := List.mem_map.1 hy; exact HNO.out z hz, rfl, rfl, .inr ⟨by rw [List.length_map]; exact HN.out, K1.map (·.r), x.r, K2.map (·.r), by rw [HWS.out]; simp, HMR.out.rr, by simp⟩⟩
  · intro c hc
    rcases hc with (rfl | hc | hc) | ⟨y, hy, hc⟩
    · exact .inl (.inl (.inl rfl))
    · exact .inl (.inl (.inr (.inl hc)))
    · rcases hA4' with h | ⟨ga, h, h1, _⟩
      · rw [h] at hc; exact .inl (.inl (.inr (.inr hc)))
      · rw [h] at hc; injection hc with hc; exact .inr (by omega)
    · rcases List.mem_append.1 hy with hy | hy
      · exact .inl (.inr ⟨y, by rw [HWS.out]; simp at hy ⊢; rcases hy with hy | hy; exact .inl hy; exact .inr (.inr hy), hc⟩)
      · simp at hy; subst hy
        have h2 : c = gw := hc
        exact .inr (by omega)
  · intro y hy
    rcases List.mem_append.1 hy with hy | hy
    · exact .inl (by rw [HWS.out]; simp at hy ⊢; rcases hy with hy | hy; exact .inl hy; exact .inr (.inr hy))
    · simp at hy; subst hy
      exact .inr (fun c hc => by have h2 : c = gw := hc; omega)
/-- of, whatever the Store holds. -/
theorem of_st (ps : Nat) (mv : Option Nat) (aA : Option Addr) (ac : Nat) (Ws : List WR) (p : PkV) (hp : p.Ok) (o dd : Value) (now : Int) (w : World) (h : StW w ps mv aA ac Ws) (hlen : Ws.length ≤ 8) :
    Calls Try.prog 44 #[.pointer (some ⟨ps, 0, none⟩), .agg (pkC p o dd), .int .i64 now] w (OfPost w ps mv aA Ws (pkK p) now) := by
  cases mv with
  | none =>
    obtain ⟨_, rfl, rfl, rfl⟩ : (none : Option Nat) = none ∧ Ws = [] ∧ aA = none ∧ ac = 0 := by
      rcases h.mp with h1 | ⟨b, h1, _⟩
      · exact h1
      · cases h1
    refine (of_first ps p hp o dd now w h.bk).mono ?_
    rintro e w' ⟨g, b, ga, ac, rfl, r1, r2, r3, r4, r5, r6, r7, r8, r9, r10⟩
    have hpl := h.bk.lt
    refine ⟨some b, some ⟨ga, 0, none⟩, ac, [], ⟨g, fun b => b = g, newRec (pkK p) now⟩, [], ⟨r1, .inr ⟨b, rfl, r2⟩, Ow.mono r3 (Nat.zero_le _), ?_, List.pairwise_singleton _ _, ?_, ?_, ?_, ?_⟩, rfl, ?_, ?_, ?_, ?_⟩
    · intro y hy
      simp at hy; subst hy
      exact newWh w' g (pkK p) now r4
    · intro y hy c hc
      simp at hy; subst hy
      have h2 : c = g := hc
      rw [h2]; exact r4.lt
    · intro y hy
      simp at hy; subst hy
      refine ⟨fun e => ?_, fun c hc e => ?_, fun c hc e => ?_⟩
      · have h2 : ps = g := e; omega
      · injection hc with hc
        have h2 : c = g := e; omega
      · have h2 : c = g := e
        have h3 := (by simpa [blk] using hc : ga = c); omega
    · intro c hc
      injection hc with hc
      subst hc
      exact ⟨by omega, fun e => by have h3 := (by simpa [blk] using e : ga = b); omega⟩
    · intro e
      have h3 := (by simpa [blk] using e : ga = ps)
      have := (Ow.lt r3 ga rfl).1
      omega
    · exact .inr ⟨fun y hy => by simp at hy, rfl, rfl, .inl ⟨by simp, rfl⟩⟩
    · intro c hc
      rcases hc with (rfl | hc | hc) | ⟨y, hy, hc⟩
      · exact .inl (.inl (.inl rfl))
      · injection hc with hc; exact .inr (by omega)
      · exact .inr (Ow.lt r3 c hc).1
      · simp at hy; subst hy
        have h2 : c = g := hc
        exact .inr (by omega)
    · exact r10.mono (fun c _ hc => .inl hc)
    · intro y hy
      simp at hy; subst hy
      exact .inr (fun c hc => by have h2 : c = g := hc; omega)
  | some b =>
    rcases Classical.em (∃ x ∈ Ws, x.r.k = pkK p) with ⟨x, hx, hxk⟩ | hno
    · obtain ⟨K1, K2, hW⟩ := List.append_of_mem hx
      have hI : IM mkK okK w b (Ws.map entW) := by
        rcases h.mp with ⟨h1, _⟩ | ⟨b', h1, h2⟩
        · cases h1
        · injection h1 with h1; subst h1; exact h2
      refine (of_old ps b x.g (.slice aA Ws.length ac) (Ws.map entW) p hp o dd now w h.bk hI (by rw [← hxk]; exact map_ents hW hI.nodup)).mono ?_
      rintro e w' ⟨rfl, hB⟩
      have hS := h.below hB
      rw [hW] at hS
      refine ⟨some b, aA, ac, K1, x, K2, hS, rfl, .inl ⟨by rw [hW]; simp, hxk⟩, fun c hc => .inl (by rw [hW]; exact hc), Chg.of_below hB, fun y hy => .inl (by rw [hW]; exact hy)⟩
    · have hno' : ∀ x ∈ Ws, x.r.k ≠ pkK p := fun x hx e => hno ⟨x, hx, e⟩
      rcases Nat.lt_or_ge Ws.length 8 with q | q
      · exact of_room ps b aA ac Ws p hp o dd now w h hno' q
      · exact of_full ps b aA ac Ws p hp o dd now w h hno' (by omega)
end Go.Proofs.Ytcjkhonapafndaa
