/- Proved: how the keys of frag's map are spelled; whether a piece's end goes with what is there; whether a piece's end goes with what is there, by its walk; a piece's whole, where there is one. Conditions: as each law says. -/
import Derived.Test.YtcjkhonapafndaaLyP
import Derived.Test.YtcjkhonapafndaaMay
import Derived.Test.YtcjkhonapafndaaMap
import Derived.DeepKeys3
import Derived.Deep.RegionHeld3
import Derived.StillTailTactics
set_option linter.unusedVariables false
set_option linter.unusedSimpArgs false
namespace Go.Proofs.Ytcjkhonapafndaa
open Go.RowKit
abbrev K4 := Int × Int × Int × Int
def mkK (k : K4) : Value := .agg #[.int .u32 k.1, .int .u32 k.2.1, .int .i64 k.2.2.1, .int .i64 k.2.2.2]
def okI (a : Int) : Prop := -9223372036854775808 ≤ a ∧ a ≤ 9223372036854775807
def okK (k : K4) : Prop := (0 ≤ k.1 ∧ k.1 ≤ 4294967295) ∧ (0 ≤ k.2.1 ∧ k.2.1 ≤ 4294967295) ∧ okI k.2.2.1 ∧ okI k.2.2.2
theorem kt_size : Nat.ble 1 Try.prog.types.size = true := by kernel_rfl
theorem kt_key : Try.prog.keyType 82 = true := by kernel_rfl
theorem kt_at : Try.prog.keyTypeAt 2 82 = true := by kernel_rfl
theorem kt_tiled : Try.prog.tiled 2 82 = true := by kernel_rfl
theorem kt_co : Try.prog.cellsOf 82 = 4 := by kernel_rfl
theorem kt_c1 : Try.prog.cellsOf 23 = 1 := by kernel_rfl
theorem kt_c2 : Try.prog.cellsOf 3 = 1 := by kernel_rfl
theorem kt_law : Maps.Keyed Try.prog 82 := Maps.Keyed.of_law (deep_law (m := 2) (by omega) kt_at kt_tiled (by rw [Try.underlying82]))
theorem key_gen {P : Program} {t u v : TypeId} {f0 f1 f2 f3 : Field} (hu : P.underlying t = some (.struct #[f0, f1, f2, f3])) (hA : P.underlying u = some (.int .u32)) (hI : P.underlying v = some (.int .i64)) (hk : P.keyType t = true) (hco : P.cellsOf t = 4) (hc1 : P.cellsOf u = 1) (hc2 : P.cellsOf v = 1) {n : Nat} (hn : P.types.size = n + 1)
    (t0 : f0.type = u) (t1 : f1.type = u) (t2 : f2.type = v) (t3 : f3.type = v) (o0 : f0.offset = 0) (o1 : f1.offset = 1) (o2 : f2.offset = 2) (o3 : f3.offset = 3) (m0 : (f0.name != "_") = true) (m1 : (f1.name != "_") = true) (m2 : (f2.name != "_") = true) (m3 : (f3.name != "_") = true)
    {a b c d : Int} (w1 : (Lit.int .u32 a).wf = true) (w2 : (Lit.int .u32 b).wf = true) (w3 : (Lit.int .i64 c).wf = true) (w4 : (Lit.int .i64 d).wf = true) : ∃ l, keyOf P t (.agg #[.int .u32 a, .int .u32 b, .int .i64 c, .int .i64 d]) = some l := by
  simp [keyOf, hu, hk, Value.formed, hco, hn, Program.keyLits, Value.cells, hA, hI, hc1, hc2, w1, w2, w3, w4, t0, t1, t2, t3, o0, o1, o2, o3, m0, m1, m2, m3]
theorem key_ex (x : K4) (hx : okK x) : ∃ l, keyOf Try.prog 82 (mkK x) = some l := by
  obtain ⟨a, b, c, d⟩ := x
  obtain ⟨⟨h0, h1⟩, ⟨h2, h3⟩, ⟨h4, h5⟩, ⟨h6, h7⟩⟩ := hx
  simp only at h0 h1 h2 h3 h4 h5 h6 h7
  obtain ⟨n, hn⟩ : ∃ n, Try.prog.types.size = n + 1 := ⟨Try.prog.types.size - 1, by
    have := Nat.le_of_ble_eq_true kt_size
    omega⟩
  have w1 : (Lit.int .u32 a).wf = true := by simp only [Lit.wf, IntKind.min, IntKind.max, IntKind.signed, IntKind.bits, Bool.and_eq_true, decide_eq_true_eq]; exact ⟨by simp; omega, by simp; omega⟩
  have w2 : (Lit.int .u32 b).wf = true := by simp only [Lit.wf, IntKind.min, IntKind.max, IntKind.signed, IntKind.bits, Bool.and_eq_true, decide_eq_true_eq]; exact ⟨by simp; omega, by simp; omega⟩
  have w3 : (Lit.int .i64 c).wf = true := by simp only [Lit.wf, IntKind.min, IntKind.max, IntKind.signed, IntKind.bits, Bool.and_eq_true, decide_eq_true_eq]; exact ⟨by simp; omega, by simp; omega⟩
  have w4 : (Lit.int .i64 d).wf = true := by simp only [Lit.wf, IntKind.min, IntKind.max, IntKind.signed, IntKind.bits, Bool.and_eq_true, decide_eq_true_eq]; exact ⟨by simp; omega, by simp; omega⟩
  exact key_gen (u := 23) (v := 3) Try.underlying82 Try.underlying23 Try.underlying3 kt_key kt_co kt_c1 kt_c2 hn rfl rfl rfl rfl rfl rfl rfl rfl (by decide) (by decide) (by decide) (by decide) w1 w2 w3 w4
theorem keyK : KeyIs Try.prog 82 mkK okK where
  keyed := kt_law
  key := fun x hx => key_ex x hx
  inj := fun x y h => by
    unfold mkK at h
    obtain ⟨a, b, c, d⟩ := x
    obtain ⟨a', b', c', d'⟩ := y
    simp at h
    obtain ⟨rfl, rfl, rfl, rfl⟩ := h
    rfl
end Go.Proofs.Ytcjkhonapafndaa
namespace Go.Proofs.Ytcjkhonapafndaa
open Go.RowKit
/-- The end of what is there. -/
def lastS (S : List (Nat × Nat)) : Nat := (S[S.length - 1]?.map (·.2)).getD 0
def fitsW (fin : Int) (S : List (Nat × Nat)) (more : Bool) (e : Int) : Bool := if more then decide (fin < 0 ∨ e ≤ fin) else decide ((fin < 0 ∨ fin = e) ∧ (lastS S : Int) ≤ e)
set_option maxRecDepth 100000 in
theorem last_any (g : Nat) (k0 k1 k2 k3 bg : Int) (f d : Value) (fin : Int) (tA : Option Addr) (tn tc : Nat) (S : List (Nat × Nat)) (w : World)
    (hm : Bk w g 86 (whA k0 k1 k2 k3 bg f fin d (.slice tA tn tc))) (hT : Tm 89 w 0 tA tn tc (S.map spI)) (htn : tn ≤ 65535) :
    Calls Try.prog 63 #[.pointer (some ⟨g, 0, none⟩)] w fun e w' => e = .returned (.int .i64 (lastS S)) ∧ ∃ k, w' = w.drewN k := by
  have c8 : w.cell? ⟨g, 8, none⟩ = some (.slice tA tn tc) := hm.cell 8
  have hl := hT.len
  rw [List.length_map] at hl
  rcases Nat.eq_zero_or_pos tn with h0 | h0
  · subst h0
    have hv : lastS S = 0 := by rw [List.eq_nil_of_length_eq_zero hl]; rfl
    rw [hv]
    clear hm hT hl hv
    go_enter Try.func63, Try.ntmps63
    go_wp2
    go_ret
    exact ⟨rfl, 0, rfl⟩
  · obtain ⟨x, hx⟩ : ∃ x, S[tn - 1]? = some x := ⟨_, List.getElem?_eq_getElem (by omega)⟩
    have hv : lastS S = x.2 := by unfold lastS; rw [hl, hx]; rfl
    obtain ⟨gt, rfl, _, _, _, x1, _⟩ := hT.cell (k := tn - 1) (t := spI x) (by rw [List.getElem?_map, hx]; rfl)
    rw [hv]
    obtain ⟨n, hn⟩ : ∃ n, tn = n + 1 := ⟨tn - 1, by omega⟩
    have hn1 : tn - 1 = n := by omega
    rw [hn1] at x1
    simp only [spI] at x1
    have e1 : IntKind.i64.wrap ((tn : Int) - 1) = (n : Int) := by rw [IntWalk.i64_in _ (by omega)]; omega
    have e2 : ((tn : Int) == 0) = false := beq_eq_false_iff_ne.2 (by omega)
    have e3 : (tn == 0) = false := beq_eq_false_iff_ne.2 (by omega)
    have e4 : (0 : Int) ≤ (n : Int) := by omega
    have e5 : (n : Int) < (tn : Int) := by omega
    have e6 : n < tn := by omega
    clear hm hT hl hv hx hn hn1 h0
    go_enter Try.func63, Try.ntmps63
    go_wp2
    go_quiet (fail)
    go_wp2
    go_ret
    exact ⟨rfl, _, rfl⟩
set_option maxHeartbeats 2000000 in
set_option maxRecDepth 100000 in
theorem fits_any (g : Nat) (k0 k1 k2 k3 bg : Int) (f d : Value) (fin : Int) (tA : Option Addr) (tn tc : Nat) (S : List (Nat × Nat)) (p : PkV) (o : Value) (dA : Option Addr) (dn dc : Nat) (w : World)
    (hm : Bk w g 86 (whA k0 k1 k2 k3 bg f fin d (.slice tA tn tc))) (hT : Tm 89 w 0 tA tn tc (S.map spI)) (htn : tn ≤ 65535) (ho : 0 ≤ p.off ∧ p.off ≤ 65535) (hdn : dn ≤ 65535) :
    Calls Try.prog 45 #[.pointer (some ⟨g, 0, none⟩), .agg (pkC p o (.slice dA dn dc))] w fun e w' => e = .returned (.bool (fitsW fin S p.more (p.off + dn))) ∧ Below w.heap.size w w' := by
  obtain ⟨svc, id, wh, mo, off, life, proto, src, dst⟩ := p
  simp only at ho ⊢
  unfold pkC
  simp only
  have hBW : Below w.heap.size w (w.alloc (.cells #[.int .i64 svc, .int .i64 id, .bool wh, .bool mo, .int .i64 off, .int .i64 life, .int .i64 proto, .int .u32 src, .int .u32 dst, o, .slice dA dn dc] 26)) := (Below.refl _ _).alloc (Nat.le_refl _) _
  have hm2 : Bk (w.alloc (.cells #[.int .i64 svc, .int .i64 id, .bool wh, .bool mo, .int .i64 off, .int .i64 life, .int .i64 proto, .int .u32 src, .int .u32 dst, o, .slice dA dn dc] 26)) g 86 (whA k0 k1 k2 k3 bg f fin d (.slice tA tn tc)) := hm.alloc _
  have HL := Lib.hid (last_any g k0 k1 k2 k3 bg f d fin tA tn tc S (w.alloc (.cells #[.int .i64 svc, .int .i64 id, .bool wh, .bool mo, .int .i64 off, .int .i64 life, .int .i64 proto, .int .u32 src, .int .u32 dst, o, .slice dA dn dc] 26)) hm2 (hT.alloc _) htn)
  have c6 : (w.alloc (.cells #[.int .i64 svc, .int .i64 id, .bool wh, .bool mo, .int .i64 off, .int .i64 life, .int .i64 proto, .int .u32 src, .int .u32 dst, o, .slice dA dn dc] 26)).cell? ⟨g, 6, none⟩ = some (.int .i64 fin) := hm2.cell 6
  obtain ⟨en, hen⟩ : ∃ en, off + (dn : Int) = en := ⟨_, rfl⟩
  have hwe : IntKind.i64.wrap (off + (dn : Int)) = en := by rw [IntWalk.i64_in _ (by omega)]; exact hen
  rw [hen]
  have HBW := Lib.hid hBW
  have HBL : Hid (∀ k, Below w.heap.size w ((w.alloc (.cells #[.int .i64 svc, .int .i64 id, .bool wh, .bool mo, .int .i64 off, .int .i64 life, .int .i64 proto, .int .u32 src, .int .u32 dst, o, .slice dA dn dc] 26)).drewN k)) := Lib.hid (fun k => bel_drewN hBW k)
  obtain ⟨ls, hls⟩ : ∃ ls, lastS S = ls := ⟨_, rfl⟩
  rw [hls] at HL
  have HLS := Lib.hid hls
  clear hBW hm hT hm2 hen hls
  cases mo
  · rcases (by omega : fin < 0 ∨ (¬ fin < 0 ∧ fin = en) ∨ (¬ fin < 0 ∧ fin ≠ en)) with y | ⟨y, y2⟩ | ⟨y, y2⟩
    · have t1 : decide (fin < 0) = true := decide_eq_true y
      have HV : Hid (fitsW fin S false en = decide ((ls : Int) ≤ en)) := Lib.hid (by unfold fitsW; rw [HLS.out, if_neg (by decide)]; exact decide_eq_decide.2 ⟨fun h => h.2, fun h => ⟨.inl y, h⟩⟩)
      clear y
      go_enter Try.func45, Try.ntmps45
      go_wp2_with (go_at_call 63; refine HL.out.mono ?_; rintro e w' ⟨rfl, kk, rfl⟩)
      go_ret
      exact ⟨congrArg (fun b => Ending.returned (.bool b)) HV.out.symm, HBL.out _⟩
    · have t1 : decide (fin < 0) = false := decide_eq_false y
      have HV : Hid (fitsW fin S false en = decide ((ls : Int) ≤ en)) := Lib.hid (by unfold fitsW; rw [HLS.out, if_neg (by decide)]; exact decide_eq_decide.2 ⟨fun h => h.2, fun h => ⟨.inr y2, h⟩⟩)
      have t2 : (fin == en) = true := beq_iff_eq.2 y2
      clear y y2
      go_enter Try.func45, Try.ntmps45
      go_wp2_with (go_at_call 63; refine HL.out.mono ?_; rintro e w' ⟨rfl, kk, rfl⟩)
      go_ret
      exact ⟨congrArg (fun b => Ending.returned (.bool b)) HV.out.symm, HBL.out _⟩
    · have t1 : decide (fin < 0) = false := decide_eq_false y
      have t2 : (fin == en) = false := beq_eq_false_iff_ne.2 y2
      have HV : Hid (fitsW fin S false en = false) := Lib.hid (by unfold fitsW; simp; intro h; rcases h with h | h <;> omega)
      clear y y2
      go_enter Try.func45, Try.ntmps45
      go_wp2
      go_ret
      exact ⟨congrArg (fun b => Ending.returned (.bool b)) HV.out.symm, HBW.out⟩
  · rcases (by omega : fin < 0 ∨ ¬ fin < 0) with y | y
    · have t1 : decide (fin < 0) = true := decide_eq_true y
      have HV : Hid (fitsW fin S true en = true) := Lib.hid (by unfold fitsW; simp; exact .inl y)
      clear y
      go_enter Try.func45, Try.ntmps45
      go_wp2
      go_ret
      exact ⟨congrArg (fun b => Ending.returned (.bool b)) HV.out.symm, HBW.out⟩
    · have t1 : decide (fin < 0) = false := decide_eq_false y
      have HV : Hid (fitsW fin S true en = decide (en ≤ fin)) := Lib.hid (by unfold fitsW; rw [if_pos rfl]; exact decide_eq_decide.2 ⟨fun h => h.resolve_left y, fun h => .inr h⟩)
      clear y
      go_enter Try.func45, Try.ntmps45
      go_wp2
      go_ret
      exact ⟨congrArg (fun b => Ending.returned (.bool b)) HV.out.symm, HBW.out⟩
end Go.Proofs.Ytcjkhonapafndaa
namespace Go.Proofs.Ytcjkhonapafndaa
open Go.RowKit
def ptrs (K : List Nat) : List Value := K.map fun g => Value.pointer (some ⟨g, 0, none⟩)
theorem info_ptr : (Try.prog.info? 79).map (fun i => (i.zero, i.size, i.bytes)) = some (some (.pointer none), 1, 8) := by kernel_rfl
section
variable {ops : Array Oper} {rest : List Oper} {o : Oper} {a : Act} {w : World} {Q : Exit → Act → World → Prop}
theorem ap_ptr (hgd : o.guard = none) (s x : Operand)
    (ho : o.op = .call { callee := .builtin .append, args := #[s, x], argTypes := #[44, 44] })
    (base : Nat) {A : Option Addr} {n c : Nat} {K : List Nat} (hs : a.eval s = .slice A n c) (hown : Ow 79 w base A n c (ptrs K))
    (y : Nat) {c2 : Nat} (hx : a.eval x = .slice (some ⟨w.heap.size, 0, none⟩) 1 c2) (hsz : n ≤ 100000) (hbase : base ≤ w.heap.size)
    (h : ∀ A' c' w', Ow 79 w' base A' (n + 1) c' (ptrs (K ++ [y])) → w.grownBy w' (blk A) → (blk A' = blk A ∨ blk A' = some (w.heap.size + 1)) → wpList Try.prog ops Q rest (a.put o.dst (.slice A' (n + 1) c')) w') :
    wpList Try.prog ops Q (o :: rest) a (w.alloc (.cells #[.pointer (some ⟨y, 0, none⟩)] 79)) := by
  refine wpList_append_rw (P := Try.prog) (w := w.alloc (.cells #[.pointer (some ⟨y, 0, none⟩)] 79)) hgd s x 44 ho base 79 (.pointer none) 8 Try.underlying44 info_ptr rfl hs (Ow.alloc hown _) hx (rw_lit w 79 [.pointer (some ⟨y, 0, none⟩)]) rfl (fun u hu => by simp at hu; subst hu; rfl) (by unfold maxLen; omega) (by omega) (by rw [World.size_alloc]; omega) fun A' c' w' h1 h2 h3 => ?_
  refine h A' c' w' ?_ ((World.grownBy_alloc w _ _).trans h2) (by rw [World.size_alloc] at h3; exact h3)
  unfold ptrs at *
  rw [List.map_append]
  exact h1
end
def pkK (p : PkV) : K4 := (p.src, p.dst, p.proto, p.id)
theorem PkV.Ok.key {p : PkV} (h : p.Ok) : okK (pkK p) := ⟨h.src, h.dst, h.proto, h.id⟩
theorem zeroW (w : World) : (zeroValue 79).run Try.prog w = .ok (.pointer none) w := by kernel_rfl
theorem mapUK : Try.prog.underlying 43 = some (.map 82 79) := Try.underlying43
set_option maxHeartbeats 2000000 in
set_option maxRecDepth 100000 in
theorem of_old (ps b g : Nat) (aV : Value) (L : List (K4 × Value)) (p : PkV) (hp : p.Ok) (o dd : Value) (now : Int) (w : World) (hs : Bk w ps 46 #[.map (some b), aV]) (hI : IM mkK okK w b L) (hL : getL L (pkK p) = some (.pointer (some ⟨g, 0, none⟩))) :
    Calls Try.prog 44 #[.pointer (some ⟨ps, 0, none⟩), .agg (pkC p o dd), .int .i64 now] w fun e w' => e = .returned (.pointer (some ⟨g, 0, none⟩)) ∧ Below w.heap.size w w' := by
  obtain ⟨svc, id, wh, mo, off, life, proto, src, dst⟩ := p
  have hk := hp.key
  unfold pkK at hk hL
  unfold pkC
  simp only at hk hL ⊢
  have hs2 := (hs.alloc (.cells #[.int .i64 svc, .int .i64 id, .bool wh, .bool mo, .int .i64 off, .int .i64 life, .int .i64 proto, .int .u32 src, .int .u32 dst, o, dd] 26)).alloc (.cells #[.int .u32 src, .int .u32 dst, .int .i64 proto, .int .i64 id] 82)
  have hI2 := (hI.alloc (.cells #[.int .i64 svc, .int .i64 id, .bool wh, .bool mo, .int .i64 off, .int .i64 life, .int .i64 proto, .int .u32 src, .int .u32 dst, o, dd] 26)).alloc (.cells #[.int .u32 src, .int .u32 dst, .int .i64 proto, .int .i64 id] 82)
  have hB2 : Below w.heap.size w ((w.alloc (.cells #[.int .i64 svc, .int .i64 id, .bool wh, .bool mo, .int .i64 off, .int .i64 life, .int .i64 proto, .int .u32 src, .int .u32 dst, o, dd] 26)).alloc (.cells #[.int .u32 src, .int .u32 dst, .int .i64 proto, .int .i64 id] 82)) := ((Below.refl _ _).alloc (Nat.le_refl _) _).alloc (by rw [World.size_alloc]; omega) _
  have HB : Hid (∀ k, Below w.heap.size w (((w.alloc (.cells #[.int .i64 svc, .int .i64 id, .bool wh, .bool mo, .int .i64 off, .int .i64 life, .int .i64 proto, .int .u32 src, .int .u32 dst, o, dd] 26)).alloc (.cells #[.int .u32 src, .int .u32 dst, .int .i64 proto, .int .i64 id] 82)).drewN k)) := Lib.hid (fun k => bel_drewN hB2 k)
  have c0 : ((w.alloc (.cells #[.int .i64 svc, .int .i64 id, .bool wh, .bool mo, .int .i64 off, .int .i64 life, .int .i64 proto, .int .u32 src, .int .u32 dst, o, dd] 26)).alloc (.cells #[.int .u32 src, .int .u32 dst, .int .i64 proto, .int .i64 id] 82)).cell? ⟨ps, 0, none⟩ = some (.map (some b)) := hs2.cell 0
  have hlk : ∀ k, (Instr.lookup 43 (.map (some b)) (.agg #[.int .u32 src, .int .u32 dst, .int .i64 proto, .int .i64 id]) false).run Try.prog (((w.alloc (.cells #[.int .i64 svc, .int .i64 id, .bool wh, .bool mo, .int .i64 off, .int .i64 life, .int .i64 proto, .int .u32 src, .int .u32 dst, o, dd] 26)).alloc (.cells #[.int .u32 src, .int .u32 dst, .int .i64 proto, .int .i64 id] 82)).drewN k) = .ok (.pointer (some ⟨g, 0, none⟩)) (((w.alloc (.cells #[.int .i64 svc, .int .i64 id, .bool wh, .bool mo, .int .i64 off, .int .i64 life, .int .i64 proto, .int .u32 src, .int .u32 dst, o, dd] 26)).alloc (.cells #[.int .u32 src, .int .u32 dst, .int .i64 proto, .int .i64 id] 82)).drewN k) := fun k => by
    have h := (hI2.drewN k).look keyK mapUK (zeroW _) hk false
    rw [hL] at h
    exact h
  have hl1 := hlk 1
  have hl0 := hlk 0
  clear hs hI hL hs2 hI2 hB2
  go_enter Try.func44, Try.ntmps44
  go_wp2
  go_quiet (fail)
  go_wp2
  go_ret
  exact ⟨rfl, HB.out _⟩
set_option maxHeartbeats 4000000 in
set_option maxRecDepth 100000 in
theorem of_first (ps : Nat) (p : PkV) (hp : p.Ok) (o dd : Value) (now : Int) (w : World) (hs : Bk w ps 46 #[.map none, .slice none 0 0]) :
    Calls Try.prog 44 #[.pointer (some ⟨ps, 0, none⟩), .agg (pkC p o dd), .int .i64 now] w fun e w' => ∃ g b ga ac, e = .returned (.pointer (some ⟨g, 0, none⟩)) ∧ Bk w' ps 46 #[.map (some b), .slice (some ⟨ga, 0, none⟩) 1 ac] ∧
      IM mkK okK w' b [(pkK p, .pointer (some ⟨g, 0, none⟩))] ∧ Ow 79 w' w.heap.size (some ⟨ga, 0, none⟩) 1 ac [.pointer (some ⟨g, 0, none⟩)] ∧ Bk w' g 86 (whA p.src p.dst p.proto p.id now (.pointer none) (-1) (.slice none 0 0) (.slice none 0 0)) ∧
      w.heap.size ≤ g ∧ w.heap.size ≤ b ∧ g ≠ b ∧ g ≠ ga ∧ b ≠ ga ∧ Chg (fun x => x = ps) w w' := by
  obtain ⟨svc, id, wh, mo, off, life, proto, src, dst⟩ := p
  have hk := hp.key
  unfold pkK at hk ⊢
  unfold pkC
  simp only at hk ⊢
  have hpl := hs.lt
  have c0 : ((w.alloc (.cells #[.int .i64 svc, .int .i64 id, .bool wh, .bool mo, .int .i64 off, .int .i64 life, .int .i64 proto, .int .u32 src, .int .u32 dst, o, dd] 26)).alloc (.cells #[.int .u32 src, .int .u32 dst, .int .i64 proto, .int .i64 id] 82)).cell? ⟨ps, 0, none⟩ = some (.map none) := ((hs.alloc (.cells #[.int .i64 svc, .int .i64 id, .bool wh, .bool mo, .int .i64 off, .int .i64 life, .int .i64 proto, .int .u32 src, .int .u32 dst, o, dd] 26)).alloc (.cells #[.int .u32 src, .int .u32 dst, .int .i64 proto, .int .i64 id] 82)).cell 0
  have c1 : ((w.alloc (.cells #[.int .i64 svc, .int .i64 id, .bool wh, .bool mo, .int .i64 off, .int .i64 life, .int .i64 proto, .int .u32 src, .int .u32 dst, o, dd] 26)).alloc (.cells #[.int .u32 src, .int .u32 dst, .int .i64 proto, .int .i64 id] 82)).cell? ⟨ps, 1, none⟩ = some (.slice none 0 0) := ((hs.alloc (.cells #[.int .i64 svc, .int .i64 id, .bool wh, .bool mo, .int .i64 off, .int .i64 life, .int .i64 proto, .int .u32 src, .int .u32 dst, o, dd] 26)).alloc (.cells #[.int .u32 src, .int .u32 dst, .int .i64 proto, .int .i64 id] 82)).cell 1
  have hlk : ∀ w : World, (Instr.lookup 43 (.map none) (.agg #[.int .u32 src, .int .u32 dst, .int .i64 proto, .int .i64 id]) false).run Try.prog w = .ok (.pointer none) w := fun w => look_nil_ keyK mapUK (zeroW _) hk false
  have HS := Lib.hid hs
  have HK := Lib.hid hk
  have hmm := @run_makeMap Try.prog
  have qm : ∀ (w : World) (r : Option Nat), (binOp .eql 43 (.map r) (.map none)).run Try.prog w = .ok (.bool r.isNone) w := fun w r => run_eql_map_nil w _ _ _ r mapUK
  clear hs hk
  go_enter Try.func44, Try.ntmps44
  go_wp2
  go_quiet (fail)
  obtain ⟨W, hW⟩ : ∃ W, ((w.alloc (.cells #[.int .i64 svc, .int .i64 id, .bool wh, .bool mo, .int .i64 off, .int .i64 life, .int .i64 proto, .int .u32 src, .int .u32 dst, o, dd] 26)).alloc (.cells #[.int .u32 src, .int .u32 dst, .int .i64 proto, .int .i64 id] 82)).drewN nq = W := ⟨_, rfl⟩
  rw [hW]
  have hsW : W.heap.size = w.heap.size + 1 + 1 := by rw [← hW]; show ((w.alloc _).alloc _).heap.size = _; rw [World.size_alloc, World.size_alloc]
  have hBW : Below w.heap.size w W := by rw [← hW]; exact bel_drewN (((Below.refl _ _).alloc (Nat.le_refl _) _).alloc (by rw [World.size_alloc]; omega) _) nq
  have hsW2 : Bk W ps 46 #[.map none, .slice none 0 0] := by rw [← hW]; exact ((HS.out.alloc _).alloc _).drewN nq
  have hkW : Bk W (w.heap.size + 1) 82 #[.int .u32 src, .int .u32 dst, .int .i64 proto, .int .i64 id] := by
    rw [← hW]
    have := Bk.new (w.alloc (.cells #[.int .i64 svc, .int .i64 id, .bool wh, .bool mo, .int .i64 off, .int .i64 life, .int .i64 proto, .int .u32 src, .int .u32 dst, o, dd] 26)) 82 #[.int .u32 src, .int .u32 dst, .int .i64 proto, .int .i64 id]
    rw [World.size_alloc] at this
    exact this
  obtain ⟨gk, hgk⟩ : ∃ gk, w.heap.size + 1 = gk := ⟨_, rfl⟩
  rw [hgk] at hkW hsW ⊢
  have HW := Lib.hid hW
  clear c0 c1 hW
  have k0 : W.cell? ⟨gk, 0, none⟩ = some (.int .u32 src) := hkW.cell 0
  have k1 : W.cell? ⟨gk, 1, none⟩ = some (.int .u32 dst) := hkW.cell 1
  have k2 : W.cell? ⟨gk, 2, none⟩ = some (.int .i64 proto) := hkW.cell 2
  have k3 : W.cell? ⟨gk, 3, none⟩ = some (.int .i64 id) := hkW.cell 3
  have d0 : (W.alloc (.cells #[.int .u32 src, .int .u32 dst, .int .i64 proto, .int .i64 id, .int .i64 now, .pointer none, .int .i64 (-1), .slice none 0 0, .slice none 0 0] 86)).cell? ⟨ps, 0, none⟩ = some (.map none) := (hsW2.alloc (.cells #[.int .u32 src, .int .u32 dst, .int .i64 proto, .int .i64 id, .int .i64 now, .pointer none, .int .i64 (-1), .slice none 0 0, .slice none 0 0] 86)).cell 0
  have e0 : W.cell? ⟨ps, 0, none⟩ = some (.map none) := hsW2.cell 0
  have e1 : W.frozen? ⟨ps, 0, none⟩ = false := hsW2.frozen 0
  have e3 : W.cell? ⟨ps, 1, none⟩ = some (.slice none 0 0) := hsW2.cell 1
  have e2 : (W.alloc (.cells #[.int .u32 src, .int .u32 dst, .int .i64 proto, .int .i64 id, .int .i64 now, .pointer none, .int .i64 (-1), .slice none 0 0, .slice none 0 0] 86)).frozen? ⟨ps, 0, none⟩ = false := (hsW2.alloc (.cells #[.int .u32 src, .int .u32 dst, .int .i64 proto, .int .i64 id, .int .i64 now, .pointer none, .int .i64 (-1), .slice none 0 0, .slice none 0 0] 86)).frozen 0
  have d3 : ((W.alloc (.cells #[.int .u32 src, .int .u32 dst, .int .i64 proto, .int .i64 id, .int .i64 now, .pointer none, .int .i64 (-1), .slice none 0 0, .slice none 0 0] 86)).alloc (.map #[] 0)).cell? ⟨ps, 0, none⟩ = some (.map none) := ((hsW2.alloc (.cells #[.int .u32 src, .int .u32 dst, .int .i64 proto, .int .i64 id, .int .i64 now, .pointer none, .int .i64 (-1), .slice none 0 0, .slice none 0 0] 86)).alloc (.map #[] 0)).cell 0
  have d4 : ((W.alloc (.cells #[.int .u32 src, .int .u32 dst, .int .i64 proto, .int .i64 id, .int .i64 now, .pointer none, .int .i64 (-1), .slice none 0 0, .slice none 0 0] 86)).alloc (.map #[] 0)).frozen? ⟨ps, 0, none⟩ = false := ((hsW2.alloc (.cells #[.int .u32 src, .int .u32 dst, .int .i64 proto, .int .i64 id, .int .i64 now, .pointer none, .int .i64 (-1), .slice none 0 0, .slice none 0 0] 86)).alloc (.map #[] 0)).frozen 0
  go_wp2
  obtain ⟨X, hX⟩ : ∃ X, ((W.alloc (.cells #[.int .u32 src, .int .u32 dst, .int .i64 proto, .int .i64 id, .int .i64 now, .pointer none, .int .i64 (-1), .slice none 0 0, .slice none 0 0] 86)).alloc (.map #[] 0)).setCell ⟨ps, 0, none⟩ (.map (some (gk + 1 + 1))) = X := ⟨_, rfl⟩
  rw [hX]
  have hbX : Bk X ps 46 #[.map (some (gk + 1 + 1)), .slice none 0 0] := by rw [← hX]; exact ((hsW2.alloc (.cells #[.int .u32 src, .int .u32 dst, .int .i64 proto, .int .i64 id, .int .i64 now, .pointer none, .int .i64 (-1), .slice none 0 0, .slice none 0 0] 86)).alloc (.map #[] 0)).set 0 _
  have hpW : ps < W.heap.size := hsW2.lt
  have hIX : IM mkK okK X (gk + 1 + 1) [] := by
    rw [← hX]
    have := IM.made (mk := mkK) (ok := okK) (W.alloc (.cells #[.int .u32 src, .int .u32 dst, .int .i64 proto, .int .i64 id, .int .i64 now, .pointer none, .int .i64 (-1), .slice none 0 0, .slice none 0 0] 86))
    rw [World.size_alloc, hsW] at this
    exact this.setCell (by show gk + 1 + 1 ≠ ps; omega) _
  have hwX : Bk X (gk + 1) 86 (whA src dst proto id now (.pointer none) (-1) (.slice none 0 0) (.slice none 0 0)) := by
    rw [← hX]
    have h := (Bk.new W 86 (whA src dst proto id now (.pointer none) (-1) (.slice none 0 0) (.slice none 0 0))).alloc (.map #[] 0)
    rw [hsW] at h
    exact h.far (by show gk + 1 ≠ ps; omega) _
  have hkX : Bk X gk 82 #[.int .u32 src, .int .u32 dst, .int .i64 proto, .int .i64 id] := by
    rw [← hX]
    exact ((hkW.alloc (.cells #[.int .u32 src, .int .u32 dst, .int .i64 proto, .int .i64 id, .int .i64 now, .pointer none, .int .i64 (-1), .slice none 0 0, .slice none 0 0] 86)).alloc (.map #[] 0)).far (by show gk ≠ ps; omega) _
  have hCX : Chg (fun x => x = ps) w X := by
    rw [← hX]
    exact (((Chg.of_below (F := fun x => x = ps) hBW).alloc _).alloc _).setCell (p := ⟨ps, 0, none⟩) (.inl rfl) _
  have hsX : X.heap.size = gk + 1 + 1 + 1 := by rw [← hX, size_setCell, World.size_alloc, World.size_alloc, hsW]
  obtain ⟨W3, hst, hI3, hg3, hs3⟩ := hIX.drew.store keyK mapUK HK.out (.pointer (some ⟨gk + 1, 0, none⟩))
  have hst' : (Instr.mapUpdate 43 (.map (some (gk + 1 + 1))) (.agg #[.int .u32 src, .int .u32 dst, .int .i64 proto, .int .i64 id]) (.pointer (some ⟨gk + 1, 0, none⟩))).run Try.prog X.drew = .ok () W3 := hst
  have HbX := Lib.hid hbX
  have HwX := Lib.hid hwX
  have HCX := Lib.hid hCX
  have HI3 := Lib.hid hI3
  have HG3 := Lib.hid hg3
  have x0 : X.cell? ⟨ps, 0, none⟩ = some (.map (some (gk + 1 + 1))) := hbX.cell 0
  have y0 : X.cell? ⟨gk, 0, none⟩ = some (.int .u32 src) := hkX.cell 0
  have y1 : X.cell? ⟨gk, 1, none⟩ = some (.int .u32 dst) := hkX.cell 1
  have y2 : X.cell? ⟨gk, 2, none⟩ = some (.int .i64 proto) := hkX.cell 2
  have y3 : X.cell? ⟨gk, 3, none⟩ = some (.int .i64 id) := hkX.cell 3
  have b3 : Bk W3 ps 46 #[.map (some (gk + 1 + 1)), .slice none 0 0] := (hbX.drew).grown hg3 (fun e => by have := Option.some.inj e; omega)
  have z1 : W3.cell? ⟨ps, 1, none⟩ = some (.slice none 0 0) := b3.cell 1
  have z2 : W3.frozen? ⟨ps, 1, none⟩ = false := b3.frozen 1
  have hsz3 : w.heap.size ≤ W3.heap.size := by rw [hs3]; show w.heap.size ≤ X.heap.size; omega
  have HX3 : Hid (W3.heap.size = gk + 1 + 1 + 1) := Lib.hid (by rw [hs3]; exact hsX)
  have hO0 : Ow 79 W3 w.heap.size none 0 0 (ptrs []) := Ow.none_ _ _ _
  have HGK : Hid (w.heap.size + 1 = gk) := Lib.hid hgk
  clear hs3 hsX hsW hX hbX hIX hwX hkX hCX hI3 hg3 hst d0 d3 d4 e0 e1 e2 e3 k0 k1 k2 k3
  refine wp_region_still_tail 6 (by kernel_rfl) (by kernel_rfl) ?_
  change wpStill _ _ (World.drew _) (fun a' => wpList _ _ _ _ a' (World.drew _)) _ _
  simp only [List.take_succ_cons, List.take_zero, List.drop_succ_cons, List.drop_zero]
  repeat still_step
  try refine wpStill_nil ?_
  go_wp2_with (at_builtin; refine ap_ptr rfl (.tmp 64) (.tmp 66) rfl w.heap.size rfl hO0 (gk + 1) rfl (by omega) hsz3 ?_; intro A4 c4 W4 hO4 hG4 hA4; have b4 := b3.grown hG4 (by simp [blk]); have z3 : W4.cell? ⟨ps, 1, none⟩ = some (.slice none 0 0) := b4.cell 1; have z4 := b4.frozen 1)
  go_ret
  obtain ⟨ga, rfl⟩ : ∃ ga, A4 = some ⟨ga, 0, none⟩ := by
    rcases hO4.cases_ with ⟨_, h, _⟩ | ⟨g', _, h, _⟩
    · omega
    · exact ⟨g', h⟩
  have hga : ga = gk + 1 + 1 + 1 + 1 := by
    rcases hA4 with h | h
    · simp [blk] at h
    · have h2 := (by simpa [blk] using h : ga = W3.heap.size + 1); have := HX3.out; omega
  have hGs : W4.grownBy (W4.setCell ⟨ps, 1, none⟩ (.slice (some ⟨ga, 0, none⟩) (0 + 1) c4)) (some ps) := grownBy_setCell (World.grownBy.refl W4 (some ps)) (.inl rfl) _
  have hgk := HGK.out
  refine ⟨gk + 1, gk + 1 + 1, ga, c4, rfl, b4.set 1 _, (HI3.out.kept hG4 (by simp [blk])).kept hGs (fun e => by have := Option.some.inj e; omega), Ow.kept hO4 hGs (.inr fun e => by have h2 := (by simpa [blk] using e : ga = ps); omega), (((HwX.out.drew).grown HG3.out (fun e => by have := Option.some.inj e; omega)).grown hG4 (by simp [blk])).grown hGs (fun e => by have := Option.some.inj e; omega), by omega, by omega, by omega, by omega, by omega, ?_⟩
  exact (((HCX.out.drewN 1).trans (Chg.of_grown (F := fun b => gk + 1 + 1 = b) HG3.out (fun b hb => Option.some.inj hb)) (fun b hb => .inr (by omega))).trans (Chg.of_grown (F := fun _ => False) hG4 (fun b hb => by simp [blk] at hb)) (fun b hb => hb.elim)).setCell (p := ⟨ps, 1, none⟩) (.inl rfl) _
end Go.Proofs.Ytcjkhonapafndaa
