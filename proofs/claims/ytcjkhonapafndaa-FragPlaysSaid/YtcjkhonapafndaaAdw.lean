/- Proved: a piece that may be put in is told to a Store, by the walk of Add. Conditions: the Store lies in memory with at most eight wholes. -/
import Derived.Test.YtcjkhonapafndaaAsd
import Derived.Deep.DeepCutAuto
import Derived.Deep.CutBlock
set_option linter.unusedVariables false
set_option linter.unusedSimpArgs false
namespace Go.Proofs.Ytcjkhonapafndaa
open Go.RowKit
theorem results_c2 {P : Program} {fn : Func} {p u v : Tmp} {ty : TypeId} (h : fn.results = #[.cell p ty, .tmp u, .tmp v]) (tmps : Array Value) (w : World) (g : Nat) (t : TypeId) (cs : Array Value) (fr : Nat × Nat) (d : TypeDesc)
    (hp : tmps.getD p undef = .pointer (some ⟨g, 0, none⟩)) (hg : w.heap[g]? = some (.cells cs t fr))
    (hu : P.underlying ty = some d) (hd : (match d with | .struct _ | .array _ _ => true | _ => false) = true) (hi : (P.info? ty).map (·.size) = some cs.size) :
    (results fn tmps).run P w = .ok (.tuple #[.agg cs, tmps.getD u undef, tmps.getD v undef]) w := by
  have hp' : tmps[p]?.getD undef = .pointer (some ⟨g, 0, none⟩) := by simpa using hp
  simp [results, h, hp', asAddr, run_loadVar_row w g t ty cs fr d hg hu hd hi, Result.andThen]
theorem neq_span (x1 x2 y1 y2 : Int) (w : World) : (binOp .neq 89 (.agg #[.int .i64 x1, .int .i64 x2]) (.agg #[.int .i64 y1, .int .i64 y2])).run Try.prog w = .ok (.bool (decide ¬ (x1 = y1 ∧ x2 = y2))) w := by
  go_simp
  by_cases h1 : x1 = y1 <;> by_cases h2 : x2 = y2 <;> simp [h1, h2]
set_option maxHeartbeats 8000000 in
set_option maxRecDepth 100000 in
theorem add_good (ps : Nat) (mv : Option Nat) (aA : Option Addr) (ac : Nat) (Ws : List WR) (p : PkV) (hp : p.Ok) (oA dA : Option Addr) (on oc dn dc B : Nat) (ol dl : List Int) (hn : ol.length = on) (hmo : on ≤ 1000000) (hdn : dl.length = dn) (hdc : dn ≤ dc) (hg : Good p dn) (now : Int) (w : World)
    (hr : RB w B oA ol) (hrd : RB w B dA dl) (hB : B ≤ w.heap.size) (h : StW w ps mv aA ac Ws) (hlen : Ws.length ≤ 8) (hok : ∀ x ∈ Ws, RecOk x.r) (hno : ∀ b, (0 < ol.length ∧ blk oA = some b) ∨ blk dA = some b → b < w.heap.size ∧ ¬ foot ps mv aA Ws b) :
    Calls Try.prog 21 #[.pointer (some ⟨ps, 0, none⟩), .agg (pkC p (.slice oA on oc) (.slice dA dn dc)), .int .i64 now] w (AddPost w ps mv aA Ws (GoodR (Ws.map (·.r)) p ol dl now)) := by
  obtain ⟨svc, id, wh, mo, off, life, proto, src, dst⟩ := p
  have HG0 := Lib.hid hg
  obtain ⟨hpos, hoff, ho8, hd8, hmore, hlng⟩ := hg
  simp only at hoff ho8 hd8 hmore hlng
  obtain ⟨a, ha⟩ : ∃ a : Nat, off = (a : Int) := ⟨off.toNat, by omega⟩
  subst ha
  have HOF := Lib.hid (fun W (h : StW W ps mv aA ac Ws) => of_st ps mv aA ac Ws ⟨svc, id, wh, mo, a, life, proto, src, dst⟩ hp (.slice oA on oc) (.slice dA dn dc) now W h hlen)
  obtain ⟨PV, hPV⟩ : ∃ PV : PkV, PV = ⟨svc, id, wh, mo, a, life, proto, src, dst⟩ := ⟨_, rfl⟩
  have HPV := Lib.hid hPV
  rw [← hPV] at HG0 hp
  have HP := Lib.hid hp
  rw [show GoodR (Ws.map (·.r)) ⟨svc, id, wh, mo, a, life, proto, src, dst⟩ ol dl now = GoodR (Ws.map (·.r)) PV ol dl now by rw [hPV]]
  obtain ⟨RR, hRR⟩ : ∃ RR, GoodR (Ws.map (·.r)) PV ol dl now = RR := ⟨_, rfl⟩
  rw [hRR]
  have HRR := Lib.hid hRR
  unfold pkC at HOF ⊢
  simp only at HOF ⊢
  have hwe : IntKind.i64.wrap ((a : Int) + (dn : Int)) = (a : Int) + (dn : Int) := by rw [IntWalk.i64_in _ (by omega)]
  have e0 : ((dn : Int) == 0) = false := beq_eq_false_iff_ne.2 (by omega)
  have e0' : (dn == 0) = false := beq_eq_false_iff_ne.2 (by omega)
  have e1 : (a : Int).tmod 8 = 0 := ho8
  have e1' : a % 8 = 0 := by rw [Int.tmod_eq_emod_of_nonneg (by omega)] at ho8; omega
  have e2 : decide ((65515 : Int) < (a : Int) + (dn : Int)) = false := decide_eq_false (by omega)
  have e3 : decide (65515 < a + dn) = false := decide_eq_false (by omega)
  have e4 : decide ((65535 : Int) < (a : Int)) = false := decide_eq_false (by omega)
  have e5 : decide (65535 < a) = false := decide_eq_false (by omega)
  have e6 : decide ((a : Int) < 0) = false := decide_eq_false (by omega)
  have HE6 : Hid (a + dn ≤ 65515) := Lib.hid (by omega)
  have HPS : Hid (0 < dn) := Lib.hid hpos
  have HNO := Lib.hid hno
  have HOK := Lib.hid hok
  have HR := Lib.hid hr
  have HRD := Lib.hid hrd
  have HB := Lib.hid hB
  have HS0 := Lib.hid h
  have HL8 := Lib.hid hlen
  have HN := Lib.hid hn
  have HDN := Lib.hid hdn
  have HDC := Lib.hid hdc
  have HMO := Lib.hid hmo
  have HPSL : Hid (ps < w.heap.size) := Lib.hid h.bk.lt
  have HWAY : Hid ((mo = true ∧ dn % 8 = 0) ∨ (mo = false ∧ 0 < a)) := Lib.hid (by
    cases mo with
    | true => exact .inl ⟨rfl, hd8 rfl⟩
    | false => exact .inr ⟨rfl, by rcases hmore with h | h; cases h; omega⟩)
  clear hp hn hdn hdc hno hok hr hrd hB h hlen hmo hlng hoff ho8 hd8 hmore hPV hRR hpos
  go_enter Try.func21, Try.ntmps21
  go_upto_block 0 with fail
  obtain ⟨gx, hgx⟩ : ∃ gx, w.heap.size = gx := ⟨_, rfl⟩
  obtain ⟨W, hW⟩ : ∃ W, (w.alloc (.cells #[.int .i64 svc, .int .i64 id, .bool wh, .bool mo, .int .i64 a, .int .i64 life, .int .i64 proto, .int .u32 src, .int .u32 dst, .slice oA on oc, .slice dA dn dc] 26)).alloc (.cells #[.int .i64 0, .int .i64 0, .bool false, .bool false, .int .i64 0, .int .i64 0, .int .i64 0, .int .u32 0, .int .u32 0, .slice none 0 0, .slice none 0 0] 26) = W := ⟨_, rfl⟩
  rw [hW, hgx]
  have hBW : Below w.heap.size w W := by rw [← hW]; exact ((Below.refl _ _).alloc (Nat.le_refl _) _).alloc (by rw [World.size_alloc]; omega) _
  have hpW : Bk W w.heap.size 26 #[.int .i64 svc, .int .i64 id, .bool wh, .bool mo, .int .i64 a, .int .i64 life, .int .i64 proto, .int .u32 src, .int .u32 dst, .slice oA on oc, .slice dA dn dc] := by rw [← hW]; exact (Bk.new w _ _).alloc _
  have hzW : Bk W (w.heap.size + 1) 26 zC := by
    rw [← hW]
    have := Bk.new (w.alloc (.cells #[.int .i64 svc, .int .i64 id, .bool wh, .bool mo, .int .i64 a, .int .i64 life, .int .i64 proto, .int .u32 src, .int .u32 dst, .slice oA on oc, .slice dA dn dc] 26)) 26 zC
    rw [World.size_alloc] at this
    exact this
  have hsz : W.heap.size = w.heap.size + 1 + 1 := by rw [← hW, World.size_alloc, World.size_alloc]
  have hSW := HS0.out.below hBW
  have HAS := Lib.hid (fun e w2 => of_as (k := (src, dst, proto, id)) (now := now) (e := e) (w2 := w2) HS0.out hBW hsz hpW hzW)
  have HFW := Lib.hid (HOF.out W hSW)
  rw [hgx] at hpW HAS
  have c0 : W.cell? ⟨gx, 0, none⟩ = some (.int .i64 svc) := hpW.cell 0
  have c1 : W.cell? ⟨gx, 1, none⟩ = some (.int .i64 id) := hpW.cell 1
  have c2 : W.cell? ⟨gx, 2, none⟩ = some (.bool wh) := hpW.cell 2
  have c3 : W.cell? ⟨gx, 3, none⟩ = some (.bool mo) := hpW.cell 3
  have c4 : W.cell? ⟨gx, 4, none⟩ = some (.int .i64 a) := hpW.cell 4
  have c5 : W.cell? ⟨gx, 5, none⟩ = some (.int .i64 life) := hpW.cell 5
  have c6 : W.cell? ⟨gx, 6, none⟩ = some (.int .i64 proto) := hpW.cell 6
  have c7 : W.cell? ⟨gx, 7, none⟩ = some (.int .u32 src) := hpW.cell 7
  have c8 : W.cell? ⟨gx, 8, none⟩ = some (.int .u32 dst) := hpW.cell 8
  have c9 : W.cell? ⟨gx, 9, none⟩ = some (.slice oA on oc) := hpW.cell 9
  have c10 : W.cell? ⟨gx, 10, none⟩ = some (.slice dA dn dc) := hpW.cell 10
  have HGX := Lib.hid hgx
  clear hW hBW hzW hsz hSW hgx hpW HOF
  go_cut [] (fun wx => wx = W)
  case first =>
    rcases HWAY.out with ⟨rfl, h8⟩ | ⟨rfl, h0⟩
    · have f1 : (dn : Int).tmod 8 = 0 := by rw [Int.tmod_eq_emod_of_nonneg (by omega)]; omega
      go_wp2_with fail
      go_meet
      rfl
    · have f1 : decide ((a : Int) ≤ 0) = false := decide_eq_false (by omega)
      have f2 : decide (a ≤ 0) = false := decide_eq_false (by omega)
      go_wp2_with fail
      go_meet
      rfl
  case rest =>
    subst hcut
    go_wp2_with fail
    refine HFW.out.mono ?_
    rintro e w2 hof
    obtain ⟨mv', aA', ac', K1, K2, g, F, r, rfl, hOR, hAS2⟩ := HAS.out e w2 hof
    clear hof
    have HOR := Lib.hid hOR
    have HRX := Lib.hid (hOR.ok (fun x hx => by obtain ⟨y, hy, rfl⟩ := List.mem_map.1 hx; exact HOK.out y hy))
    have HFT := Lib.hid (fits_st F g r ⟨svc, id, wh, mo, a, life, proto, src, dst⟩ (.slice oA on oc) dA dn dc w2 hAS2.wh HRX.out.1 ⟨by show (0 : Int) ≤ (a : Int); omega, by show (a : Int) ≤ 65535; have := HE6.out; omega⟩ (by have := HE6.out; omega))
    unfold pkC at HFT
    simp only at HFT
    obtain ⟨ft, hft⟩ : ∃ ft, fitsW r.fin r.S mo ((a : Int) + dn) = ft := ⟨_, rfl⟩
    rw [hft] at HFT
    have HFV := Lib.hid hft
    have hpk2 := hAS2.pk
    have d0 : w2.cell? ⟨gx, 0, none⟩ = some (.int .i64 svc) := hpk2.cell 0
    have d1 : w2.cell? ⟨gx, 1, none⟩ = some (.int .i64 id) := hpk2.cell 1
    have d2 : w2.cell? ⟨gx, 2, none⟩ = some (.bool wh) := hpk2.cell 2
    have d3 : w2.cell? ⟨gx, 3, none⟩ = some (.bool mo) := hpk2.cell 3
    have d4 : w2.cell? ⟨gx, 4, none⟩ = some (.int .i64 a) := hpk2.cell 4
    have d5 : w2.cell? ⟨gx, 5, none⟩ = some (.int .i64 life) := hpk2.cell 5
    have d6 : w2.cell? ⟨gx, 6, none⟩ = some (.int .i64 proto) := hpk2.cell 6
    have d7 : w2.cell? ⟨gx, 7, none⟩ = some (.int .u32 src) := hpk2.cell 7
    have d8 : w2.cell? ⟨gx, 8, none⟩ = some (.int .u32 dst) := hpk2.cell 8
    have d9 : w2.cell? ⟨gx, 9, none⟩ = some (.slice oA on oc) := hpk2.cell 9
    have d10 : w2.cell? ⟨gx, 10, none⟩ = some (.slice dA dn dc) := hpk2.cell 10
    have HAS2 := Lib.hid hAS2
    clear hOR hft hAS2 hpk2
    go_wp2_with fail
    refine HFT.out.mono ?_
    rintro e w3 ⟨rfl, hB3⟩
    have hAS3 := HAS2.out.below hB3
    have hpk3 := hAS3.pk
    clear hB3
    rcases (Bool.eq_false_or_eq_true ft) with rfl | rfl
    rotate_left
    · have hzk3 := hAS3.zk
      unfold zC at hzk3
      have n0 : w3.cell? ⟨gx + 1, 0, none⟩ = some (.int .i64 0) := hzk3.cell 0
      have n1 : w3.cell? ⟨gx + 1, 1, none⟩ = some (.int .i64 0) := hzk3.cell 1
      have n2 : w3.cell? ⟨gx + 1, 2, none⟩ = some (.bool false) := hzk3.cell 2
      have n3 : w3.cell? ⟨gx + 1, 3, none⟩ = some (.bool false) := hzk3.cell 3
      have n4 : w3.cell? ⟨gx + 1, 4, none⟩ = some (.int .i64 0) := hzk3.cell 4
      have n5 : w3.cell? ⟨gx + 1, 5, none⟩ = some (.int .i64 0) := hzk3.cell 5
      have n6 : w3.cell? ⟨gx + 1, 6, none⟩ = some (.int .i64 0) := hzk3.cell 6
      have n7 : w3.cell? ⟨gx + 1, 7, none⟩ = some (.int .u32 0) := hzk3.cell 7
      have n8 : w3.cell? ⟨gx + 1, 8, none⟩ = some (.int .u32 0) := hzk3.cell 8
      have n9 : w3.cell? ⟨gx + 1, 9, none⟩ = some (.slice none 0 0) := hzk3.cell 9
      have n10 : w3.cell? ⟨gx + 1, 10, none⟩ = some (.slice none 0 0) := hzk3.cell 10
      have o0 : w3.frozen? ⟨gx + 1, 0, none⟩ = false := hzk3.frozen 0
      have o1 : w3.frozen? ⟨gx + 1, 1, none⟩ = false := hzk3.frozen 1
      have o2 : w3.frozen? ⟨gx + 1, 2, none⟩ = false := hzk3.frozen 2
      have o3 : w3.frozen? ⟨gx + 1, 3, none⟩ = false := hzk3.frozen 3
      have o4 : w3.frozen? ⟨gx + 1, 4, none⟩ = false := hzk3.frozen 4
      have o5 : w3.frozen? ⟨gx + 1, 5, none⟩ = false := hzk3.frozen 5
      have o6 : w3.frozen? ⟨gx + 1, 6, none⟩ = false := hzk3.frozen 6
      have o7 : w3.frozen? ⟨gx + 1, 7, none⟩ = false := hzk3.frozen 7
      have o8 : w3.frozen? ⟨gx + 1, 8, none⟩ = false := hzk3.frozen 8
      have o9 : w3.frozen? ⟨gx + 1, 9, none⟩ = false := hzk3.frozen 9
      have o10 : w3.frozen? ⟨gx + 1, 10, none⟩ = false := hzk3.frozen 10
      have HAS3 := Lib.hid hAS3
      clear hAS3 hpk3 hzk3
      go_wp2
      have zz0 := (HAS3.out.zk).set 0 (.int .i64 0)
      have zz1 := zz0.set 1 (.int .i64 0)
      have zz2 := zz1.set 2 (.bool false)
      have zz3 := zz2.set 3 (.bool false)
      have zz4 := zz3.set 4 (.int .i64 0)
      have zz5 := zz4.set 5 (.int .i64 0)
      have zz6 := zz5.set 6 (.int .i64 0)
      have zz7 := zz6.set 7 (.int .u32 0)
      have zz8 := zz7.set 8 (.int .u32 0)
      have zz9 := zz8.set 9 (.slice none 0 0)
      have zz10 := zz9.set 10 (.slice none 0 0)
      refine bodyPost_ret (results_c2 rfl _ _ (gx + 1) _ _ _ _ rfl zz10 Try.underlying26 rfl (by kernel_rfl)) rfl ?_
      obtain ⟨wf, hwf⟩ : ∃ wf, (((((((((((w3.setCell ⟨gx + 1, 0, none⟩ (.int .i64 0)).setCell ⟨gx + 1, 1, none⟩ (.int .i64 0)).setCell ⟨gx + 1, 2, none⟩ (.bool false)).setCell ⟨gx + 1, 3, none⟩ (.bool false)).setCell ⟨gx + 1, 4, none⟩ (.int .i64 0)).setCell ⟨gx + 1, 5, none⟩ (.int .i64 0)).setCell ⟨gx + 1, 6, none⟩ (.int .i64 0)).setCell ⟨gx + 1, 7, none⟩ (.int .u32 0)).setCell ⟨gx + 1, 8, none⟩ (.int .u32 0)).setCell ⟨gx + 1, 9, none⟩ (.slice none 0 0)).setCell ⟨gx + 1, 10, none⟩ (.slice none 0 0)) = wf := ⟨_, rfl⟩
      have hCf : Chg (fun x => x = gx + 1) w3 wf := by
        rw [← hwf]
        exact ((((((((((((Chg.refl (fun x => x = gx + 1) w3).setCell (p := ⟨gx + 1, 0, none⟩) (.inl rfl) _).setCell (p := ⟨gx + 1, 1, none⟩) (.inl rfl) _).setCell (p := ⟨gx + 1, 2, none⟩) (.inl rfl) _).setCell (p := ⟨gx + 1, 3, none⟩) (.inl rfl) _).setCell (p := ⟨gx + 1, 4, none⟩) (.inl rfl) _).setCell (p := ⟨gx + 1, 5, none⟩) (.inl rfl) _).setCell (p := ⟨gx + 1, 6, none⟩) (.inl rfl) _).setCell (p := ⟨gx + 1, 7, none⟩) (.inl rfl) _).setCell (p := ⟨gx + 1, 8, none⟩) (.inl rfl) _).setCell (p := ⟨gx + 1, 9, none⟩) (.inl rfl) _).setCell (p := ⟨gx + 1, 10, none⟩) (.inl rfl) _)
      rw [hwf]
      exact HAS3.out.zend hCf (by rw [← HRR.out]; refine ⟨_, r, _, by rw [HPV.out]; exact HOR.out, .inl ⟨?_, rfl, rfl, rfl, rfl⟩⟩; rw [HPV.out]; show fitsW r.fin r.S mo ((a : Int) + ((dl.length : Nat) : Int)) = false; rw [HDN.out]; exact HFV.out)
    · have q3 : w3.cell? ⟨gx, 3, none⟩ = some (.bool mo) := hpk3.cell 3
      have HAS3 := Lib.hid hAS3
      clear hAS3 hpk3
      go_upto_if 82 with (fail)
      clear q3
      go_cut [] (fun wx => AS w gx ps mv aA Ws mv' aA' ac' K1 K2 g #[.int .i64 svc, .int .i64 id, .bool wh, .bool mo, .int .i64 a, .int .i64 life, .int .i64 proto, .int .u32 src, .int .u32 dst, .slice oA on oc, .slice dA dn dc] F (finR r PV dn) wx)
      case first =>
        rcases HWAY.out with ⟨rfl, h8⟩ | ⟨rfl, h0⟩
        · go_wp2_with fail
          go_meet
          have hf : finR r PV dn = r := by rw [HPV.out]; rfl
          rw [hf]
          exact HAS3.out
        · have hpk3 := HAS3.out.pk
          have q4 : w3.cell? ⟨gx, 4, none⟩ = some (.int .i64 a) := hpk3.cell 4
          have q10 : w3.cell? ⟨gx, 10, none⟩ = some (.slice dA dn dc) := hpk3.cell 10
          obtain ⟨_, _, _, _, _, _, _, hg3, _⟩ := HAS3.out.wh
          have g6 : w3.frozen? ⟨g, 6, none⟩ = false := hg3.frozen 6
          have g6c : w3.cell? ⟨g, 6, none⟩ = some (.int .i64 r.fin) := hg3.cell 6
          clear hpk3 hg3
          go_wp2_with fail
          go_meet
          have hf : finR r PV dn = { r with fin := (a : Int) + dn } := by rw [HPV.out]; rfl
          rw [hf]
          exact HAS3.out.fin _
      case rest =>
        have HASc := Lib.hid hcut
        clear hcut
        obtain ⟨Wd, hWd⟩ : ∃ Wd, Wd = wc := ⟨_, rfl⟩
        subst hWd
        go_upto_region 15 with (fail)
        obtain ⟨b1, hb1⟩ : ∃ b1 : Bool, b1 = decide (a = 0 ∧ r.first = none) := ⟨_, rfl⟩
        have HB1 := Lib.hid hb1
        clear hb1
        go_cut [101] (fun s101 wx => s101 = .bool b1 ∧ wx = Wd)
        case first =>
          have hpkc := HASc.out.pk
          have q4 : Wd.cell? ⟨gx, 4, none⟩ = some (.int .i64 a) := hpkc.cell 4
          obtain ⟨f, dA', tA', dn', dc', tn', tc', hgc, _, _, hfc, _⟩ := HASc.out.wh
          have g5 : Wd.cell? ⟨g, 5, none⟩ = some f := hgc.cell 5
          rw [(finR_f r PV dn).2.2.2.2.2] at hfc
          rcases Nat.eq_zero_or_pos a with h0 | h0
          · have z1 : ((a : Int) == 0) = true := by simp [h0]
            have z2 : (a == 0) = true := by simp [h0]
            rcases hrf : r.first with _ | x
            · rw [hrf] at hfc
              have hf2 : f = .pointer none := hfc
              subst hf2
              have HV : Hid (b1 = true) := Lib.hid (by rw [HB1.out]; exact decide_eq_true ⟨h0, hrf⟩)
              clear hpkc hgc hfc h0 hrf
              go_wp2_with fail
              go_meet
              exact ⟨by rw [HV.out], rfl⟩
            · rw [hrf] at hfc
              obtain ⟨xp, xo, xd⟩ := x
              obtain ⟨gf, _, _, _, _, _, _, hf2, _⟩ := hfc
              subst hf2
              have g5' : Wd.cell? ⟨g, 5, none⟩ = some (.pointer (some ⟨gf, 0, none⟩)) := g5
              have HV : Hid (b1 = false) := Lib.hid (by rw [HB1.out]; exact decide_eq_false (fun e => by rw [hrf] at e; cases e.2))
              clear hpkc hgc h0 hrf g5
              go_wp2_with fail
              go_meet
              exact ⟨by rw [HV.out], rfl⟩
          · have z1 : ((a : Int) == 0) = false := beq_eq_false_iff_ne.2 (by omega)
            have z2 : (a == 0) = false := beq_eq_false_iff_ne.2 (by omega)
            have HV : Hid (b1 = false) := Lib.hid (by rw [HB1.out]; exact decide_eq_false (fun e => by omega))
            clear hpkc hgc hfc h0 g5
            go_wp2_with fail
            go_meet
            exact ⟨by rw [HV.out], rfl⟩
        case rest =>
          obtain ⟨rfl, rfl⟩ := hcut
          go_upto_if 101 with (fail)
          go_cut [] (fun wx => ∃ F2, AS w gx ps mv aA Ws mv' aA' ac' K1 K2 g #[.int .i64 svc, .int .i64 id, .bool wh, .bool mo, .int .i64 a, .int .i64 life, .int .i64 proto, .int .u32 src, .int .u32 dst, .slice oA on oc, .slice dA dn dc] F2 (setR r PV ol dl) wx)
          case first =>
            rcases (Bool.eq_false_or_eq_true b1) with rfl | rfl
            · have hV := of_decide_eq_true HB1.out.symm
              have hAS0 := HASc.out
              have hpkc := hAS0.pk
              have q0 : wc.cell? ⟨gx, 0, none⟩ = some (.int .i64 svc) := hpkc.cell 0
              have q1 : wc.cell? ⟨gx, 1, none⟩ = some (.int .i64 id) := hpkc.cell 1
              have q2 : wc.cell? ⟨gx, 2, none⟩ = some (.bool wh) := hpkc.cell 2
              have q3 : wc.cell? ⟨gx, 3, none⟩ = some (.bool mo) := hpkc.cell 3
              have q4 : wc.cell? ⟨gx, 4, none⟩ = some (.int .i64 a) := hpkc.cell 4
              have q5 : wc.cell? ⟨gx, 5, none⟩ = some (.int .i64 life) := hpkc.cell 5
              have q6 : wc.cell? ⟨gx, 6, none⟩ = some (.int .i64 proto) := hpkc.cell 6
              have q7 : wc.cell? ⟨gx, 7, none⟩ = some (.int .u32 src) := hpkc.cell 7
              have q8 : wc.cell? ⟨gx, 8, none⟩ = some (.int .u32 dst) := hpkc.cell 8
              have q9 : wc.cell? ⟨gx, 9, none⟩ = some (.slice oA on oc) := hpkc.cell 9
              have q10 : wc.cell? ⟨gx, 10, none⟩ = some (.slice dA dn dc) := hpkc.cell 10
              obtain rfl := HPV.out
              have HOW := Lib.hid (own_any ⟨svc, id, wh, mo, a, life, proto, src, dst⟩ oA dA on oc dn dc B ol dl HN.out (by have := HMO.out; omega) HDN.out (by have := HE6.out; omega) wc (fun hn0 => (hAS0.row HR.out HB.out (fun b hb => (HNO.out b (.inl ⟨by rw [by8_length] at hn0; exact hn0, hb⟩)).2)) hn0) (hAS0.row HRD.out HB.out (fun b hb => (HNO.out b (.inr hb)).2)) (by have := HB.out; have := hAS0.ch.size; omega))
              unfold pkC at HOW
              simp only at HOW
              have HV := Lib.hid hV
              clear hV hAS0 hpkc
              go_wp2_with fail
              refine HOW.out.mono ?_
              rintro e w4 ⟨A1, c1, A2, c2, rfl, hO4, hB4⟩
              obtain ⟨_, _, _, _, _, _, _, hg4, _⟩ := (HASc.out.below hB4).wh
              have s5 : (w4.alloc (.cells #[.int .i64 svc, .int .i64 id, .bool wh, .bool mo, .int .i64 a, .int .i64 life, .int .i64 proto, .int .u32 src, .int .u32 dst, .slice A1 on c1, .slice A2 dn c2] 26)).frozen? ⟨g, 5, none⟩ = false := (hg4.alloc _).frozen 5
              have s6 := (hg4.alloc (.cells #[.int .i64 svc, .int .i64 id, .bool wh, .bool mo, .int .i64 a, .int .i64 life, .int .i64 proto, .int .u32 src, .int .u32 dst, .slice A1 on c1, .slice A2 dn c2] 26)).cell 5
              obtain ⟨gf, hgf⟩ : ∃ gf, w4.heap.size = gf := ⟨_, rfl⟩
              obtain ⟨W5, hW5⟩ : ∃ W5, (w4.alloc (.cells #[.int .i64 svc, .int .i64 id, .bool wh, .bool mo, .int .i64 a, .int .i64 life, .int .i64 proto, .int .u32 src, .int .u32 dst, .slice A1 on c1, .slice A2 dn c2] 26)).setCell ⟨g, 5, none⟩ (.pointer (some ⟨gf, 0, none⟩)) = W5 := ⟨_, rfl⟩
              have hAS5 := HASc.out.fst (wz := W5) (p := ⟨svc, id, wh, mo, a, life, proto, src, dst⟩) hB4 hO4 (by rw [hgf]; exact hW5)
              have HAS5 := Lib.hid hAS5
              have HGF := Lib.hid hgf
              have HW5 := Lib.hid hW5
              clear hgf hW5 hAS5 hg4 hO4 hB4
              go_wp2_with fail
              rw [HGF.out, HW5.out]
              go_meet
              refine ⟨fun b => F b ∨ (wc.heap.size ≤ b ∧ b < W5.heap.size), ?_⟩
              have e : setR r ⟨svc, id, wh, mo, a, life, proto, src, dst⟩ ol dl = { finR r ⟨svc, id, wh, mo, a, life, proto, src, dst⟩ dn with first := some (⟨svc, id, wh, mo, a, life, proto, src, dst⟩, ol, dl) } := by
                unfold setR fstR
                rw [HDN.out, (finR_f _ _ _).2.2.2.2.2, if_pos ⟨(show (a : Int) = 0 by have := HV.out.1; omega), HV.out.2⟩]
              rw [e]
              exact HAS5.out
            · have hV := of_decide_eq_false HB1.out.symm
              have HV := Lib.hid hV
              clear hV
              go_wp2_with fail
              go_meet
              refine ⟨F, ?_⟩
              have e : setR r PV ol dl = finR r PV dn := by
                unfold setR fstR
                rw [HDN.out, (finR_f _ _ _).2.2.2.2.2, if_neg (fun q => HV.out ⟨by have := q.1; rw [HPV.out] at this; have h2 : (a : Int) = 0 := this; omega, q.2⟩)]
              rw [e]
              exact HASc.out
          case rest =>
            obtain ⟨F2, hAS⟩ := hcut
            obtain ⟨We, hWe⟩ : ∃ We, We = wc := ⟨_, rfl⟩
            subst hWe
            clear HASc HB1
            obtain ⟨sD, sS, sk, sb, sf, s1⟩ := setR_D r PV ol dl
            have hpke := hAS.pk
            have p4 : We.cell? ⟨gx, 4, none⟩ = some (.int .i64 a) := hpke.cell 4
            have p10 : We.cell? ⟨gx, 10, none⟩ = some (.slice dA dn dc) := hpke.cell 10
            have HLY := Lib.hid (lay_st F2 g (setR r PV ol dl) a dA dn dc B dl We hAS.wh (hAS.row HRD.out HB.out (fun b hb => (HNO.out b (.inr hb)).2)) (by have := HB.out; have := hAS.ch.size; omega)
              (fun b hb hf => by
                have h1 := HNO.out b (.inr hb)
                have h3 := HGX.out
                rcases hAS.fx b hf with h2 | h2
                · exact h1.2 h2
                · omega) HDN.out HDC.out HPS.out (by have := HE6.out; omega) (by rw [sD]; exact HRX.out.1.len) (by rw [sS]; exact HRX.out.1.tn) (fun x hx => by rw [sS] at hx; rw [sD]; have := HRX.out.1.sp x hx; omega))
            have HASe := Lib.hid hAS
            clear hAS hpke sD sS sk sb sf s1
            go_wp2_with fail
            refine HLY.out.mono ?_
            rintro e w6 ⟨rfl, S', hLR, hwh6, hC6⟩
            have hF2 : ∀ b, F2 b → b < We.heap.size := fun b hb => HASe.out.st.lt ⟨g, F2, setR r PV ol dl⟩ (by simp) b hb
            have hAS6 := HASe.out.upd hC6 hwh6 (fun b hb => by rcases hb with h1 | h1; exact .inl h1; exact .inr h1.1) (fun b hb => by rcases hb with h1 | h1; (have := hF2 b h1; have := hC6.size; omega); exact h1.2) rfl
            have hoff : PV.off.toNat = a := by rw [HPV.out]; exact Int.toNat_natCast a
            have hR6 : RecOk (layRec (setR r PV ol dl) a dl S') := by
              have h := HRX.out.1.lay (S' := S') (ol := ol) (dl := dl) (by rw [HDN.out]; exact HG0.out) HP.out (by have := HN.out; have := HMO.out; omega) (by rw [HRX.out.2, HPV.out]; rfl) (by rw [hoff]; exact hLR)
              rw [hoff] at h
              exact h
            have hfit : fitsW r.fin r.S PV.more (PV.off + dl.length) = true := by
              rw [HPV.out, HDN.out]; exact HFV.out
            have hOR : OfR (Ws.map (·.r)) (pkK PV) now (K1.map (·.r)) r (K2.map (·.r)) := by rw [HPV.out]; exact HOR.out
            have hEN : ¬ doneR (layRec (setR r PV ol dl) a dl S') → RR (K1.map (·.r) ++ layRec (setR r PV ol dl) a dl S' :: K2.map (·.r)) (zeroP, [], []) false 0 := fun hd => by
              rw [← HRR.out]
              exact ⟨_, r, _, hOR, .inr ⟨hfit, rfl, S', by rw [hoff]; exact hLR, .inr ⟨by rw [hoff]; exact hd, by rw [hoff], rfl, rfl⟩⟩⟩
            have hED : doneR (layRec (setR r PV ol dl) a dl S') → RR (K1.map (·.r) ++ K2.map (·.r)) (outP (layRec (setR r PV ol dl) a dl S')) true 0 := fun hd => by
              rw [← HRR.out]
              exact ⟨_, r, _, hOR, .inr ⟨hfit, rfl, S', by rw [hoff]; exact hLR, .inl ⟨by rw [hoff]; exact hd, rfl, by rw [hoff], rfl⟩⟩⟩
            obtain ⟨F6, hF6⟩ : ∃ F6 : Nat → Prop, F6 = fun b => F2 b ∨ (We.heap.size ≤ b ∧ b < w6.heap.size) := ⟨_, rfl⟩
            rw [← hF6] at hAS6
            obtain ⟨r6, hr6⟩ : ∃ r6, layRec (setR r PV ol dl) a dl S' = r6 := ⟨_, rfl⟩
            rw [hr6] at hAS6 hR6 hEN hED
            have HAS6 := Lib.hid hAS6
            have HR6 := Lib.hid hR6
            have HEN := Lib.hid hEN
            have HED := Lib.hid hED
            have HC6 : Hid (K1.length + K2.length ≤ 8) := Lib.hid (by
              have hl8 := HL8.out
              have hm : (Ws.map (·.r)).length = Ws.length := List.length_map ..
              rcases HOR.out with ⟨h1, _⟩ | ⟨_, h1, _, h2⟩
              · have h3 := congrArg List.length h1
                simp only [List.length_append, List.length_cons, List.length_map] at h3; omega
              · have h3 := congrArg List.length h1
                simp only [List.length_nil, List.length_map] at h3
                rcases h2 with ⟨_, h2⟩ | ⟨_, A, x, Bk, h4, _, h2⟩
                · have h5 := congrArg List.length h2
                  simp only [List.length_map] at h5; omega
                · have h5 := congrArg List.length h2
                  have h6 := congrArg List.length h4
                  simp only [List.length_append, List.length_cons, List.length_map] at h5 h6; omega)
            clear hAS6 hR6 hEN hED hF6 hr6 hF2 hwh6 hC6 hoff hfit hOR hLR HLY HASe p4 p10 HFT HFV HOR HRX
            obtain ⟨f6, dA6, tA6, dn6, dc6, tn6, tc6, hg6, hD6, hT6, hf6, hFg6, hFd6, hFt6⟩ := HAS6.out.wh
            have hzk6 := HAS6.out.zk
            unfold zC at hzk6
            have n0 : w6.cell? ⟨gx + 1, 0, none⟩ = some (.int .i64 0) := hzk6.cell 0
            have n1 : w6.cell? ⟨gx + 1, 1, none⟩ = some (.int .i64 0) := hzk6.cell 1
            have n2 : w6.cell? ⟨gx + 1, 2, none⟩ = some (.bool false) := hzk6.cell 2
            have n3 : w6.cell? ⟨gx + 1, 3, none⟩ = some (.bool false) := hzk6.cell 3
            have n4 : w6.cell? ⟨gx + 1, 4, none⟩ = some (.int .i64 0) := hzk6.cell 4
            have n5 : w6.cell? ⟨gx + 1, 5, none⟩ = some (.int .i64 0) := hzk6.cell 5
            have n6 : w6.cell? ⟨gx + 1, 6, none⟩ = some (.int .i64 0) := hzk6.cell 6
            have n7 : w6.cell? ⟨gx + 1, 7, none⟩ = some (.int .u32 0) := hzk6.cell 7
            have n8 : w6.cell? ⟨gx + 1, 8, none⟩ = some (.int .u32 0) := hzk6.cell 8
            have n9 : w6.cell? ⟨gx + 1, 9, none⟩ = some (.slice none 0 0) := hzk6.cell 9
            have n10 : w6.cell? ⟨gx + 1, 10, none⟩ = some (.slice none 0 0) := hzk6.cell 10
            have o0 : w6.frozen? ⟨gx + 1, 0, none⟩ = false := hzk6.frozen 0
            have o1 : w6.frozen? ⟨gx + 1, 1, none⟩ = false := hzk6.frozen 1
            have o2 : w6.frozen? ⟨gx + 1, 2, none⟩ = false := hzk6.frozen 2
            have o3 : w6.frozen? ⟨gx + 1, 3, none⟩ = false := hzk6.frozen 3
            have o4 : w6.frozen? ⟨gx + 1, 4, none⟩ = false := hzk6.frozen 4
            have o5 : w6.frozen? ⟨gx + 1, 5, none⟩ = false := hzk6.frozen 5
            have o6 : w6.frozen? ⟨gx + 1, 6, none⟩ = false := hzk6.frozen 6
            have o7 : w6.frozen? ⟨gx + 1, 7, none⟩ = false := hzk6.frozen 7
            have o8 : w6.frozen? ⟨gx + 1, 8, none⟩ = false := hzk6.frozen 8
            have o9 : w6.frozen? ⟨gx + 1, 9, none⟩ = false := hzk6.frozen 9
            have o10 : w6.frozen? ⟨gx + 1, 10, none⟩ = false := hzk6.frozen 10
            have k5 : w6.cell? ⟨g, 5, none⟩ = some f6 := hg6.cell 5
            have k6 : w6.cell? ⟨g, 6, none⟩ = some (.int .i64 r6.fin) := hg6.cell 6
            have k7 : w6.cell? ⟨g, 7, none⟩ = some (.slice dA6 dn6 dc6) := hg6.cell 7
            have k8 : w6.cell? ⟨g, 8, none⟩ = some (.slice tA6 tn6 tc6) := hg6.cell 8
            have htn : r6.S.length = tn6 := by have := hT6.len; rwa [List.length_map] at this
            have HG6 := Lib.hid hg6
            have HD6 := Lib.hid hD6
            have HT6 := Lib.hid hT6
            have HF6 := Lib.hid hf6
            have HFD := Lib.hid hFd6
            have HTN := Lib.hid htn
            clear hzk6 hg6 hD6 hT6 hf6 hFg6 hFd6 hFt6 htn
            obtain ⟨fn, hfn⟩ : ∃ fn, r6.fin = fn := ⟨_, rfl⟩
            rw [hfn] at k6
            have HFN := Lib.hid hfn
            clear hfn
            rcases (by omega : fn < 0 ∨ ¬ fn < 0) with q | q
            · have t1 : decide (fn < 0) = true := decide_eq_true q
              have HND : Hid (¬ doneR r6) := Lib.hid (fun h => by have := h.1; rw [HFN.out] at this; omega)
              clear q
              go_wp2
              go_quiet (fail)
              go_wp2
              have zz0 := (HAS6.out.zk.drewN nq).set 0 (.int .i64 0)
              have zz1 := zz0.set 1 (.int .i64 0)
              have zz2 := zz1.set 2 (.bool false)
              have zz3 := zz2.set 3 (.bool false)
              have zz4 := zz3.set 4 (.int .i64 0)
              have zz5 := zz4.set 5 (.int .i64 0)
              have zz6 := zz5.set 6 (.int .i64 0)
              have zz7 := zz6.set 7 (.int .u32 0)
              have zz8 := zz7.set 8 (.int .u32 0)
              have zz9 := zz8.set 9 (.slice none 0 0)
              have zz10 := zz9.set 10 (.slice none 0 0)
              refine bodyPost_ret (results_c2 rfl _ _ (gx + 1) _ _ _ _ rfl zz10 Try.underlying26 rfl (by kernel_rfl)) rfl ?_
              obtain ⟨wf, hwf⟩ : ∃ wf, ((((((((((((w6.drewN nq).setCell ⟨gx + 1, 0, none⟩ (.int .i64 0)).setCell ⟨gx + 1, 1, none⟩ (.int .i64 0)).setCell ⟨gx + 1, 2, none⟩ (.bool false)).setCell ⟨gx + 1, 3, none⟩ (.bool false)).setCell ⟨gx + 1, 4, none⟩ (.int .i64 0)).setCell ⟨gx + 1, 5, none⟩ (.int .i64 0)).setCell ⟨gx + 1, 6, none⟩ (.int .i64 0)).setCell ⟨gx + 1, 7, none⟩ (.int .u32 0)).setCell ⟨gx + 1, 8, none⟩ (.int .u32 0)).setCell ⟨gx + 1, 9, none⟩ (.slice none 0 0)).setCell ⟨gx + 1, 10, none⟩ (.slice none 0 0)) = wf := ⟨_, rfl⟩
              have hCf : Chg (fun x => x = gx + 1) w6 wf := by
                rw [← hwf]
                exact (((((((((((((Chg.refl (fun x => x = gx + 1) w6).drewN nq).setCell (p := ⟨gx + 1, 0, none⟩) (.inl rfl) _).setCell (p := ⟨gx + 1, 1, none⟩) (.inl rfl) _).setCell (p := ⟨gx + 1, 2, none⟩) (.inl rfl) _).setCell (p := ⟨gx + 1, 3, none⟩) (.inl rfl) _).setCell (p := ⟨gx + 1, 4, none⟩) (.inl rfl) _).setCell (p := ⟨gx + 1, 5, none⟩) (.inl rfl) _).setCell (p := ⟨gx + 1, 6, none⟩) (.inl rfl) _).setCell (p := ⟨gx + 1, 7, none⟩) (.inl rfl) _).setCell (p := ⟨gx + 1, 8, none⟩) (.inl rfl) _).setCell (p := ⟨gx + 1, 9, none⟩) (.inl rfl) _).setCell (p := ⟨gx + 1, 10, none⟩) (.inl rfl) _)
              rw [hwf]
              exact HAS6.out.zend hCf (HEN.out HND.out)
            · have t1 : decide (fn < 0) = false := decide_eq_false q
              rcases (by omega : tn6 ≠ 1 ∨ tn6 = 1) with q2 | q2
              · have t2 : ((tn6 : Int) != 1) = true := by simp; omega
                have t3 : (tn6 != 1) = true := by simp; omega
                have HND : Hid (¬ doneR r6) := Lib.hid (fun h => by have h1 := congrArg List.length h.2; rw [HTN.out] at h1; exact q2 h1)
                clear q q2
                go_wp2
                go_quiet (fail)
                go_wp2
                have zz0 := (HAS6.out.zk.drewN nq).set 0 (.int .i64 0)
                have zz1 := zz0.set 1 (.int .i64 0)
                have zz2 := zz1.set 2 (.bool false)
                have zz3 := zz2.set 3 (.bool false)
                have zz4 := zz3.set 4 (.int .i64 0)
                have zz5 := zz4.set 5 (.int .i64 0)
                have zz6 := zz5.set 6 (.int .i64 0)
                have zz7 := zz6.set 7 (.int .u32 0)
                have zz8 := zz7.set 8 (.int .u32 0)
                have zz9 := zz8.set 9 (.slice none 0 0)
                have zz10 := zz9.set 10 (.slice none 0 0)
                refine bodyPost_ret (results_c2 rfl _ _ (gx + 1) _ _ _ _ rfl zz10 Try.underlying26 rfl (by kernel_rfl)) rfl ?_
                obtain ⟨wf, hwf⟩ : ∃ wf, ((((((((((((w6.drewN nq).setCell ⟨gx + 1, 0, none⟩ (.int .i64 0)).setCell ⟨gx + 1, 1, none⟩ (.int .i64 0)).setCell ⟨gx + 1, 2, none⟩ (.bool false)).setCell ⟨gx + 1, 3, none⟩ (.bool false)).setCell ⟨gx + 1, 4, none⟩ (.int .i64 0)).setCell ⟨gx + 1, 5, none⟩ (.int .i64 0)).setCell ⟨gx + 1, 6, none⟩ (.int .i64 0)).setCell ⟨gx + 1, 7, none⟩ (.int .u32 0)).setCell ⟨gx + 1, 8, none⟩ (.int .u32 0)).setCell ⟨gx + 1, 9, none⟩ (.slice none 0 0)).setCell ⟨gx + 1, 10, none⟩ (.slice none 0 0)) = wf := ⟨_, rfl⟩
                have hCf : Chg (fun x => x = gx + 1) w6 wf := by
                  rw [← hwf]
                  exact (((((((((((((Chg.refl (fun x => x = gx + 1) w6).drewN nq).setCell (p := ⟨gx + 1, 0, none⟩) (.inl rfl) _).setCell (p := ⟨gx + 1, 1, none⟩) (.inl rfl) _).setCell (p := ⟨gx + 1, 2, none⟩) (.inl rfl) _).setCell (p := ⟨gx + 1, 3, none⟩) (.inl rfl) _).setCell (p := ⟨gx + 1, 4, none⟩) (.inl rfl) _).setCell (p := ⟨gx + 1, 5, none⟩) (.inl rfl) _).setCell (p := ⟨gx + 1, 6, none⟩) (.inl rfl) _).setCell (p := ⟨gx + 1, 7, none⟩) (.inl rfl) _).setCell (p := ⟨gx + 1, 8, none⟩) (.inl rfl) _).setCell (p := ⟨gx + 1, 9, none⟩) (.inl rfl) _).setCell (p := ⟨gx + 1, 10, none⟩) (.inl rfl) _)
                rw [hwf]
                exact HAS6.out.zend hCf (HEN.out HND.out)
              · subst q2
                have t2 : ((1 : Int) != 1) = false := by decide
                obtain ⟨x0, hx0⟩ : ∃ x, r6.S = [x] := by
                  have := HTN.out
                  rcases hS : r6.S with _ | ⟨x, _ | ⟨y, t⟩⟩
                  · rw [hS] at this; cases this
                  · exact ⟨x, rfl⟩
                  · rw [hS] at this; simp at this
                obtain ⟨x1, x2⟩ := x0
                obtain ⟨gt, rfl, _, hgt, y0, y1, _, _⟩ := HT6.out.cell (k := 0) (t := spI (x1, x2)) (by rw [hx0]; rfl)
                have y0' : w6.cell? ⟨gt, 0, none⟩ = some (.int .i64 x1) := y0
                have y1' : w6.cell? ⟨gt, 1, none⟩ = some (.int .i64 x2) := y1
                have HX0 := Lib.hid hx0
                clear y0 y1 hgt hx0
                rcases (by omega : (x1 = 0 ∧ (x2 : Int) = fn) ∨ ¬ (x1 = 0 ∧ (x2 : Int) = fn)) with q3 | q3
                · have hnq : ∀ W : World, (binOp .neq 89 (.agg #[.int .i64 x1, .int .i64 x2]) (.agg #[.int .i64 0, .int .i64 fn])).run Try.prog W = .ok (.bool false) W := fun W => by
                    rw [neq_span]; congr 2; exact decide_eq_false (fun h => h ⟨by omega, q3.2⟩)
                  have HDN6 : Hid (doneR r6) := Lib.hid ⟨by rw [HFN.out]; omega, by rw [HX0.out, HFN.out, q3.1, ← q3.2]; rfl⟩
                  clear q q3
                  go_wp2
                  go_quiet (fail)
                  obtain ⟨wq, hwq⟩ : ∃ wq, w6.drewN nq = wq := ⟨_, rfl⟩
                  rw [hwq]
                  have hASq := HAS6.out.below (wy := wq) (by rw [← hwq]; exact bel_drewN (Below.refl _ _) nq)
                  have HASq := Lib.hid hASq
                  have HFG := Lib.hid (forget_st ps mv' aA' ac' K1 K2 ⟨g, F6, r6⟩ wq hASq.st (by have := HC6.out; simp only [List.length_append, List.length_cons]; omega))
                  clear hwq hASq k5 k6 k7 k8 y0' y1' hnq t1 t2
                  clear n0 o0 n1 o1 n2 o2 n3 o3 n4 o4 n5 o5 n6 o6 n7 o7 n8 o8 n9 o9 n10 o10
                  go_wp2_with fail
                  refine HFG.out.mono ?_
                  rintro e w7 ⟨rfl, hS7, hW7, hC7⟩
                  have hW7' : WhAt w7 F6 g r6 := hW7
                  obtain ⟨f7, dA7, tA7, dn7, dc7, tn7, tc7, hg7, hD7, hT7, hf7, hFg7, hFd7, hFt7⟩ := hW7'
                  have hsome : r6.first.isSome = true := HR6.out.fst ⟨(0, r6.fin.toNat), by rw [HDN6.out.2]; simp, rfl⟩
                  obtain ⟨⟨p1, ol1, dl1⟩, hfst⟩ := Option.isSome_iff_exists.1 hsome
                  rw [hfst] at hf7
                  obtain ⟨gf, l1, k1, l2, k2, A1, A2, rfl, hgf, hO1, hO2, hFgf, hFA1, hFA2⟩ := hf7
                  obtain ⟨svc1, id1, wh1, mo1, off1, life1, proto1, src1, dst1⟩ := p1
                  have hgf' : Bk w7 gf 26 #[.int .i64 svc1, .int .i64 id1, .bool wh1, .bool mo1, .int .i64 off1, .int .i64 life1, .int .i64 proto1, .int .u32 src1, .int .u32 dst1, .slice A1 l1 k1, .slice A2 l2 k2] := hgf
                  have m5 : w7.cell? ⟨g, 5, none⟩ = some (.pointer (some ⟨gf, 0, none⟩)) := hg7.cell 5
                  have f0 : w7.cell? ⟨gf, 0, none⟩ = some (.int .i64 svc1) := hgf'.cell 0
                  have f1 : w7.cell? ⟨gf, 1, none⟩ = some (.int .i64 id1) := hgf'.cell 1
                  have f2 : w7.cell? ⟨gf, 2, none⟩ = some (.bool wh1) := hgf'.cell 2
                  have f3 : w7.cell? ⟨gf, 3, none⟩ = some (.bool mo1) := hgf'.cell 3
                  have f4 : w7.cell? ⟨gf, 4, none⟩ = some (.int .i64 off1) := hgf'.cell 4
                  have f5 : w7.cell? ⟨gf, 5, none⟩ = some (.int .i64 life1) := hgf'.cell 5
                  have f6 : w7.cell? ⟨gf, 6, none⟩ = some (.int .i64 proto1) := hgf'.cell 6
                  have f7 : w7.cell? ⟨gf, 7, none⟩ = some (.int .u32 src1) := hgf'.cell 7
                  have f8 : w7.cell? ⟨gf, 8, none⟩ = some (.int .u32 dst1) := hgf'.cell 8
                  have f9 : w7.cell? ⟨gf, 9, none⟩ = some (.slice A1 l1 k1) := hgf'.cell 9
                  have f10 : w7.cell? ⟨gf, 10, none⟩ = some (.slice A2 l2 k2) := hgf'.cell 10
                  have hzk7 := HASq.out.zk.chg hC7 (fun e => by
                    have h1 := HASq.out.gz
                    rcases HASq.out.ft _ (.inl e) with h2 | h2
                    · have := HASq.out.lt _ h2; omega
                    · omega)
                  have HZ7 := Lib.hid hzk7
                  have HS7 := Lib.hid hS7
                  have HC7 := Lib.hid hC7
                  have HG7 := Lib.hid hg7
                  have HD7 := Lib.hid hD7
                  have HO1 := Lib.hid hO1
                  have HFS := Lib.hid hfst
                  clear hzk7 hS7 hC7 hg7 hD7 hT7 hW7 hO1 hO2 hgf hgf' hFg7 hFd7 hFt7 hFgf hFA1 hFA2 hfst hsome HFG HFD HTN HFN HX0 HG6 HD6 HT6 HF6 HAS6
                  go_upto_region 23 with (fail)
                  obtain ⟨gy, hgy⟩ : ∃ gy, w7.heap.size = gy := ⟨_, rfl⟩
                  obtain ⟨W8, hW8⟩ : ∃ W8, w7.alloc (.cells #[.int .i64 svc1, .int .i64 id1, .bool wh1, .bool mo1, .int .i64 off1, .int .i64 life1, .int .i64 proto1, .int .u32 src1, .int .u32 dst1, .slice A1 l1 k1, .slice A2 l2 k2] 26) = W8 := ⟨_, rfl⟩
                  rw [hW8, hgy]
                  have hbyW : Bk W8 gy 26 #[.int .i64 svc1, .int .i64 id1, .bool wh1, .bool mo1, .int .i64 off1, .int .i64 life1, .int .i64 proto1, .int .u32 src1, .int .u32 dst1, .slice A1 l1 k1, .slice A2 l2 k2] := by rw [← hW8, ← hgy]; exact Bk.new w7 _ _
                  have hgW : W8.cell? ⟨g, 7, none⟩ = some (.slice dA7 dn7 dc7) := by rw [← hW8]; exact (HG7.out.alloc _).cell 7
                  have hgW' : W8.drew.cell? ⟨g, 7, none⟩ = some (.slice dA7 dn7 dc7) := hgW
                  have hggy : g ≠ gy := by have := HG7.out.lt; omega
                  have HGGY := Lib.hid hggy
                  have b3 : W8.cell? ⟨gy, 3, none⟩ = some (.bool mo1) := hbyW.cell 3
                  have b4 : W8.cell? ⟨gy, 4, none⟩ = some (.int .i64 off1) := hbyW.cell 4
                  have b10 : W8.cell? ⟨gy, 10, none⟩ = some (.slice A2 l2 k2) := hbyW.cell 10
                  have d3 : W8.frozen? ⟨gy, 3, none⟩ = false := hbyW.frozen 3
                  have d4 : W8.frozen? ⟨gy, 4, none⟩ = false := hbyW.frozen 4
                  have d10 : W8.frozen? ⟨gy, 10, none⟩ = false := hbyW.frozen 10
                  have e3 : W8.drew.cell? ⟨gy, 3, none⟩ = some (.bool mo1) := b3
                  have e4 : W8.drew.cell? ⟨gy, 4, none⟩ = some (.int .i64 off1) := b4
                  have e10 : W8.drew.cell? ⟨gy, 10, none⟩ = some (.slice A2 l2 k2) := b10
                  have i3 : W8.drew.frozen? ⟨gy, 3, none⟩ = false := d3
                  have i4 : W8.drew.frozen? ⟨gy, 4, none⟩ = false := d4
                  have i10 : W8.drew.frozen? ⟨gy, 10, none⟩ = false := d10
                  have HBYW := Lib.hid hbyW
                  have HW8 := Lib.hid hW8
                  have HGY := Lib.hid hgy
                  clear hbyW hW8 hgy m5 f0 f1 f2 f3 f4 f5 f6 f7 f8 f9 f10
                  go_cut [] (fun wx => Bk wx gy 26 #[.int .i64 svc1, .int .i64 id1, .bool wh1, .bool false, .int .i64 0, .int .i64 life1, .int .i64 proto1, .int .u32 src1, .int .u32 dst1, .slice A1 l1 k1, .slice dA7 dn7 dc7] ∧ Chg (fun x => x = gy) W8 wx)
                  case first =>
                    go_region
                    go_wp2_with fail
                    go_meet
                    exact ⟨((HBYW.out.set 3 (.bool false)).set 4 (.int .i64 0)).set 10 (.slice dA7 dn7 dc7), ((((Chg.refl (fun x => x = gy) W8).setCell (p := ⟨gy, 3, none⟩) (.inl rfl) _).setCell (p := ⟨gy, 4, none⟩) (.inl rfl) _).setCell (p := ⟨gy, 10, none⟩) (.inl rfl) _).drewN 1⟩
                  case rest =>
                    obtain ⟨hb9, hC9⟩ := hcut
                    have hC79 : Chg (fun x => x = gy) w7 wc := by
                      have h1 : Chg (fun x => x = gy) w7 W8 := by rw [← HW8.out]; exact (Chg.refl _ _).alloc _
                      exact h1.trans hC9 (fun x hx => .inl hx)
                    have hgy := HGY.out
                    have hO19 : OB 5 wc 0 A1 l1 k1 ol1 := Ow.chg HO1.out hC79 (fun b hb e => by have := (Ow.lt HO1.out b hb).2; omega)
                    have hD9 : OB 5 wc 0 dA7 dn7 dc7 r6.D := Ow.chg HD7.out hC79 (fun b hb e => by have := (Ow.lt HD7.out b hb).2; omega)
                    have HOW := Lib.hid (own_any ⟨svc1, id1, wh1, false, 0, life1, proto1, src1, dst1⟩ A1 dA7 l1 k1 dn7 dc7 wc.heap.size ol1 r6.D (OB.length HO1.out) (by have h1 := (HR6.out.fok _ _ _ HFS.out).2.2.1; have h2 := OB.length HO1.out; omega) (OB.length HD7.out) (by have h1 := HR6.out.len; have h2 := OB.length HD7.out; omega) wc (OB.rb hO19) (OB.rb hD9) (Nat.le_refl _))
                    unfold pkC at HOW
                    simp only at HOW
                    have hzl := HASq.out.zk.lt
                    have hz7 := HC7.out.size
                    have hz9 : Bk wc (gx + 1) 26 zC := HZ7.out.chg hC79 (by omega)
                    have HZ9 := Lib.hid hz9
                    have HC79 := Lib.hid hC79
                    have y0 : wc.cell? ⟨gy, 0, none⟩ = some (.int .i64 svc1) := hb9.cell 0
                    have y1 : wc.cell? ⟨gy, 1, none⟩ = some (.int .i64 id1) := hb9.cell 1
                    have y2 : wc.cell? ⟨gy, 2, none⟩ = some (.bool wh1) := hb9.cell 2
                    have y3 : wc.cell? ⟨gy, 3, none⟩ = some (.bool false) := hb9.cell 3
                    have y4 : wc.cell? ⟨gy, 4, none⟩ = some (.int .i64 0) := hb9.cell 4
                    have y5 : wc.cell? ⟨gy, 5, none⟩ = some (.int .i64 life1) := hb9.cell 5
                    have y6 : wc.cell? ⟨gy, 6, none⟩ = some (.int .i64 proto1) := hb9.cell 6
                    have y7 : wc.cell? ⟨gy, 7, none⟩ = some (.int .u32 src1) := hb9.cell 7
                    have y8 : wc.cell? ⟨gy, 8, none⟩ = some (.int .u32 dst1) := hb9.cell 8
                    have y9 : wc.cell? ⟨gy, 9, none⟩ = some (.slice A1 l1 k1) := hb9.cell 9
                    have y10 : wc.cell? ⟨gy, 10, none⟩ = some (.slice dA7 dn7 dc7) := hb9.cell 10
                    clear hb9 hC9 hO19 hD9 hz9 hC79
                    go_wp2_with fail
                    refine HOW.out.mono ?_
                    rintro e w10 ⟨B1, c3, B2, c4, rfl, hO10, hB10⟩
                    have hzk10 := HZ9.out.below hB10 HZ9.out.lt
                    unfold zC at hzk10
                    have n0 : w10.cell? ⟨gx + 1, 0, none⟩ = some (.int .i64 0) := hzk10.cell 0
                    have n1 : w10.cell? ⟨gx + 1, 1, none⟩ = some (.int .i64 0) := hzk10.cell 1
                    have n2 : w10.cell? ⟨gx + 1, 2, none⟩ = some (.bool false) := hzk10.cell 2
                    have n3 : w10.cell? ⟨gx + 1, 3, none⟩ = some (.bool false) := hzk10.cell 3
                    have n4 : w10.cell? ⟨gx + 1, 4, none⟩ = some (.int .i64 0) := hzk10.cell 4
                    have n5 : w10.cell? ⟨gx + 1, 5, none⟩ = some (.int .i64 0) := hzk10.cell 5
                    have n6 : w10.cell? ⟨gx + 1, 6, none⟩ = some (.int .i64 0) := hzk10.cell 6
                    have n7 : w10.cell? ⟨gx + 1, 7, none⟩ = some (.int .u32 0) := hzk10.cell 7
                    have n8 : w10.cell? ⟨gx + 1, 8, none⟩ = some (.int .u32 0) := hzk10.cell 8
                    have n9 : w10.cell? ⟨gx + 1, 9, none⟩ = some (.slice none 0 0) := hzk10.cell 9
                    have n10 : w10.cell? ⟨gx + 1, 10, none⟩ = some (.slice none 0 0) := hzk10.cell 10
                    have o0 : w10.frozen? ⟨gx + 1, 0, none⟩ = false := hzk10.frozen 0
                    have o1 : w10.frozen? ⟨gx + 1, 1, none⟩ = false := hzk10.frozen 1
                    have o2 : w10.frozen? ⟨gx + 1, 2, none⟩ = false := hzk10.frozen 2
                    have o3 : w10.frozen? ⟨gx + 1, 3, none⟩ = false := hzk10.frozen 3
                    have o4 : w10.frozen? ⟨gx + 1, 4, none⟩ = false := hzk10.frozen 4
                    have o5 : w10.frozen? ⟨gx + 1, 5, none⟩ = false := hzk10.frozen 5
                    have o6 : w10.frozen? ⟨gx + 1, 6, none⟩ = false := hzk10.frozen 6
                    have o7 : w10.frozen? ⟨gx + 1, 7, none⟩ = false := hzk10.frozen 7
                    have o8 : w10.frozen? ⟨gx + 1, 8, none⟩ = false := hzk10.frozen 8
                    have o9 : w10.frozen? ⟨gx + 1, 9, none⟩ = false := hzk10.frozen 9
                    have o10 : w10.frozen? ⟨gx + 1, 10, none⟩ = false := hzk10.frozen 10
                    have HO10 := Lib.hid hO10
                    have HB10 := Lib.hid hB10
                    have HZ10 := Lib.hid hzk10
                    clear hzk10 hO10 hB10 y0 y1 y2 y3 y4 y5 y6 y7 y8 y9 y10
                    go_wp2
                    have zz0 : Bk _ (gx + 1) 26 #[.int .i64 svc1, .int .i64 0, .bool false, .bool false, .int .i64 0, .int .i64 0, .int .i64 0, .int .u32 0, .int .u32 0, .slice none 0 0, .slice none 0 0] := HZ10.out.set 0 (.int .i64 svc1)
                    have zz1 : Bk _ (gx + 1) 26 #[.int .i64 svc1, .int .i64 id1, .bool false, .bool false, .int .i64 0, .int .i64 0, .int .i64 0, .int .u32 0, .int .u32 0, .slice none 0 0, .slice none 0 0] := zz0.set 1 (.int .i64 id1)
                    have zz2 : Bk _ (gx + 1) 26 #[.int .i64 svc1, .int .i64 id1, .bool wh1, .bool false, .int .i64 0, .int .i64 0, .int .i64 0, .int .u32 0, .int .u32 0, .slice none 0 0, .slice none 0 0] := zz1.set 2 (.bool wh1)
                    have zz3 : Bk _ (gx + 1) 26 #[.int .i64 svc1, .int .i64 id1, .bool wh1, .bool false, .int .i64 0, .int .i64 0, .int .i64 0, .int .u32 0, .int .u32 0, .slice none 0 0, .slice none 0 0] := zz2.set 3 (.bool false)
                    have zz4 : Bk _ (gx + 1) 26 #[.int .i64 svc1, .int .i64 id1, .bool wh1, .bool false, .int .i64 0, .int .i64 0, .int .i64 0, .int .u32 0, .int .u32 0, .slice none 0 0, .slice none 0 0] := zz3.set 4 (.int .i64 0)
                    have zz5 : Bk _ (gx + 1) 26 #[.int .i64 svc1, .int .i64 id1, .bool wh1, .bool false, .int .i64 0, .int .i64 life1, .int .i64 0, .int .u32 0, .int .u32 0, .slice none 0 0, .slice none 0 0] := zz4.set 5 (.int .i64 life1)
                    have zz6 : Bk _ (gx + 1) 26 #[.int .i64 svc1, .int .i64 id1, .bool wh1, .bool false, .int .i64 0, .int .i64 life1, .int .i64 proto1, .int .u32 0, .int .u32 0, .slice none 0 0, .slice none 0 0] := zz5.set 6 (.int .i64 proto1)
                    have zz7 : Bk _ (gx + 1) 26 #[.int .i64 svc1, .int .i64 id1, .bool wh1, .bool false, .int .i64 0, .int .i64 life1, .int .i64 proto1, .int .u32 src1, .int .u32 0, .slice none 0 0, .slice none 0 0] := zz6.set 7 (.int .u32 src1)
                    have zz8 : Bk _ (gx + 1) 26 #[.int .i64 svc1, .int .i64 id1, .bool wh1, .bool false, .int .i64 0, .int .i64 life1, .int .i64 proto1, .int .u32 src1, .int .u32 dst1, .slice none 0 0, .slice none 0 0] := zz7.set 8 (.int .u32 dst1)
                    have zz9 : Bk _ (gx + 1) 26 #[.int .i64 svc1, .int .i64 id1, .bool wh1, .bool false, .int .i64 0, .int .i64 life1, .int .i64 proto1, .int .u32 src1, .int .u32 dst1, .slice B1 l1 c3, .slice none 0 0] := zz8.set 9 (.slice B1 l1 c3)
                    have zz10 : Bk _ (gx + 1) 26 #[.int .i64 svc1, .int .i64 id1, .bool wh1, .bool false, .int .i64 0, .int .i64 life1, .int .i64 proto1, .int .u32 src1, .int .u32 dst1, .slice B1 l1 c3, .slice B2 dn7 c4] := zz9.set 10 (.slice B2 dn7 c4)
                    refine bodyPost_ret (results_c2 rfl _ _ (gx + 1) _ _ _ _ rfl zz10 Try.underlying26 rfl (by kernel_rfl)) rfl ?_
                    obtain ⟨wf, hwf⟩ : ∃ wf, (((((((((((w10.setCell ⟨gx + 1, 0, none⟩ (.int .i64 svc1)).setCell ⟨gx + 1, 1, none⟩ (.int .i64 id1)).setCell ⟨gx + 1, 2, none⟩ (.bool wh1)).setCell ⟨gx + 1, 3, none⟩ (.bool false)).setCell ⟨gx + 1, 4, none⟩ (.int .i64 0)).setCell ⟨gx + 1, 5, none⟩ (.int .i64 life1)).setCell ⟨gx + 1, 6, none⟩ (.int .i64 proto1)).setCell ⟨gx + 1, 7, none⟩ (.int .u32 src1)).setCell ⟨gx + 1, 8, none⟩ (.int .u32 dst1)).setCell ⟨gx + 1, 9, none⟩ (.slice B1 l1 c3)).setCell ⟨gx + 1, 10, none⟩ (.slice B2 dn7 c4)) = wf := ⟨_, rfl⟩
                    have hCf : Chg (fun x => x = gx + 1) w10 wf := by
                      rw [← hwf]
                      exact ((((((((((((Chg.refl (fun x => x = gx + 1) w10).setCell (p := ⟨gx + 1, 0, none⟩) (.inl rfl) _).setCell (p := ⟨gx + 1, 1, none⟩) (.inl rfl) _).setCell (p := ⟨gx + 1, 2, none⟩) (.inl rfl) _).setCell (p := ⟨gx + 1, 3, none⟩) (.inl rfl) _).setCell (p := ⟨gx + 1, 4, none⟩) (.inl rfl) _).setCell (p := ⟨gx + 1, 5, none⟩) (.inl rfl) _).setCell (p := ⟨gx + 1, 6, none⟩) (.inl rfl) _).setCell (p := ⟨gx + 1, 7, none⟩) (.inl rfl) _).setCell (p := ⟨gx + 1, 8, none⟩) (.inl rfl) _).setCell (p := ⟨gx + 1, 9, none⟩) (.inl rfl) _).setCell (p := ⟨gx + 1, 10, none⟩) (.inl rfl) _)
                    rw [hwf]
                    clear hwf zz0 zz1 zz2 zz3 zz4 zz5 zz6 zz7 zz8 zz9 zz10
                    have ho : outP r6 = ((⟨svc1, id1, wh1, false, 0, life1, proto1, src1, dst1⟩ : PkV), ol1, r6.D) := by unfold outP; rw [HFS.out]
                    have hz9s := HC79.out.size
                    have hO2 : OwnAt wf wc.heap.size B1 l1 c3 ol1 B2 dn7 c4 r6.D := ⟨Ow.chg HO10.out.1 hCf (fun b hb e => by have := (Ow.lt HO10.out.1 b hb).1; omega), Ow.chg HO10.out.2.1 hCf (fun b hb e => by have := (Ow.lt HO10.out.2.1 b hb).1; omega), HO10.out.2.2⟩
                    have hCt : Chg (fun x => w7.heap.size ≤ x ∨ x = gx + 1) w7 wf := ((HC79.out.mono (fun x _ hx => .inl (by omega))).trans (Chg.of_below (F := fun _ => False) HB10.out) (fun _ e => e.elim)).trans hCf (fun x hx => .inl (.inr hx))
                    have hfin := HASq.out.done (R := RR) (B1 := B1) (B2 := B2) (n1 := l1) (c1 := c3) (n2 := dn7) (c2 := c4) (base := wc.heap.size) HS7.out HC7.out hCt (by rw [ho]; exact hO2) hz9s (HED.out HDN6.out)
                    rw [ho] at hfin
                    exact hfin
                · have hnq : ∀ W : World, (binOp .neq 89 (.agg #[.int .i64 x1, .int .i64 x2]) (.agg #[.int .i64 0, .int .i64 fn])).run Try.prog W = .ok (.bool true) W := fun W => by
                    rw [neq_span]; congr 2; exact decide_eq_true (fun h => q3 ⟨by omega, h.2⟩)
                  have HND : Hid (¬ doneR r6) := Lib.hid (fun h => by
                    have h1 := h.2; rw [HX0.out, HFN.out] at h1
                    injection h1 with h1; injection h1 with h1 h2
                    exact q3 ⟨h1, by omega⟩)
                  clear q q3
                  go_wp2
                  go_quiet (fail)
                  go_wp2
                  have zz0 := (HAS6.out.zk.drewN nq).set 0 (.int .i64 0)
                  have zz1 := zz0.set 1 (.int .i64 0)
                  have zz2 := zz1.set 2 (.bool false)
                  have zz3 := zz2.set 3 (.bool false)
                  have zz4 := zz3.set 4 (.int .i64 0)
                  have zz5 := zz4.set 5 (.int .i64 0)
                  have zz6 := zz5.set 6 (.int .i64 0)
                  have zz7 := zz6.set 7 (.int .u32 0)
                  have zz8 := zz7.set 8 (.int .u32 0)
                  have zz9 := zz8.set 9 (.slice none 0 0)
                  have zz10 := zz9.set 10 (.slice none 0 0)
                  refine bodyPost_ret (results_c2 rfl _ _ (gx + 1) _ _ _ _ rfl zz10 Try.underlying26 rfl (by kernel_rfl)) rfl ?_
                  obtain ⟨wf, hwf⟩ : ∃ wf, ((((((((((((w6.drewN nq).setCell ⟨gx + 1, 0, none⟩ (.int .i64 0)).setCell ⟨gx + 1, 1, none⟩ (.int .i64 0)).setCell ⟨gx + 1, 2, none⟩ (.bool false)).setCell ⟨gx + 1, 3, none⟩ (.bool false)).setCell ⟨gx + 1, 4, none⟩ (.int .i64 0)).setCell ⟨gx + 1, 5, none⟩ (.int .i64 0)).setCell ⟨gx + 1, 6, none⟩ (.int .i64 0)).setCell ⟨gx + 1, 7, none⟩ (.int .u32 0)).setCell ⟨gx + 1, 8, none⟩ (.int .u32 0)).setCell ⟨gx + 1, 9, none⟩ (.slice none 0 0)).setCell ⟨gx + 1, 10, none⟩ (.slice none 0 0)) = wf := ⟨_, rfl⟩
                  have hCf : Chg (fun x => x = gx + 1) w6 wf := by
                    rw [← hwf]
                    exact (((((((((((((Chg.refl (fun x => x = gx + 1) w6).drewN nq).setCell (p := ⟨gx + 1, 0, none⟩) (.inl rfl) _).setCell (p := ⟨gx + 1, 1, none⟩) (.inl rfl) _).setCell (p := ⟨gx + 1, 2, none⟩) (.inl rfl) _).setCell (p := ⟨gx + 1, 3, none⟩) (.inl rfl) _).setCell (p := ⟨gx + 1, 4, none⟩) (.inl rfl) _).setCell (p := ⟨gx + 1, 5, none⟩) (.inl rfl) _).setCell (p := ⟨gx + 1, 6, none⟩) (.inl rfl) _).setCell (p := ⟨gx + 1, 7, none⟩) (.inl rfl) _).setCell (p := ⟨gx + 1, 8, none⟩) (.inl rfl) _).setCell (p := ⟨gx + 1, 9, none⟩) (.inl rfl) _).setCell (p := ⟨gx + 1, 10, none⟩) (.inl rfl) _)
                  rw [hwf]
                  exact HAS6.out.zend hCf (HEN.out HND.out)
end Go.Proofs.Ytcjkhonapafndaa
