/- Proved: a step of the law's script, in both wheels. Conditions: both lie in memory, apart, and hold the same timers. -/
import Derived.Test.YtnnblakjaiccfaaPlJ
import Derived.Deep.RegionHeld3
set_option linter.unusedVariables false
set_option linter.unusedSimpArgs false
namespace Go.Proofs.Ytnnblakjaiccfaa
open Go.RowKit
theorem Same.keys {w : World} {B N p q : Nat} {M S : Mt} (h : Jp w B N p q M S) (hs : Same M S) : (S.map (·.1)).Nodup ∧ S.length ≤ 256 ∧ M.length = S.length := by
  have h1 := h.keys
  have h2 := h.room
  have h3 := hs.1.length_eq
  exact ⟨((hs.1.map (·.1)).nodup_iff).1 h1, by omega, h3⟩
def DoesPost (B p q : Nat) (w : World) (e : Ending) (w' : World) : Prop := e = .returned (.bool true) ∧ ∃ M' S', Jp w' B w'.heap.size p q M' S' ∧ Same M' S' ∧ Below B w w'
theorem does_fin {w W w3 w4 : World} {B p q gx : Nat} {M' S' : Mt} (hB : B ≤ w.heap.size) (hq : B ≤ q) {cs : Array Value} (hgx : w.heap.size = gx) (hW : w.alloc (.cells cs 46) = W) (h1 : Chg (fun b => B ≤ b ∧ b < gx) W w3) (h2 : Chg (fun b => b = q) w3 w4) (hJ : Jp w4 B w4.heap.size p q M' S') (hp : M'.Perm S') (hs : Srd S') : DoesPost B p q w (.returned (.bool true)) w4 := by
  refine ⟨rfl, M', S', hJ, ⟨hp, hs⟩, ?_⟩
  have ha : Below B w W := by rw [← hW]; exact (Below.refl _ _).alloc hB _
  have hs1 := ha.size
  exact ha.trans ((h1.below (fun b hb => hb.1) (by omega)).trans (h2.below (fun b hb => by omega) (by have := h1.size; omega)))
set_option maxHeartbeats 4000000 in
set_option maxRecDepth 100000 in
theorem does_set (p q B : Nat) (M S : Mt) (k a : Int) (hk : okI k) (ha : okI a) (w : World) (h : Jp w B w.heap.size p q M S) (hsm : Same M S) :
    Calls Try.prog 15 #[.pointer (some ⟨p, 0, none⟩), .pointer (some ⟨q, 0, none⟩), .agg #[.int .i64 1, .int .i64 k, .int .i64 a]] w (DoesPost B p q w) := by
  obtain ⟨gx, hgx⟩ : ∃ gx, w.heap.size = gx := ⟨_, rfl⟩
  obtain ⟨W, hW⟩ : ∃ W, w.alloc (.cells #[.int .i64 1, .int .i64 k, .int .i64 a] 46) = W := ⟨_, rfl⟩
  have hx : Bk W gx 46 #[.int .i64 1, .int .i64 k, .int .i64 a] := by rw [← hW, ← hgx]; exact Bk.new w _ _
  have hJ : Jp W B gx p q M S := by rw [← hgx, ← hW]; exact h.below ((Below.refl _ _).alloc (Nat.le_refl _) _)
  have HQ := Lib.hid h.q_
  have HSZ := Lib.hid h.size
  have HSM := Lib.hid hsm
  have HK := Lib.hid hk
  have HA := Lib.hid ha
  have HKS := Lib.hid (hsm.keys h)
  have x0 : W.cell? ⟨gx, 0, none⟩ = some (.int .i64 1) := hx.cell 0
  have x1 : W.cell? ⟨gx, 1, none⟩ = some (.int .i64 k) := hx.cell 1
  have x2 : W.cell? ⟨gx, 2, none⟩ = some (.int .i64 a) := hx.cell 2
  have hgl := hx.lt
  have hqx : gx ≠ q := by have := HQ.out; omega
  have HKP : Hid (M.map (·.1)).Nodup := Lib.hid h.keys
  have HJ := Lib.hid hJ
  have HW := Lib.hid hW
  have HGX := Lib.hid hgx
  clear hx h hsm hk ha hJ hW hgx
  go_enter Try.func15, Try.ntmps15
  go_wp2
  rw [HW.out, HGX.out]
  have hJd : Jp W.drew B gx p q M S := HJ.out.drew
  have hxl : gx < W.drew.heap.size := hgl
  go_region_held3 (fun w' => w'.cell? ⟨gx, 1, none⟩ = some (.int .i64 k) ∧ w'.cell? ⟨gx, 2, none⟩ = some (.int .i64 a))
    (first | (exact ⟨by with_reducible assumption, by with_reducible assumption⟩) | go_keep)
    (first
      | (go_at_call 9; ((with_reducible refine (set_jp p q B gx M S _ k a HK.out HA.out hJd).mono ?_); rintro e w3 ⟨rfl, hJ3, hC3⟩; have x13 := (hC3.cell (p := ⟨gx, 1, none⟩) hxl (fun e => absurd e.2 (Nat.lt_irrefl _))).trans (show W.drew.cell? _ = _ from x1); have x23 := (hC3.cell (p := ⟨gx, 2, none⟩) hxl (fun e => absurd e.2 (Nat.lt_irrefl _))).trans (show W.drew.cell? _ = _ from x2); have hxl3 := Nat.lt_of_lt_of_le hxl hC3.size))
      | (go_at_call 23; ((with_reducible refine (rset_jp p q B w3.heap.size _ S w3 k a HKS.out.2.1 HKS.out.1 hJ3).mono ?_); rintro e w4 ⟨r, S', rfl, hR, hJ4, hC4⟩; obtain ⟨e1, hP4, hS4⟩ := setR_law HSM.out.1 HKP.out HSM.out.2 hR; subst e1; have x14 := (hC4.cell (p := ⟨gx, 1, none⟩) hxl3 hqx).trans x13; have x24 := (hC4.cell (p := ⟨gx, 2, none⟩) hxl3 hqx).trans x23)))
  go_wp2
  go_ret
  exact does_fin (by have := HSZ.out; have := HGX.out; omega) HQ.out.1 HGX.out HW.out (show Chg _ W w3 from ⟨hC3.os, hC3.tape, hC3.output, hC3.size, hC3.block⟩) hC4 hJ4 hP4 hS4
/-- rest -/
theorem cancel_jpo {o : Option Int} (p q B N : Nat) (M S : Mt) (w : World) (k : Int) (hk : okI k) (h : Jp w B N p q M S) (ho : getM M k = o) :
    Calls Try.prog 17 #[.pointer (some ⟨p, 0, none⟩), .int .i64 k] w fun e w' => e = .returned (.bool o.isSome) ∧ Jp w' B N p q (delM M k) S ∧ Chg (fun b => B ≤ b ∧ b < N) w w' := by
  subst ho; exact cancel_jp p q B N M S w k hk h
theorem rcan_jpo {o : Option Int} (p q B N : Nat) (M S : Mt) (w : World) (k : Int) (hl : S.length ≤ 256) (hn : (S.map (·.1)).Nodup) (h : Jp w B N p q M S) (ho : getM S k = o) :
    Calls Try.prog 24 #[.pointer (some ⟨q, 0, none⟩), .int .i64 k] w fun e w' => e = .returned (.bool o.isSome) ∧ Jp w' B w'.heap.size p q M (delM S k) ∧ Chg (fun b => b = q) w w' := by
  subst ho; exact rcan_jp p q B N M S w k hl hn h
theorem at_jpo {o : Option Int} (p q B N : Nat) (M S : Mt) (w : World) (k : Int) (hk : okI k) (h : Jp w B N p q M S) (ho : getM M k = o) :
    Calls Try.prog 12 #[.pointer (some ⟨p, 0, none⟩), .int .i64 k] w fun e w' => e = .returned (.tuple #[.int .i64 (o.getD 0), .bool o.isSome]) ∧ w = w' := by
  subst ho; exact at_jp p q B N M S w k hk h
theorem rat_jpo {o : Option Int} (p q B N : Nat) (M S : Mt) (w : World) (k : Int) (hl : S.length ≤ 256) (hn : (S.map (·.1)).Nodup) (h : Jp w B N p q M S) (ho : getM S k = o) :
    Calls Try.prog 25 #[.pointer (some ⟨q, 0, none⟩), .int .i64 k] w fun e w' => e = .returned (.tuple #[.int .i64 (o.getD 0), .bool o.isSome]) ∧ ∃ j, w' = w.drewN j := by
  subst ho; exact rat_jp p q B N M S w k hl hn h
set_option maxHeartbeats 4000000 in
set_option maxRecDepth 100000 in
theorem does_cancel (p q B : Nat) (M S : Mt) (k a : Int) (hk : okI k) (ha : okI a) (w : World) (h : Jp w B w.heap.size p q M S) (hsm : Same M S) :
    Calls Try.prog 15 #[.pointer (some ⟨p, 0, none⟩), .pointer (some ⟨q, 0, none⟩), .agg #[.int .i64 2, .int .i64 k, .int .i64 a]] w (DoesPost B p q w) := by
  obtain ⟨gx, hgx⟩ : ∃ gx, w.heap.size = gx := ⟨_, rfl⟩
  obtain ⟨W, hW⟩ : ∃ W, w.alloc (.cells #[.int .i64 2, .int .i64 k, .int .i64 a] 46) = W := ⟨_, rfl⟩
  have hx : Bk W gx 46 #[.int .i64 2, .int .i64 k, .int .i64 a] := by rw [← hW, ← hgx]; exact Bk.new w _ _
  have hJ : Jp W B gx p q M S := by rw [← hgx, ← hW]; exact h.below ((Below.refl _ _).alloc (Nat.le_refl _) _)
  have HBW : Hid (Below B w W) := Lib.hid (by rw [← hW]; exact (Below.refl _ _).alloc h.size.1 _)
  have HQ := Lib.hid h.q_
  have HSZ := Lib.hid h.size
  have HSM := Lib.hid hsm
  have HK := Lib.hid hk
  have HA := Lib.hid ha
  have HKS := Lib.hid (hsm.keys h)
  have x0 : W.cell? ⟨gx, 0, none⟩ = some (.int .i64 2) := hx.cell 0
  have x1 : W.cell? ⟨gx, 1, none⟩ = some (.int .i64 k) := hx.cell 1
  have x2 : W.cell? ⟨gx, 2, none⟩ = some (.int .i64 a) := hx.cell 2
  have hgl := hx.lt
  have hqx : gx ≠ q := by have := HQ.out; omega
  have HKP : Hid (M.map (·.1)).Nodup := Lib.hid h.keys
  have HG : Hid (getM S k = getM M k) := Lib.hid (getM_perm hsm.1 h.keys k).symm
  have HJ := Lib.hid hJ
  have HW := Lib.hid hW
  have HGX := Lib.hid hgx
  clear hx h hsm hk ha hJ hW hgx
  have HDP := Lib.hid (delM_perm HSM.out.1 k)
  have HDS := Lib.hid (HSM.out.2.del k)
  obtain ⟨o, ho⟩ : ∃ o, getM M k = o := ⟨_, rfl⟩
  have HO := Lib.hid ho
  have HO2 : Hid (getM S k = o) := Lib.hid (HG.out.trans ho)
  clear ho
  go_enter Try.func15, Try.ntmps15
  go_wp2
  rw [HW.out, HGX.out]
  go_wp2
  have hJd : Jp W.drew B gx p q M S := HJ.out.drew
  have hxl : gx < W.drew.heap.size := hgl
  go_region_held3 (fun w' => w'.cell? ⟨gx, 1, none⟩ = some (.int .i64 k))
    (first | with_reducible assumption | go_keep)
    (first
      | (go_at_call 17; ((with_reducible refine (cancel_jpo p q B gx M S _ k HK.out hJd HO.out).mono ?_); rintro e w3 ⟨rfl, hJ3, hC3⟩; have x13 := (hC3.cell (p := ⟨gx, 1, none⟩) hxl (fun e => absurd e.2 (Nat.lt_irrefl _))).trans (show W.drew.cell? _ = _ from x1); have hxl3 := Nat.lt_of_lt_of_le hxl hC3.size))
      | (go_at_call 24; ((with_reducible refine (rcan_jpo p q B gx _ S w3 k HKS.out.2.1 HKS.out.1 hJ3 HO2.out).mono ?_); rintro e w4 ⟨rfl, hJ4, hC4⟩; have x14 := (hC4.cell (p := ⟨gx, 1, none⟩) hxl3 hqx).trans x13)))
  go_wp2
  go_ret
  exact does_fin (by have := HSZ.out; have := HGX.out; omega) HQ.out.1 HGX.out HW.out (show Chg _ W w3 from ⟨hC3.os, hC3.tape, hC3.output, hC3.size, hC3.block⟩) hC4 hJ4 HDP.out HDS.out
set_option maxHeartbeats 4000000 in
set_option maxRecDepth 100000 in
theorem does_at (p q B : Nat) (M S : Mt) (k a : Int) (hk : okI k) (ha : okI a) (w : World) (h : Jp w B w.heap.size p q M S) (hsm : Same M S) :
    Calls Try.prog 15 #[.pointer (some ⟨p, 0, none⟩), .pointer (some ⟨q, 0, none⟩), .agg #[.int .i64 3, .int .i64 k, .int .i64 a]] w (DoesPost B p q w) := by
  obtain ⟨gx, hgx⟩ : ∃ gx, w.heap.size = gx := ⟨_, rfl⟩
  obtain ⟨W, hW⟩ : ∃ W, w.alloc (.cells #[.int .i64 3, .int .i64 k, .int .i64 a] 46) = W := ⟨_, rfl⟩
  have hx : Bk W gx 46 #[.int .i64 3, .int .i64 k, .int .i64 a] := by rw [← hW, ← hgx]; exact Bk.new w _ _
  have hJ : Jp W B gx p q M S := by rw [← hgx, ← hW]; exact h.below ((Below.refl _ _).alloc (Nat.le_refl _) _)
  have HBW : Hid (Below B w W) := Lib.hid (by rw [← hW]; exact (Below.refl _ _).alloc h.size.1 _)
  have HQ := Lib.hid h.q_
  have HSZ := Lib.hid h.size
  have HSM := Lib.hid hsm
  have HK := Lib.hid hk
  have HA := Lib.hid ha
  have HKS := Lib.hid (hsm.keys h)
  have x0 : W.cell? ⟨gx, 0, none⟩ = some (.int .i64 3) := hx.cell 0
  have x1 : W.cell? ⟨gx, 1, none⟩ = some (.int .i64 k) := hx.cell 1
  have x2 : W.cell? ⟨gx, 2, none⟩ = some (.int .i64 a) := hx.cell 2
  have hgl := hx.lt
  have hqx : gx ≠ q := by have := HQ.out; omega
  have HKP : Hid (M.map (·.1)).Nodup := Lib.hid h.keys
  have HG : Hid (getM S k = getM M k) := Lib.hid (getM_perm hsm.1 h.keys k).symm
  have HJ := Lib.hid hJ
  have HW := Lib.hid hW
  have HGX := Lib.hid hgx
  clear hx h hsm hk ha hJ hW hgx
  obtain ⟨o, ho⟩ : ∃ o, getM M k = o := ⟨_, rfl⟩
  have HO := Lib.hid ho
  have HO2 : Hid (getM S k = o) := Lib.hid (HG.out.trans ho)
  clear ho
  go_enter Try.func15, Try.ntmps15
  go_wp2_with fail
  rw [HW.out, HGX.out]
  refine (at_jpo p q B gx M S W k HK.out HJ.out HO.out).mono ?_
  rintro e w3 ⟨rfl, rfl⟩
  go_wp2_with fail
  refine (rat_jpo p q B gx M S W k HKS.out.2.1 HKS.out.1 HJ.out HO2.out).mono ?_
  rintro e w4 ⟨rfl, j, rfl⟩
  go_wp2
  go_ret
  exact ⟨rfl, M, S, (HJ.out.drewN j).top, HSM.out, bel_drewN HBW.out j⟩
set_option maxHeartbeats 4000000 in
set_option maxRecDepth 100000 in
theorem does_due (p q B : Nat) (M S : Mt) (k a : Int) (hk : okI k) (ha : okI a) (w : World) (h : Jp w B w.heap.size p q M S) (hsm : Same M S) :
    Calls Try.prog 15 #[.pointer (some ⟨p, 0, none⟩), .pointer (some ⟨q, 0, none⟩), .agg #[.int .i64 4, .int .i64 k, .int .i64 a]] w (DoesPost B p q w) := by
  obtain ⟨gx, hgx⟩ : ∃ gx, w.heap.size = gx := ⟨_, rfl⟩
  obtain ⟨W, hW⟩ : ∃ W, w.alloc (.cells #[.int .i64 4, .int .i64 k, .int .i64 a] 46) = W := ⟨_, rfl⟩
  have hx : Bk W gx 46 #[.int .i64 4, .int .i64 k, .int .i64 a] := by rw [← hW, ← hgx]; exact Bk.new w _ _
  have hJ : Jp W B gx p q M S := by rw [← hgx, ← hW]; exact h.below ((Below.refl _ _).alloc (Nat.le_refl _) _)
  have HBW : Hid (Below B w W) := Lib.hid (by rw [← hW]; exact (Below.refl _ _).alloc h.size.1 _)
  have HQ := Lib.hid h.q_
  have HSZ := Lib.hid h.size
  have HSM := Lib.hid hsm
  have HK := Lib.hid hk
  have HA := Lib.hid ha
  have HKS := Lib.hid (hsm.keys h)
  have x0 : W.cell? ⟨gx, 0, none⟩ = some (.int .i64 4) := hx.cell 0
  have x1 : W.cell? ⟨gx, 1, none⟩ = some (.int .i64 k) := hx.cell 1
  have x2 : W.cell? ⟨gx, 2, none⟩ = some (.int .i64 a) := hx.cell 2
  have hgl := hx.lt
  have hqx : gx ≠ q := by have := HQ.out; omega
  have HKP : Hid (M.map (·.1)).Nodup := Lib.hid h.keys
  have HG : Hid (getM S k = getM M k) := Lib.hid (getM_perm hsm.1 h.keys k).symm
  have HJ := Lib.hid hJ
  have HW := Lib.hid hW
  have HGX := Lib.hid hgx
  clear hx h hsm hk ha hJ hW hgx
  go_enter Try.func15, Try.ntmps15
  go_wp2_with fail
  rw [HW.out, HGX.out]
  refine (due_jp p q B gx M S W a HJ.out).mono ?_
  rintro e w3 ⟨D, A, n, c, rfl, hDp, hDs, hO3, hJ3, hC3⟩
  have x23 := (hC3.cell (p := ⟨gx, 2, none⟩) hgl (fun e => absurd e.2 (Nat.lt_irrefl _))).trans x2
  have HDP := Lib.hid hDp
  have HDS := Lib.hid hDs
  clear hDp hDs
  go_wp2_with fail
  refine (rdue_jp p q B gx _ S w3 a HKS.out.2.1 hJ3).mono ?_
  rintro e w4 ⟨i, AO, cO, rfl, hi, g1, g2, hO4, hJ4, hC4⟩
  obtain ⟨e1, hP4, hS4⟩ := due_law HSM.out.1 HSM.out.2 HDP.out HDS.out g1 g2
  subst e1
  have hln : n = i := by
    have h1 := hO3.length
    rw [int64s, List.length_map, List.length_map, List.length_take] at h1
    omega
  subst hln
  have hr3 : Ow 3 w4 W.heap.size A n c (int64s ((S.take n).map (·.1))) := by
    refine Ow.kept hO3 (row := some q) ⟨hC4.os, hC4.tape, hC4.output, hC4.size, fun b hb hne => hC4.block b hb (fun e => hne (by rw [e]))⟩ (.inr fun e => ?_)
    have h1 := (hO3.lt q e).1
    have h2 := HQ.out
    have h3 := HGX.out
    omega
  have hlen : ((S.take n).map (·.1)).length = n := by rw [List.length_map, List.length_take]; omega
  have hn256 : n ≤ 256 := by have := HKS.out.2.1; omega
  have hints := ints_any A AO n c n cO w4.heap.size w4.heap.size _ _ hlen hlen (by omega) (by omega) w4 hr3.rw hO4.rw
  rw [decide_eq_true rfl] at hints
  have HI := Lib.hid hints
  have HP4 := Lib.hid hP4
  have HS4 := Lib.hid hS4
  have HJ4 : Hid (Jp w4 B gx p q (M.filter fun t => decide (a < t.2)) (S.drop n)) := Lib.hid hJ4
  have hBl : Below B w w4 := HBW.out.trans ((hC3.below (fun b hb => hb.1) (by have := HBW.out.size; have := HSZ.out; have := HGX.out; omega)).trans (hC4.below (fun b hb => by have := HQ.out; omega) (by have := HBW.out.size; have := HSZ.out; have := HGX.out; have := hC3.size; omega)))
  have HBL := Lib.hid hBl
  have HR3 : Hid (Ow 3 w4 gx A n c (int64s ((S.take n).map (·.1)))) := Lib.hid (hr3.mono (by have := HBW.out.size; have := HGX.out; omega))
  clear hJ3 hO3 hO4 hC3 hC4 g1 g2 hints hr3 hlen hJ4 hBl hP4 hS4
  go_wp2_with fail
  refine HI.out.mono ?_
  rintro e w5 ⟨rfl, jd, rfl⟩
  go_wp2
  go_loopw [13] (fun v13 wr => ∃ (k : Nat) (xs : List Value), k ≤ n ∧ v13 = .int .i64 k ∧ Hid (Ow 3 wr gx A n c xs ∧ Jp wr B gx p q (M.filter fun t => decide (a < t.2)) (S.drop n) ∧ Below B w wr)) (fun v13 _ => n - (intOf v13).toNat)
  case atStart => exact ⟨0, _, Nat.zero_le _, rfl, Lib.hid ⟨HR3.out.drewN jd, HJ4.out.drewN jd, bel_drewN HBL.out jd⟩⟩
  case round =>
    obtain ⟨k, xs, hk, rfl, HR⟩ := hrel
    rcases Nat.lt_or_ge k n with y | y
    · obtain ⟨g, hA, hO'⟩ := HR.out.1.store y (.int .i64 (-77))
      subst hA
      obtain ⟨u, hu⟩ : ∃ u, xs[k]? = some u := ⟨_, List.getElem?_eq_getElem (by rw [HR.out.1.length]; exact y)⟩
      obtain ⟨b0, o0, e0, hb0, hcs⟩ := HR.out.1.rw.at_ hu
      injection e0 with e0
      injection e0 with e1 e2
      subst e1; subst e2
      have hck : (Wc : World) → True := fun _ => trivial
      rw [Nat.zero_add] at hcs
      have hfz := HR.out.1.frozen (g := g) rfl k
      have hgb := (HR.out.1.lt g rfl).1
      have y' : (k : Int) < n := by omega
      have HR' : Hid (Ow 3 (wr.setCell ⟨g, k, none⟩ (.int .i64 (-77))) gx (some ⟨g, 0, none⟩) n c (xs.set k (.int .i64 (-77))) ∧ Jp (wr.setCell ⟨g, k, none⟩ (.int .i64 (-77))) B gx p q (M.filter fun t => decide (a < t.2)) (S.drop n) ∧ Below B w (wr.setCell ⟨g, k, none⟩ (.int .i64 (-77)))) :=
        Lib.hid ⟨hO', HR.out.2.1.stay (Chg.setCell (Chg.refl _ _) (.inl hgb) _), HR.out.2.2.trans ((Chg.setCell (Chg.refl (fun b => gx ≤ b) _) (.inl hgb) _).below (fun b hb => by have := HSZ.out; have := HGX.out; omega) (by have := HR.out.2.1.size; omega))⟩
      go_wp2
      go_roundw
      case rel => exact ⟨k + 1, _, by omega, by go_num, HR'⟩
      case measure => simp [intOf]; omega
    · have hkn : k = n := by omega
      have HF : Hid (∀ e, e = .returned (.bool true) → DoesPost B p q w e wr) := Lib.hid (fun e he => ⟨he, _, _, HR.out.2.1.top, ⟨HP4.out, HS4.out⟩, HR.out.2.2⟩)
      clear hkn
      go_wp2
      go_ret
      exact HF.out _ rfl
set_option maxHeartbeats 4000000 in
set_option maxRecDepth 100000 in
theorem does_next (p q B : Nat) (M S : Mt) (kd k a : Int) (hk : okI k) (ha : okI a) (h1 : kd ≠ 1) (h2 : kd ≠ 2) (h3 : kd ≠ 3) (h4 : kd ≠ 4) (w : World) (h : Jp w B w.heap.size p q M S) (hsm : Same M S) :
    Calls Try.prog 15 #[.pointer (some ⟨p, 0, none⟩), .pointer (some ⟨q, 0, none⟩), .agg #[.int .i64 kd, .int .i64 k, .int .i64 a]] w (DoesPost B p q w) := by
  obtain ⟨gx, hgx⟩ : ∃ gx, w.heap.size = gx := ⟨_, rfl⟩
  obtain ⟨W, hW⟩ : ∃ W, w.alloc (.cells #[.int .i64 kd, .int .i64 k, .int .i64 a] 46) = W := ⟨_, rfl⟩
  have hx : Bk W gx 46 #[.int .i64 kd, .int .i64 k, .int .i64 a] := by rw [← hW, ← hgx]; exact Bk.new w _ _
  have hJ : Jp W B gx p q M S := by rw [← hgx, ← hW]; exact h.below ((Below.refl _ _).alloc (Nat.le_refl _) _)
  have HBW : Hid (Below B w W) := Lib.hid (by rw [← hW]; exact (Below.refl _ _).alloc h.size.1 _)
  have HQ := Lib.hid h.q_
  have HSZ := Lib.hid h.size
  have HSM := Lib.hid hsm
  have HK := Lib.hid hk
  have HA := Lib.hid ha
  have HKS := Lib.hid (hsm.keys h)
  have x0 : W.cell? ⟨gx, 0, none⟩ = some (.int .i64 kd) := hx.cell 0
  have x1 : W.cell? ⟨gx, 1, none⟩ = some (.int .i64 k) := hx.cell 1
  have x2 : W.cell? ⟨gx, 2, none⟩ = some (.int .i64 a) := hx.cell 2
  have hgl := hx.lt
  have hqx : gx ≠ q := by have := HQ.out; omega
  have HKP : Hid (M.map (·.1)).Nodup := Lib.hid h.keys
  have HG : Hid (getM S k = getM M k) := Lib.hid (getM_perm hsm.1 h.keys k).symm
  have HJ := Lib.hid hJ
  have HW := Lib.hid hW
  have HGX := Lib.hid hgx
  clear hx h hsm hk ha hJ hW hgx
  have e1 : (kd == 1) = false := beq_eq_false_iff_ne.2 h1
  have e2 : (kd == 2) = false := beq_eq_false_iff_ne.2 h2
  have e3 : (kd == 3) = false := beq_eq_false_iff_ne.2 h3
  have e4 : (kd == 4) = false := beq_eq_false_iff_ne.2 h4
  clear h1 h2 h3 h4
  go_enter Try.func15, Try.ntmps15
  go_wp2_with fail
  rw [HW.out, HGX.out]
  refine (next_jp p q B gx M S W HJ.out).mono ?_
  rintro e w3 ⟨n, is_, rfl, hN, hB3⟩
  have hJ3 : Jp w3 B gx p q M S := HJ.out.below (hB3.mono (by omega))
  obtain ⟨A, nS, c, hR, hnS⟩ := hJ3.rf
  have hcl := hR.cellL
  have hB4 : Below B w w3 := HBW.out.trans (hB3.mono (by have := HSZ.out; have := HGX.out; omega))
  have HF : Hid (∀ e j, e = .returned (.bool true) → DoesPost B p q w e (w3.drewN j)) := Lib.hid (fun e j he => ⟨he, _, _, (hJ3.drewN j).top, HSM.out, bel_drewN hB4 j⟩)
  have hF0 := HF.out
  have HF0 : Hid (∀ e, e = .returned (.bool true) → DoesPost B p q w e w3) := Lib.hid (fun e he => HF.out e 0 he)
  clear hF0
  rcases next_law HSM.out.1 HSM.out.2 hN with ⟨hS, rfl, rfl⟩ | ⟨t, ht, rfl, rfl⟩
  · have hn0 : nS = 0 := by rw [hnS, hS]; rfl
    subst hn0
    clear hN hB3 hJ3 hR hB4 hS hnS
    go_wp2
    go_ret
    exact HF0.out _ rfl
  · obtain ⟨g, off, rfl, hg, c0, c1⟩ := hR.at_ ht
    have hn1 : nS ≠ 0 := by
      intro e
      have := (List.getElem?_eq_some_iff.1 ht).1
      omega
    have f1 : ((nS : Int) == 0) = false := beq_eq_false_iff_ne.2 (by omega)
    have f2 : (nS == 0) = false := beq_eq_false_iff_ne.2 hn1
    have f3 : (0 : Int) < nS := by omega
    have f4 : 0 < nS := by omega
    rw [Nat.zero_mul, Nat.add_zero] at c0 c1
    clear hN hB3 hJ3 hR hB4 ht hnS
    go_wp2
    go_ret
    exact HF0.out _ rfl
end Go.Proofs.Ytnnblakjaiccfaa
