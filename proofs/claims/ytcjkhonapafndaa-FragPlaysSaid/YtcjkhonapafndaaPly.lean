/- Proved: Add of the reference's Store, of a packet that is whole by itself; Add of the reference's Store, of a piece that is refused by its form; Add of the reference's Store, of a piece that is too long; the keys of those that are put together are apart; whatever piece is told, both Stores answer the same (plain); wharfref1.Later at a time that is not late, by its walk; Tick of the reference's Store; what the reference's Store keeps and hands out is made of bytes (plain); the reference's Store in memory with what it holds: told a piece, ticked; a script of pieces that came in reads as a list of steps; what the law's heavy says of a script; both Stores side by side: what each call of the law's script brings about. Conditions: as each law says. -/
import Derived.Test.YtcjkhonapafndaaRa3
import Derived.Test.YtcjkhonapafndaaSto
import Derived.Test.YtcjkhonapafndaaFrl
import Derived.Test.YtcjkhonapafndaaRst
import Derived.Test.YtcjkhonapafndaaRad
import Derived.Test.YtcjkhonapafndaaRead
import Derived.Test.YtcjkhonapafndaaMay
import Derived.Test.YtcjkhonapafndaaBytes
import Derived.Test.YtcjkhonapafndaaLib
import Derived.WalkMore
import Derived.Deep.LoopGhost
import Derived.Deep.RegionHeld3
import Derived.Test.YtcjkhonapafndaaMem
import Derived.Test.YtcjkhonapafndaaSpoil
set_option linter.unusedVariables false
set_option linter.unusedSimpArgs false
namespace Go.Proofs.Ytcjkhonapafndaa
open Go.RowKit
set_option maxHeartbeats 4000000 in
set_option maxRecDepth 100000 in
theorem radd_own (q : Nat) (G : Nat → Prop) (A : Option Addr) (n c : Nat) (L : List RVm) (psvc pid poff plife pproto psrc pdst : Int) (pwh : Bool) (oA dA : Option Addr) (on oc dn dc : Nat) (ol dl : List Int) (now : Int) (w : World) (h : RfS w q G A n c L) (hoff : poff ≤ 0) (ho : RB w w.heap.size oA ol) (hol : ol.length = on) (hr : RB w w.heap.size dA dl) (hdl : dl.length = dn)
    (R : List RV → Pk3 → Bool → Int → Prop) (hR : R (L.map RVm.rv) (⟨psvc, pid, pwh, false, poff, plife, pproto, psrc, pdst⟩, ol, dl) true 0) :
    Calls Try.prog 26 #[.pointer (some ⟨q, 0, none⟩), .agg #[.int .i64 psvc, .int .i64 pid, .bool pwh, .bool false, .int .i64 poff, .int .i64 plife, .int .i64 pproto, .int .u32 psrc, .int .u32 pdst, .slice oA on oc, .slice dA dn dc], .int .i64 now] w (RaPost w q A G (L.map RVm.rv) oA dA ol dl R) := by
  obtain ⟨gx, hgx⟩ : ∃ gx, w.heap.size = gx := ⟨_, rfl⟩
  obtain ⟨W, hW⟩ : ∃ W, (w.alloc (.cells #[.int .i64 psvc, .int .i64 pid, .bool pwh, .bool false, .int .i64 poff, .int .i64 plife, .int .i64 pproto, .int .u32 psrc, .int .u32 pdst, .slice oA on oc, .slice dA dn dc] 26)).alloc (.cells #[.int .i64 0, .int .i64 0, .bool false, .bool false, .int .i64 0, .int .i64 0, .int .i64 0, .int .u32 0, .int .u32 0, .slice none 0 0, .slice none 0 0] 26) = W := ⟨_, rfl⟩
  have hz : (w.alloc (.cells #[.int .i64 psvc, .int .i64 pid, .bool pwh, .bool false, .int .i64 poff, .int .i64 plife, .int .i64 pproto, .int .u32 psrc, .int .u32 pdst, .slice oA on oc, .slice dA dn dc] 26)).heap.size = gx + 1 := by rw [World.size_alloc, hgx]
  have hpk : Bk W gx 26 #[.int .i64 psvc, .int .i64 pid, .bool pwh, .bool false, .int .i64 poff, .int .i64 plife, .int .i64 pproto, .int .u32 psrc, .int .u32 pdst, .slice oA on oc, .slice dA dn dc] := by rw [← hW, ← hgx]; exact (Bk.new w _ _).alloc _
  have hzk : Bk W (gx + 1) 26 #[.int .i64 0, .int .i64 0, .bool false, .bool false, .int .i64 0, .int .i64 0, .int .i64 0, .int .u32 0, .int .u32 0, .slice none 0 0, .slice none 0 0] := by
    rw [← hW]
    have := Bk.new (w.alloc (.cells #[.int .i64 psvc, .int .i64 pid, .bool pwh, .bool false, .int .i64 poff, .int .i64 plife, .int .i64 pproto, .int .u32 psrc, .int .u32 pdst, .slice oA on oc, .slice dA dn dc] 26)) 26 #[.int .i64 0, .int .i64 0, .bool false, .bool false, .int .i64 0, .int .i64 0, .int .i64 0, .int .u32 0, .int .u32 0, .slice none 0 0, .slice none 0 0]
    rwa [hz] at this
  have hBW : Below gx w W := by rw [← hW, ← hgx]; exact ((Below.refl _ _).alloc (Nat.le_refl _) _).alloc (by rw [World.size_alloc]; omega) _
  have HW := Lib.hid hW
  have HGX := Lib.hid hgx
  have HZK := Lib.hid hzk
  have HBW := Lib.hid hBW
  have HH := Lib.hid h
  have HO := Lib.hid ho
  have HD := Lib.hid hr
  have HL := Lib.hid (And.intro hol hdl)
  have HRR := Lib.hid hR
  have t1 : decide (poff ≤ 0) = true := decide_eq_true hoff
  have b0 : W.cell? ⟨gx, 0, none⟩ = some (.int .i64 psvc) := hpk.cell 0
  have b1 : W.cell? ⟨gx, 1, none⟩ = some (.int .i64 pid) := hpk.cell 1
  have b2 : W.cell? ⟨gx, 2, none⟩ = some (.bool pwh) := hpk.cell 2
  have b3 : W.cell? ⟨gx, 3, none⟩ = some (.bool false) := hpk.cell 3
  have b4 : W.cell? ⟨gx, 4, none⟩ = some (.int .i64 poff) := hpk.cell 4
  have b5 : W.cell? ⟨gx, 5, none⟩ = some (.int .i64 plife) := hpk.cell 5
  have b6 : W.cell? ⟨gx, 6, none⟩ = some (.int .i64 pproto) := hpk.cell 6
  have b7 : W.cell? ⟨gx, 7, none⟩ = some (.int .u32 psrc) := hpk.cell 7
  have b8 : W.cell? ⟨gx, 8, none⟩ = some (.int .u32 pdst) := hpk.cell 8
  have b9 : W.cell? ⟨gx, 9, none⟩ = some (.slice oA on oc) := hpk.cell 9
  have b10 : W.cell? ⟨gx, 10, none⟩ = some (.slice dA dn dc) := hpk.cell 10
  have n0 : W.cell? ⟨gx + 1, 0, none⟩ = some (.int .i64 0) := hzk.cell 0
  have o0 : W.frozen? ⟨gx + 1, 0, none⟩ = false := hzk.frozen 0
  have n1 : W.cell? ⟨gx + 1, 1, none⟩ = some (.int .i64 0) := hzk.cell 1
  have o1 : W.frozen? ⟨gx + 1, 1, none⟩ = false := hzk.frozen 1
  have n2 : W.cell? ⟨gx + 1, 2, none⟩ = some (.bool false) := hzk.cell 2
  have o2 : W.frozen? ⟨gx + 1, 2, none⟩ = false := hzk.frozen 2
  have n3 : W.cell? ⟨gx + 1, 3, none⟩ = some (.bool false) := hzk.cell 3
  have o3 : W.frozen? ⟨gx + 1, 3, none⟩ = false := hzk.frozen 3
  have n4 : W.cell? ⟨gx + 1, 4, none⟩ = some (.int .i64 0) := hzk.cell 4
  have o4 : W.frozen? ⟨gx + 1, 4, none⟩ = false := hzk.frozen 4
  have n5 : W.cell? ⟨gx + 1, 5, none⟩ = some (.int .i64 0) := hzk.cell 5
  have o5 : W.frozen? ⟨gx + 1, 5, none⟩ = false := hzk.frozen 5
  have n6 : W.cell? ⟨gx + 1, 6, none⟩ = some (.int .i64 0) := hzk.cell 6
  have o6 : W.frozen? ⟨gx + 1, 6, none⟩ = false := hzk.frozen 6
  have n7 : W.cell? ⟨gx + 1, 7, none⟩ = some (.int .u32 0) := hzk.cell 7
  have o7 : W.frozen? ⟨gx + 1, 7, none⟩ = false := hzk.frozen 7
  have n8 : W.cell? ⟨gx + 1, 8, none⟩ = some (.int .u32 0) := hzk.cell 8
  have o8 : W.frozen? ⟨gx + 1, 8, none⟩ = false := hzk.frozen 8
  have n9 : W.cell? ⟨gx + 1, 9, none⟩ = some (.slice none 0 0) := hzk.cell 9
  have o9 : W.frozen? ⟨gx + 1, 9, none⟩ = false := hzk.frozen 9
  have n10 : W.cell? ⟨gx + 1, 10, none⟩ = some (.slice none 0 0) := hzk.cell 10
  have o10 : W.frozen? ⟨gx + 1, 10, none⟩ = false := hzk.frozen 10
  clear hW hgx hz hpk hzk hBW h ho hr hol hdl hR
  go_enter Try.func26, Try.ntmps26
  go_upto_region 1 with (fail)
  rw [HW.out, HGX.out]
  go_wp2_with fail
  have zz0 : Bk _ (gx + 1) 26 #[.int .i64 psvc, .int .i64 0, .bool false, .bool false, .int .i64 0, .int .i64 0, .int .i64 0, .int .u32 0, .int .u32 0, .slice none 0 0, .slice none 0 0] := HZK.out.set 0 (.int .i64 psvc)
  have zz1 : Bk _ (gx + 1) 26 #[.int .i64 psvc, .int .i64 pid, .bool false, .bool false, .int .i64 0, .int .i64 0, .int .i64 0, .int .u32 0, .int .u32 0, .slice none 0 0, .slice none 0 0] := zz0.set 1 (.int .i64 pid)
  have zz2 : Bk _ (gx + 1) 26 #[.int .i64 psvc, .int .i64 pid, .bool pwh, .bool false, .int .i64 0, .int .i64 0, .int .i64 0, .int .u32 0, .int .u32 0, .slice none 0 0, .slice none 0 0] := zz1.set 2 (.bool pwh)
  have zz3 : Bk _ (gx + 1) 26 #[.int .i64 psvc, .int .i64 pid, .bool pwh, .bool false, .int .i64 0, .int .i64 0, .int .i64 0, .int .u32 0, .int .u32 0, .slice none 0 0, .slice none 0 0] := zz2.set 3 (.bool false)
  have zz4 : Bk _ (gx + 1) 26 #[.int .i64 psvc, .int .i64 pid, .bool pwh, .bool false, .int .i64 poff, .int .i64 0, .int .i64 0, .int .u32 0, .int .u32 0, .slice none 0 0, .slice none 0 0] := zz3.set 4 (.int .i64 poff)
  have zz5 : Bk _ (gx + 1) 26 #[.int .i64 psvc, .int .i64 pid, .bool pwh, .bool false, .int .i64 poff, .int .i64 plife, .int .i64 0, .int .u32 0, .int .u32 0, .slice none 0 0, .slice none 0 0] := zz4.set 5 (.int .i64 plife)
  have zz6 : Bk _ (gx + 1) 26 #[.int .i64 psvc, .int .i64 pid, .bool pwh, .bool false, .int .i64 poff, .int .i64 plife, .int .i64 pproto, .int .u32 0, .int .u32 0, .slice none 0 0, .slice none 0 0] := zz5.set 6 (.int .i64 pproto)
  have zz7 : Bk _ (gx + 1) 26 #[.int .i64 psvc, .int .i64 pid, .bool pwh, .bool false, .int .i64 poff, .int .i64 plife, .int .i64 pproto, .int .u32 psrc, .int .u32 0, .slice none 0 0, .slice none 0 0] := zz6.set 7 (.int .u32 psrc)
  have zz8 : Bk _ (gx + 1) 26 #[.int .i64 psvc, .int .i64 pid, .bool pwh, .bool false, .int .i64 poff, .int .i64 plife, .int .i64 pproto, .int .u32 psrc, .int .u32 pdst, .slice none 0 0, .slice none 0 0] := zz7.set 8 (.int .u32 pdst)
  have zz9 : Bk _ (gx + 1) 26 #[.int .i64 psvc, .int .i64 pid, .bool pwh, .bool false, .int .i64 poff, .int .i64 plife, .int .i64 pproto, .int .u32 psrc, .int .u32 pdst, .slice oA on oc, .slice none 0 0] := zz8.set 9 (.slice oA on oc)
  have zz10 : Bk _ (gx + 1) 26 #[.int .i64 psvc, .int .i64 pid, .bool pwh, .bool false, .int .i64 poff, .int .i64 plife, .int .i64 pproto, .int .u32 psrc, .int .u32 pdst, .slice oA on oc, .slice dA dn dc] := zz9.set 10 (.slice dA dn dc)
  have hcc := ((((((((((((Chg.refl (fun b => b = gx + 1) W).setCell (p := ⟨gx + 1, 0, none⟩) (.inl rfl) (.int .i64 psvc)).setCell (p := ⟨gx + 1, 1, none⟩) (.inl rfl) (.int .i64 pid)).setCell (p := ⟨gx + 1, 2, none⟩) (.inl rfl) (.bool pwh)).setCell (p := ⟨gx + 1, 3, none⟩) (.inl rfl) (.bool false)).setCell (p := ⟨gx + 1, 4, none⟩) (.inl rfl) (.int .i64 poff)).setCell (p := ⟨gx + 1, 5, none⟩) (.inl rfl) (.int .i64 plife)).setCell (p := ⟨gx + 1, 6, none⟩) (.inl rfl) (.int .i64 pproto)).setCell (p := ⟨gx + 1, 7, none⟩) (.inl rfl) (.int .u32 psrc)).setCell (p := ⟨gx + 1, 8, none⟩) (.inl rfl) (.int .u32 pdst)).setCell (p := ⟨gx + 1, 9, none⟩) (.inl rfl) (.slice oA on oc)).setCell (p := ⟨gx + 1, 10, none⟩) (.inl rfl) (.slice dA dn dc))
  refine bodyPost_ret (results_c2 rfl _ _ (gx + 1) _ _ _ _ rfl zz10 Try.underlying26 rfl (by kernel_rfl)) rfl ?_
  have hgx := HGX.out
  have h1 : Below w.heap.size w W := by have := HBW.out; rwa [← hgx] at this
  have hC : Chg (fun _ => False) w _ := (Chg.of_below h1).trans hcc (fun b e => .inr (by omega))
  have hB := hC.below (B := w.heap.size) (fun _ e => e.elim) (Nat.le_refl _)
  exact ⟨G, A, n, c, L, (⟨psvc, pid, pwh, false, poff, plife, pproto, psrc, pdst⟩, ol, dl), true, 0, oA, dA, on, oc, dn, dc, rfl, HH.out.below hB, Rw.more (Rw.below HO.out hB) hB.size, HL.out.1, Rw.more (Rw.below HD.out hB) hB.size, HL.out.2, fun b hb => .inl hb, fun b hb => .inl hb, hC.mono (fun b _ e => e.elim), HRR.out⟩
end Go.Proofs.Ytcjkhonapafndaa
namespace Go.Proofs.Ytcjkhonapafndaa
open Go.RowKit
set_option maxHeartbeats 4000000 in
set_option maxRecDepth 100000 in
theorem radd_form (q : Nat) (G : Nat → Prop) (A : Option Addr) (n c : Nat) (L : List RVm) (psvc pid poff plife pproto psrc pdst : Int) (pwh pmo : Bool) (oA dA : Option Addr) (on oc dn dc : Nat) (ol dl : List Int) (now : Int) (w : World) (h : RfS w q G A n c L) (hnot : ¬ (pmo = false ∧ poff ≤ 0)) (hbad : dn = 0 ∨ (pmo = true ∧ dn % 8 ≠ 0) ∨ poff < 0 ∨ poff.tmod 8 ≠ 0) (ho : RB w w.heap.size oA ol) (hol : ol.length = on) (hr : RB w w.heap.size dA dl) (hdl : dl.length = dn)
    (R : List RV → Pk3 → Bool → Int → Prop) (hR : R (L.map RVm.rv) (zeroP, [], []) false 3) :
    Calls Try.prog 26 #[.pointer (some ⟨q, 0, none⟩), .agg #[.int .i64 psvc, .int .i64 pid, .bool pwh, .bool pmo, .int .i64 poff, .int .i64 plife, .int .i64 pproto, .int .u32 psrc, .int .u32 pdst, .slice oA on oc, .slice dA dn dc], .int .i64 now] w (RaPost w q A G (L.map RVm.rv) oA dA ol dl R) := by
  obtain ⟨gx, hgx⟩ : ∃ gx, w.heap.size = gx := ⟨_, rfl⟩
  obtain ⟨W, hW⟩ : ∃ W, (w.alloc (.cells #[.int .i64 psvc, .int .i64 pid, .bool pwh, .bool pmo, .int .i64 poff, .int .i64 plife, .int .i64 pproto, .int .u32 psrc, .int .u32 pdst, .slice oA on oc, .slice dA dn dc] 26)).alloc (.cells #[.int .i64 0, .int .i64 0, .bool false, .bool false, .int .i64 0, .int .i64 0, .int .i64 0, .int .u32 0, .int .u32 0, .slice none 0 0, .slice none 0 0] 26) = W := ⟨_, rfl⟩
  have hz : (w.alloc (.cells #[.int .i64 psvc, .int .i64 pid, .bool pwh, .bool pmo, .int .i64 poff, .int .i64 plife, .int .i64 pproto, .int .u32 psrc, .int .u32 pdst, .slice oA on oc, .slice dA dn dc] 26)).heap.size = gx + 1 := by rw [World.size_alloc, hgx]
  have hpk : Bk W gx 26 #[.int .i64 psvc, .int .i64 pid, .bool pwh, .bool pmo, .int .i64 poff, .int .i64 plife, .int .i64 pproto, .int .u32 psrc, .int .u32 pdst, .slice oA on oc, .slice dA dn dc] := by rw [← hW, ← hgx]; exact (Bk.new w _ _).alloc _
  have hzk : Bk W (gx + 1) 26 #[.int .i64 0, .int .i64 0, .bool false, .bool false, .int .i64 0, .int .i64 0, .int .i64 0, .int .u32 0, .int .u32 0, .slice none 0 0, .slice none 0 0] := by
    rw [← hW]
    have := Bk.new (w.alloc (.cells #[.int .i64 psvc, .int .i64 pid, .bool pwh, .bool pmo, .int .i64 poff, .int .i64 plife, .int .i64 pproto, .int .u32 psrc, .int .u32 pdst, .slice oA on oc, .slice dA dn dc] 26)) 26 #[.int .i64 0, .int .i64 0, .bool false, .bool false, .int .i64 0, .int .i64 0, .int .i64 0, .int .u32 0, .int .u32 0, .slice none 0 0, .slice none 0 0]
    rwa [hz] at this
  have hBW : Below gx w W := by rw [← hW, ← hgx]; exact ((Below.refl _ _).alloc (Nat.le_refl _) _).alloc (by rw [World.size_alloc]; omega) _
  have HW := Lib.hid hW
  have HGX := Lib.hid hgx
  have HZK := Lib.hid hzk
  have HBW := Lib.hid hBW
  have HH := Lib.hid h
  have HO := Lib.hid ho
  have HD := Lib.hid hr
  have HL := Lib.hid (And.intro hol hdl)
  have HRR := Lib.hid hR
  have HNOT := Lib.hid hnot
  have HBAD := Lib.hid hbad
  have b0 : W.cell? ⟨gx, 0, none⟩ = some (.int .i64 psvc) := hpk.cell 0
  have b1 : W.cell? ⟨gx, 1, none⟩ = some (.int .i64 pid) := hpk.cell 1
  have b2 : W.cell? ⟨gx, 2, none⟩ = some (.bool pwh) := hpk.cell 2
  have b3 : W.cell? ⟨gx, 3, none⟩ = some (.bool pmo) := hpk.cell 3
  have b4 : W.cell? ⟨gx, 4, none⟩ = some (.int .i64 poff) := hpk.cell 4
  have b5 : W.cell? ⟨gx, 5, none⟩ = some (.int .i64 plife) := hpk.cell 5
  have b6 : W.cell? ⟨gx, 6, none⟩ = some (.int .i64 pproto) := hpk.cell 6
  have b7 : W.cell? ⟨gx, 7, none⟩ = some (.int .u32 psrc) := hpk.cell 7
  have b8 : W.cell? ⟨gx, 8, none⟩ = some (.int .u32 pdst) := hpk.cell 8
  have b9 : W.cell? ⟨gx, 9, none⟩ = some (.slice oA on oc) := hpk.cell 9
  have b10 : W.cell? ⟨gx, 10, none⟩ = some (.slice dA dn dc) := hpk.cell 10
  have n0 : W.cell? ⟨gx + 1, 0, none⟩ = some (.int .i64 0) := hzk.cell 0
  have o0 : W.frozen? ⟨gx + 1, 0, none⟩ = false := hzk.frozen 0
  have n1 : W.cell? ⟨gx + 1, 1, none⟩ = some (.int .i64 0) := hzk.cell 1
  have o1 : W.frozen? ⟨gx + 1, 1, none⟩ = false := hzk.frozen 1
  have n2 : W.cell? ⟨gx + 1, 2, none⟩ = some (.bool false) := hzk.cell 2
  have o2 : W.frozen? ⟨gx + 1, 2, none⟩ = false := hzk.frozen 2
  have n3 : W.cell? ⟨gx + 1, 3, none⟩ = some (.bool false) := hzk.cell 3
  have o3 : W.frozen? ⟨gx + 1, 3, none⟩ = false := hzk.frozen 3
  have n4 : W.cell? ⟨gx + 1, 4, none⟩ = some (.int .i64 0) := hzk.cell 4
  have o4 : W.frozen? ⟨gx + 1, 4, none⟩ = false := hzk.frozen 4
  have n5 : W.cell? ⟨gx + 1, 5, none⟩ = some (.int .i64 0) := hzk.cell 5
  have o5 : W.frozen? ⟨gx + 1, 5, none⟩ = false := hzk.frozen 5
  have n6 : W.cell? ⟨gx + 1, 6, none⟩ = some (.int .i64 0) := hzk.cell 6
  have o6 : W.frozen? ⟨gx + 1, 6, none⟩ = false := hzk.frozen 6
  have n7 : W.cell? ⟨gx + 1, 7, none⟩ = some (.int .u32 0) := hzk.cell 7
  have o7 : W.frozen? ⟨gx + 1, 7, none⟩ = false := hzk.frozen 7
  have n8 : W.cell? ⟨gx + 1, 8, none⟩ = some (.int .u32 0) := hzk.cell 8
  have o8 : W.frozen? ⟨gx + 1, 8, none⟩ = false := hzk.frozen 8
  have n9 : W.cell? ⟨gx + 1, 9, none⟩ = some (.slice none 0 0) := hzk.cell 9
  have o9 : W.frozen? ⟨gx + 1, 9, none⟩ = false := hzk.frozen 9
  have n10 : W.cell? ⟨gx + 1, 10, none⟩ = some (.slice none 0 0) := hzk.cell 10
  have o10 : W.frozen? ⟨gx + 1, 10, none⟩ = false := hzk.frozen 10
  clear hW hgx hz hpk hzk hBW h ho hr hol hdl hR hnot hbad
  go_enter Try.func26, Try.ntmps26
  go_upto_region 1 with (fail)
  rw [HW.out, HGX.out]
  go_cut [24] (fun s24 wx => s24 = .bool false ∧ wx = W)
  case first =>
    cases pmo with
    | true =>
      go_wp2_with fail
      go_meet
      exact ⟨rfl, rfl⟩
    | false =>
      have t1 : decide (poff ≤ 0) = false := decide_eq_false (fun e => HNOT.out ⟨rfl, e⟩)
      go_wp2_with fail
      go_meet
      exact ⟨rfl, rfl⟩
  case rest =>
  obtain ⟨rfl, hwc⟩ := hcut
  have hwc' := hwc.symm
  clear hwc
  subst hwc'
  go_upto_region 4 with (fail)
  go_cut [50] (fun s50 wx => s50 = .bool true ∧ wx = W)
  case first =>
    have hways : dn = 0 ∨ (dn ≠ 0 ∧ pmo = true ∧ dn % 8 ≠ 0) ∨ (dn ≠ 0 ∧ pmo = true ∧ dn % 8 = 0 ∧ poff < 0) ∨ (dn ≠ 0 ∧ pmo = true ∧ dn % 8 = 0 ∧ 0 ≤ poff ∧ poff.tmod 8 ≠ 0) ∨ (dn ≠ 0 ∧ pmo = false ∧ 0 < poff ∧ poff.tmod 8 ≠ 0) := by
      have h1 := HNOT.out
      have h2 := HBAD.out
      rcases Nat.decEq dn 0 with a | a
      · cases pmo with
        | true =>
          rcases h2 with h | h | h | h
          · exact absurd h a
          · exact .inr (.inl ⟨a, rfl, h.2⟩)
          · rcases Nat.decEq (dn % 8) 0 with c | c
            · exact .inr (.inl ⟨a, rfl, c⟩)
            · exact .inr (.inr (.inl ⟨a, rfl, c, h⟩))
          · rcases Nat.decEq (dn % 8) 0 with c | c
            · exact .inr (.inl ⟨a, rfl, c⟩)
            · rcases Int.lt_or_le poff 0 with d | d
              · exact .inr (.inr (.inl ⟨a, rfl, c, d⟩))
              · exact .inr (.inr (.inr (.inl ⟨a, rfl, c, d, h⟩)))
        | false =>
          have hp : 0 < poff := by
            rcases Int.lt_or_le 0 poff with d | d
            · exact d
            · exact absurd ⟨rfl, d⟩ h1
          rcases h2 with h | h | h | h
          · exact absurd h a
          · cases h.1
          · omega
          · exact .inr (.inr (.inr (.inr ⟨a, rfl, hp, h⟩)))
      · exact .inl a
    rcases hways with rfl | ⟨a, rfl, b⟩ | ⟨a, rfl, b, d⟩ | ⟨a, rfl, b, d, e⟩ | ⟨a, rfl, d, e⟩
    · go_wp2_with fail
      go_meet
      exact ⟨rfl, rfl⟩
    · have t3 : ((dn : Int) == 0) = false := beq_eq_false_iff_ne.2 (by omega)
      have t4 : (dn == 0) = false := beq_eq_false_iff_ne.2 a
      have m5 : (dn : Int).tmod 8 = ((dn % 8 : Nat) : Int) := by rw [Int.tmod_eq_emod_of_nonneg (by omega)]; omega
      have t5 : ((dn : Int).tmod 8 != 0) = true := by rw [m5]; simp; omega
      have t6 : ¬ ((dn : Int).tmod 8 = 0) := by rw [m5]; omega
      have t7 : (dn % 8 == 0) = false := beq_eq_false_iff_ne.2 b
      have t8 : (((dn : Int) % 8) == 0) = false := beq_eq_false_iff_ne.2 (by omega)
      have t9 : ¬ ((dn : Int) % 8 = 0) := by omega
      clear m5
      go_wp2_with fail
      go_meet
      exact ⟨rfl, rfl⟩
    · have t3 : ((dn : Int) == 0) = false := beq_eq_false_iff_ne.2 (by omega)
      have t4 : (dn == 0) = false := beq_eq_false_iff_ne.2 a
      have t5 : (dn : Int).tmod 8 = 0 := by rw [Int.tmod_eq_emod_of_nonneg (by omega)]; omega
      have t6 : decide (poff < 0) = true := decide_eq_true d
      go_wp2_with fail
      go_meet
      exact ⟨rfl, rfl⟩
    · have t3 : ((dn : Int) == 0) = false := beq_eq_false_iff_ne.2 (by omega)
      have t4 : (dn == 0) = false := beq_eq_false_iff_ne.2 a
      have t5 : (dn : Int).tmod 8 = 0 := by rw [Int.tmod_eq_emod_of_nonneg (by omega)]; omega
      have t6 : decide (poff < 0) = false := decide_eq_false (by omega)
      have t7 : (poff.tmod 8 != 0) = true := bne_iff_ne.2 e
      have e2 : poff % 8 ≠ 0 := by rw [Int.tmod_eq_emod_of_nonneg (by omega)] at e; exact e
      have t8 : (poff % 8 != 0) = true := bne_iff_ne.2 e2
      go_wp2_with fail
      go_meet
      exact ⟨rfl, rfl⟩
    · have t3 : ((dn : Int) == 0) = false := beq_eq_false_iff_ne.2 (by omega)
      have t4 : (dn == 0) = false := beq_eq_false_iff_ne.2 a
      have t6 : decide (poff < 0) = false := decide_eq_false (by omega)
      have t7 : (poff.tmod 8 != 0) = true := bne_iff_ne.2 e
      have e2 : poff % 8 ≠ 0 := by rw [Int.tmod_eq_emod_of_nonneg (by omega)] at e; exact e
      have t8 : (poff % 8 != 0) = true := bne_iff_ne.2 e2
      go_wp2_with fail
      go_meet
      exact ⟨rfl, rfl⟩
  case rest =>
  obtain ⟨rfl, hwc⟩ := hcut
  have hwc' := hwc.symm
  clear hwc
  subst hwc'
  go_wp2_with fail
  have zz0 : Bk _ (gx + 1) 26 #[.int .i64 0, .int .i64 0, .bool false, .bool false, .int .i64 0, .int .i64 0, .int .i64 0, .int .u32 0, .int .u32 0, .slice none 0 0, .slice none 0 0] := HZK.out.set 0 (.int .i64 0)
  have zz1 : Bk _ (gx + 1) 26 #[.int .i64 0, .int .i64 0, .bool false, .bool false, .int .i64 0, .int .i64 0, .int .i64 0, .int .u32 0, .int .u32 0, .slice none 0 0, .slice none 0 0] := zz0.set 1 (.int .i64 0)
  have zz2 : Bk _ (gx + 1) 26 #[.int .i64 0, .int .i64 0, .bool false, .bool false, .int .i64 0, .int .i64 0, .int .i64 0, .int .u32 0, .int .u32 0, .slice none 0 0, .slice none 0 0] := zz1.set 2 (.bool false)
  have zz3 : Bk _ (gx + 1) 26 #[.int .i64 0, .int .i64 0, .bool false, .bool false, .int .i64 0, .int .i64 0, .int .i64 0, .int .u32 0, .int .u32 0, .slice none 0 0, .slice none 0 0] := zz2.set 3 (.bool false)
  have zz4 : Bk _ (gx + 1) 26 #[.int .i64 0, .int .i64 0, .bool false, .bool false, .int .i64 0, .int .i64 0, .int .i64 0, .int .u32 0, .int .u32 0, .slice none 0 0, .slice none 0 0] := zz3.set 4 (.int .i64 0)
  have zz5 : Bk _ (gx + 1) 26 #[.int .i64 0, .int .i64 0, .bool false, .bool false, .int .i64 0, .int .i64 0, .int .i64 0, .int .u32 0, .int .u32 0, .slice none 0 0, .slice none 0 0] := zz4.set 5 (.int .i64 0)
  have zz6 : Bk _ (gx + 1) 26 #[.int .i64 0, .int .i64 0, .bool false, .bool false, .int .i64 0, .int .i64 0, .int .i64 0, .int .u32 0, .int .u32 0, .slice none 0 0, .slice none 0 0] := zz5.set 6 (.int .i64 0)
  have zz7 : Bk _ (gx + 1) 26 #[.int .i64 0, .int .i64 0, .bool false, .bool false, .int .i64 0, .int .i64 0, .int .i64 0, .int .u32 0, .int .u32 0, .slice none 0 0, .slice none 0 0] := zz6.set 7 (.int .u32 0)
  have zz8 : Bk _ (gx + 1) 26 #[.int .i64 0, .int .i64 0, .bool false, .bool false, .int .i64 0, .int .i64 0, .int .i64 0, .int .u32 0, .int .u32 0, .slice none 0 0, .slice none 0 0] := zz7.set 8 (.int .u32 0)
  have zz9 : Bk _ (gx + 1) 26 #[.int .i64 0, .int .i64 0, .bool false, .bool false, .int .i64 0, .int .i64 0, .int .i64 0, .int .u32 0, .int .u32 0, .slice none 0 0, .slice none 0 0] := zz8.set 9 (.slice none 0 0)
  have zz10 : Bk _ (gx + 1) 26 #[.int .i64 0, .int .i64 0, .bool false, .bool false, .int .i64 0, .int .i64 0, .int .i64 0, .int .u32 0, .int .u32 0, .slice none 0 0, .slice none 0 0] := zz9.set 10 (.slice none 0 0)
  have hcc := ((((((((((((Chg.refl (fun b => b = gx + 1) W).setCell (p := ⟨gx + 1, 0, none⟩) (.inl rfl) (.int .i64 0)).setCell (p := ⟨gx + 1, 1, none⟩) (.inl rfl) (.int .i64 0)).setCell (p := ⟨gx + 1, 2, none⟩) (.inl rfl) (.bool false)).setCell (p := ⟨gx + 1, 3, none⟩) (.inl rfl) (.bool false)).setCell (p := ⟨gx + 1, 4, none⟩) (.inl rfl) (.int .i64 0)).setCell (p := ⟨gx + 1, 5, none⟩) (.inl rfl) (.int .i64 0)).setCell (p := ⟨gx + 1, 6, none⟩) (.inl rfl) (.int .i64 0)).setCell (p := ⟨gx + 1, 7, none⟩) (.inl rfl) (.int .u32 0)).setCell (p := ⟨gx + 1, 8, none⟩) (.inl rfl) (.int .u32 0)).setCell (p := ⟨gx + 1, 9, none⟩) (.inl rfl) (.slice none 0 0)).setCell (p := ⟨gx + 1, 10, none⟩) (.inl rfl) (.slice none 0 0))
  refine bodyPost_ret (results_c2 rfl _ _ (gx + 1) _ _ _ _ rfl zz10 Try.underlying26 rfl (by kernel_rfl)) rfl ?_
  have hgx := HGX.out
  have h1 : Below w.heap.size w W := by have := HBW.out; rwa [← hgx] at this
  have hC : Chg (fun _ => False) w _ := (Chg.of_below h1).trans hcc (fun b e => .inr (by omega))
  have hB := hC.below (B := w.heap.size) (fun _ e => e.elim) (Nat.le_refl _)
  exact ⟨G, A, n, c, L, (zeroP, [], []), false, 3, none, none, 0, 0, 0, 0, rfl, HH.out.below hB, Rw.nil _ _ _, rfl, Rw.nil _ _ _, rfl, fun b hb => .inl hb, fun b hb => .inl hb, hC.mono (fun b _ e => e.elim), HRR.out⟩
end Go.Proofs.Ytcjkhonapafndaa
namespace Go.Proofs.Ytcjkhonapafndaa
open Go.RowKit
set_option maxHeartbeats 4000000 in
set_option maxRecDepth 100000 in
theorem radd_long (q : Nat) (G : Nat → Prop) (A : Option Addr) (n c : Nat) (L : List RVm) (psvc pid poff plife pproto psrc pdst : Int) (pwh pmo : Bool) (oA dA : Option Addr) (on oc dn dc : Nat) (ol dl : List Int) (now : Int) (w : World) (h : RfS w q G A n c L) (hnot : ¬ (pmo = false ∧ poff ≤ 0)) (hd0 : dn ≠ 0) (hd8 : pmo = true → dn % 8 = 0) (hp0 : 0 ≤ poff) (hp8 : poff.tmod 8 = 0) (hlong : 65515 < poff + dn) (hdm : dn ≤ 140737488355328) (ho : RB w w.heap.size oA ol) (hol : ol.length = on) (hr : RB w w.heap.size dA dl) (hdl : dl.length = dn)
    (R : List RV → Pk3 → Bool → Int → Prop) (hR : R (L.map RVm.rv) (zeroP, [], []) false 5) :
    Calls Try.prog 26 #[.pointer (some ⟨q, 0, none⟩), .agg #[.int .i64 psvc, .int .i64 pid, .bool pwh, .bool pmo, .int .i64 poff, .int .i64 plife, .int .i64 pproto, .int .u32 psrc, .int .u32 pdst, .slice oA on oc, .slice dA dn dc], .int .i64 now] w (RaPost w q A G (L.map RVm.rv) oA dA ol dl R) := by
  obtain ⟨gx, hgx⟩ : ∃ gx, w.heap.size = gx := ⟨_, rfl⟩
  obtain ⟨W, hW⟩ : ∃ W, (w.alloc (.cells #[.int .i64 psvc, .int .i64 pid, .bool pwh, .bool pmo, .int .i64 poff, .int .i64 plife, .int .i64 pproto, .int .u32 psrc, .int .u32 pdst, .slice oA on oc, .slice dA dn dc] 26)).alloc (.cells #[.int .i64 0, .int .i64 0, .bool false, .bool false, .int .i64 0, .int .i64 0, .int .i64 0, .int .u32 0, .int .u32 0, .slice none 0 0, .slice none 0 0] 26) = W := ⟨_, rfl⟩
  have hz : (w.alloc (.cells #[.int .i64 psvc, .int .i64 pid, .bool pwh, .bool pmo, .int .i64 poff, .int .i64 plife, .int .i64 pproto, .int .u32 psrc, .int .u32 pdst, .slice oA on oc, .slice dA dn dc] 26)).heap.size = gx + 1 := by rw [World.size_alloc, hgx]
  have hpk : Bk W gx 26 #[.int .i64 psvc, .int .i64 pid, .bool pwh, .bool pmo, .int .i64 poff, .int .i64 plife, .int .i64 pproto, .int .u32 psrc, .int .u32 pdst, .slice oA on oc, .slice dA dn dc] := by rw [← hW, ← hgx]; exact (Bk.new w _ _).alloc _
  have hzk : Bk W (gx + 1) 26 #[.int .i64 0, .int .i64 0, .bool false, .bool false, .int .i64 0, .int .i64 0, .int .i64 0, .int .u32 0, .int .u32 0, .slice none 0 0, .slice none 0 0] := by
    rw [← hW]
    have := Bk.new (w.alloc (.cells #[.int .i64 psvc, .int .i64 pid, .bool pwh, .bool pmo, .int .i64 poff, .int .i64 plife, .int .i64 pproto, .int .u32 psrc, .int .u32 pdst, .slice oA on oc, .slice dA dn dc] 26)) 26 #[.int .i64 0, .int .i64 0, .bool false, .bool false, .int .i64 0, .int .i64 0, .int .i64 0, .int .u32 0, .int .u32 0, .slice none 0 0, .slice none 0 0]
    rwa [hz] at this
  have hBW : Below gx w W := by rw [← hW, ← hgx]; exact ((Below.refl _ _).alloc (Nat.le_refl _) _).alloc (by rw [World.size_alloc]; omega) _
  have HW := Lib.hid hW
  have HGX := Lib.hid hgx
  have HZK := Lib.hid hzk
  have HBW := Lib.hid hBW
  have HH := Lib.hid h
  have HO := Lib.hid ho
  have HD := Lib.hid hr
  have HL := Lib.hid (And.intro hol hdl)
  have HRR := Lib.hid hR
  have HNOT := Lib.hid hnot
  have HD8 := Lib.hid hd8
  have b0 : W.cell? ⟨gx, 0, none⟩ = some (.int .i64 psvc) := hpk.cell 0
  have b1 : W.cell? ⟨gx, 1, none⟩ = some (.int .i64 pid) := hpk.cell 1
  have b2 : W.cell? ⟨gx, 2, none⟩ = some (.bool pwh) := hpk.cell 2
  have b3 : W.cell? ⟨gx, 3, none⟩ = some (.bool pmo) := hpk.cell 3
  have b4 : W.cell? ⟨gx, 4, none⟩ = some (.int .i64 poff) := hpk.cell 4
  have b5 : W.cell? ⟨gx, 5, none⟩ = some (.int .i64 plife) := hpk.cell 5
  have b6 : W.cell? ⟨gx, 6, none⟩ = some (.int .i64 pproto) := hpk.cell 6
  have b7 : W.cell? ⟨gx, 7, none⟩ = some (.int .u32 psrc) := hpk.cell 7
  have b8 : W.cell? ⟨gx, 8, none⟩ = some (.int .u32 pdst) := hpk.cell 8
  have b9 : W.cell? ⟨gx, 9, none⟩ = some (.slice oA on oc) := hpk.cell 9
  have b10 : W.cell? ⟨gx, 10, none⟩ = some (.slice dA dn dc) := hpk.cell 10
  have n0 : W.cell? ⟨gx + 1, 0, none⟩ = some (.int .i64 0) := hzk.cell 0
  have o0 : W.frozen? ⟨gx + 1, 0, none⟩ = false := hzk.frozen 0
  have n1 : W.cell? ⟨gx + 1, 1, none⟩ = some (.int .i64 0) := hzk.cell 1
  have o1 : W.frozen? ⟨gx + 1, 1, none⟩ = false := hzk.frozen 1
  have n2 : W.cell? ⟨gx + 1, 2, none⟩ = some (.bool false) := hzk.cell 2
  have o2 : W.frozen? ⟨gx + 1, 2, none⟩ = false := hzk.frozen 2
  have n3 : W.cell? ⟨gx + 1, 3, none⟩ = some (.bool false) := hzk.cell 3
  have o3 : W.frozen? ⟨gx + 1, 3, none⟩ = false := hzk.frozen 3
  have n4 : W.cell? ⟨gx + 1, 4, none⟩ = some (.int .i64 0) := hzk.cell 4
  have o4 : W.frozen? ⟨gx + 1, 4, none⟩ = false := hzk.frozen 4
  have n5 : W.cell? ⟨gx + 1, 5, none⟩ = some (.int .i64 0) := hzk.cell 5
  have o5 : W.frozen? ⟨gx + 1, 5, none⟩ = false := hzk.frozen 5
  have n6 : W.cell? ⟨gx + 1, 6, none⟩ = some (.int .i64 0) := hzk.cell 6
  have o6 : W.frozen? ⟨gx + 1, 6, none⟩ = false := hzk.frozen 6
  have n7 : W.cell? ⟨gx + 1, 7, none⟩ = some (.int .u32 0) := hzk.cell 7
  have o7 : W.frozen? ⟨gx + 1, 7, none⟩ = false := hzk.frozen 7
  have n8 : W.cell? ⟨gx + 1, 8, none⟩ = some (.int .u32 0) := hzk.cell 8
  have o8 : W.frozen? ⟨gx + 1, 8, none⟩ = false := hzk.frozen 8
  have n9 : W.cell? ⟨gx + 1, 9, none⟩ = some (.slice none 0 0) := hzk.cell 9
  have o9 : W.frozen? ⟨gx + 1, 9, none⟩ = false := hzk.frozen 9
  have n10 : W.cell? ⟨gx + 1, 10, none⟩ = some (.slice none 0 0) := hzk.cell 10
  have o10 : W.frozen? ⟨gx + 1, 10, none⟩ = false := hzk.frozen 10
  clear hW hgx hz hpk hzk hBW h ho hr hol hdl hR hnot hd8
  go_enter Try.func26, Try.ntmps26
  go_upto_region 1 with (fail)
  rw [HW.out, HGX.out]
  go_cut [24] (fun s24 wx => s24 = .bool false ∧ wx = W)
  case first =>
    cases pmo with
    | true =>
      go_wp2_with fail
      go_meet
      exact ⟨rfl, rfl⟩
    | false =>
      have t1 : decide (poff ≤ 0) = false := decide_eq_false (fun e => HNOT.out ⟨rfl, e⟩)
      go_wp2_with fail
      go_meet
      exact ⟨rfl, rfl⟩
  case rest =>
  obtain ⟨rfl, hwc⟩ := hcut
  have hwc' := hwc.symm
  clear hwc
  subst hwc'
  go_upto_region 4 with (fail)
  go_cut [50] (fun s50 wx => s50 = .bool false ∧ wx = W)
  case first =>
    have t3 : ((dn : Int) == 0) = false := beq_eq_false_iff_ne.2 (by omega)
    have t4 : (dn == 0) = false := beq_eq_false_iff_ne.2 hd0
    have t6 : decide (poff < 0) = false := decide_eq_false (by omega)
    cases pmo with
    | true =>
      have h8 := HD8.out rfl
      have t5 : (dn : Int).tmod 8 = 0 := by rw [Int.tmod_eq_emod_of_nonneg (by omega)]; omega
      clear h8
      go_wp2_with fail
      go_meet
      exact ⟨rfl, rfl⟩
    | false =>
      go_wp2_with fail
      go_meet
      exact ⟨rfl, rfl⟩
  case rest =>
  obtain ⟨rfl, hwc⟩ := hcut
  have hwc' := hwc.symm
  clear hwc
  subst hwc'
  have t7 : decide ((65515 : Int) - (dn : Int) < poff) = true := decide_eq_true (by omega)
  go_wp2_with fail
  have zz0 : Bk _ (gx + 1) 26 #[.int .i64 0, .int .i64 0, .bool false, .bool false, .int .i64 0, .int .i64 0, .int .i64 0, .int .u32 0, .int .u32 0, .slice none 0 0, .slice none 0 0] := HZK.out.set 0 (.int .i64 0)
  have zz1 : Bk _ (gx + 1) 26 #[.int .i64 0, .int .i64 0, .bool false, .bool false, .int .i64 0, .int .i64 0, .int .i64 0, .int .u32 0, .int .u32 0, .slice none 0 0, .slice none 0 0] := zz0.set 1 (.int .i64 0)
  have zz2 : Bk _ (gx + 1) 26 #[.int .i64 0, .int .i64 0, .bool false, .bool false, .int .i64 0, .int .i64 0, .int .i64 0, .int .u32 0, .int .u32 0, .slice none 0 0, .slice none 0 0] := zz1.set 2 (.bool false)
  have zz3 : Bk _ (gx + 1) 26 #[.int .i64 0, .int .i64 0, .bool false, .bool false, .int .i64 0, .int .i64 0, .int .i64 0, .int .u32 0, .int .u32 0, .slice none 0 0, .slice none 0 0] := zz2.set 3 (.bool false)
  have zz4 : Bk _ (gx + 1) 26 #[.int .i64 0, .int .i64 0, .bool false, .bool false, .int .i64 0, .int .i64 0, .int .i64 0, .int .u32 0, .int .u32 0, .slice none 0 0, .slice none 0 0] := zz3.set 4 (.int .i64 0)
  have zz5 : Bk _ (gx + 1) 26 #[.int .i64 0, .int .i64 0, .bool false, .bool false, .int .i64 0, .int .i64 0, .int .i64 0, .int .u32 0, .int .u32 0, .slice none 0 0, .slice none 0 0] := zz4.set 5 (.int .i64 0)
  have zz6 : Bk _ (gx + 1) 26 #[.int .i64 0, .int .i64 0, .bool false, .bool false, .int .i64 0, .int .i64 0, .int .i64 0, .int .u32 0, .int .u32 0, .slice none 0 0, .slice none 0 0] := zz5.set 6 (.int .i64 0)
  have zz7 : Bk _ (gx + 1) 26 #[.int .i64 0, .int .i64 0, .bool false, .bool false, .int .i64 0, .int .i64 0, .int .i64 0, .int .u32 0, .int .u32 0, .slice none 0 0, .slice none 0 0] := zz6.set 7 (.int .u32 0)
  have zz8 : Bk _ (gx + 1) 26 #[.int .i64 0, .int .i64 0, .bool false, .bool false, .int .i64 0, .int .i64 0, .int .i64 0, .int .u32 0, .int .u32 0, .slice none 0 0, .slice none 0 0] := zz7.set 8 (.int .u32 0)
  have zz9 : Bk _ (gx + 1) 26 #[.int .i64 0, .int .i64 0, .bool false, .bool false, .int .i64 0, .int .i64 0, .int .i64 0, .int .u32 0, .int .u32 0, .slice none 0 0, .slice none 0 0] := zz8.set 9 (.slice none 0 0)
  have zz10 : Bk _ (gx + 1) 26 #[.int .i64 0, .int .i64 0, .bool false, .bool false, .int .i64 0, .int .i64 0, .int .i64 0, .int .u32 0, .int .u32 0, .slice none 0 0, .slice none 0 0] := zz9.set 10 (.slice none 0 0)
  have hcc := ((((((((((((Chg.refl (fun b => b = gx + 1) W).setCell (p := ⟨gx + 1, 0, none⟩) (.inl rfl) (.int .i64 0)).setCell (p := ⟨gx + 1, 1, none⟩) (.inl rfl) (.int .i64 0)).setCell (p := ⟨gx + 1, 2, none⟩) (.inl rfl) (.bool false)).setCell (p := ⟨gx + 1, 3, none⟩) (.inl rfl) (.bool false)).setCell (p := ⟨gx + 1, 4, none⟩) (.inl rfl) (.int .i64 0)).setCell (p := ⟨gx + 1, 5, none⟩) (.inl rfl) (.int .i64 0)).setCell (p := ⟨gx + 1, 6, none⟩) (.inl rfl) (.int .i64 0)).setCell (p := ⟨gx + 1, 7, none⟩) (.inl rfl) (.int .u32 0)).setCell (p := ⟨gx + 1, 8, none⟩) (.inl rfl) (.int .u32 0)).setCell (p := ⟨gx + 1, 9, none⟩) (.inl rfl) (.slice none 0 0)).setCell (p := ⟨gx + 1, 10, none⟩) (.inl rfl) (.slice none 0 0))
  refine bodyPost_ret (results_c2 rfl _ _ (gx + 1) _ _ _ _ rfl zz10 Try.underlying26 rfl (by kernel_rfl)) rfl ?_
  have hgx := HGX.out
  have h1 : Below w.heap.size w W := by have := HBW.out; rwa [← hgx] at this
  have hC : Chg (fun _ => False) w _ := (Chg.of_below h1).trans hcc (fun b e => .inr (by omega))
  have hB := hC.below (B := w.heap.size) (fun _ e => e.elim) (Nat.le_refl _)
  exact ⟨G, A, n, c, L, (zeroP, [], []), false, 5, none, none, 0, 0, 0, 0, rfl, HH.out.below hB, Rw.nil _ _ _, rfl, Rw.nil _ _ _, rfl, fun b hb => .inl hb, fun b hb => .inl hb, hC.mono (fun b _ e => e.elim), HRR.out⟩
end Go.Proofs.Ytcjkhonapafndaa
namespace Go.Proofs.Ytcjkhonapafndaa
open Go.RowKit
theorem sto_nodup {w : World} {ps : Nat} {F : Nat → Prop} {L : List Rec} (h : Sto w ps F L) : (L.map (·.k)).Nodup := by
  obtain ⟨mv, aA, ac, Ws, h1, h2, _, _⟩ := h
  subst h2
  rcases h1.mp with ⟨_, rfl, _⟩ | ⟨b, _, hI⟩
  · exact List.nodup_nil
  · obtain ⟨es, clock, _, hs, he⟩ := hI
    have hn := he.nodup hs
    unfold NoDup at hn
    have e : (Ws.map entW).map (·.1) = (Ws.map (·.r)).map (·.k) := by rw [List.map_map, List.map_map]; rfl
    rw [e] at hn
    exact hn
end Go.Proofs.Ytcjkhonapafndaa
namespace Go.Proofs.Ytcjkhonapafndaa
open Go.RowKit
/-- What a piece brings about in the reference's Store. -/
def RAddR (M : List RV) (p : PkV) (ol dl : List Int) (now : Int) (M' : List RV) (out : Pk3) (is : Bool) (er : Int) : Prop :=
  ((p.more = false ∧ p.off ≤ 0) ∧ M' = M ∧ out = (p, ol, dl) ∧ is = true ∧ er = 0) ∨
  (¬ (p.more = false ∧ p.off ≤ 0) ∧ FormBad p dl.length ∧ M' = M ∧ out = (zeroP, [], []) ∧ is = false ∧ er = 3) ∨
  (¬ (p.more = false ∧ p.off ≤ 0) ∧ ¬ FormBad p dl.length ∧ 65515 < p.off + dl.length ∧ M' = M ∧ out = (zeroP, [], []) ∧ is = false ∧ er = 5) ∨
  (¬ (p.more = false ∧ p.off ≤ 0) ∧ ¬ FormBad p dl.length ∧ Good p dl.length ∧ GoodV M p ol dl now M' out is er)
theorem good_off {p : PkV} {dn : Nat} (h : Good p dn) : ¬ 65515 < p.off + dn := by have := h.lng; omega
theorem add_same {L L' : List Rec} {M M' : List RV} {p : PkV} {ol dl : List Int} {now er er' : Int} {out out' : Pk3} {is is' : Bool} (h : RfL L M) (hn : (L.map (·.k)).Nodup) (hL : ∀ x ∈ L, RecOk x) (hp : p.Ok) (hol : ol.length ≤ 1000000)
    (h1 : AddR L p ol dl now L' out is er) (h2 : RAddR M p ol dl now M' out' is' er') : is = is' ∧ er = er' ∧ out = out' ∧ RfL L' M' := by
  rcases h1 with ⟨a, rfl, rfl, rfl, rfl⟩ | ⟨a, b, rfl, rfl, rfl, rfl⟩ | ⟨a, b, c, rfl, rfl, rfl, rfl⟩ | ⟨a, b, g, h1⟩ <;> rcases h2 with ⟨a', rfl, rfl, rfl, rfl⟩ | ⟨a', b', rfl, rfl, rfl, rfl⟩ | ⟨a', b', c', rfl, rfl, rfl, rfl⟩ | ⟨a', b', g', h2⟩ <;> first
    | exact ⟨rfl, rfl, rfl, h⟩
    | exact absurd a a'
    | exact absurd a' a
    | exact absurd b b'
    | exact absurd b' b
    | exact absurd c (good_off g')
    | exact absurd c' (good_off g)
    | exact good_same h hn hL g hp hol h1 h2
def tellF (f : Option (PkV × List Int × List Int)) : List Pk3 := match f with
  | some x => [x]
  | none => []
theorem outT_f (r : Rec) : outT r = tellF r.first := by unfold outT tellF; cases r.first <;> rfl
/-- What Tick leaves and tells, of the reference's Store. -/
def tickV (u : Int) (M : List RV) : List RV := M.filter (fun v => decide (u < v.bg))
def tellV (u : Int) (M : List RV) : List Pk3 := (M.filter (fun v => !decide (u < v.bg))).flatMap (fun v => tellF v.first)
theorem tick_same {L : List Rec} {M : List RV} (u : Int) (h : RfL L M) : RfL (tickL u L) (tickV u M) ∧ tickO u L = tellV u M := by
  induction h with
  | nil => exact ⟨.nil, rfl⟩
  | cons h1 h2 ih =>
    unfold tickL tickV tickO tellV at *
    rw [List.filter_cons, List.filter_cons, List.filter_cons, List.filter_cons]
    unfold keepB at ih ⊢
    rw [h1.bg]
    split
    · rename_i hd
      rw [hd]
      exact ⟨.cons h1 ih.1, by simpa using ih.2⟩
    · rename_i hd
      have hd' := (Bool.not_eq_true _).mp hd
      rw [hd']
      refine ⟨ih.1, ?_⟩
      simp only [Bool.not_false, if_true, List.flatMap_cons]
      rw [ih.2]
      congr 1
      rw [outT_f, h1.fst]
end Go.Proofs.Ytcjkhonapafndaa
namespace Go.Proofs.Ytcjkhonapafndaa
open Go.RowKit
theorem later_any (a : Int) (h0 : 0 ≤ a) (h1 : a ≤ 1099511627776) (w : World) :
    Calls Try.prog 49 #[.int .i64 a, .int .i64 300] w fun e w' => e = .returned (.int .i64 (a + 300)) ∧ w' = w := by
  have t1 : decide (a + 300 < a) = false := decide_eq_false (by omega)
  have t2 : decide (a < a + 300) = true := decide_eq_true (by omega)
  go_enter Try.func49, Try.ntmps49
  go_wp2
  go_ret
  exact ⟨rfl, rfl⟩
end Go.Proofs.Ytcjkhonapafndaa
namespace Go.Proofs.Ytcjkhonapafndaa
open Go.RowKit
section
variable {ops : Array Oper} {rest : List Oper} {o : Oper} {a : Act} {w : World} {Q : Exit → Act → World → Prop}
/-- A row with one whole. -/
theorem lit_rs (hgd : o.guard = none) (t : Nat) (ho : o.op = .buildSlice 58 1 #[(0, .tmp t)]) (y : RVm) (he : a.eval (.tmp t) = .agg (rvC y).toArray)
    (h : wpList Try.prog ops Q rest (a.put o.dst (.slice (some ⟨w.heap.size, 0, none⟩) 1 1)) (w.alloc (.cells (rvC y).toArray 94))) : wpList Try.prog ops Q (o :: rest) a w :=
  wpList_plain hgd fun _ hK => ra_lit t y ho he (hK _ _ h)
/-- One whole more. -/
theorem ap_rs (hgd : o.guard = none) (s x : Operand)
    (ho : o.op = .call { callee := .builtin .append, args := #[s, x], argTypes := #[58, 58] })
    (base : Nat) {A : Option Addr} {n c : Nat} {L : List RVm} (hs : a.eval s = .slice A n c) (hown : Rs w base A n c L)
    (y : RVm) (hx : a.eval x = .slice (some ⟨w.heap.size, 0, none⟩) 1 1) (hsz : n ≤ 100000) (hbase : base ≤ w.heap.size)
    (h : ∀ A' c' w', Rs w' base A' (n + 1) c' (L ++ [y]) → w.grownBy w' (blk A) → wpList Try.prog ops Q rest (a.put o.dst (.slice A' (n + 1) c')) w') :
    wpList Try.prog ops Q (o :: rest) a (w.alloc (.cells (rvC y).toArray 94)) := by
  obtain ⟨i, h1, h2, h3, h4⟩ := info_rw
  refine wpList_append_own (w.alloc (.cells (rvC y).toArray 94)) hgd s x 58 ho base 94 i _ 20 200 Try.underlying58 h1 h2 h3 h4 rfl (by omega)
    (.slice A n c) n (rvsC L) hs (World.ownsRow.alloc hown _) ⟨w.heap.size, 0, none⟩ 1 1 (rvC y) hx (by rw [rvC_len]) (fun j u hu => ?_) (rvC_one y) (by unfold maxLen; omega) (by omega) (by rw [World.size_alloc]; omega) fun v' w' q1 q2 _ => ?_
  · rw [add_eq, Nat.zero_add]
    have := (Bk.new w 94 (rvC y).toArray).cell j
    rw [this]; simpa using hu
  · have q1' : w'.ownsRow base 94 20 v' (n + 1) (rvsC (L ++ [y])) := by
      have e : rvsC L ++ rvC y = rvsC (L ++ [y]) := by rw [rvsC_append]; simp [rvsC]
      rw [← e]; exact q1
    have q2' : w.grownBy w' (blk A) := by
      have := (World.grownBy_alloc w (.cells (rvC y).toArray 94) _).trans q2
      rwa [ownBlock_slice] at this
    rcases q1'.2 with ⟨h5, h6⟩ | ⟨g, cap, cur, h5, h6⟩
    · omega
    · subst h5
      exact h _ _ _ q1' q2'
end
theorem Rs.neP {w : World} {base base' n c : Nat} {A : Option Addr} {L : List RVm} {v : Value} {nb : Nat} {Lp : List Pm} (h : PsAt w base v nb Lp) (ho : Rs w base' A n c L) : blk A = none ∨ blk A ≠ v.ownBlock := by
  rcases ho.cases_ with ⟨rfl, _⟩ | ⟨g, cur, rfl, _, h3, _⟩
  · exact .inl rfl
  · refine .inr fun e => ?_
    rcases h.2 with ⟨h5, _⟩ | ⟨g', cap, cur', h5, _, h7, _⟩
    · rw [h5] at e; cases e
    · rw [h5, ownBlock_slice] at e
      have e2 : g = g' := by simpa [blk] using e
      subst e2
      rw [h3] at h7
      injection h7 with h7
      injection h7 with _ h7
      cases h7
theorem PsAt.neR {w : World} {base base' n c : Nat} {A : Option Addr} {L : List RVm} {v : Value} {nb : Nat} {Lp : List Pm} (h : PsAt w base v nb Lp) (ho : Rs w base' A n c L) : v.ownBlock = none ∨ v.ownBlock ≠ blk A := by
  rcases Rs.neP h ho with e | e
  · cases hv : v.ownBlock with
    | none => exact .inl rfl
    | some g => exact .inr (by rw [e]; simp)
  · exact .inr (fun k => e k.symm)
/-- A whole's first piece, as it lies in memory. -/
def fstP (x : RVm) : Pm := ⟨x.f, x.oA, x.on, x.oc, x.ol, x.fA, x.fn, x.fc, x.fl⟩
def tellM (x : RVm) : List Pm := if x.hf then [fstP x] else []
def keepM (u : Int) (x : RVm) : Bool := decide (u < x.bg)
theorem tellM_plain (x : RVm) : (tellM x).map Pm.plain = tellF x.rv.first := by
  unfold tellM tellF RVm.rv fstP Pm.plain
  cases x.hf <;> rfl
theorem keep_map (u : Int) (L : List RVm) : (L.filter (keepM u)).map RVm.rv = tickV u (L.map RVm.rv) := by
  unfold tickV
  rw [List.filter_map]
  rfl
theorem tell_map (u : Int) (L : List RVm) : ((L.filter (fun x => !keepM u x)).flatMap tellM).map Pm.plain = tellV u (L.map RVm.rv) := by
  unfold tellV
  rw [List.filter_map, List.map_flatMap, List.flatMap_map]
  congr 1
  funext x
  exact tellM_plain x
/-- How far Tick has come. -/
structure RtS (w : World) (L : List RVm) (u : Int) (k : Nat) (A6 : Option Addr) (n6 c6 : Nat) (B : Option Addr) (nb cb : Nat) (wr : World) : Prop where
  bl : Below w.heap.size w wr
  l : Rs wr w.heap.size A6 n6 c6 ((L.take k).filter (keepM u))
  o : PsAt wr w.heap.size (.slice B nb cb) nb (((L.take k).filter (fun x => !keepM u x)).flatMap tellM)
section
variable {w : World} {L : List RVm} {u : Int} {k : Nat} {A6 B : Option Addr} {n6 c6 nb cb : Nat} {wr w2 : World} {x : RVm}
theorem RtS.le6 (h : RtS w L u k A6 n6 c6 B nb cb wr) (hL : L.length ≤ 1000) : n6 ≤ 1000 := by
  have := h.l.len
  have h2 := List.length_filter_le (keepM u) (L.take k)
  rw [List.length_take] at h2
  omega
theorem tell_len (u : Int) (L : List RVm) : ((L.filter (fun x => !keepM u x)).flatMap tellM).length ≤ L.length := by
  induction L with
  | nil => exact Nat.le_refl _
  | cons x r ih =>
    rw [List.filter_cons]
    split
    · rw [List.flatMap_cons, List.length_append, List.length_cons]
      have : (tellM x).length ≤ 1 := by unfold tellM; split <;> simp
      omega
    · rw [List.length_cons]; omega
theorem RtS.leB (h : RtS w L u k A6 n6 c6 B nb cb wr) (hL : L.length ≤ 1000) : nb ≤ 1000 := by
  have := h.o.len
  have h2 := tell_len u (L.take k)
  rw [List.length_take] at h2
  omega
theorem take_snoc (hk : L[k]? = some x) : L.take (k + 1) = L.take k ++ [x] := by
  rw [List.take_add_one, hk]; rfl
/-- It stays. -/
theorem RtS.keep {A' : Option Addr} {c' : Nat} (h : RtS w L u k A6 n6 c6 B nb cb wr) (hk : L[k]? = some x) (hb : keepM u x = true) (hR : Rs w2 w.heap.size A' (n6 + 1) c' ((L.take k).filter (keepM u) ++ [x])) (hG : wr.grownBy w2 (blk A6)) :
    RtS w L u (k + 1) A' (n6 + 1) c' B nb cb w2 := by
  refine ⟨((Chg.of_below (F := fun _ => False) h.bl).trans (Chg.of_grown (F := fun b => blk A6 = some b) hG (fun b e => e)) (fun b e => .inr (h.l.lt b e).1)).below (B := w.heap.size) (fun _ e => e.elim) (Nat.le_refl _), ?_, ?_⟩
  · rw [take_snoc hk, List.filter_append, List.filter_cons, if_pos hb]; exact hR
  · rw [take_snoc hk, List.filter_append, List.filter_cons, if_neg (by simp [hb]), List.filter_nil, List.append_nil]
    exact World.ownsRow.kept h.o hG (PsAt.neR h.o h.l)
/-- It goes, with no word of it. -/
theorem RtS.skip (h : RtS w L u k A6 n6 c6 B nb cb wr) (hk : L[k]? = some x) (hb : keepM u x = false) (ht : tellM x = []) : RtS w L u (k + 1) A6 n6 c6 B nb cb wr := by
  refine ⟨h.bl, ?_, ?_⟩
  · rw [take_snoc hk, List.filter_append, List.filter_cons, if_neg (by simp [hb]), List.filter_nil, List.append_nil]; exact h.l
  · rw [take_snoc hk, List.filter_append, List.filter_cons, if_pos (by simp [hb]), List.flatMap_append]
    simp only [List.filter_nil, List.flatMap_cons, List.flatMap_nil, ht, List.append_nil]
    exact h.o
/-- It goes, and its first piece is told. -/
theorem RtS.tell {B' : Option Addr} {cb' : Nat} (h : RtS w L u k A6 n6 c6 B nb cb wr) (hk : L[k]? = some x) (hb : keepM u x = false) (ht : tellM x = [fstP x]) (hP : PsAt w2 w.heap.size (.slice B' (nb + 1) cb') (nb + 1) (((L.take k).filter (fun x => !keepM u x)).flatMap tellM ++ [fstP x])) (hG : wr.grownBy w2 (blk B)) :
    RtS w L u (k + 1) A6 n6 c6 B' (nb + 1) cb' w2 := by
  refine ⟨((Chg.of_below (F := fun _ => False) h.bl).trans (Chg.of_grown (F := fun b => blk B = some b) hG (fun b e => e)) (fun b e => .inr (World.ownsRow.lt h.o b (by rw [ownBlock_slice]; exact e)).1)).below (B := w.heap.size) (fun _ e => e.elim) (Nat.le_refl _), ?_, ?_⟩
  · rw [take_snoc hk, List.filter_append, List.filter_cons, if_neg (by simp [hb]), List.filter_nil, List.append_nil]
    have hne := Rs.neP h.o h.l
    rw [ownBlock_slice] at hne
    exact World.ownsRow.kept h.l hG (by rw [ownBlock_slice]; exact hne)
  · rw [take_snoc hk, List.filter_append, List.filter_cons, if_pos (by simp [hb]), List.flatMap_append]
    simp only [List.filter_nil, List.flatMap_cons, List.flatMap_nil, ht, List.append_nil]
    exact hP
end
theorem PsAt.slice_ {w : World} {base : Nat} {v : Value} {n : Nat} {L : List Pm} (h : PsAt w base v n L) : ∃ B c, v = .slice B n c := by
  rcases h.2 with ⟨h1, h2⟩ | ⟨g, cap, cur, h1, _⟩
  · exact ⟨none, 0, by rw [h1, h2]⟩
  · exact ⟨_, _, h1⟩
theorem PsAt.slice_1 {w : World} {base : Nat} {v : Value} {n : Nat} {L : List Pm} (h : PsAt w base v n L) : ∃ B c, v = .slice B n c := h.slice_
section
variable {ops : Array Oper} {rest : List Oper} {o : Oper} {a : Act} {w : World} {Q : Exit → Act → World → Prop}
/-- A whole's first piece is loaded out of the row. -/
theorem ld_firstR (hgd : o.guard = none) (z : Operand) (ho : o.op = .load 26 z) {g off : Nat} (hx : a.eval z = .pointer (some ⟨g, off + 8, none⟩)) (x : RVm) (hb : w.rangeAt g off (rvC x))
    (h : wpList Try.prog ops Q rest (a.put o.dst (.agg ([.int .i64 x.f.svc, .int .i64 x.f.id, .bool x.f.whole, .bool x.f.more, .int .i64 x.f.off, .int .i64 x.f.life, .int .i64 x.f.proto, .int .u32 x.f.src, .int .u32 x.f.dst, .slice x.oA x.on x.oc, .slice x.fA x.fn x.fc] : List Value).toArray)) w) : wpList Try.prog ops Q (o :: rest) a w := by
  obtain ⟨d, hu, hd⟩ := pk_row
  refine wpList_load_mid hgd _ z ho g (off + 8) hx [.int .i64 x.f.svc, .int .i64 x.f.id, .bool x.f.whole, .bool x.f.more, .int .i64 x.f.off, .int .i64 x.f.life, .int .i64 x.f.proto, .int .u32 x.f.src, .int .u32 x.f.dst, .slice x.oA x.on x.oc, .slice x.fA x.fn x.fc] d (fun j u hu => ?_) hu hd pk_size h
  have e : ([.int .i64 x.f.svc, .int .i64 x.f.id, .bool x.f.whole, .bool x.f.more, .int .i64 x.f.off, .int .i64 x.f.life, .int .i64 x.f.proto, .int .u32 x.f.src, .int .u32 x.f.dst, .slice x.oA x.on x.oc, .slice x.fA x.fn x.fc] : List Value) = ((rvC x).drop 8).take 11 := rfl
  rw [e, List.getElem?_take] at hu
  split at hu
  · rw [List.getElem?_drop] at hu
    rw [Nat.add_assoc]
    exact hb (8 + j) u hu
  · cases hu
/-- A row with one packet. -/
theorem pk_fill (x : RVm) : Instr.fill (fun i => some (i * 11, 11)) ((Array.range (1 * 11)).map ((Value.agg #[.int .i64 0, .int .i64 0, .bool false, .bool false, .int .i64 0, .int .i64 0, .int .i64 0, .int .u32 0, .int .u32 0, .slice none 0 0, .slice none 0 0]).cells[· % (Value.agg #[.int .i64 0, .int .i64 0, .bool false, .bool false, .int .i64 0, .int .i64 0, .int .i64 0, .int .u32 0, .int .u32 0, .slice none 0 0, .slice none 0 0]).cells.size]!)) [(0, .agg ([.int .i64 x.f.svc, .int .i64 x.f.id, .bool x.f.whole, .bool x.f.more, .int .i64 x.f.off, .int .i64 x.f.life, .int .i64 x.f.proto, .int .u32 x.f.src, .int .u32 x.f.dst, .slice x.oA x.on x.oc, .slice x.fA x.fn x.fc] : List Value).toArray)] = some ([.int .i64 x.f.svc, .int .i64 x.f.id, .bool x.f.whole, .bool x.f.more, .int .i64 x.f.off, .int .i64 x.f.life, .int .i64 x.f.proto, .int .u32 x.f.src, .int .u32 x.f.dst, .slice x.oA x.on x.oc, .slice x.fA x.fn x.fc] : List Value).toArray := by kernel_rfl
theorem lit_pk (hgd : o.guard = none) (t : Nat) (ho : o.op = .buildSlice 29 1 #[(0, .tmp t)]) (x : RVm) (he : a.eval (.tmp t) = .agg ([.int .i64 x.f.svc, .int .i64 x.f.id, .bool x.f.whole, .bool x.f.more, .int .i64 x.f.off, .int .i64 x.f.life, .int .i64 x.f.proto, .int .u32 x.f.src, .int .u32 x.f.dst, .slice x.oA x.on x.oc, .slice x.fA x.fn x.fc] : List Value).toArray)
    (h : wpList Try.prog ops Q rest (a.put o.dst (.slice (some ⟨w.heap.size, 0, none⟩) 1 1)) (w.alloc (.cells (pmC (fstP x)).toArray 26))) : wpList Try.prog ops Q (o :: rest) a w := by
  obtain ⟨ie, i1, i2, i3, i4⟩ := info_pkt
  refine wpList_plain hgd fun K hK => wp_buildSlice 29 26 1 _ ho ([.int .i64 x.f.svc, .int .i64 x.f.id, .bool x.f.whole, .bool x.f.more, .int .i64 x.f.off, .int .i64 x.f.life, .int .i64 x.f.proto, .int .u32 x.f.src, .int .u32 x.f.dst, .slice x.oA x.on x.oc, .slice x.fA x.fn x.fc] : List Value).toArray ie (Value.agg #[.int .i64 0, .int .i64 0, .bool false, .bool false, .int .i64 0, .int .i64 0, .int .i64 0, .int .u32 0, .int .u32 0, .slice none 0 0, .slice none 0 0]) Try.underlying29 i1 i2 (by rw [i3]; decide) (by rw [i3]; decide) ?_ (hK _ _ h)
  simp only [List.map_toArray, List.map_cons, List.map_nil, he, i3]
  exact pk_fill x
end
/-- What Tick brings about. -/
def RtkPost (w : World) (q : Nat) (G : Nat → Prop) (L : List RVm) (u : Int) (e : Ending) (w' : World) : Prop :=
  ∃ (A' : Option Addr) (n' c' : Nat) (B : Option Addr) (nb cb : Nat) (L' : List RVm) (Lp : List Pm), e = .returned (.slice B nb cb) ∧ RfS w' q G A' n' c' L' ∧ L'.map RVm.rv = tickV u (L.map RVm.rv) ∧ Lp.map Pm.plain = tellV u (L.map RVm.rv) ∧
    PsAt w' w.heap.size (.slice B nb cb) nb Lp ∧ PmsRd w' w'.heap.size Lp ∧ Chg (fun b => b = q) w w' ∧ ∀ b, blk A' = some b → w.heap.size ≤ b
set_option maxHeartbeats 8000000 in
set_option maxRecDepth 100000 in
theorem rtick_any (q : Nat) (G : Nat → Prop) (A : Option Addr) (n c : Nat) (L : List RVm) (now : Int) (w : World) (h : RfS w q G A n c L) (hn : n ≤ 1000) (hb : ∀ x ∈ L, 0 ≤ x.bg ∧ x.bg ≤ 1099511627776) (h0 : 0 ≤ now) (h1 : now ≤ 1099511627776) :
    Calls Try.prog 25 #[.pointer (some ⟨q, 0, none⟩), .int .i64 now] w (RtkPost w q G L (now - 300)) := by
  have hlen := h.st.2.1.len
  have HS := Lib.hid h
  have HLEN := Lib.hid hlen
  have HB := Lib.hid hb
  have hn0 : (0 : Int) ≤ (n : Int) := by omega
  clear hlen h hb
  go_enter Try.func25, Try.ntmps25
  go_wp2_with fail
  go_loopw [5, 6, 7] (fun v5 v6 v7 wr => ∃ k A6 n6 c6 B nb cb, k ≤ n ∧ v5 = .slice B nb cb ∧ v6 = .slice A6 n6 c6 ∧ v7 = .int .i64 (k : Nat) ∧ Hid (RtS w L (now - 300) k A6 n6 c6 B nb cb wr)) (fun _ _ v7 _ => n - (intOf v7).toNat)
  case atStart => exact ⟨0, none, 0, 0, none, 0, 0, Nat.zero_le _, rfl, rfl, rfl, Lib.hid ⟨Below.refl _ _, Rs.none_ _ _, World.ownsRow_nil _ _ _ _⟩⟩
  case round =>
    obtain ⟨k, A6, n6, c6, B, nb, cb, hk, rfl, rfl, rfl, HR⟩ := hrel
    have hSr := HS.out.below HR.out.bl
    have HSR := Lib.hid hSr
    have c0 : wr.cell? ⟨q, 0, none⟩ = some (.slice A n c) := hSr.st.1.cell 0
    have hn6 := HR.out.le6 (by have := HLEN.out; omega)
    have hnb := HR.out.leB (by have := HLEN.out; omega)
    have hzz := HR.out.bl.size
    rcases Nat.lt_or_ge k n with r | r
    · have t1 : decide ((k : Int) < (n : Int)) = true := decide_eq_true (by omega)
      have hki : (0 : Int) ≤ (k : Int) ∧ (k : Int) < (n : Int) := by omega
      obtain ⟨x, hx⟩ : ∃ x, L[k]? = some x := ⟨_, List.getElem?_eq_getElem (by have := HLEN.out; omega)⟩
      obtain ⟨g, rfl, _, hg, hcl⟩ := hSr.st.2.1.cell hx
      have HRG := Lib.hid (hSr.st.2.1.range hx)
      have hx4 : wr.cell? ⟨g, k * 20 + 4, none⟩ = some (.int .i64 x.bg) := (hcl 4 _ rfl).1
      have hx9 : wr.cell? ⟨g, k * 20 + 19, none⟩ = some (.bool x.hf) := (hcl 19 _ rfl).1
      obtain ⟨bg, hbg⟩ : ∃ b, x.bg = b := ⟨_, rfl⟩
      obtain ⟨hf, hhf⟩ : ∃ b, x.hf = b := ⟨_, rfl⟩
      rw [hbg] at hx4
      rw [hhf] at hx9
      have hbb := HB.out x (List.mem_of_getElem? hx)
      rw [hbg] at hbb
      obtain ⟨hb1, hb2⟩ := hbb
      have HX := Lib.hid (And.intro hx (And.intro hbg hhf))
      have HLT := Lib.hid (fun w' => later_any bg hb1 hb2 w')
      clear hcl hx hbg hhf hSr
      have hkeep : keepM (now - 300) x = decide (now - 300 < bg) := by unfold keepM; rw [HX.out.2.1]
      have HKP := Lib.hid hkeep
      clear hkeep
      rcases Int.lt_or_le (now - 300) bg with rk | rk
      · as_aux_lemma =>
        have t2 : decide (now < bg + 300) = true := decide_eq_true (by omega)
        have HKE : Hid (keepM (now - 300) x = true) := Lib.hid (by rw [HKP.out]; exact decide_eq_true rk)
        go_wp2_with (first
          | (go_at_call 49; refine (HLT.out _).mono ?_; rintro e9 w9 ⟨rfl, rfl⟩)
          | (refine ld_rw rfl (.tmp 34) rfl rfl x HRG.out ?_)
          | (refine lit_rs rfl 35 rfl x rfl ?_)
          | (refine ap_rs rfl (.tmp 28) (.tmp 36) rfl w.heap.size rfl HR.out.l x rfl (by omega) hzz ?_; intro A2 c2 w2 hR2 hG2))
        have HN := Lib.hid (HR.out.keep HX.out.1 HKE.out hR2 hG2)
        clear hR2 hG2
        go_wp2_with fail
        go_roundw
        case rel => exact ⟨k + 1, A2, n6 + 1, c2, B, nb, cb, by omega, rfl, by go_num, by go_num, HN⟩
        case measure => simp [intOf]; omega
      · have t2 : decide (now < bg + 300) = false := decide_eq_false (by omega)
        have HKE : Hid (keepM (now - 300) x = false) := Lib.hid (by rw [HKP.out]; exact decide_eq_false (by omega))
        cases hf with
        | false =>
          as_aux_lemma =>
          go_wp2_with (first
            | (go_at_call 49; refine (HLT.out _).mono ?_; rintro e9 w9 ⟨rfl, rfl⟩))
          have HN := Lib.hid (HR.out.skip HX.out.1 HKE.out (by unfold tellM; rw [HX.out.2.2]; rfl))
          go_roundw
          case rel => exact ⟨k + 1, A6, n6, c6, B, nb, cb, by omega, rfl, rfl, by go_num, HN⟩
          case measure => simp [intOf]; omega
        | true =>
          as_aux_lemma =>
          go_wp2_with (first
            | (go_at_call 49; refine (HLT.out _).mono ?_; rintro e9 w9 ⟨rfl, rfl⟩)
            | (refine ld_firstR rfl (.tmp 53) rfl rfl x HRG.out ?_)
            | (refine lit_pk rfl 54 rfl x rfl ?_)
            | (refine ap_pk (v := .slice B nb cb) rfl (.tmp 46) (.tmp 55) rfl w.heap.size rfl HR.out.o (fstP x) rfl rfl (by omega) hzz ?_; intro v2 w2 hP2 hG2; obtain ⟨B2, cb2, rfl⟩ := hP2.slice_1))
          have hG3 := hG2
          try rw [ownBlock_slice] at hG3
          have HN := Lib.hid (HR.out.tell HX.out.1 HKE.out (by unfold tellM; rw [HX.out.2.2]; rfl) hP2 hG3)
          clear hP2 hG2 hG3
          go_wp2_with fail
          go_roundw
          case rel => exact ⟨k + 1, A6, n6, c6, B2, nb + 1, cb2, by omega, by go_num, rfl, by go_num, HN⟩
          case measure => simp [intOf]; omega
    · obtain rfl : k = n := by omega
      have t1 : decide ((k : Int) < (k : Int)) = false := decide_eq_false (by omega)
      have hfq : wr.frozen? ⟨q, 0, none⟩ = false := HSR.out.st.1.frozen 0
      go_wp2_with fail
      go_ret
      have hS0 := HS.out
      have hql : q < w.heap.size := hS0.st.1.lt
      have hlk : L.take k = L := List.take_of_length_le (by rw [HLEN.out]; exact Nat.le_refl _)
      have hl := HR.out.l
      have ho := HR.out.o
      rw [hlk] at hl ho
      have hc : Chg (fun b => b = q) wr (wr.setCell ⟨q, 0, none⟩ (.slice A6 n6 c6)) := (Chg.refl (fun b => b = q) wr).setCell (p := ⟨q, 0, none⟩) (.inl rfl) _
      have hA6 : ∀ b, blk A6 = some b → w.heap.size ≤ b := fun b hb => (hl.lt b hb).1
      have hok : ∀ x ∈ L, RvOk (wr.setCell ⟨q, 0, none⟩ (.slice A6 n6 c6)) G x := fun x hx => (HSR.out.ok x hx).chg hc (fun b hb e => hS0.nq (e ▸ hb))
      refine ⟨A6, n6, c6, B, nb, cb, L.filter (keepM (now - 300)), _, rfl, ⟨⟨HSR.out.st.1.set 0 _, (hl.mono (Nat.zero_le _)).chg hc (fun b hb e => ?_), fun e => ?_⟩, fun x hx => hok x (List.mem_filter.1 hx).1, hS0.nq, fun b hb hg => ?_, fun b hb => ?_⟩, keep_map _ _, tell_map _ _, ho.chg hc (fun b e => ?_), fun y hy => ?_, (Chg.of_below HR.out.bl).trans hc (fun b e => .inl e), hA6⟩
      · have h1 := hA6 b hb
        have h2 : b = q := e
        omega
      · have h1 := hA6 q e; omega
      · have h1 := hA6 b hb
        have h2 := hS0.lt b hg; omega
      · exact Nat.lt_of_lt_of_le (HSR.out.lt b hb) hc.size
      · have h2 : b = q := e
        omega
      · obtain ⟨x, hx, hxy⟩ := List.mem_flatMap.1 hy
        have hr := hok x (List.mem_filter.1 hx).1
        unfold tellM at hxy
        split at hxy
        · rw [List.mem_singleton] at hxy
          subst hxy
          exact ⟨.inl hr.o, hr.f, hr.ol, hr.fl, hr.cp.1, hr.cp.2⟩
        · cases hxy
end Go.Proofs.Ytcjkhonapafndaa
namespace Go.Proofs.Ytcjkhonapafndaa
open Go.RowKit
/-- A whole's bytes are bytes, and not too many. -/
structure VOk (v : RV) : Prop where
  bs : ∀ c : Nat, v.has[c]? = some true → ∃ x, v.data[c]? = some x ∧ 0 ≤ x ∧ x < 256
  dl : v.data.length ≤ 65515
  hl : v.has.length ≤ 65515
  fs : ∀ p ol dl, v.first = some (p, ol, dl) → Bs ol ∧ Bs dl ∧ ol.length ≤ 1000000 ∧ dl.length ≤ 1000000
theorem VOk.new (k : K4) (now : Int) : VOk (newV k now) := ⟨(fun c h => by simp [newV] at h), Nat.zero_le _, Nat.zero_le _, (fun p ol dl h => by cases h)⟩
theorem VOk.lay {v v' : RV} {p : PkV} {ol dl : List Int} (h : VOk v) (hl : LayV v p ol dl v') (hg : Good p dl.length) (ho : Bs ol) (hd : Bs dl) (hol : ol.length ≤ 1000000) (hdl : dl.length ≤ 1000000) : VOk v' := by
  obtain ⟨v1, v2, v3, v4, v5, v6, v7, v8, v9⟩ := hl
  have h1 := hg.lng
  have h2 := hg.off
  have h3 := h.hl
  refine ⟨fun c hc => ?_, by omega, by omega, fun q ol' dl' e => ?_⟩
  · by_cases hh : v.has[c]? = some true
    · rw [v8 c hh]; exact h.bs c hh
    · rcases (v7 c).1 hc with q | ⟨q1, q2⟩
      · exact absurd q hh
      · rw [v9 c hh q1 q2]
        have hx : dl[c - p.off.toNat]? = some dl[c - p.off.toNat] := List.getElem?_eq_getElem (by omega)
        exact ⟨_, hx, hd _ (List.mem_of_getElem? hx)⟩
  · rw [v4] at e
    split at e
    · injection e with e
      injection e with e1 e
      injection e with e2 e3
      subst e2; subst e3
      exact ⟨ho, hd, hol, hdl⟩
    · exact h.fs _ _ _ e
theorem VOk.out {v : RV} (h : VOk v) (hd : DoneV v) : Bs (outV v).2.1 ∧ Bs (outV v).2.2 ∧ (outV v).2.1.length ≤ 1000000 ∧ (outV v).2.2.length ≤ 1000000 := by
  have hb : Bs (v.data.take v.fin.toNat) := fun x hx => by
    obtain ⟨c, hc⟩ := List.getElem?_of_mem hx
    rw [List.getElem?_take] at hc
    split at hc
    · next hl =>
      obtain ⟨y, hy, h1⟩ := h.bs c (hd.2.2 c (by have := hd.1; omega))
      rw [hy] at hc
      injection hc with hc
      subst hc; exact h1
    · cases hc
  have hl : (v.data.take v.fin.toNat).length ≤ 1000000 := by have := h.dl; rw [List.length_take]; omega
  unfold outV
  cases e : v.first with
  | none => exact ⟨(fun x hx => by cases hx), hb, Nat.zero_le _, hl⟩
  | some f =>
    obtain ⟨p, ol, dl⟩ := f
    obtain ⟨h1, _, h2, _⟩ := h.fs p ol dl e
    exact ⟨h1, hb, h2, hl⟩
/-- What holds of all that are put together. -/
def VsOk (now : Int) (M : List RV) : Prop := ∀ x ∈ M, VOk x ∧ 0 ≤ x.bg ∧ x.bg ≤ now
theorem OfV.vok {M : List RV} {k : K4} {now : Int} {K1 K2 : List RV} {v : RV} {old : Bool} (h : OfV M k now K1 v K2 old) (hM : VsOk now M) (h0 : 0 ≤ now) : VsOk now K1 ∧ (VOk v ∧ 0 ≤ v.bg ∧ v.bg ≤ now) ∧ VsOk now K2 := by
  rcases h with ⟨_, rfl, _⟩ | ⟨_, _, rfl, rfl, h⟩
  · exact ⟨fun x hx => hM x (List.mem_append_left _ hx), hM v (by simp), fun x hx => hM x (by simp [hx])⟩
  · refine ⟨?_, ⟨VOk.new k now, h0, Int.le_refl _⟩, fun x hx => by cases hx⟩
    rcases h with ⟨_, rfl⟩ | ⟨_, A, x, B, rfl, _, rfl⟩
    · exact hM
    · exact fun y hy => hM y (by rcases List.mem_append.1 hy with q | q <;> simp [q])
theorem RAddR.vok {M M' : List RV} {p : PkV} {ol dl : List Int} {now er : Int} {out : Pk3} {is : Bool} (h : RAddR M p ol dl now M' out is er) (hM : VsOk now M) (h0 : 0 ≤ now) (ho : Bs ol) (hd : Bs dl) (hol : ol.length ≤ 1000000) (hdl : dl.length ≤ 1000000) :
    VsOk now M' ∧ Bs out.2.1 ∧ Bs out.2.2 ∧ out.2.1.length ≤ 1000000 ∧ out.2.2.length ≤ 1000000 := by
  have nil : Bs [] := fun x hx => by cases hx
  rcases h with ⟨_, rfl, rfl, _⟩ | ⟨_, _, rfl, rfl, _⟩ | ⟨_, _, _, rfl, rfl, _⟩ | ⟨_, _, hg, K1, v, K2, old, hO, hc⟩
  · exact ⟨hM, ho, hd, hol, hdl⟩
  · exact ⟨hM, nil, nil, Nat.zero_le _, Nat.zero_le _⟩
  · exact ⟨hM, nil, nil, Nat.zero_le _, Nat.zero_le _⟩
  · obtain ⟨q1, ⟨q2, q3, q4⟩, q5⟩ := hO.vok hM h0
    rcases hc with ⟨_, _, rfl, rfl, _⟩ | ⟨_, _, v', hl, ⟨hD, rfl, rfl, _⟩ | ⟨_, rfl, rfl, _⟩⟩
    · exact ⟨hM, nil, nil, Nat.zero_le _, Nat.zero_le _⟩
    · refine ⟨fun x hx => ?_, (q2.lay hl hg ho hd hol hdl).out hD⟩
      rcases List.mem_append.1 hx with hx | hx
      · exact q1 x hx
      · exact q5 x hx
    · refine ⟨fun x hx => ?_, nil, nil, Nat.zero_le _, Nat.zero_le _⟩
      rcases List.mem_append.1 hx with hx | hx
      · exact q1 x hx
      · rcases List.mem_cons.1 hx with rfl | hx
        · exact ⟨q2.lay hl hg ho hd hol hdl, by rw [hl.2.1]; exact q3, by rw [hl.2.1]; exact q4⟩
        · exact q5 x hx
theorem VsOk.mono {now now' : Int} {M : List RV} (h : VsOk now M) (hn : now ≤ now') : VsOk now' M := fun x hx => ⟨(h x hx).1, (h x hx).2.1, by have := (h x hx).2.2; omega⟩
theorem VsOk.tick {now u : Int} {M : List RV} (h : VsOk now M) : VsOk now (tickV u M) := fun x hx => h x (List.mem_filter.1 hx).1
theorem VsOk.tell {now u : Int} {M : List RV} (h : VsOk now M) : ∀ y ∈ tellV u M, Bs y.2.1 ∧ Bs y.2.2 ∧ y.2.1.length ≤ 1000000 ∧ y.2.2.length ≤ 1000000 := fun y hy => by
  obtain ⟨v, hv, hy⟩ := List.mem_flatMap.1 hy
  have hk := (h v (List.mem_filter.1 hv).1).1
  unfold tellF at hy
  cases e : v.first with
  | none => rw [e] at hy; cases hy
  | some f =>
    rw [e] at hy
    obtain ⟨p, ol, dl⟩ := f
    rw [List.mem_singleton] at hy
    subst hy
    exact hk.fs _ _ _ e
/-! ### the reference's Add of whatever packet -/
theorem RaPost.imp {w w' : World} {q : Nat} {A : Option Addr} {G : Nat → Prop} {M : List RV} {oA dA : Option Addr} {ol dl : List Int} {R R' : List RV → Pk3 → Bool → Int → Prop} {e : Ending} (h : RaPost w q A G M oA dA ol dl R e w') (hR : ∀ M' out is er, R M' out is er → R' M' out is er) : RaPost w q A G M oA dA ol dl R' e w' := by
  obtain ⟨a1, a2, a3, a4, a5, a6, a7, a8, a9, a10, a11, a12, a13, a14, q1, q2, q3, q4, q5, q6, q7, q8, q9, q10⟩ := h
  exact ⟨a1, a2, a3, a4, a5, a6, a7, a8, a9, a10, a11, a12, a13, a14, q1, q2, q3, q4, q5, q6, q7, q8, q9, hR _ _ _ _ q10⟩
theorem radd_any (q : Nat) (G : Nat → Prop) (A : Option Addr) (n c : Nat) (L : List RVm) (p : PkV) (oA dA : Option Addr) (on oc dn dc : Nat) (ol dl : List Int) (now : Int) (w : World) (h : RfS w q G A n c L) (hn : n ≤ 100) (ho : RB w w.heap.size oA ol) (hol : ol.length = on) (hr : RB w w.heap.size dA dl) (hdl : dl.length = dn) (hdc : dn ≤ dc) (hoc : on ≤ oc) (hdm : dn ≤ 140737488355328)
    (hno : ∀ b, (0 < ol.length ∧ blk oA = some b) ∨ (0 < dl.length ∧ blk dA = some b) → ¬ ownR q A b) :
    Calls Try.prog 26 #[.pointer (some ⟨q, 0, none⟩), .agg (pkC p (.slice oA on oc) (.slice dA dn dc)), .int .i64 now] w (RaPost w q A G (L.map RVm.rv) oA dA ol dl (RAddR (L.map RVm.rv) p ol dl now)) := by
  by_cases h1 : p.more = false ∧ p.off ≤ 0
  · obtain ⟨psvc, pid, pwh, pmo, poff, plife, pproto, psrc, pdst⟩ := p
    obtain ⟨h2, h3⟩ := h1
    simp only at h2 h3
    subst h2
    exact radd_own q G A n c L psvc pid poff plife pproto psrc pdst pwh oA dA on oc dn dc ol dl now w h h3 ho hol hr hdl _ (.inl ⟨⟨rfl, h3⟩, rfl, rfl, rfl, rfl⟩)
  by_cases h2 : FormBad p dl.length
  · have h3 := h2
    unfold FormBad at h3
    rw [hdl] at h3
    obtain ⟨psvc, pid, pwh, pmo, poff, plife, pproto, psrc, pdst⟩ := p
    exact radd_form q G A n c L psvc pid poff plife pproto psrc pdst pwh pmo oA dA on oc dn dc ol dl now w h h1 h3 ho hol hr hdl _ (.inr (.inl ⟨h1, h2, rfl, rfl, rfl, rfl⟩))
  have h3 : ¬ (dn = 0 ∨ (p.more = true ∧ dn % 8 ≠ 0) ∨ p.off < 0 ∨ p.off.tmod 8 ≠ 0) := by
    unfold FormBad at h2
    rwa [hdl] at h2
  have h4 : dn ≠ 0 := fun e => h3 (.inl e)
  have h5 : p.more = true → dn % 8 = 0 := fun e => by
    by_cases e2 : dn % 8 = 0
    · exact e2
    · exact absurd (.inr (.inl ⟨e, e2⟩)) h3
  have h6 : 0 ≤ p.off := by
    rcases Int.lt_or_le p.off 0 with e | e
    · exact absurd (.inr (.inr (.inl e))) h3
    · exact e
  have h7 : p.off.tmod 8 = 0 := by
    by_cases e2 : p.off.tmod 8 = 0
    · exact e2
    · exact absurd (.inr (.inr (.inr e2))) h3
  rcases Int.lt_or_le 65515 (p.off + dn) with h8 | h8
  · obtain ⟨psvc, pid, pwh, pmo, poff, plife, pproto, psrc, pdst⟩ := p
    exact radd_long q G A n c L psvc pid poff plife pproto psrc pdst pwh pmo oA dA on oc dn dc ol dl now w h h1 h4 h5 h6 h7 h8 hdm ho hol hr hdl _ (.inr (.inr (.inl ⟨h1, h2, by rw [hdl]; exact h8, rfl, rfl, rfl, rfl⟩)))
  · have hg : Good p dn := ⟨by omega, h6, h7, h5, by
      cases e : p.more with
      | true => exact .inl rfl
      | false =>
        refine .inr ?_
        rcases Int.lt_or_le 0 p.off with e2 | e2
        · exact e2
        · exact absurd ⟨e, e2⟩ h1, h8⟩
    refine (radd_good q G A n c L p oA dA on oc dn dc ol dl now w h hn hg ho hol hr hdl hdc hoc hno).mono ?_
    intro e w' hp
    exact hp.imp (fun M' out is er hR => .inr (.inr (.inr ⟨h1, h2, by rw [hdl]; exact hg, hR⟩)))
/-- The reference's Store at q: it writes blocks of T alone that are B or behind; it reads blocks of T. -/
def Rfo (w : World) (q B : Nat) (T : Nat → Prop) (M : List RV) : Prop :=
  ∃ G A n c L, RfS w q G A n c L ∧ L.map RVm.rv = M ∧ (∀ b, ownR q A b ∨ G b → T b) ∧ (∀ b, ownR q A b → B ≤ b)
theorem Rfo.chg {F : Nat → Prop} {w w' : World} {q B : Nat} {T : Nat → Prop} {M : List RV} (h : Rfo w q B T M) (hc : Chg F w w') (hF : ∀ b, T b → ¬ F b) : Rfo w' q B T M := by
  obtain ⟨G, A, n, c, L, h1, h2, h3, h4⟩ := h
  exact ⟨G, A, n, c, L, h1.chg hc (fun b hb => hF b (h3 b hb)), h2, h3, h4⟩
theorem Rfo.len {w : World} {q B : Nat} {T : Nat → Prop} {M : List RV} (h : Rfo w q B T M) : ∃ A c, w.cell? ⟨q, 0, none⟩ = some (.slice A M.length c) := by
  obtain ⟨G, A, n, c, L, h1, h2, h3, h4⟩ := h
  refine ⟨A, c, ?_⟩
  have h5 := h1.st.2.1.len
  rw [← h2, List.length_map, h5]
  exact h1.st.1.cell 0
/-- What the reference's Add brings about. -/
def RfoAdd (w : World) (q B : Nat) (T : Nat → Prop) (oA dA : Option Addr) (ol dl : List Int) (R : List RV → Pk3 → Bool → Int → Prop) (e : Ending) (w' : World) : Prop :=
  ∃ (T' : Nat → Prop) (M' : List RV) (out : Pk3) (is : Bool) (er : Int) (A1 A2 : Option Addr) (n1 c1 n2 c2 : Nat),
    e = .returned (.tuple #[.agg (pkC out.1 (.slice A1 n1 c1) (.slice A2 n2 c2)), .bool is, .int .i64 er]) ∧ Rfo w' q B T' M' ∧ RB w' w'.heap.size A1 out.2.1 ∧ out.2.1.length = n1 ∧ RB w' w'.heap.size A2 out.2.2 ∧ out.2.2.length = n2 ∧
    (∀ b, T' b → b < w'.heap.size ∧ (T b ∨ w.heap.size ≤ b ∨ (0 < ol.length ∧ blk oA = some b) ∨ (0 < dl.length ∧ blk dA = some b))) ∧ Chg (fun b => T b ∧ B ≤ b) w w' ∧ R M' out is er
theorem rfo_add (q B : Nat) (T : Nat → Prop) (M : List RV) (p : PkV) (oA dA : Option Addr) (on oc dn dc : Nat) (ol dl : List Int) (now : Int) (w : World) (h : Rfo w q B T M) (hM : M.length ≤ 100) (hB : B ≤ w.heap.size) (ho : RB w w.heap.size oA ol) (hol : ol.length = on) (hr : RB w w.heap.size dA dl) (hdl : dl.length = dn) (hdc : dn ≤ dc) (hoc : on ≤ oc) (hdm : dn ≤ 140737488355328)
    (hno : ∀ b, (0 < ol.length ∧ blk oA = some b) ∨ (0 < dl.length ∧ blk dA = some b) → b < B) :
    Calls Try.prog 26 #[.pointer (some ⟨q, 0, none⟩), .agg (pkC p (.slice oA on oc) (.slice dA dn dc)), .int .i64 now] w (RfoAdd w q B T oA dA ol dl (RAddR M p ol dl now)) := by
  obtain ⟨G, A, n, c, L, h1, h2, h3, h4⟩ := h
  subst h2
  have h5 := h1.st.2.1.len
  rw [List.length_map] at hM
  refine (radd_any q G A n c L p oA dA on oc dn dc ol dl now w h1 (by omega) ho hol hr hdl hdc hoc hdm (fun b hb e => by have := hno b hb; have := h4 b e; omega)).mono ?_
  rintro e w' ⟨G', A', n', c', L', out, is, er, A1, A2, n1, c1, n2, c2, he, q1, q2, q3, q4, q5, q6, q7, q8, q9⟩
  refine ⟨fun b => ownR q A' b ∨ G' b, _, out, is, er, A1, A2, n1, c1, n2, c2, he, ⟨G', A', n', c', L', q1, rfl, fun b hb => hb, fun b hb => ?_⟩, q2, q3, q4, q5, fun b hb => ⟨?_, ?_⟩, q8.mono (fun b _ hb => ⟨h3 b (.inl hb), h4 b hb⟩), q9⟩
  · rcases hb with hb | hb
    · exact h4 b (.inl hb)
    · rcases q7 b hb with k | k
      · exact h4 b (.inr k)
      · omega
  · exact hb.elim (q1.olt b) (q1.lt b)
  · rcases hb with (hb | hb) | hb
    · exact .inl (h3 b (.inl (.inl hb)))
    · rcases q7 b hb with k | k
      · exact .inl (h3 b (.inl (.inr k)))
      · exact .inr (.inl k)
    · rcases q6 b hb with k | k | k
      · exact .inl (h3 b (.inr k))
      · exact .inr (.inl k)
      · exact .inr (.inr k)
/-- What the reference's Tick brings about. -/
def RfoTick (w : World) (q B : Nat) (T : Nat → Prop) (M : List RV) (u : Int) (e : Ending) (w' : World) : Prop :=
  ∃ (T' : Nat → Prop) (A : Option Addr) (n c : Nat) (Lp : List Pm), e = .returned (.slice A n c) ∧ Rfo w' q B T' (tickV u M) ∧ Lp.map Pm.plain = tellV u M ∧ PsAt w' w.heap.size (.slice A n c) n Lp ∧ PmsRd w' w'.heap.size Lp ∧
    (∀ b, T' b → b < w'.heap.size ∧ (T b ∨ w.heap.size ≤ b)) ∧ Chg (fun b => T b ∧ B ≤ b) w w'
theorem rfo_tick (q B : Nat) (T : Nat → Prop) (M : List RV) (now : Int) (w : World) (h : Rfo w q B T M) (hM : M.length ≤ 100) (hB : B ≤ w.heap.size) (hb : ∀ x ∈ M, 0 ≤ x.bg ∧ x.bg ≤ 1099511627776) (h0 : 0 ≤ now) (h1 : now ≤ 1099511627776) :
    Calls Try.prog 25 #[.pointer (some ⟨q, 0, none⟩), .int .i64 now] w (RfoTick w q B T M (now - 300)) := by
  obtain ⟨G, A, n, c, L, g1, g2, g3, g4⟩ := h
  subst g2
  have h5 := g1.st.2.1.len
  rw [List.length_map] at hM
  refine (rtick_any q G A n c L now w g1 (by omega) (fun x hx => hb x.rv (List.mem_map_of_mem hx)) h0 h1).mono ?_
  rintro e w' ⟨A', n', c', B', nb, cb, L', Lp, he, q1, q2, q3, q4, q5, q6, q7⟩
  refine ⟨fun b => ownR q A' b ∨ G b, B', nb, cb, Lp, he, ⟨G, A', n', c', L', q1, q2, fun b hb => hb, fun b hb => ?_⟩, q3, q4, q5, fun b hb => ⟨?_, ?_⟩, q6.mono (fun b _ e => ?_)⟩
  · rcases hb with hb | hb
    · exact g4 b (.inl hb)
    · have := q7 b hb; omega
  · exact hb.elim (q1.olt b) (q1.lt b)
  · rcases hb with (hb | hb) | hb
    · exact .inl (g3 b (.inl (.inl hb)))
    · exact .inr (q7 b hb)
    · exact .inl (g3 b (.inr hb))
  · exact ⟨g3 b (.inl (.inl e)), g4 b (.inl e)⟩
end Go.Proofs.Ytcjkhonapafndaa
namespace Go.Proofs.Ytcjkhonapafndaa
open Go.RowKit

/-- A step: its kind, its packet, its time. -/
structure StV where
  kd : Int
  p : PkV
  oA : Option Addr
  on : Nat
  oc : Nat
  ol : List Int
  dA : Option Addr
  dn : Nat
  dc : Nat
  dl : List Int
  tm : Int
def stqC (x : StV) : List Value := [.int .i64 x.kd, .int .i64 x.p.svc, .int .i64 x.p.id, .bool x.p.whole, .bool x.p.more, .int .i64 x.p.off, .int .i64 x.p.life, .int .i64 x.p.proto, .int .u32 x.p.src, .int .u32 x.p.dst, .slice x.oA x.on x.oc, .slice x.dA x.dn x.dc, .int .i64 x.tm]
def StqOk (w : World) (x : StV) : Prop := x.p.Ok ∧ Row8 w x.oA x.on x.oc x.ol ∧ Row8 w x.dA x.dn x.dc x.dl ∧ (-9223372036854775808 ≤ x.kd ∧ x.kd ≤ 9223372036854775807) ∧ (-9223372036854775808 ≤ x.tm ∧ x.tm ≤ 9223372036854775807)
def ViewStq (w : World) (v : Value) : Prop := ∃ A len cap, ∃ l : List StV, v = .slice A len cap ∧ len ≤ cap ∧ cap * 120 ≤ 140737488351232 ∧ l.length = len ∧ SL 13 stqC w w.heap.size A l ∧ ∀ x ∈ l, StqOk w x
theorem sh_stq : shapeOf Try.prog 9 55 = some (.slice 13 120 (.part 0 1 (.int .i64) (.part 1 11 (.part 0 1 (.int .i64) (.part 1 1 (.int .i64) (.part 2 1 .bool (.part 3 1 .bool (.part 4 1 (.int .i64) (.part 5 1 (.int .i64) (.part 6 1 (.int .i64) (.part 7 1 (.int .u32) (.part 8 1 (.int .u32) (.part 9 1 (.slice 1 1 (.int .u8)) (.part 10 1 (.slice 1 1 (.int .u8)) .fin))))))))))) (.part 12 1 (.int .i64) .fin)))) := by kernel_rfl
set_option maxRecDepth 100000 in
theorem open_stq {H : Type} {enc : TypeId × Value → H} {W : World} {b0 : Nat} {v : Value} {d : DataW H} {p : List MemPlace} (hv : Value.okWide Try.prog W .any b0 55 v)
    (h : DataW.Trod enc Try.prog W 0 (fun _ => true) true 55 v d p) (hw : ∀ k ∈ d.weights Try.prog 55, k ≤ reachBytes) : ViewStq W v := by
  have h1 := Sh.open_slice sh_stq Try.underlying55 hv h hw
  obtain ⟨A, len, cap, l, e, h2, h3, _, h4, h5, h6⟩ := SL.of_is (f := stqC) (Q := StqOk W) h1 (by omega) fun cs hl hI => by
    match cs, hl with
    | [c0, c1, c2, c3, c4, c5, c6, c7, c8, c9, c10, c11, c12], _ =>
      obtain ⟨⟨n0, e0, k0⟩, hp, ⟨n12, e12, k12⟩, _⟩ := hI
      obtain ⟨q, oA, on, oc, ol, dA, dn, dc, dl, eq, hq, ho, hd⟩ := pkt_of_is (cs := [c1, c2, c3, c4, c5, c6, c7, c8, c9, c10, c11]) rfl hp
      simp [pkC] at eq
      obtain ⟨e1, e2, e3, e4, e5, e6, e7, e8, e9, e10, e11⟩ := eq
      simp at e0 e12
      subst e0; subst e1; subst e2; subst e3; subst e4; subst e5; subst e6; subst e7; subst e8; subst e9; subst e10; subst e11; subst e12
      exact ⟨⟨n0, q, oA, on, oc, ol, dA, dn, dc, dl, n12⟩, rfl, hq, ho, hd, bounds_i64 k0, bounds_i64 k12⟩
  injection e with e _
  exact ⟨A, len, cap, l, e, h2, h3, h4, h5, h6⟩
end Go.Proofs.Ytcjkhonapafndaa
namespace Go.Proofs.Ytcjkhonapafndaa
open Go.RowKit
/-- What heavy says. -/
def HvPost (l : List StV) (w : World) (e : Ending) (w' : World) : Prop := (∃ b, e = .returned (.bool b) ∧ (b = false → ∀ (k : Nat) (x : StV), k < 120 → l[k]? = some x → x.dn + x.on ≤ 24000)) ∧ Below w.heap.size w w'
set_option maxHeartbeats 4000000 in
set_option maxRecDepth 100000 in
theorem heavy_any (A : Option Addr) (len cap : Nat) (l : List StV) (hlen : l.length = len) (hmax : len ≤ 140737488351232) (w : World) (hr : SL 13 stqC w w.heap.size A l) (hok : ∀ x ∈ l, StqOk w x) :
    Calls Try.prog 23 #[.slice A len cap] w (HvPost l w) := by
  have HLEN := Lib.hid hlen
  have HR := Lib.hid hr
  have HOK := Lib.hid hok
  clear hlen hr hok
  go_enter Try.func23, Try.ntmps23
  go_wp2_with fail
  go_loopw [3, 4] (fun v3 v4 wr => ∃ k t : Nat, k ≤ len ∧ k ≤ 120 ∧ t ≤ 24000 ∧ v3 = .int .i64 t ∧ v4 = .int .i64 k ∧ Hid ((∀ (j : Nat) (x : StV), j < k → l[j]? = some x → x.dn + x.on ≤ 24000) ∧ Below w.heap.size w wr)) (fun _ v4 _ => len - (intOf v4).toNat)
  case atStart => exact ⟨0, 0, Nat.zero_le _, by omega, by omega, rfl, rfl, Lib.hid ⟨fun j x hj => by omega, Below.refl _ _⟩⟩
  case round =>
    obtain ⟨k, t, hk, hk2, ht, rfl, rfl, HH⟩ := hrel
    rcases (by omega : len = k ∨ (k < len ∧ 120 ≤ k) ∨ (k < len ∧ k < 120)) with rfl | ⟨d, d'⟩ | ⟨d, d'⟩
    · have t1 : decide ((len : Int) < (len : Int)) = false := decide_eq_false (by omega)
      go_wp2_with fail
      go_ret
      refine ⟨⟨false, rfl, fun _ j x _ hx => HH.out.1 j x ?_ hx⟩, HH.out.2⟩
      have h2 := (List.getElem?_eq_some_iff.1 hx).1
      have h1 := HLEN.out
      omega
    · have t1 : decide ((k : Int) < (len : Int)) = true := decide_eq_true (by omega)
      have t2 : decide ((k : Int) < 120) = false := decide_eq_false (by omega)
      have t3 : decide (k < 120) = false := decide_eq_false (by omega)
      go_wp2_with fail
      go_ret
      exact ⟨⟨false, rfl, fun _ j x hj hx => HH.out.1 j x (by omega) hx⟩, HH.out.2⟩
    · have t1 : decide ((k : Int) < (len : Int)) = true := decide_eq_true (by omega)
      have t2 : decide ((k : Int) < 120) = true := decide_eq_true (by omega)
      have t3 : decide (k < 120) = true := decide_eq_true (by omega)
      obtain ⟨x, hx⟩ : ∃ x, l[k]? = some x := ⟨_, List.getElem?_eq_getElem (by rw [HLEN.out]; exact d)⟩
      obtain ⟨b, off, rfl, hbB, hA⟩ := (HR.out.below HH.out.2).at_ hx
      have ok := HOK.out x (List.mem_of_getElem? hx)
      have hon := ok.2.1.max
      have honc := ok.2.1.cap
      have hdn := ok.2.2.1.max
      have hdnc := ok.2.2.1.cap
      have hoff := ok.1.off
      obtain ⟨xk, xp, xoA, xon, xoc, xol, xdA, xdn, xdc, xdl, xt⟩ := x
      obtain ⟨psvc, pid, pwh, pmo, poff, plife, pproto, psrc, pdst⟩ := xp
      simp only at hon honc hdn hdnc hoff
      have h5 := hA 5 _ rfl
      have h10 := hA 10 _ rfl
      have h11 := hA 11 _ rfl
      simp only at h5 h10 h11
      have HX := Lib.hid hx
      have hki : (0 : Int) ≤ (k : Int) ∧ (k : Int) < (len : Int) := by omega
      clear hA ok hx
      rcases (by omega : poff ≤ 0 ∨ (0 < poff ∧ poff ≤ 70000) ∨ 70000 < poff) with hp | ⟨hp, hp2⟩ | hp
      · go_wp2_with fail
        go_quiet (fail)
        rcases Int.lt_or_le 24000 ((t : Int) + xdn + xon) with r | r
        · have t4 : decide ((24000 : Int) < (t : Int) + xdn + xon) = true := decide_eq_true r
          go_wp2_with fail
          go_ret
          exact ⟨⟨true, rfl, fun h => by cases h⟩, bel_drewN HH.out.2 _⟩
        · have t4 : decide ((24000 : Int) < (t : Int) + xdn + xon) = false := decide_eq_false (by omega)
          go_wp2_with fail
          go_roundw
          case rel =>
            refine ⟨k + 1, t + xdn + xon + 0, by omega, by omega, by omega, by go_num, by go_num, Lib.hid ⟨fun j y hj hy => ?_, bel_drewN HH.out.2 _⟩⟩
            rcases Nat.lt_or_ge j k with h5 | h5
            · exact HH.out.1 j y h5 hy
            · obtain rfl : j = k := by omega
              rw [HX.out] at hy
              injection hy with hy
              subst hy
              show xdn + xon ≤ 24000
              omega
          case measure => simp [intOf]; omega
      · have hq : poff.tdiv 8 = poff / 8 := Int.tdiv_eq_ediv_of_nonneg (by omega)
        go_wp2_with fail
        go_quiet (fail)
        rcases Int.lt_or_le 24000 ((t : Int) + xdn + xon + poff / 8) with r | r
        · have t4 : decide ((24000 : Int) < (t : Int) + xdn + xon + poff / 8) = true := decide_eq_true r
          go_wp2_with fail
          go_ret
          exact ⟨⟨true, rfl, fun h => by cases h⟩, bel_drewN HH.out.2 _⟩
        · have t4 : decide ((24000 : Int) < (t : Int) + xdn + xon + poff / 8) = false := decide_eq_false (by omega)
          go_wp2_with fail
          go_roundw
          case rel =>
            refine ⟨k + 1, t + xdn + xon + (poff / 8).toNat, by omega, by omega, by omega, by go_num, by go_num, Lib.hid ⟨fun j y hj hy => ?_, bel_drewN HH.out.2 _⟩⟩
            rcases Nat.lt_or_ge j k with h5 | h5
            · exact HH.out.1 j y h5 hy
            · obtain rfl : j = k := by omega
              rw [HX.out] at hy
              injection hy with hy
              subst hy
              show xdn + xon ≤ 24000
              omega
          case measure => simp [intOf]; omega
      · have hp3 : 0 < poff := by omega
        go_wp2_with fail
        go_quiet (fail)
        rcases Int.lt_or_le 24000 ((t : Int) + xdn + xon + 8750) with r | r
        · have t4 : decide ((24000 : Int) < (t : Int) + xdn + xon + 8750) = true := decide_eq_true r
          go_wp2_with fail
          go_ret
          exact ⟨⟨true, rfl, fun h => by cases h⟩, bel_drewN HH.out.2 _⟩
        · have t4 : decide ((24000 : Int) < (t : Int) + xdn + xon + 8750) = false := decide_eq_false (by omega)
          go_wp2_with fail
          go_roundw
          case rel =>
            refine ⟨k + 1, t + xdn + xon + 8750, by omega, by omega, by omega, by go_num, by go_num, Lib.hid ⟨fun j y hj hy => ?_, bel_drewN HH.out.2 _⟩⟩
            rcases Nat.lt_or_ge j k with h5 | h5
            · exact HH.out.1 j y h5 hy
            · obtain rfl : j = k := by omega
              rw [HX.out] at hy
              injection hy with hy
              subst hy
              show xdn + xon ≤ 24000
              omega
          case measure => simp [intOf]; omega
end Go.Proofs.Ytcjkhonapafndaa
namespace Go.Proofs.Ytcjkhonapafndaa
open Go.RowKit
/-- Both Stores, side by side. -/
structure Pl (w0 : World) (s q : Nat) (F T : Nat → Prop) (L : List Rec) (M : List RV) (now : Int) (wr : World) : Prop where
  st : Sto wr s F L
  rf : Rfo wr q w0.heap.size T M
  sm : RfL L M
  vo : VsOk now M
  fb : ∀ b, F b → w0.heap.size ≤ b ∧ ¬ T b
  tb : ∀ b, T b → b < wr.heap.size
  bl : Below w0.heap.size w0 wr
  bd : 0 ≤ now ∧ now ≤ 1099511627776
theorem Pl.chg {w0 : World} {s q : Nat} {F T E : Nat → Prop} {L : List Rec} {M : List RV} {now : Int} {wr w' : World} (h : Pl w0 s q F T L M now wr) (hc : Chg E wr w') (hE : ∀ b, E b → w0.heap.size ≤ b ∧ ¬ F b ∧ ¬ T b) : Pl w0 s q F T L M now w' :=
  ⟨h.st.chg hc (fun b hb e => (hE b e).2.1 hb), h.rf.chg hc (fun b hb e => (hE b e).2.2 hb), h.sm, h.vo, h.fb, fun b hb => Nat.lt_of_lt_of_le (h.tb b hb) hc.size, ((Chg.of_below (F := fun _ => False) h.bl).trans hc (fun b e => .inr (hE b e).1)).below (B := w0.heap.size) (fun _ e => e.elim) (Nat.le_refl _), h.bd⟩
theorem Pl.below {w0 : World} {s q : Nat} {F T : Nat → Prop} {L : List Rec} {M : List RV} {now : Int} {wr w' : World} (h : Pl w0 s q F T L M now wr) (hb : Below wr.heap.size wr w') : Pl w0 s q F T L M now w' :=
  h.chg (Chg.of_below (F := fun _ => False) hb) (fun _ e => e.elim)
theorem Pl.later {w0 : World} {s q : Nat} {F T : Nat → Prop} {L : List Rec} {M : List RV} {now now' : Int} {wr : World} (h : Pl w0 s q F T L M now wr) (h1 : now ≤ now') (h2 : now' ≤ 1099511627776) : Pl w0 s q F T L M now' wr :=
  ⟨h.st, h.rf, h.sm, h.vo.mono h1, h.fb, h.tb, h.bl, by have := h.bd.1; omega, h2⟩
theorem Pl.len {w0 : World} {s q : Nat} {F T : Nat → Prop} {L : List Rec} {M : List RV} {now : Int} {wr : World} (h : Pl w0 s q F T L M now wr) : M.length = L.length ∧ L.length ≤ 8 := ⟨(f2_len h.sm).symm, h.st.oks.2⟩
theorem Pl.size {w0 : World} {s q : Nat} {F T : Nat → Prop} {L : List Rec} {M : List RV} {now : Int} {wr : World} (h : Pl w0 s q F T L M now wr) : w0.heap.size ≤ wr.heap.size := h.bl.size
/-- Somewhere both Stores go side by side. -/
def PlE (w0 : World) (s q : Nat) (now : Int) (wr : World) : Prop := ∃ F T L M, Pl w0 s q F T L M now wr
theorem PlE.below {w0 : World} {s q : Nat} {now : Int} {wr w' : World} (h : PlE w0 s q now wr) (hb : Below wr.heap.size wr w') : PlE w0 s q now w' := by
  obtain ⟨F, T, L, M, h⟩ := h
  exact ⟨F, T, L, M, h.below hb⟩
theorem PlE.later {w0 : World} {s q : Nat} {now now' : Int} {wr : World} (h : PlE w0 s q now wr) (h1 : now ≤ now') (h2 : now' ≤ 1099511627776) : PlE w0 s q now' wr := by
  obtain ⟨F, T, L, M, h⟩ := h
  exact ⟨F, T, L, M, h.later h1 h2⟩
theorem PlE.bl {w0 : World} {s q : Nat} {now : Int} {wr : World} (h : PlE w0 s q now wr) : Below w0.heap.size w0 wr := by
  obtain ⟨F, T, L, M, h⟩ := h
  exact h.bl
theorem PlE.drewN {w0 : World} {s q : Nat} {now : Int} {wr : World} (h : PlE w0 s q now wr) (k : Nat) : PlE w0 s q now (wr.drewN k) := h.below (bel_drewN (Below.refl _ _) k)
/-- How many there are. -/
theorem PlE.len {w0 : World} {s q : Nat} {now : Int} {wr : World} (h : PlE w0 s q now wr) : ∃ (A : Option Addr) (n c : Nat), n ≤ 8 ∧ wr.cell? ⟨q, 0, none⟩ = some (.slice A n c) ∧ ∀ k, Calls Try.prog 22 #[.pointer (some ⟨s, 0, none⟩)] (wr.drewN k) fun e w' => e = .returned (.int .i64 n) ∧ w' = wr.drewN k := by
  obtain ⟨F, T, L, M, h⟩ := h
  obtain ⟨A, c, hc⟩ := h.rf.len
  obtain ⟨h1, h2⟩ := h.len
  refine ⟨A, M.length, c, by omega, hc, fun k => ?_⟩
  rw [h1]
  exact sto_len s F L (wr.drewN k) (h.st.drewN k)
theorem PlE.start (w0 W1 W2 : World) (h1 : w0.alloc (.cells #[.map none, .slice none 0 0] 46) = W1) (h2 : W1.alloc (.cells #[.slice none 0 0] 60) = W2) : PlE w0 w0.heap.size W1.heap.size 0 W2 := by
  have hs1 : W1.heap.size = w0.heap.size + 1 := by rw [← h1, World.size_alloc]
  have hs2 : W2.heap.size = W1.heap.size + 1 := by rw [← h2, World.size_alloc]
  have hb1 : Bk W1 w0.heap.size 46 #[.map none, .slice none 0 0] := by rw [← h1]; exact Bk.new w0 _ _
  have hb2 : Bk W2 w0.heap.size 46 #[.map none, .slice none 0 0] := by rw [← h2]; exact hb1.alloc _
  have hq2 : Bk W2 W1.heap.size 60 #[.slice none 0 0] := by rw [← h2]; exact Bk.new W1 _ _
  refine ⟨_, fun b => b = W1.heap.size, [], [], sto_new W2 _ hb2, ⟨fun _ => False, none, 0, 0, [], ⟨⟨hq2, Rs.none_ _ _, by simp [blk]⟩, (fun x hx => by cases hx), id, (fun b hb => id), fun b hb => hb.elim⟩, rfl, fun b hb => ?_, fun b hb => ?_⟩, .nil, (fun x hx => by cases hx), fun b hb => ?_, fun b hb => ?_, ?_, by omega, by omega⟩
  · rcases hb with (hb | hb) | hb
    · exact hb
    · simp [blk] at hb
    · exact hb.elim
  · rcases hb with hb | hb
    · omega
    · simp [blk] at hb
  · have hb' : b = w0.heap.size := hb
    exact ⟨by omega, fun e => by have e' : b = W1.heap.size := e; omega⟩
  · have hb' : b = W1.heap.size := hb
    omega
  · rw [← h2, ← h1]
    exact ((Below.refl _ _).alloc (Nat.le_refl _) _).alloc (by rw [World.size_alloc]; omega) _
/-! ### Tick of both -/
def T1 (w0 : World) (s q : Nat) (now : Int) (A : Option Addr) (n c : Nat) (w1 : World) : Prop :=
  ∃ F T L M Lp base, Sto w1 s F (tickL (now - 300) L) ∧ Rfo w1 q w0.heap.size T M ∧ RfL L M ∧ VsOk now M ∧ (∀ b, F b → w0.heap.size ≤ b ∧ ¬ T b) ∧ (∀ b, T b → b < base) ∧ base ≤ w1.heap.size ∧ w0.heap.size ≤ base ∧ Below w0.heap.size w0 w1 ∧ (0 ≤ now ∧ now ≤ 1099511627776) ∧ M.length ≤ 8 ∧
    Lp.map Pm.plain = tickO (now - 300) L ∧ PsAt w1 base (.slice A n c) n Lp ∧ PmsOk w1 base Lp
theorem pl_tick1 {w0 wr : World} {s q : Nat} {now : Int} (h : PlE w0 s q now wr) : Calls Try.prog 24 #[.pointer (some ⟨s, 0, none⟩), .int .i64 now] wr fun e w1 => ∃ A n c, e = .returned (.slice A n c) ∧ T1 w0 s q now A n c w1 := by
  obtain ⟨F, T, L, M, h⟩ := h
  have hu : untilF now = now - 300 := by unfold untilF; have := h.bd.1; rw [if_neg (by omega)]
  refine (sto_tick s F L now (by have := h.bd; exact ⟨by omega, by omega⟩) wr h.st).mono ?_
  rintro e w1 ⟨F', A, n, c, Lp, rfl, q1, q2, q3, q4, q5, q6⟩
  rw [hu] at q1 q2
  exact ⟨A, n, c, rfl, F', T, L, M, Lp, wr.heap.size, q2, h.rf.chg q6 (fun b hb e => (h.fb b e).2 hb), h.sm, h.vo, fun b hb => h.fb b (q3 b hb), h.tb, q6.size, h.size, ((Chg.of_below (F := fun _ => False) h.bl).trans q6 (fun b e => .inr (h.fb b e).1)).below (B := w0.heap.size) (fun _ e => e.elim) (Nat.le_refl _), h.bd, by have := h.len; omega, q1, q4, q5⟩
def T2 (w0 : World) (s q : Nat) (now : Int) (A : Option Addr) (n c : Nat) (B : Option Addr) (nb cb : Nat) (w2 : World) : Prop :=
  ∃ F T L M Lp Lq base base', Pl w0 s q F T L M now w2 ∧ Lp.map Pm.plain = Lq.map Pm.plain ∧ PsAt w2 base (.slice A n c) n Lp ∧ PmsRd w2 w2.heap.size Lp ∧ PsAt w2 base' (.slice B nb cb) nb Lq ∧ PmsRd w2 w2.heap.size Lq ∧ (∀ x ∈ Lp, x.on ≤ 140737488355328 ∧ x.dn ≤ 140737488355328 ∧ Bs x.ol ∧ Bs x.dl) ∧ n ≤ 1000000
theorem pl_tick2 {w0 w1 : World} {s q : Nat} {now : Int} {A : Option Addr} {n c : Nat} (h : T1 w0 s q now A n c w1) : Calls Try.prog 25 #[.pointer (some ⟨q, 0, none⟩), .int .i64 now] w1 fun e w2 => ∃ B nb cb, e = .returned (.slice B nb cb) ∧ T2 w0 s q now A n c B nb cb w2 := by
  obtain ⟨F, T, L, M, Lp, base, h1, h2, h3, h4, h5, h6, h7, h8, h9, h10, h11, h12, h13, h14⟩ := h
  obtain ⟨g1, g2⟩ := tick_same (now - 300) h3
  refine (rfo_tick q w0.heap.size T M now w1 h2 (by omega) (by omega) (fun x hx => ⟨(h4 x hx).2.1, by have := (h4 x hx).2.2; omega⟩) h10.1 h10.2).mono ?_
  rintro e w2 ⟨T', B, nb, cb, Lq, rfl, q1, q2, q3, q4, q5, q6⟩
  have hF : ∀ b, (T b ∧ w0.heap.size ≤ b) → b < base := fun b hb => h6 b hb.1
  have hpl : Lp.map Pm.plain = Lq.map Pm.plain := by rw [h12, q2, g2]
  have hrd : PmsOk w2 base Lp := h14.chg q6 hF
  have hPs : PsAt w2 base (.slice A n c) n Lp := h13.chg q6 hF
  refine ⟨B, nb, cb, rfl, F, T', _, _, Lp, Lq, base, w1.heap.size, ⟨h1.chg q6 (fun b hb e => (h5 b hb).2 e.1), q1, g1, h4.tick, fun b hb => ⟨(h5 b hb).1, fun e => ?_⟩, fun b hb => (q5 b hb).1, ((Chg.of_below (F := fun _ => False) h9).trans q6 (fun b e => .inr e.2)).below (B := w0.heap.size) (fun _ e => e.elim) (Nat.le_refl _), h10⟩, hpl, hPs, fun x hx => (hrd.1 x hx).rd (Nat.le_refl _), q3, q4, fun x hx => ?_, ?_⟩
  · rcases (q5 b e).2 with k | k
    · exact (h5 b hb).2 k
    · have := h1.lt hb; omega
  · have hx2 : Pm.plain x ∈ tellV (now - 300) M := by rw [← g2, ← h12]; exact List.mem_map_of_mem hx
    obtain ⟨b1, b2, b3, b4⟩ := h4.tell _ hx2
    obtain ⟨r1, r2, r3, r4, r5, r6⟩ := (hrd.1 x hx).rd (Nat.le_refl _)
    have e1 : (Pm.plain x).2.1 = x.ol := rfl
    have e2 : (Pm.plain x).2.2 = x.dl := rfl
    rw [e1] at b1 b3
    rw [e2] at b2 b4
    exact ⟨by omega, by omega, b1, b2⟩
  · have h15 := h13.len
    have h16 := congrArg List.length h12
    rw [List.length_map] at h16
    have h17 := tickO_len (now - 300) L
    have h18 := f2_len h3
    omega
theorem pl_tick3 {w0 w2 : World} {s q : Nat} {now : Int} {A B : Option Addr} {n c nb cb : Nat} (h : T2 w0 s q now A n c B nb cb w2) : Calls Try.prog 15 #[.slice A n c, .slice B nb cb] w2 fun e w3 => e = .returned (.bool true) ∧ PlE w0 s q now w3 := by
  obtain ⟨F, T, L, M, Lp, Lq, base, base', h1, h2, h3, h4, h5, h6, h7, h8⟩ := h
  refine (lists_any A B n nb c cb base base' Lp Lq h2 w2 h3 h5 h4 h6 h7 h8).mono ?_
  rintro e w3 ⟨rfl, hb⟩
  exact ⟨rfl, F, T, L, M, h1.below hb⟩
/-! ### Add of both -/
/-- The law's own row of the piece's data: nobody else's. -/
structure Own (w0 : World) (F T : Nat → Prop) (A : Option Addr) (n c : Nat) (l : List Int) (w : World) : Prop where
  o : OB 5 w w0.heap.size A n c l
  ne : ∀ b, blk A = some b → ¬ F b ∧ ¬ T b
theorem Own.chg {w0 : World} {F T E : Nat → Prop} {A : Option Addr} {n c : Nat} {l : List Int} {w w' : World} (h : Own w0 F T A n c l w) (hc : Chg E w w') (hE : ∀ b, blk A = some b → ¬ E b) : Own w0 F T A n c l w' := ⟨Ow.chg h.o hc hE, h.ne⟩
theorem Own.below {w0 : World} {F T : Nat → Prop} {A : Option Addr} {n c : Nat} {l : List Int} {w w' : World} (h : Own w0 F T A n c l w) (hb : Below w.heap.size w w') : Own w0 F T A n c l w' := h.chg (Chg.of_below (F := fun _ => False) hb) (fun _ _ e => e)
theorem Own.lt {w0 : World} {F T : Nat → Prop} {A : Option Addr} {n c : Nat} {l : List Int} {w : World} (h : Own w0 F T A n c l w) {b : Nat} (hb : blk A = some b) : w0.heap.size ≤ b ∧ b < w.heap.size := Ow.lt h.o b hb
def D1 (w0 : World) (s q : Nat) (now : Int) (x : StV) (A : Option Addr) (c : Nat) (w : World) : Prop := ∃ F T L M, Pl w0 s q F T L M now w ∧ Own w0 F T A (x.dn + 1) c (x.dl ++ [171]) w ∧ x.dn + 1 ≤ c
theorem D1.below {w0 : World} {s q : Nat} {now : Int} {x : StV} {A : Option Addr} {c : Nat} {w w' : World} (h : D1 w0 s q now x A c w) (hb : Below w.heap.size w w') : D1 w0 s q now x A c w' := by
  obtain ⟨F, T, L, M, h1, h2, h3⟩ := h
  exact ⟨F, T, L, M, h1.below hb, h2.below hb, h3⟩
theorem pl_roomy {w0 wr : World} {s q : Nat} {now : Int} {x : StV} (h : PlE w0 s q now wr) (hx : StqOk w0 x) (hs : x.dn ≤ 24000) : Calls Try.prog 12 #[.slice x.dA x.dn x.dc] wr fun e w1 => ∃ A c, e = .returned (.slice A (x.dn + 1) c) ∧ D1 w0 s q now x A c w1 := by
  obtain ⟨F, T, L, M, h⟩ := h
  have hd := hx.2.2.1
  refine (roomy_any x.dA x.dn x.dc w0.heap.size x.dl hd.len (by omega) hd.bs wr (Rw.below hd.rb h.bl) h.size).mono ?_
  rintro e w1 ⟨A, c, rfl, hO, hc, hB⟩
  have h0 := h.size
  exact ⟨A, c, rfl, F, T, L, M, h.below hB, ⟨Ow.mono hO h0, fun b hb => ⟨fun e => by have := (Ow.lt hO b hb).1; have := h.st.lt e; omega, fun e => by have := (Ow.lt hO b hb).1; have := h.tb b e; omega⟩⟩, hc⟩
def D2 (w0 : World) (s q : Nat) (now : Int) (x : StV) (A : Option Addr) (c : Nat) (out : Pk3) (is : Bool) (er : Int) (A1 : Option Addr) (n1 c1 : Nat) (A2 : Option Addr) (n2 c2 : Nat) (w : World) : Prop :=
  ∃ F' T L L' M, Sto w s F' L' ∧ Rfo w q w0.heap.size T M ∧ RfL L M ∧ (L.map (·.k)).Nodup ∧ RecsOk L ∧ VsOk now M ∧ (∀ b, F' b → w0.heap.size ≤ b ∧ ¬ T b) ∧ (∀ b, T b → b < w.heap.size) ∧ Below w0.heap.size w0 w ∧ (0 ≤ now ∧ now ≤ 1099511627776) ∧
    Own w0 F' T A (x.dn + 1) c (x.dl ++ [171]) w ∧ x.dn + 1 ≤ c ∧ OwnAt w w0.heap.size A1 n1 c1 out.2.1 A2 n2 c2 out.2.2 ∧ (∀ b, blk A1 = some b ∨ blk A2 = some b → ¬ F' b ∧ ¬ T b) ∧ (∀ b, blk A2 = some b → blk A ≠ some b) ∧ AddR L x.p x.ol x.dl now L' out is er
theorem D2.below {w0 : World} {s q : Nat} {now : Int} {x : StV} {A : Option Addr} {c : Nat} {out : Pk3} {is : Bool} {er : Int} {A1 A2 : Option Addr} {n1 c1 n2 c2 : Nat} {w w' : World} (h : D2 w0 s q now x A c out is er A1 n1 c1 A2 n2 c2 w) (hb : Below w.heap.size w w') : D2 w0 s q now x A c out is er A1 n1 c1 A2 n2 c2 w' := by
  obtain ⟨F', T, L, L', M, h1, h2, h3, h4, h5, h6, h7, h8, h9, h10, h11, h12, h13, h14, h15, h16⟩ := h
  exact ⟨F', T, L, L', M, h1.below hb, h2.chg (Chg.of_below (F := fun _ => False) hb) (fun _ _ e => e), h3, h4, h5, h6, h7, fun b e => Nat.lt_of_lt_of_le (h8 b e) hb.size, h9.trans (hb.mono h9.size), h10, h11.below hb, h12, h13.below hb, h14, h15, h16⟩
/-- With a box of the law's own. -/
def D2b (w0 : World) (s q : Nat) (now : Int) (x : StV) (A : Option Addr) (c : Nat) (out : Pk3) (is : Bool) (er : Int) (A1 : Option Addr) (n1 c1 : Nat) (A2 : Option Addr) (n2 c2 : Nat) (g : Nat) (cs : Array Value) (w : World) : Prop :=
  ∃ F' T L L' M, Sto w s F' L' ∧ Rfo w q w0.heap.size T M ∧ RfL L M ∧ (L.map (·.k)).Nodup ∧ RecsOk L ∧ VsOk now M ∧ (∀ b, F' b → w0.heap.size ≤ b ∧ ¬ T b) ∧ (∀ b, T b → b < w.heap.size) ∧ Below w0.heap.size w0 w ∧ (0 ≤ now ∧ now ≤ 1099511627776) ∧
    Own w0 F' T A (x.dn + 1) c (x.dl ++ [171]) w ∧ x.dn + 1 ≤ c ∧ OwnAt w w0.heap.size A1 n1 c1 out.2.1 A2 n2 c2 out.2.2 ∧ (∀ b, blk A1 = some b ∨ blk A2 = some b → ¬ F' b ∧ ¬ T b) ∧ (∀ b, blk A2 = some b → blk A ≠ some b) ∧ AddR L x.p x.ol x.dl now L' out is er ∧ Bk w g 26 cs ∧ ¬ T g
theorem D2.box {w0 : World} {s q : Nat} {now : Int} {x : StV} {A : Option Addr} {c : Nat} {out : Pk3} {is : Bool} {er : Int} {A1 A2 : Option Addr} {n1 c1 n2 c2 : Nat} {w : World} (h : D2 w0 s q now x A c out is er A1 n1 c1 A2 n2 c2 w) (cs : Array Value) : D2b w0 s q now x A c out is er A1 n1 c1 A2 n2 c2 w.heap.size cs (w.alloc (.cells cs 26)) := by
  have hb : Below w.heap.size w (w.alloc (.cells cs 26)) := (Below.refl _ _).alloc (Nat.le_refl _) _
  obtain ⟨F', T, L, L', M, h1, h2, h3, h4, h5, h6, h7, h8, h9, h10, h11, h12, h13, h14, h15, h16⟩ := h
  exact ⟨F', T, L, L', M, h1.below hb, h2.chg (Chg.of_below (F := fun _ => False) hb) (fun _ _ e => e), h3, h4, h5, h6, h7, fun b e => Nat.lt_of_lt_of_le (h8 b e) hb.size, h9.trans (hb.mono h9.size), h10, h11.below hb, h12, h13.below hb, h14, h15, h16, Bk.new w _ _, fun e => by have := h8 _ e; omega⟩
theorem D1.bl {w0 : World} {s q : Nat} {now : Int} {x : StV} {A : Option Addr} {c : Nat} {w : World} (h : D1 w0 s q now x A c w) : Below w0.heap.size w0 w ∧ x.dn + 1 ≤ c := by
  obtain ⟨F, T, L, M, h1, h2, h3⟩ := h
  exact ⟨h1.bl, h3⟩
theorem D2b.bl {w0 : World} {s q : Nat} {now : Int} {x : StV} {A : Option Addr} {c : Nat} {out : Pk3} {is : Bool} {er : Int} {A1 A2 : Option Addr} {n1 c1 n2 c2 g : Nat} {cs : Array Value} {w : World} (h : D2b w0 s q now x A c out is er A1 n1 c1 A2 n2 c2 g cs w) : Below w0.heap.size w0 w := by
  obtain ⟨F', T, L, L', M, h1, h2, h3, h4, h5, h6, h7, h8, h9, h10⟩ := h
  exact h9
theorem pl_add1 {w0 w : World} {s q : Nat} {now : Int} {x : StV} {A : Option Addr} {c : Nat} (h : D1 w0 s q now x A c w) (hx : StqOk w0 x) (hs : x.dn + x.on ≤ 24000) :
    Calls Try.prog 21 #[.pointer (some ⟨s, 0, none⟩), .agg (pkC x.p (.slice x.oA x.on x.oc) (.slice A x.dn c)), .int .i64 now] w fun e w' => ∃ (p : PkV) (ol dl : List Int) (is : Bool) (er : Int) (A1 : Option Addr) (n1 c1 : Nat) (A2 : Option Addr) (n2 c2 : Nat),
      e = .returned (.tuple #[.agg (pkC p (.slice A1 n1 c1) (.slice A2 n2 c2)), .bool is, .int .i64 er]) ∧ D2 w0 s q now x A c (p, ol, dl) is er A1 n1 c1 A2 n2 c2 w' := by
  obtain ⟨F, T, L, M, h1, h2, h3⟩ := h
  have ho := hx.2.1
  have hd := hx.2.2.1
  have hz := h1.size
  have hr1 : RB w w.heap.size x.oA x.ol := Rw.more (Rw.below ho.rb h1.bl) hz
  have hr2 : RB w w.heap.size A x.dl := by
    have := (OB.rb h2.o).take x.dn
    rwa [List.take_append_of_le_length (by rw [hd.len]; exact Nat.le_refl _), List.take_of_length_le (by rw [hd.len]; exact Nat.le_refl _)] at this
  refine (sto_add s F L x.p hx.1 x.oA A x.on x.oc x.dn c w.heap.size x.ol x.dl ho.len (by omega) hd.len (by omega) (by omega) now w hr1 hr2 (Nat.le_refl _) h1.st (fun b hb => ?_)).mono ?_
  · rcases hb with ⟨k1, k2⟩ | k2
    · have h4 : b < w0.heap.size := rb_lt ho.rb k1 k2
      exact ⟨by omega, fun e => by have := (h1.fb b e).1; omega⟩
    · exact ⟨(h2.lt k2).2, (h2.ne b k2).1⟩
  · rintro e w' ⟨F', L', ⟨p, ol, dl⟩, is, er, A1, A2, n1, c1, n2, c2, rfl, q1, q2, q3, q4, q5, q6⟩
    refine ⟨p, ol, dl, is, er, A1, n1, c1, A2, n2, c2, rfl, F', T, L, L', M, q1, h1.rf.chg q5 (fun b hb e => (h1.fb b e).2 hb), h1.sm, sto_nodup h1.st, h1.st.oks, h1.vo, fun b hb => ?_, fun b hb => Nat.lt_of_lt_of_le (h1.tb b hb) q5.size, ((Chg.of_below (F := fun _ => False) h1.bl).trans q5 (fun b e => .inr (h1.fb b e).1)).below (B := w0.heap.size) (fun _ e => e.elim) (Nat.le_refl _), h1.bd, ⟨Ow.chg h2.o q5 (fun b hb => (h2.ne b hb).1), fun b hb => ⟨fun e => ?_, (h2.ne b hb).2⟩⟩, h3, ⟨Ow.mono q2.1 hz, Ow.mono q2.2.1 hz, q2.2.2⟩, fun b hb => ⟨q3 b hb, fun e => ?_⟩, fun b hb e => ?_, q6⟩
    · rcases q4 b hb with k | k
      · exact h1.fb b k
      · exact ⟨by omega, fun e => by have := h1.tb b e; omega⟩
    · rcases q4 b e with k | k
      · exact (h2.ne b hb).1 k
      · have := (h2.lt hb).2; omega
    · have h5 := h1.tb b e
      rcases hb with hb | hb
      · have := (Ow.lt q2.1 b hb).1; omega
      · have := (Ow.lt q2.2.1 b hb).1; omega
    · have := (Ow.lt q2.2.1 b hb).1
      have := (h2.lt e).2; omega
/-- Both have answered alike. -/
def D3 (w0 : World) (s q : Nat) (now : Int) (x : StV) (A : Option Addr) (c : Nat) (ol dl : List Int) (A1 : Option Addr) (n1 c1 : Nat) (A2 : Option Addr) (n2 c2 : Nat) (A5 A6 : Option Addr) (w : World) : Prop :=
  ∃ F T L M, Pl w0 s q F T L M now w ∧ Own w0 F T A (x.dn + 1) c (x.dl ++ [171]) w ∧ x.dn + 1 ≤ c ∧ OwnAt w w0.heap.size A1 n1 c1 ol A2 n2 c2 dl ∧ (∀ b, blk A1 = some b ∨ blk A2 = some b → ¬ F b ∧ ¬ T b) ∧ (∀ b, blk A2 = some b → blk A ≠ some b) ∧
    RB w w.heap.size A5 ol ∧ RB w w.heap.size A6 dl ∧ Bs ol ∧ Bs dl ∧ ol.length ≤ 1000000 ∧ dl.length ≤ 1000000
theorem D3.below {w0 : World} {s q : Nat} {now : Int} {x : StV} {A : Option Addr} {c : Nat} {ol dl : List Int} {A1 A2 A5 A6 : Option Addr} {n1 c1 n2 c2 : Nat} {w w' : World} (h : D3 w0 s q now x A c ol dl A1 n1 c1 A2 n2 c2 A5 A6 w) (hb : Below w.heap.size w w') : D3 w0 s q now x A c ol dl A1 n1 c1 A2 n2 c2 A5 A6 w' := by
  obtain ⟨F, T, L, M, h1, h2, h3, h4, h5, h6, h7, h8, h9⟩ := h
  exact ⟨F, T, L, M, h1.below hb, h2.below hb, h3, h4.below hb, h5, h6, Rw.more (Rw.below h7 hb) hb.size, Rw.more (Rw.below h8 hb) hb.size, h9⟩
theorem D3.bl {w0 : World} {s q : Nat} {now : Int} {x : StV} {A : Option Addr} {c : Nat} {ol dl : List Int} {A1 A2 A5 A6 : Option Addr} {n1 c1 n2 c2 : Nat} {w : World} (h : D3 w0 s q now x A c ol dl A1 n1 c1 A2 n2 c2 A5 A6 w) : Below w0.heap.size w0 w := by
  obtain ⟨F, T, L, M, h1, h2⟩ := h
  exact h1.bl
theorem pl_add2 {w0 w : World} {s q : Nat} {now : Int} {x : StV} {A : Option Addr} {c : Nat} {p : PkV} {ol dl : List Int} {is : Bool} {er : Int} {A1 A2 : Option Addr} {n1 c1 n2 c2 : Nat} {g : Nat} {cs : Array Value} (h : D2b w0 s q now x A c (p, ol, dl) is er A1 n1 c1 A2 n2 c2 g cs w) (hx : StqOk w0 x) (hs : x.dn + x.on ≤ 24000) :
    Calls Try.prog 26 #[.pointer (some ⟨q, 0, none⟩), .agg (pkC x.p (.slice x.oA x.on x.oc) (.slice x.dA x.dn x.dc)), .int .i64 now] w fun e w' => ∃ (A5 : Option Addr) (c5 : Nat) (A6 : Option Addr) (c6 : Nat),
      e = .returned (.tuple #[.agg (pkC p (.slice A5 n1 c5) (.slice A6 n2 c6)), .bool is, .int .i64 er]) ∧ D3 w0 s q now x A c ol dl A1 n1 c1 A2 n2 c2 A5 A6 w' ∧ Bk w' g 26 cs := by
  obtain ⟨F', T, L, L', M, h1, h2, h3, h4, h5, h6, h7, h8, h9, h10, h11, h12, h13, h14, h15, h16, h17, h18⟩ := h
  have ho := hx.2.1
  have hd := hx.2.2.1
  have hz := h9.size
  have hin : ∀ b, (0 < x.ol.length ∧ blk x.oA = some b) ∨ (0 < x.dl.length ∧ blk x.dA = some b) → b < w0.heap.size := fun b hb => by
    rcases hb with ⟨k1, k2⟩ | ⟨k1, k2⟩
    · exact rb_lt ho.rb k1 k2
    · exact rb_lt hd.rb k1 k2
  have hMl : M.length ≤ 8 := by have := f2_len h3; have := h5.2; omega
  refine (rfo_add q w0.heap.size T M x.p x.oA x.dA x.on x.oc x.dn x.dc x.ol x.dl now w h2 (by omega) hz (Rw.more (Rw.below ho.rb h9) hz) ho.len (Rw.more (Rw.below hd.rb h9) hz) hd.len hd.cap ho.cap (by omega) hin).mono ?_
  rintro e w' ⟨T', M', out', is', er', A5, A6, n5, c5, n6, c6, rfl, q1, q2, q3, q4, q5, q6, q7, q8⟩
  obtain ⟨rfl, rfl, rfl, hsm⟩ := add_same h3 h4 h5.1 hx.1 (by have := ho.len; omega) h16 q8
  obtain ⟨v1, v2, v3, v4, v5⟩ := q8.vok h6 h10.1 ho.bs hd.bs (by have := ho.len; omega) (by have := hd.len; omega)
  have e1 : n5 = n1 := by rw [← q3]; exact OB.length h13.1
  have e2 : n6 = n2 := by rw [← q5]; exact OB.length h13.2.1
  subst e1; subst e2
  have hT' : ∀ b, T' b → T b ∨ w.heap.size ≤ b ∨ b < w0.heap.size := fun b hb => by
    rcases (q6 b hb).2 with k | k | k
    · exact .inl k
    · exact .inr (.inl k)
    · exact .inr (.inr (hin b k))
  refine ⟨A5, c5, A6, c6, rfl, ⟨F', T', L', M', ⟨h1.chg q7 (fun b hb e => (h7 b hb).2 e.1), q1, hsm, v1, fun b hb => ⟨(h7 b hb).1, fun e => ?_⟩, fun b hb => (q6 b hb).1, ((Chg.of_below (F := fun _ => False) h9).trans q7 (fun b e => .inr e.2)).below (B := w0.heap.size) (fun _ e => e.elim) (Nat.le_refl _), h10⟩, ⟨Ow.chg h11.o q7 (fun b hb e => (h11.ne b hb).2 e.1), fun b hb => ⟨(h11.ne b hb).1, fun e => ?_⟩⟩, h12, ⟨Ow.chg h13.1 q7 (fun b hb e => (h14 b (.inl hb)).2 e.1), Ow.chg h13.2.1 q7 (fun b hb e => (h14 b (.inr hb)).2 e.1), h13.2.2⟩, fun b hb => ⟨(h14 b hb).1, fun e => ?_⟩, h15, q2, q4, v2, v3, v4, v5⟩, h17.chg q7 (fun e => h18 e.1)⟩
  · rcases hT' b e with k | k | k
    · exact (h7 b hb).2 k
    · have := h1.lt hb; omega
    · have := (h7 b hb).1; omega
  · rcases hT' b e with k | k | k
    · exact (h11.ne b hb).2 k
    · have := (h11.lt hb).2; omega
    · have := (h11.lt hb).1; omega
  · rcases hT' b e with k | k | k
    · exact (h14 b hb).2 k
    · rcases hb with hb | hb
      · have := (Ow.lt h13.1 b hb).2; omega
      · have := (Ow.lt h13.2.1 b hb).2; omega
    · rcases hb with hb | hb
      · have := (Ow.lt h13.1 b hb).1; omega
      · have := (Ow.lt h13.2.1 b hb).1; omega
theorem pl_packets {w0 w : World} {s q : Nat} {now : Int} {x : StV} {A : Option Addr} {c : Nat} (p : PkV) {ol dl : List Int} {A1 A2 A5 A6 : Option Addr} {n1 c1 n2 c2 : Nat} (c5 c6 : Nat) (h : D3 w0 s q now x A c ol dl A1 n1 c1 A2 n2 c2 A5 A6 w) :
    Calls Try.prog 27 #[.agg (pkC p (.slice A1 n1 c1) (.slice A2 n2 c2)), .agg (pkC p (.slice A5 n1 c5) (.slice A6 n2 c6))] w fun e w' => e = .returned (.bool true) ∧ D3 w0 s q now x A c ol dl A1 n1 c1 A2 n2 c2 A5 A6 w' ∧ Below w.heap.size w w' := by
  have h0 := h
  obtain ⟨F, T, L, M, h1, h2, h3, h4, h5, h6, h7, h8, h9, h10, h11, h12⟩ := h
  have e1 := OB.length h4.1
  have e2 := OB.length h4.2.1
  refine (packets_any p A1 A5 A2 A6 n1 c1 c5 n2 c2 c6 ol dl e1 (by omega) h9 e2 (by omega) h10 w (OB.rb h4.1) h7 (OB.rb h4.2.1) h8).mono ?_
  rintro e w' ⟨rfl, hb⟩
  exact ⟨rfl, h0.below hb, hb⟩
theorem pl_stands {w0 w : World} {s q : Nat} {now : Int} {x : StV} {A : Option Addr} {c : Nat} {ol dl : List Int} {A1 A2 A5 A6 : Option Addr} {n1 c1 n2 c2 : Nat} (h : D3 w0 s q now x A c ol dl A1 n1 c1 A2 n2 c2 A5 A6 w) (hx : StqOk w0 x) (hs : x.dn ≤ 24000) :
    Calls Try.prog 16 #[.slice A (x.dn + 1) c, .slice x.dA x.dn x.dc] w fun e w' => e = .returned (.bool true) ∧ D3 w0 s q now x A c ol dl A1 n1 c1 A2 n2 c2 A5 A6 w' ∧ Below w.heap.size w w' := by
  have h0 := h
  obtain ⟨F, T, L, M, h1, h2, h3, h4⟩ := h
  have hd := hx.2.2.1
  refine (stands_any A x.dA x.dn c x.dc w.heap.size w0.heap.size x.dl hd.len (by omega) h3 hd.bs w (OB.rb h2.o) (Rw.below hd.rb h1.bl)).mono ?_
  rintro e w' ⟨rfl, k, rfl⟩
  exact ⟨rfl, h0.below (bel_drewN (Below.refl _ _) k), bel_drewN (Below.refl _ _) k⟩
def D4 (w0 : World) (s q : Nat) (now : Int) (x : StV) (A : Option Addr) (c : Nat) (w : World) : Prop := ∃ F T L M, Pl w0 s q F T L M now w ∧ Own w0 F T A (x.dn + 1) c (x.dl ++ [171]) w
theorem pl_spoil1 {w0 w : World} {s q : Nat} {now : Int} {x : StV} {A : Option Addr} {c : Nat} {ol dl : List Int} {A1 A2 A5 A6 : Option Addr} {n1 c1 n2 c2 : Nat} (h : D3 w0 s q now x A c ol dl A1 n1 c1 A2 n2 c2 A5 A6 w) :
    Calls Try.prog 17 #[.slice A2 n2 c2] w fun e w' => e = .returned (.tuple #[]) ∧ D4 w0 s q now x A c w' := by
  obtain ⟨F, T, L, M, h1, h2, h3, h4, h5, h6, h7, h8, h9, h10, h11, h12⟩ := h
  have e2 := OB.length h4.2.1
  refine (spoil_any A2 n2 c2 w0.heap.size dl (by omega) w h4.2.1 h1.size).mono ?_
  rintro e w' ⟨rfl, hG⟩
  have hc : Chg (fun b => blk A2 = some b) w w' := Chg.of_grown hG (fun b e => e)
  exact ⟨rfl, F, T, L, M, h1.chg hc (fun b hb => ⟨(Ow.lt h4.2.1 b hb).1, (h5 b (.inr hb)).1, (h5 b (.inr hb)).2⟩), h2.chg hc (fun b hb e => h6 b e hb)⟩
theorem pl_spoil2 {w0 w : World} {s q : Nat} {now : Int} {x : StV} {A : Option Addr} {c : Nat} (h : D4 w0 s q now x A c w) (hx : StqOk w0 x) (hs : x.dn ≤ 24000) :
    Calls Try.prog 17 #[.slice A (x.dn + 1) c] w fun e w' => e = .returned (.tuple #[]) ∧ PlE w0 s q now w' := by
  obtain ⟨F, T, L, M, h1, h2⟩ := h
  refine (spoil_any A (x.dn + 1) c w0.heap.size _ (by omega) w h2.o h1.size).mono ?_
  rintro e w' ⟨rfl, hG⟩
  have hc : Chg (fun b => blk A = some b) w w' := Chg.of_grown hG (fun b e => e)
  exact ⟨rfl, F, T, L, M, h1.chg hc (fun b hb => ⟨(h2.lt hb).1, (h2.ne b hb).1, (h2.ne b hb).2⟩)⟩
end Go.Proofs.Ytcjkhonapafndaa
