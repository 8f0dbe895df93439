/- Proved: a host sends a packet; how far what a host does moves its counters and what it has sent (plain); a host and its call at any point of a function, with blocks of the function's own beside; what a count, a call, a new block leave of it; rows of bytes that stay. Conditions: as each law says. -/
import Derived.Test.YtaeafkdfbcppgaaGreatT26
set_option linter.unusedSectionVars false
set_option linter.unusedSimpArgs false
set_option linter.unusedVariables false
namespace Go.Proofs.YtaeafkdfbcppgaaGreat
open Go.RowKit
def nid (k : Int) : Int := if 65535 < k + 1 then 1 else k + 1
def idV (v : HV) : HV := { v with id := nid v.id }
def pkS (p : PkV) (k : Int) : PkV := { p with id := k, more := false, off := 0 }
theorem pkS_ok {p : PkV} (h : p.Ok) {k : Int} (hk : 1 ≤ k ∧ k ≤ 65535) : (pkS p k).Ok := ⟨h.svc, ⟨by show _ ≤ k; omega, by show k ≤ _; omega⟩, ⟨by show _ ≤ (0 : Int); omega, by show (0 : Int) ≤ _; omega⟩, h.life, h.proto, h.src, h.dst⟩
structure SdA (t : Nat) (K : Nat → Nat) (w : World) (wk : Nat) (d : HD) (now draw : Int) (v : HV) (S : List En) (Lr : List Rec) (P : Option (Int × List Dg)) (L : List (List Int)) (gp : Nat) (row : Array Value) (K1 : Nat → Nat) (wx : World) : Prop where
 hk : ∀ b, b < w.heap.size → K1 b = K b
 h7 : ∀ b, w.heap.size ≤ b → K1 b = t + 7
 hs : HostS t K1 wx d v S Lr P
 hw : WkS t K1 wx wk d now draw L
 hc : Chg (fun b => callK t (K b)) w wx
 bk : Bk wx gp 97 row
section
variable {t : Nat} {K : Nat → Nat} {w : World} {wk : Nat} {d : HD} {now draw : Int} {v : HV} {S : List En} {Lr : List Rec} {P : Option (Int × List Dg)} {L : List (List Int)} {gp : Nat} {row : Array Value} {K1 : Nat → Nat} {wx : World}
theorem HostS.setId (s : HostS t K w d v S Lr P) (k : Int) (hk : 1 ≤ k ∧ k ≤ 65535) : HostS t K (w.setCell ⟨d.h, 45, none⟩ (.int .i64 k)) d { v with id := k } S Lr P := by
 have hc : Chg (fun b => b = d.h) w (w.setCell ⟨d.h, 45, none⟩ (.int .i64 k)) := (Chg.refl _ w).set1 _
 refine s.upd (s.hx.hb.set_id k) hc rfl rfl rfl rfl rfl rfl rfl rfl rfl rfl rfl rfl (fun n x hn hx => s.ct n x hn ?_) hk
 rcases n with _ | _ | _ | _ | _ | _ | _ | _ | _ | _ | _ | _ | _ | _ | _ | _ | _ | n
 all_goals first | exact hx | omega
theorem SdA.bkset {i : Nat} (a : SdA t K w wk d now draw v S Lr P L gp row K1 wx) (hg : w.heap.size ≤ gp) (u : Value) : SdA t K w wk d now draw v S Lr P L gp (row.setIfInBounds i u) K1 (wx.setCell ⟨gp, i, none⟩ u) := by
 have hc : Chg (fun b => b = gp) wx (wx.setCell ⟨gp, i, none⟩ u) := (Chg.refl _ wx).set1 _
 have h7 := a.h7 gp hg
 exact ⟨a.hk, a.h7, a.hs.keep hc (fun b _ hk e => by rw [e, h7] at hk; exact absurd hk.2 (by omega)) (fun _ _ => rfl), a.hw.keep hc (fun b _ hk e => by rw [e, h7] at hk; omega) (fun _ _ => rfl), a.hc.trans hc (fun b e => .inr (by rw [e]; exact hg)), Bk.set a.bk i u⟩
theorem SdA.setId (a : SdA t K w wk d now draw v S Lr P L gp row K1 wx) (hg : w.heap.size ≤ gp) (hs0 : d.h < w.heap.size) (k : Int) (hk : 1 ≤ k ∧ k ≤ 65535) : SdA t K w wk d now draw { v with id := k } S Lr P L gp row K1 (wx.setCell ⟨d.h, 45, none⟩ (.int .i64 k)) := by
 have hc : Chg (fun b => b = d.h) wx (wx.setCell ⟨d.h, 45, none⟩ (.int .i64 k)) := (Chg.refl _ wx).set1 _
 have hkh := a.hs.kh
 have hk0 := (a.hk _ hs0).symm.trans hkh
 exact ⟨a.hk, a.h7, a.hs.setId k hk, a.hw.keep hc (fun b _ hk e => by rw [e, hkh] at hk; omega) (fun _ _ => rfl), a.hc.trans hc (fun b e => .inl (by rw [e, hk0]; exact ⟨by omega, by omega⟩)), Bk.far a.bk (by show gp ≠ d.h; omega) _⟩
theorem HostS.setId2 (s : HostS t K w d v S Lr P) (x k : Int) (hk : 1 ≤ k ∧ k ≤ 65535) : HostS t K ((w.setCell ⟨d.h, 45, none⟩ (.int .i64 x)).setCell ⟨d.h, 45, none⟩ (.int .i64 k)) d { v with id := k } S Lr P := by
 have hc : Chg (fun b => b = d.h) w ((w.setCell ⟨d.h, 45, none⟩ (.int .i64 x)).setCell ⟨d.h, 45, none⟩ (.int .i64 k)) := ((Chg.refl _ w).set1 _).set1 _
 refine s.upd ((s.hx.hb.set_id x).set_id k) hc rfl rfl rfl rfl rfl rfl rfl rfl rfl rfl rfl rfl (fun n x hn hx => s.ct n x hn ?_) hk
 rcases n with _ | _ | _ | _ | _ | _ | _ | _ | _ | _ | _ | _ | _ | _ | _ | _ | _ | n
 all_goals first | exact hx | omega
theorem SdA.setId2 (a : SdA t K w wk d now draw v S Lr P L gp row K1 wx) (hg : w.heap.size ≤ gp) (hs0 : d.h < w.heap.size) (x k : Int) (hk : 1 ≤ k ∧ k ≤ 65535) : SdA t K w wk d now draw { v with id := k } S Lr P L gp row K1 ((wx.setCell ⟨d.h, 45, none⟩ (.int .i64 x)).setCell ⟨d.h, 45, none⟩ (.int .i64 k)) := by
 have hc : Chg (fun b => b = d.h) wx ((wx.setCell ⟨d.h, 45, none⟩ (.int .i64 x)).setCell ⟨d.h, 45, none⟩ (.int .i64 k)) := ((Chg.refl _ wx).set1 _).set1 _
 have hkh := a.hs.kh
 have hk0 := (a.hk _ hs0).symm.trans hkh
 exact ⟨a.hk, a.h7, a.hs.setId2 x k hk, a.hw.keep hc (fun b _ hk e => by rw [e, hkh] at hk; omega) (fun _ _ => rfl), a.hc.trans hc (fun b e => .inl (by rw [e, hk0]; exact ⟨by omega, by omega⟩)), Bk.far (Bk.far a.bk (by show gp ≠ d.h; omega) _) (by show gp ≠ d.h; omega) _⟩
theorem SdA.begin (hs : HostS t K w d v S Lr P) (hw : WkS t K w wk d now draw L) : SdA t K w wk d now draw v S Lr P L w.heap.size row (fun b => if b < w.heap.size then K b else t + 7) (w.alloc (.cells row 97)) := by
 have hb : Below w.heap.size w (w.alloc (.cells row 97)) := (Below.refl _ _).alloc (Nat.le_refl _) _
 have hc : Chg (fun _ => False) w (w.alloc (.cells row 97)) := Chg.of_below hb
 exact ⟨fun b hb => if_pos hb, fun b hb => if_neg (by omega), hs.keep hc (fun _ _ _ e => e) (fun b hb => if_pos hb), hw.keep hc (fun _ _ _ e => e) (fun b hb => if_pos hb), hc.mono (fun _ _ e => e.elim), Bk.new w _ _⟩
theorem SdA.below (a : SdA t K w wk d now draw v S Lr P L gp row K1 wx) {w' : World} (hb : Below wx.heap.size wx w') : SdA t K w wk d now draw v S Lr P L gp row K1 w' :=
 ⟨a.hk, a.h7, a.hs.below hb, a.hw.below hb, a.hc.trans (Chg.of_below (F := fun _ => False) hb) (fun _ e => e.elim), a.bk.below hb a.bk.lt⟩
end
def PcB (x : Pc) (b : List Int) : Prop := (errIs x.1 x.2.1 x.2.2.length 0 ∧ b = ipB x.1 x.2.1 x.2.2) ∨ (¬ errIs x.1 x.2.1 x.2.2.length 0 ∧ b = [])
def ffs : Mac := (255, 255, 255, 255, 255, 255)
def SendL (bc : Bool) (a now : Int) : List Pc → HV → List En → List (List Int) → HV → List En → List (List Int) → Prop
 | [], v, S, L, v', S', L' => v' = v ∧ S' = S ∧ L' = L
 | x :: R, v, S, L, v', S', L' => ∃ b v1 S1 L1, PcB x b ∧ (if bc = true then v1 = frV v b ∧ S1 = S ∧ L1 = frL v ffs 2048 L b else HopR v S a now b L v1 S1 L1) ∧ SendL bc a now R v1 S1 L1 v' S' L'
def StepR (bc : Bool) (a now : Int) (b : List Int) (v : HV) (S : List En) (L : List (List Int)) (v1 : HV) (S1 : List En) (L1 : List (List Int)) : Prop := if bc = true then v1 = frV v b ∧ S1 = S ∧ L1 = frL v ffs 2048 L b else HopR v S a now b L v1 S1 L1
theorem SendL.snoc {bc : Bool} {a now : Int} {x : Pc} {v1 v2 : HV} {S1 S2 : List En} {L1 L2 : List (List Int)} : ∀ {R : List Pc} {v : HV} {S : List En} {L : List (List Int)}, SendL bc a now R v S L v1 S1 L1 → (∃ b, PcB x b ∧ StepR bc a now b v1 S1 L1 v2 S2 L2) → SendL bc a now (R ++ [x]) v S L v2 S2 L2
 | [], v, S, L, ⟨e1, e2, e3⟩, ⟨b, h1, h2⟩ => by subst e1 e2 e3; exact ⟨b, v2, S2, L2, h1, h2, rfl, rfl, rfl⟩
 | y :: R, v, S, L, ⟨b, v', S', L', h1, h2, h3⟩, h => ⟨b, v', S', L', h1, h2, SendL.snoc h3 h⟩
theorem frL_len (v : HV) (m : Mac) (k : Int) (L : List (List Int)) (l : List Int) : (frL v m k L l).length ≤ L.length + 1 := by
 unfold frL; split <;> simp
theorem StepR.len {bc : Bool} {a now : Int} {b : List Int} {v v1 : HV} {S S1 : List En} {L L1 : List (List Int)} (h : StepR bc a now b v S L v1 S1 L1) : L1.length ≤ L.length + 1 := by
 unfold StepR at h
 split at h
 ·rw [h.2.2]; exact frL_len _ _ _ _ _
 ·obtain ⟨told, T', nv, _, _, h⟩ := h
  rcases h with ⟨n, b, _, _, _, h⟩ | ⟨_, _, h⟩ | ⟨_, _, h⟩ | ⟨_, _, h⟩
  ·rw [h]; exact frL_len _ _ _ _ _
  ·rw [h]; unfold askF; simp
  ·rw [h]; exact Nat.le_succ _
  ·rw [h]; exact Nat.le_succ _
theorem PsAt.cell_ {w : World} {base : Nat} {A : Option Addr} {n c : Nat} {L : List Pm} (h : PsAt w base (.slice A n c) n L) {k : Nat} {x : Pm} (hk : L[k]? = some x) :
  ∃ g, A = some ⟨g, 0, none⟩ ∧ base ≤ g ∧ g < w.heap.size ∧ ∀ j u, (pmC x)[j]? = some u → w.cell? ⟨g, k * 11 + j, none⟩ = some u := by
 have hkl : k < L.length := by
  rcases Nat.lt_or_ge k L.length with h1 | h1
  ·exact h1
  ·rw [List.getElem?_eq_none h1] at hk; cases hk
 have hln := h.len
 rcases h.2 with ⟨h1, h2⟩ | ⟨g, cap, cur, h1, h2, h3, h4, h5, h6, h7⟩
 ·omega
 ·injection h1 with a b d
  subst a
  refine ⟨g, rfl, h2, (Array.getElem?_eq_some_iff.1 h3).1, fun j u hu => ?_⟩
  have hj : j < 11 := by
   rcases Nat.lt_or_ge j 11 with h1 | h1
   ·exact h1
   ·rw [List.getElem?_eq_none (by rw [pmC_len]; exact h1)] at hu; cases hu
  rw [cell_of_row w g (k * 11 + j) cur _ (0, 0) h3]
  have := flat_get L k j x hk hj
  rw [hu, ← h7, List.getElem?_take, if_pos (by omega)] at this
  simpa using this
theorem frV_addr (v : HV) (l : List Int) : (frV v l).addr = v.addr := by unfold frV; split <;> rfl
theorem HopR.addr {v v' : HV} {S S' : List En} {a now : Int} {l : List Int} {L L' : List (List Int)} (h : HopR v S a now l L v' S' L') : v'.addr = v.addr := by
 obtain ⟨told, T', nv, _, _, h⟩ := h
 rcases h with ⟨n, b, _, _, rfl, _⟩ | ⟨_, rfl, _⟩ | ⟨_, rfl, _⟩ | ⟨_, rfl, _⟩
 ·exact frV_addr _ _
 ·rfl
 ·rfl
 ·rfl
theorem SendL.addr {bc : Bool} {a now : Int} : ∀ {R : List Pc} {v v' : HV} {S S' : List En} {L L' : List (List Int)}, SendL bc a now R v S L v' S' L' → v'.addr = v.addr
 | [], v, v', S, S', L, L', ⟨e1, _, _⟩ => by rw [e1]
 | x :: R, v, v', S, S', L, L', ⟨b, v1, S1, L1, h1, h2, h3⟩ => by
  rw [SendL.addr h3]
  split at h2
  ·rw [h2.1]; exact frV_addr _ _
  ·exact h2.addr
def LpS (t : Nat) (K1 : Nat → Nat) (w5 : World) (wk : Nat) (d : HD) (now draw : Int) (Lr : List Rec) (P : Option (Int × List Dg)) (bc : Bool) (a : Int) (R : List Pc) (v0 : HV) (S0 : List En) (L0 : List (List Int)) (k : Nat) (wx : World) : Prop :=
 ∃ v' S' L', SendL bc a now (R.take k) v0 S0 L0 v' S' L' ∧ L'.length ≤ L0.length + k ∧ PostW t K1 w5 wk d now draw v' S' Lr P L' wx
def SendsR (v : HV) (S : List En) (p : PkV) (dl : List Int) (now : Int) (L : List (List Int)) (k : Int) (v' : HV) (S' : List En) (L' : List (List Int)) : Prop :=
 (isBc p.dst v.addr = false ∧ ¬ inNet p.dst ∧ k = 24 ∧ v' = cnt 8 (idV v) ∧ S' = S ∧ L' = L) ∨
 ((isBc p.dst v.addr = true ∨ inNet p.dst) ∧ k = 0 ∧ SendL (isBc p.dst v.addr) p.dst now (splitP (pkS p v.id) 1500 [] dl) (idV v) S L v' S' L')
open Go.RowKit
theorem incC_up {x : Int} (h : x + 1 ≤ 4611686018427387904) : incC x = x + 1 := by unfold incC; split <;> omega
structure Eff (v : HV) (L : List (List Int)) (v' : HV) (L' : List (List Int)) (n : Nat) (k : Int) : Prop where
 c0 : v'.c0 = v.c0
 c1 : v.c1 + n ≤ 4611686018427387904 → v'.c1 + L.length = v.c1 + L'.length
 c23 : v'.c2 + v'.c3 ≤ v.c2 + v.c3 + k
 le : L.length ≤ L'.length
 len : L'.length ≤ L.length + n
 ad : v'.addr = v.addr
 mc : v'.m = v.m
section
variable {v v1 v2 : HV} {L L1 L2 : List (List Int)} {n n1 n2 : Nat} {k k1 k2 : Int}
theorem Eff.refl (v : HV) (L : List (List Int)) : Eff v L v L 0 0 := ⟨rfl, fun _ => rfl, by omega, Nat.le_refl _, by omega, rfl, rfl⟩
theorem Eff.trans (h1 : Eff v L v1 L1 n1 k1) (h2 : Eff v1 L1 v2 L2 n2 k2) : Eff v L v2 L2 (n1 + n2) (k1 + k2) where
 c0 := h2.c0.trans h1.c0
 c1 := fun h => by
  have a := h1.c1 (by omega)
  have q1 := h1.len
  have q2 := h1.le
  have b := h2.c1 (by omega)
  omega
 c23 := by have := h1.c23; have := h2.c23; omega
 le := Nat.le_trans h1.le h2.le
 len := by have := h1.len; have := h2.len; omega
 ad := h2.ad.trans h1.ad
 mc := h2.mc.trans h1.mc
theorem Eff.more (h : Eff v L v1 L1 n k) (hn : n ≤ n1) (hk : k ≤ k1) : Eff v L v1 L1 n1 k1 where
 c0 := h.c0
 c1 := fun q => h.c1 (by omega)
 c23 := by have := h.c23; omega
 le := h.le
 len := by have := h.len; omega
 ad := h.ad
 mc := h.mc
theorem Eff.fr (v : HV) (L : List (List Int)) (m : Mac) (q : Int) (l : List Int) : Eff v L (frV v l) (frL v m q L l) 1 0 := by
 unfold frV frL
 split
 ·exact ⟨rfl, fun h => by show incC v.c1 + _ = _; rw [incC_up h, List.length_append]; simp; omega, by show v.c2 + v.c3 ≤ _; omega, by simp, by simp, rfl, rfl⟩
 ·exact (Eff.refl v L).more (by omega) (by omega)
end
open Go.RowKit
structure At (t : Nat) (K : Nat → Nat) (w : World) (wk : Nat) (d : HD) (now draw : Int) (v : HV) (S : List En) (Lr : List Rec) (P : Option (Int × List Dg)) (L : List (List Int)) (K1 : Nat → Nat) (wx : World) : Prop where
 hk : ∀ b, b < w.heap.size → K1 b = K b
 hs : HostS t K1 wx d v S Lr P
 hw : WkS t K1 wx wk d now draw L
 hc : Chg (fun b => callK t (K b)) w wx
section
variable {t : Nat} {K K1 : Nat → Nat} {w wx w' : World} {wk : Nat} {d : HD} {now draw : Int} {v v2 : HV} {S S2 : List En} {Lr Lr2 : List Rec} {P P2 : Option (Int × List Dg)} {L L2 : List (List Int)}
theorem At.start (hs : HostS t K w d v S Lr P) (hw : WkS t K w wk d now draw L) : At t K w wk d now draw v S Lr P L K w := ⟨fun _ _ => rfl, hs, hw, Chg.refl _ _⟩
theorem At.le (a : At t K w wk d now draw v S Lr P L K1 wx) : w.heap.size ≤ wx.heap.size := a.hc.size
theorem At.wlt (a : At t K w wk d now draw v S Lr P L K1 wx) : wk < wx.heap.size := by obtain ⟨_, _, _, _, k1, _⟩ := a.hw.ex; exact k1.lt
theorem At.hlt (a : At t K w wk d now draw v S Lr P L K1 wx) : d.h < wx.heap.size := a.hs.lt
theorem At.recol (a : At t K w wk d now draw v S Lr P L K1 wx) {K2 : Nat → Nat} (h : ∀ b, b < wx.heap.size → K2 b = K1 b) : At t K w wk d now draw v S Lr P L K2 wx :=
 ⟨fun b hb => (h b (Nat.lt_of_lt_of_le hb a.hc.size)).trans (a.hk b hb), a.hs.keep (Chg.refl (fun _ => False) wx) (fun _ _ _ e => e) h, a.hw.keep (Chg.refl (fun _ => False) wx) (fun _ _ _ e => e) h, a.hc⟩
theorem At.fresh (a : At t K w wk d now draw v S Lr P L K1 wx) : ∃ K2, At t K w wk d now draw v S Lr P L K2 wx ∧ (∀ b, b < wx.heap.size → K2 b = K1 b) ∧ ∀ b, wx.heap.size ≤ b → K2 b = t + 7 :=
 ⟨fun b => if b < wx.heap.size then K1 b else t + 7, a.recol (fun b hb => if_pos hb), fun b hb => if_pos hb, fun b hb => if_neg (by omega)⟩
theorem At.below (a : At t K w wk d now draw v S Lr P L K1 wx) (hb : Below wx.heap.size wx w') : At t K w wk d now draw v S Lr P L K1 w' :=
 ⟨a.hk, a.hs.below hb, a.hw.below hb, a.hc.trans (Chg.of_below (F := fun _ => False) hb) (fun _ e => e.elim)⟩
theorem At.drewN (a : At t K w wk d now draw v S Lr P L K1 wx) (n : Nat) : At t K w wk d now draw v S Lr P L K1 (wx.drewN n) := a.below (bel_drewN (Below.refl _ _) n)
theorem At.post (a : At t K w wk d now draw v S Lr P L K1 wx) : PostW t K w wk d now draw v S Lr P L wx := ⟨K1, a.hk, a.hs, a.hw, a.hc⟩
theorem At.call (a : At t K w wk d now draw v S Lr P L K1 wx) (h : PostW t K1 wx wk d now draw v2 S2 Lr2 P2 L2 w') :
  ∃ K2, (∀ b, b < wx.heap.size → K2 b = K1 b) ∧ At t K w wk d now draw v2 S2 Lr2 P2 L2 K2 w' ∧ Chg (fun b => callK t (K1 b)) wx w' := by
 obtain ⟨K2, k1, k2, k3, k4⟩ := h
 refine ⟨K2, k1, ⟨fun b hb => (k1 b (Nat.lt_of_lt_of_le hb a.hc.size)).trans (a.hk b hb), k2, k3, a.hc.trans k4 (fun b hb => ?_)⟩, k4⟩
 rcases Nat.lt_or_ge b w.heap.size with h1 | h1
 ·left; rw [← a.hk b h1]; exact hb
 ·exact .inr h1
theorem At.count {n : Nat} {e : Ending} (a : At t K w wk d now draw v S Lr P L K1 wx) (h : CntPost t K1 wx d n v S Lr P e w') : At t K w wk d now draw (cnt n v) S Lr P L K1 w' ∧ Chg (fun b => callK t (K1 b)) wx w' := by
 have hc := h.chg a.hs
 refine ⟨⟨a.hk, h.2.1, h.work a.hs a.hw, a.hc.trans hc (fun b hb => ?_)⟩, hc⟩
 rcases Nat.lt_or_ge b w.heap.size with h1 | h1
 ·left; rw [← a.hk b h1]; exact hb
 ·exact .inr h1
theorem At.wk0 (a : At t K w wk d now draw v S Lr P L K1 wx) : wx.cell? ⟨wk, 0, none⟩ = some (bp d.h) := by obtain ⟨_, _, _, _, k1, _⟩ := a.hw.ex; exact k1.cell 0
theorem At.wk1 (a : At t K w wk d now draw v S Lr P L K1 wx) : wx.cell? ⟨wk, 1, none⟩ = some (.int .i64 now) := by obtain ⟨_, _, _, _, k1, _⟩ := a.hw.ex; exact k1.cell 1
theorem At.hb (a : At t K w wk d now draw v S Lr P L K1 wx) : HB wx d.h v := a.hs.hx.hb
theorem Bk.over {g : Nat} {T : TypeId} {row : Array Value} (h : Bk wx g T row) (hc : Chg (fun b => callK t (K1 b)) wx w') (hk : K1 g = t + 7) : Bk w' g T row := h.chg hc (fun e => by rw [hk] at e; exact absurd e.2 (by omega))
end
end Go.Proofs.YtaeafkdfbcppgaaGreat
