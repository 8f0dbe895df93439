/- Proved: a stack of sockets at the beginning; what holds while Tick goes round the neighbours, and what each of its steps makes of it; Tick of a cache of neighbours, by its walk; two caches with the same neighbours, in whatever order, answer alike (plain); what of the cache of neighbours has nobody of an add. Conditions: as each law says. -/
import Derived.Test.YtaeafkdfbcppgaaGreatT14
import Derived.Test.YtaeafkdfbcppgaaGreatT16
set_option linter.unusedSectionVars false
set_option linter.unusedSimpArgs false
set_option linter.unusedVariables false
namespace Go.Proofs.YtaeafkdfbcppgaaGreat
open Go.RowKit
structure HD where
 h : Nat
 S : Nat
 A : Option Addr
 c : Nat
 bk : Nat
 plc : Nat
 arr : Nat
structure HostAt (w : World) (F : Nat → Prop) (d : HD) (v : HV) : Prop where
 hb : HB w d.h v
 k0 : v.k0 = bp (d.S + 1)
 bkt : v.bkt = bp d.bk
 plc : v.plc = .map (some d.plc)
 arr : v.arr = .map (some d.arr)
 grp : v.grp = nilS
 rt : RtOk w d.S d.A d.c
 bw : ∃ has last : Int, (0 ≤ has ∧ has ≤ 10) ∧ (0 ≤ last ∧ last ≤ 4611686018427387904) ∧ Bk w d.bk 212 #[.int .i64 10, .int .i64 20, .int .i64 has, .int .i64 last]
 ar : IM mkI okI w d.arr arrL
 fh : F d.h
 fn : ∀ b, d.S < b → b ≤ d.S + 24 → F b
 fa : ∀ b, blk d.A = some b → F b
 fb : F d.bk
 fr : F d.arr
theorem RtOk.keep {w w' : World} {S : Nat} {A : Option Addr} {c : Nat} (t : RtOk w S A c) (hn : ∀ b, S < b → b ≤ S + 24 → w'.heap[b]? = w.heap[b]?) (ha : ∀ b, blk A = some b → w'.heap[b]? = w.heap[b]?) : RtOk w' S A c :=
 ⟨fun j h1 h2 => (hn _ (by omega) (by omega)).trans (t.nodes j h1 h2), (hn _ (by omega) (by omega)).trans t.last, t.row.of_block ha⟩
theorem IM.keep_ {w w' : World} {b : Nat} {α : Type} {mk : α → Value} {ok : α → Prop} {L : List (α × Value)} (h : IM mk ok w b L) (hb : w'.heap[b]? = w.heap[b]?) : IM mk ok w' b L := by
 obtain ⟨es, cl, q1, q2⟩ := h
 exact ⟨es, cl, hb.trans q1, q2⟩
theorem HostAt.keep {w w' : World} {F G : Nat → Prop} {d : HD} {v : HV} (t : HostAt w F d v) (hk : ∀ b, F b → b < w.heap.size → w'.heap[b]? = w.heap[b]?) (hFG : ∀ b, F b → G b) : HostAt w' G d v where
 hb := (hk _ t.fh t.hb.lt).trans t.hb
 k0 := t.k0
 bkt := t.bkt
 plc := t.plc
 arr := t.arr
 grp := t.grp
 rt := t.rt.keep (fun b h1 h2 => hk b (t.fn b h1 h2) (by have := t.rt.last.lt; omega)) (fun b hb => hk b (t.fa b hb) (t.rt.row.lt b hb).2)
 bw := by obtain ⟨a, b, h1, h2, h3⟩ := t.bw; exact ⟨a, b, h1, h2, (hk _ t.fb h3.lt).trans h3⟩
 ar := t.ar.keep_ (hk _ t.fr t.ar.lt)
 fh := hFG _ t.fh
 fn := fun b h1 h2 => hFG _ (t.fn b h1 h2)
 fa := fun b hb => hFG _ (t.fa b hb)
 fb := hFG _ t.fb
 fr := hFG _ t.fr
theorem HostAt.below {w w' : World} {F : Nat → Prop} {d : HD} {v : HV} (t : HostAt w F d v) (hb : Below w.heap.size w w') : HostAt w' F d v := t.keep (fun b _ hl => hb.block b hl) (fun _ h => h)
theorem HostAt.upd {w w' : World} {F : Nat → Prop} {d : HD} {v v' : HV} (t : HostAt w F d v) (hb : HB w' d.h v') (hc : Chg (fun b => b = d.h) w w') (h1 : v'.k0 = v.k0) (h2 : v'.bkt = v.bkt) (h3 : v'.plc = v.plc) (h4 : v'.arr = v.arr) (h5 : v'.grp = v.grp) : HostAt w' F d v' where
 hb := hb
 k0 := h1.trans t.k0
 bkt := h2.trans t.bkt
 plc := h3.trans t.plc
 arr := h4.trans t.arr
 grp := h5.trans t.grp
 rt := t.rt.keep (fun b q1 q2 => hc.block b (by have := t.rt.last.lt; omega) (by
   have q3 : b = d.S + (b - d.S) := by omega
   rintro rfl
   rcases Nat.lt_or_ge (d.h - d.S) 24 with q | q
   ·have := t.rt.nodes (d.h - d.S) (by omega) q
    rw [← q3] at this
    exact Bk.ne_ t.hb this (by decide) rfl
   ·have e : d.h = d.S + 24 := by omega
    exact Bk.ne_ t.hb t.rt.last (by decide) e)) (fun b q => hc.block b (t.rt.row.lt b q).2 (by
   rintro rfl
   obtain ⟨g, e1, _, _, e4, _⟩ := t.rt.row.cell (j := 0) (u := .int .u32 net) rfl
   rw [e1] at q
   injection q with q
   have hg : g = d.h := q
   subst hg
   have := (Bk.cell t.hb 0).symm.trans e4
   injection this with this
   cases this))
 bw := by
  obtain ⟨a, b, q1, q2, q3⟩ := t.bw
  exact ⟨a, b, q1, q2, (hc.block _ q3.lt (fun e => Bk.ne_ t.hb q3 (by decide) e.symm)).trans q3⟩
 ar := t.ar.keep_ (hc.block _ t.ar.lt (fun e => by
  obtain ⟨es, cl, q1, _⟩ := t.ar
  have q2 : w.heap[d.h]? = _ := t.hb
  rw [e, q2] at q1
  cases q1))
 fh := t.fh
 fn := t.fn
 fa := t.fa
 fb := t.fb
 fr := t.fr
structure SideAt (w : World) (F : Nat → Prop) (st sm : Nat) (d : HD) (v : HV) : Prop where
 host : HostAt w F d v
 stk : Bk w st 195 #[bp d.h, .map (some sm), nilS]
 fst_ : F st
 fsm : F sm
 fpl : F d.plc
theorem SideAt.keep {w w' : World} {F G : Nat → Prop} {st sm : Nat} {d : HD} {v : HV} (t : SideAt w F st sm d v) (hk : ∀ b, F b → b < w.heap.size → w'.heap[b]? = w.heap[b]?) (hFG : ∀ b, F b → G b) : SideAt w' G st sm d v :=
 ⟨t.host.keep hk hFG, (hk _ t.fst_ t.stk.lt).trans t.stk, hFG _ t.fst_, hFG _ t.fsm, hFG _ t.fpl⟩
def NoSk (w : World) (sm : Nat) (d : HD) (v : HV) : Prop := IM mkI okI w sm [] ∧ (v.prt = .map none ∧ sm ≠ d.plc) ∧ IM mkI okI w d.plc []
theorem NoSk.keep {w w' : World} {sm : Nat} {d : HD} {v : HV} (t : NoSk w sm d v) (h1 : w'.heap[sm]? = w.heap[sm]?) (h2 : w'.heap[d.plc]? = w.heap[d.plc]?) : NoSk w' sm d v := ⟨t.1.keep_ h1, t.2.1, t.2.2.keep_ h2⟩
def NewSide (w w' : World) (m : Int × Int × Int × Int × Int × Int) (a : Int) (st sm : Nat) (d : HD) : Prop :=
 SideAt w' (fun b => w.heap.size ≤ b ∧ b < w'.heap.size) st sm d (hv0 m a d.S d.bk d.plc d.arr) ∧ NoSk w' sm d (hv0 m a d.S d.bk d.plc d.arr) ∧ Below w.heap.size w w'
set_option maxHeartbeats 4000000 in
set_option maxRecDepth 100000 in
theorem snew_any (m : Int × Int × Int × Int × Int × Int) (a : Int) (hm : bits BinOp.and IntKind.u8 m.1 1 = 0) (ha : okH a) (w : World) :
  Calls Tryz.prog 23 #[.agg (cfgC m a)] w fun e w' => ∃ st sm d, e = .returned (.tuple #[bp st, .int .i64 0]) ∧ NewSide w w' m a st sm d := by
 have hmm := @run_makeMap Tryz.prog
 obtain ⟨W, hW⟩ : ∃ W, w.alloc (.cells (cfgC m a) 30) = W := ⟨_, rfl⟩
 have HW : Hid (w.alloc (.cells #[.int .u8 m.1, .int .u8 m.2.1, .int .u8 m.2.2.1, .int .u8 m.2.2.2.1, .int .u8 m.2.2.2.2.1, .int .u8 m.2.2.2.2.2, .int .u32 a, .int .i64 24, .int .u32 0] 30) = W) := Lib.hid hW
 have hx : Bk W w.heap.size 30 (cfgC m a) := by rw [← hW]; exact Bk.new _ _ _
 have hB : Below w.heap.size w W := by rw [← hW]; exact (Below.refl _ _).alloc (Nat.le_refl _) _
 have hz : W.heap.size = w.heap.size + 1 := by rw [← hW]; simp
 have k0 := hx.cell 0
 have k1 := hx.cell 1
 have k2 := hx.cell 2
 have k3 := hx.cell 3
 have k4 := hx.cell 4
 have k5 := hx.cell 5
 have k6 := hx.cell 6
 have k7 := hx.cell 7
 have k8 := hx.cell 8
 simp only [cfgC, List.getElem?_toArray, List.getElem?_cons_zero, List.getElem?_cons_succ] at k0 k1 k2 k3 k4 k5 k6 k7 k8
 have HBB := Lib.hid hB
 have HZ := Lib.hid hz
 have HM := Lib.hid hm
 have HA := Lib.hid ha
 clear hW hx hB hz hm ha
 go_enter Tryz.func23, Tryz.ntmps23
 unfold cfgC
 go_wp2_with fail
 rw [HW.out]
 go_wp2_with fail
 refine (hnew_any m a HM.out HA.out _).mono ?_
 rintro e1 w1 ⟨h, S, A, c, bk, plc, arr, rfl, q1, q2, q3, q4, q5, hb, hrt, hbk, hpl, har, hbl⟩
 have hz1 : w1.heap.size = w1.heap.size := rfl
 have HFIN : Hid (∃ st sm d, (Ending.returned (.tuple #[bp (w1.heap.size + 1), .int .i64 0])) = .returned (.tuple #[bp st, .int .i64 0]) ∧ NewSide w ((w1.alloc (.map #[] 0)).alloc (.cells #[bp h, .map (some w1.heap.size), nilS] 195)) m a st sm d) := Lib.hid (by
  have hz := HZ.out
  have hb2 : Below w1.heap.size w1 ((w1.alloc (.map #[] 0)).alloc (.cells #[bp h, .map (some w1.heap.size), nilS] 195)) := ((Below.refl _ _).alloc (Nat.le_refl _) _).alloc (by simp) _
  have hz2 : ((w1.alloc (.map #[] 0)).alloc (.cells #[bp h, .map (some w1.heap.size), nilS] 195)).heap.size = w1.heap.size + 2 := by simp
  have hs := hrt.last.lt
  have hh := hb.lt
  have hbk' := hbk.lt
  have har' := har.lt
  have hpl' := hpl.lt
  have t : HostAt w1 (fun b => w.heap.size ≤ b ∧ b < w1.heap.size) ⟨h, S, A, c, bk, plc, arr⟩ (hv0 m a S bk plc arr) :=
   {hb := hb, k0 := rfl, bkt := rfl, plc := rfl, arr := rfl, grp := rfl, rt := hrt, bw := ⟨10, 0, by omega, by omega, hbk⟩, ar := har,
    fh := ⟨by simp only; omega, hh⟩, fn := fun b h1 h2 => ⟨by simp only at h1; omega, by simp only at h2; omega⟩, fa := fun b hb => ⟨by have := (hrt.row.lt b hb).1; omega, (hrt.row.lt b hb).2⟩, fb := ⟨by simp only; omega, hbk'⟩, fr := ⟨by simp only; omega, har'⟩ }
  refine ⟨w1.heap.size + 1, w1.heap.size, ⟨h, S, A, c, bk, plc, arr⟩, rfl, ⟨(t.below hb2).keep (fun _ _ _ => rfl) (fun b h => ⟨h.1, by rw [hz2]; omega⟩), ?_, ⟨by omega, by omega⟩, ⟨by omega, by omega⟩, ⟨by simp only; omega, by simp only; omega⟩⟩, ⟨IM.alloc (IM.made w1) _, ⟨rfl, by simp only; omega⟩, hpl.keep_ (hb2.block _ hpl')⟩, ?_⟩
  ·have := Bk.new (w1.alloc (.map #[] 0)) 195 #[bp h, .map (some w1.heap.size), nilS]
   rwa [World.size_alloc] at this
  ·exact (HBB.out.trans (hbl.mono (by omega))).trans (hb2.mono (by have := hbl.size; omega)))
 clear q1 q2 q3 q4 q5 hb hrt hbk hpl har hbl hz1
 go_wp2
 go_ret2
 exact HFIN.out
open Go.RowKit
variable {V : HV}
theorem RowsAt.cap_ {w : World} {F : Nat → Prop} : ∀ {vs : List Value} {ls : List (List Int)}, RowsAt w F vs ls → RowsAt w (fun b => F b ∧ b < w.heap.size) vs ls
 | [], [], _ => trivial
 | v :: vs, l :: ls, h => ⟨by
   obtain ⟨A, n, c, rfl, r1, r2, r3⟩ := h.1
   exact ⟨A, n, c, rfl, r1, fun b hb => ⟨r2 b hb, (Ow.lt r1 b hb).2⟩, r3⟩, RowsAt.cap_ h.2⟩
 | [], _ :: _, h => h.elim
 | _ :: _, [], h => h.elim
theorem CacheMv.cap {w : World} {F : Nat → Prop} {g : Nat} {mv : Option Nat} {S : List En} (h : CacheMv V w F g mv S) : CacheMv V w (fun b => F b ∧ b < w.heap.size) g mv S := by
 obtain ⟨h1, h2, h3, h4, h5⟩ := h
 refine ⟨h1, ⟨h2, h1.1.lt⟩, fun b hb => ⟨h3 b hb, (h1.2.2 b hb).lt⟩, fun e he => ?_, h5⟩
 obtain ⟨k1, k2, ⟨vs, k3, k4⟩, k5, k6⟩ := h4 e he
 exact ⟨k1, ⟨k2, k1.lt⟩, ⟨vs, k3, k4.cap_⟩, fun b hb => ⟨k5 b hb, (k3.lt b hb).2⟩, k6⟩
theorem OA.kept {w w' : World} {base : Nat} {A : Option Addr} {n c : Nat} {l : List Int} {row : Option Nat} (h : OA w base A n c l) (hg : w.grownBy w' row) (hne : blk A = none ∨ blk A ≠ row) : OA w' base A n c l := Ow.kept h hg hne
theorem OA.lt {w : World} {base : Nat} {A : Option Addr} {n c : Nat} {l : List Int} (h : OA w base A n c l) : ∀ g, blk A = some g → base ≤ g ∧ g < w.heap.size := Ow.lt h
structure TkInv (V : HV) (w wr : World) (F : Nat → Prop) (g b : Nat) (now : Int) (S0 : List En) (left : Int → Bool) (S : List En) (A1 : Option Addr) (n1 c1 : Nat) (A2 : Option Addr) (n2 c2 : Nat) (asks losts : List Int) : Prop where
 cm : CacheMv V wr F g (some b) S
 cs : S = curS now left S0
 oa : OA wr (w.heap.size + 1) A1 n1 c1 asks
 ol : OA wr (w.heap.size + 1) A2 n2 c2 losts
 as_ : AskIs (askB now) left S0 asks
 ls : AskIs (lostB now) left S0 losts
 ch : Chg F w wr
 ne : blk A1 = none ∨ blk A1 ≠ blk A2
 sz : w.heap.size < wr.heap.size
section
variable {w wr w1 w2 w3 : World} {F : Nat → Prop} {g b : Nat} {now : Int} {S0 S : List En} {left : Int → Bool} {A1 A2 : Option Addr} {n1 c1 n2 c2 : Nat} {asks losts : List Int}
theorem OA.ne_ {base : Nat} {A : Option Addr} {n c : Nat} {l : List Int} (h : OA w1 base A n c l) {x : Nat} (hx : x < base) : blk A = none ∨ blk A ≠ some x := by
 cases hA : blk A with
 | none => exact .inl rfl
 | some y => exact .inr fun e => by injection e with e; have := (h.lt y hA).1; omega
theorem TkInv.next (h : TkInv V w wr F g b now S0 left S A1 n1 c1 A2 n2 c2 asks losts) (hF : ∀ x, F x → x < w.heap.size) (hg : wr.grownBy w1 (some w.heap.size)) : TkInv V w w1 F g b now S0 left S A1 n1 c1 A2 n2 c2 asks losts where
 cm := h.cm.keep (fun x hx hl => hg.block x hl (fun e => by injection e with e; have := hF x hx; omega)) (fun _ h => h)
 cs := h.cs
 oa := h.oa.kept hg (h.oa.ne_ (by omega))
 ol := h.ol.kept hg (h.ol.ne_ (by omega))
 as_ := h.as_
 ls := h.ls
 ch := h.ch.trans (Chg.of_grown (F := fun x => x = w.heap.size) hg (fun x e => by injection e with e; exact e.symm)) (fun x e => .inr (by omega))
 ne := h.ne
 sz := Nat.lt_of_lt_of_le h.sz hg.size
theorem TkInv.has (h : TkInv V w wr F g b now S0 left S A1 n1 c1 A2 n2 c2 asks losts) (hk : (S0.map (·.a)).Nodup) {e : En} (he : e ∈ S) (hl : left e.a = true) : e ∈ S0 := curS_has hk (by rw [← h.cs]; exact he) hl
theorem TkInv.stay (h : TkInv V w wr F g b now S0 left S A1 n1 c1 A2 n2 c2 asks losts) (hk : (S0.map (·.a)).Nodup) {e : En} (he : e ∈ S) (hl : left e.a = true) (ht : now < e.n.tk) : TkInv V w wr F g b now S0 (past left e.a) S A1 n1 c1 A2 n2 c2 asks losts := by
 have hS := h.has hk he hl
 exact { h with
  cs := by rw [curS_stay hk hS hl (by unfold stepE; rw [if_pos ht])]; exact h.cs
  as_ := h.as_.no hk hS hl (fun hp => by have := hp.1; omega)
  ls := h.ls.no hk hS hl (fun hp => by have := hp.1; omega) }
theorem TkInv.map (h : TkInv V w w1 F g b now S0 left S A1 n1 c1 A2 n2 c2 asks losts) (hF : ∀ x, F x → x < w.heap.size) {a : Int} (hI : IM mkA okA w2 b (delL (S.map enE) a)) (hg : w1.grownBy w2 (some b)) :
  CacheMv V w2 F g (some b) (S.filter fun x => decide (x.a ≠ a)) ∧ OA w2 (w.heap.size + 1) A1 n1 c1 asks ∧ OA w2 (w.heap.size + 1) A2 n2 c2 losts ∧ Chg F w w2 ∧ w.heap.size < w2.heap.size := by
 have hbF : F b := h.cm.2.2.1 b rfl
 have hn : NoDup (S.map enE) := CacheAt.nodup ⟨some b, h.cm⟩
 have hc : Chg (fun x => some b = some x) w1 w2 := Chg.of_grown hg (fun _ e => e)
 obtain ⟨k1, k2, k3, k4, k5, k6⟩ := h.cm
 have hne := (k1.2.2 b rfl).ne_bk k1.1
 refine ⟨CacheAt.remove k1 k2 k3 k4 k5 k6 hn ⟨k1.1.grown hg (by intro e; injection e with e; exact hne e.symm), (fun e => by cases e), fun x e => by injection e with e; subst e; exact hI⟩ hc, h.oa.kept hg (h.oa.ne_ ?_), h.ol.kept hg (h.ol.ne_ ?_), h.ch.trans hc ?_, Nat.lt_of_lt_of_le h.sz hg.size⟩
 ·have := hF b hbF; omega
 ·have := hF b hbF; omega
 ·intro x e; injection e with e; exact .inl (e ▸ hbF)
theorem TkInv.gone (h : TkInv V w w1 F g b now S0 left S A1 n1 c1 A2 n2 c2 asks losts) (hF : ∀ x, F x → x < w.heap.size) (hk : (S0.map (·.a)).Nodup) {e : En} (he : e ∈ S) (hl : left e.a = true) (ht : ¬ now < e.n.tk) (hkn : e.n.kn = true)
  (hI : IM mkA okA w2 b (delL (S.map enE) e.a)) (hg : w1.grownBy w2 (some b)) : TkInv V w w2 F g b now S0 (past left e.a) (S.filter fun x => decide (x.a ≠ e.a)) A1 n1 c1 A2 n2 c2 asks losts := by
 have hS := h.has hk he hl
 obtain ⟨q1, q2, q3, q4, q5⟩ := h.map hF hI hg
 exact { cm := q1, oa := q2, ol := q3, ch := q4, sz := q5, ne := h.ne
         cs := by rw [curS_gone hk hS hl (by unfold stepE; rw [if_neg ht, if_pos hkn]), ← h.cs]
         as_ := h.as_.no hk hS hl (fun hp => by have := hp.2.1; rw [hkn] at this; cases this)
         ls := h.ls.no hk hS hl (fun hp => by have := hp.2.1; rw [hkn] at this; cases this) }
theorem TkInv.lost (h : TkInv V w w1 F g b now S0 left S A1 n1 c1 A2 n2 c2 asks losts) (hF : ∀ x, F x → x < w.heap.size) (hk : (S0.map (·.a)).Nodup) {e : En} (he : e ∈ S) (hl : left e.a = true) (ht : ¬ now < e.n.tk) (hkn : e.n.kn = false) (htr : 3 ≤ e.n.tr)
  (hI : IM mkA okA w2 b (delL (S.map enE) e.a)) (hg : w1.grownBy w2 (some b)) {A3 : Option Addr} {c3 : Nat} (h3 : OA w3 (w.heap.size + 1) A3 (n2 + 1) c3 (losts ++ [e.a])) (hg3 : w2.grownBy w3 (blk A2)) (hA3 : NewOr A2 A3 w2.heap.size) :
  TkInv V w w3 F g b now S0 (past left e.a) (S.filter fun x => decide (x.a ≠ e.a)) A1 n1 c1 A3 (n2 + 1) c3 asks (losts ++ [e.a]) := by
 have hS := h.has hk he hl
 obtain ⟨q1, q2, q3, q4, q5⟩ := h.map hF hI hg
 have hlt := q3.lt
 refine { cm := q1.keep (fun x hx hl => hg3.block x hl (fun e => by have := hF x hx; have := (hlt x e.symm).1; omega)) (fun _ h => h)
          oa := q2.kept hg3 h.ne, ol := h3
          ch := q4.trans (Chg.of_grown (F := fun x => blk A2 = some x) hg3 (fun x e => e)) (fun x e => .inr (by have := (hlt x e).1; omega))
          sz := Nat.lt_of_lt_of_le q5 hg3.size
          cs := by rw [curS_gone hk hS hl (by unfold stepE; rw [if_neg ht, if_neg (by rw [hkn]; simp), if_pos htr]), ← h.cs]
          as_ := h.as_.no hk hS hl (fun hp => by have := hp.2.2; omega)
          ls := h.ls.yes hk hS hl ⟨by omega, hkn, htr⟩
          ne := ?_ }
 cases hA : blk A1 with
 | none => exact .inl rfl
 | some y =>
  refine .inr fun e => ?_
  rcases hA3 with h4 | h4
  ·rcases h.ne with h5 | h5
   ·rw [h5] at hA; cases hA
   ·exact h5 (by rw [hA, e, h4])
  ·have := (q2.lt y hA).2; have := h4 y e.symm; omega
theorem TkInv.again (h : TkInv V w w1 F g b now S0 left S A1 n1 c1 A2 n2 c2 asks losts) (hF : ∀ x, F x → x < w.heap.size) (hk : (S0.map (·.a)).Nodup) {e : En} (he : e ∈ S) (hl : left e.a = true) (ht : ¬ now < e.n.tk) (hkn : e.n.kn = false) (htr : e.n.tr < 3)
  (hb2 : Bk w2 e.p 235 (nbC (stepN now e.n) e.A e.k e.c)) (hc : Chg (fun x => x = e.p) w1 w2) (hz : w2.heap.size = w1.heap.size) {A3 : Option Addr} {c3 : Nat} (h3 : OA w3 (w.heap.size + 1) A3 (n1 + 1) c3 (asks ++ [e.a])) (hg3 : w2.grownBy w3 (blk A1)) (hA3 : NewOr A1 A3 w2.heap.size) :
  TkInv V w w3 F g b now S0 (past left e.a) (putS S ⟨e.a, e.p, e.A, e.k, e.c, stepN now e.n⟩) A3 (n1 + 1) c3 A2 n2 c2 (asks ++ [e.a]) losts := by
 have hS := h.has hk he hl
 obtain ⟨k1, k2, ⟨vs, k3, k4⟩, k5, k6, k7, k8⟩ := h.cm.2.2.2.1 e he
 have hup := h.cm.update he (n' := stepN now e.n) (A' := e.A) (k' := e.k) (c' := e.c) (hc.mono (fun _ _ h => .inl h)) hb2
  ⟨vs, k3.stays_ k1 (by decide) hc, k4.stays k1 (by decide) hc (fun b h => .inl h)⟩ (fun b hb => .inl hb) k6 ⟨by unfold stepN; have := k8.1; simp only; omega, by unfold stepN; simp only; omega⟩
 have hcm2 : CacheMv V w2 F g (some b) (putS S ⟨e.a, e.p, e.A, e.k, e.c, stepN now e.n⟩) := hup.cap.keep (fun _ _ _ => rfl) (fun x hx => by rcases hx.1 with h | h; exact h; have := hx.2; omega)
 have heF : e.p < w.heap.size := hF _ k2
 have hg2 : w1.grownBy w2 (some e.p) := ⟨hc.os, hc.tape, hc.output, hc.size, fun x hx hne => hc.block x hx (fun e => hne (by rw [e]))⟩
 have oa2 := h.oa.kept hg2 (h.oa.ne_ (by omega))
 have ol2 := h.ol.kept hg2 (h.ol.ne_ (by omega))
 have hlt := oa2.lt
 refine { cm := hcm2.keep (fun x hx hl => hg3.block x hl (fun e => by have := hF x hx; have := (hlt x e.symm).1; omega)) (fun _ h => h)
          oa := h3
          ol := ol2.kept hg3 (by
       rcases h.ne with h5 | h5
       ·rw [h5]; cases blk A2 <;> simp
       ·exact .inr (Ne.symm h5))
          ch := (h.ch.trans hc (fun x e => .inl (e ▸ k2))).trans (Chg.of_grown (F := fun x => blk A1 = some x) hg3 (fun x e => e)) (fun x e => .inr (by have := (hlt x e).1; omega))
          sz := Nat.lt_of_lt_of_le h.sz (by rw [← hz]; exact hg3.size)
          cs := by rw [curS_put hk hS hl (e' := ⟨e.a, e.p, e.A, e.k, e.c, stepN now e.n⟩) (by unfold stepE; rw [if_neg ht, if_neg (by rw [hkn]; simp), if_neg (by omega)]), ← h.cs]
          as_ := h.as_.yes hk hS hl ⟨by omega, hkn, htr⟩
          ls := h.ls.no hk hS hl (fun hp => by have := hp.2.2; omega)
          ne := ?_ }
 cases hA : blk A3 with
 | none => exact .inl rfl
 | some y =>
  refine .inr fun e => ?_
  rcases hA3 with h4 | h4
  ·rcases h.ne with h5 | h5
   ·rw [h5] at h4; rw [h4] at hA; cases hA
   ·exact h5 (by rw [← h4, hA, e])
  ·have := (ol2.lt y e.symm).2; have := h4 y hA; omega
end
open Go.RowKit
variable {V : HV}
def TkRel (V : HV) (w : World) (F : Nat → Prop) (g b : Nat) (now : Int) (S0 : List En) (v4 v5 : Value) (wr : World) : Prop := ∃ (left : Int → Bool) (cnt : Nat) (S : List En) (A1 : Option Addr) (n1 c1 : Nat) (A2 : Option Addr) (n2 c2 : Nat) (asks losts : List Int), v4 = .slice A1 n1 c1 ∧ v5 = .slice A2 n2 c2 ∧
   IR mkA okA wr b w.heap.size (S.map enE) left cnt ∧ TkInv V w wr F g b now S0 left S A1 n1 c1 A2 n2 c2 asks losts
open Go.RowKit
abbrev Tb := List (Int × Nb)
def leastT (T : Tb) (e : Int × Nb) : Prop := e ∈ T ∧ e.2.kn = true ∧ ∀ x ∈ T, x.2.kn = true → (e.2.tk < x.2.tk ∨ (e.2.tk = x.2.tk ∧ e.1 ≤ x.1))
def RoomT (T T2 : Tb) : Prop := (T.length ≤ 15 ∧ T2 = T) ∨ (16 ≤ T.length ∧ ∃ x, leastT T x ∧ T2 = dropT T x.1)
def FullT (T : Tb) : Prop := 16 ≤ T.length ∧ ∀ x ∈ T, x.2.kn = false
def noneT (T : Tb) (a : Int) : Prop := ∀ x ∈ T, x.1 ≠ a
def SendT (T : Tb) (a now : Int) (l : List Int) (told : Array Value) (T' : Tb) : Prop :=
 (∃ n, (a, n) ∈ T ∧ n.kn = true ∧ now < n.tk ∧ told = toldC true (macOf n) false false ∧ T' = T) ∨
 (∃ n, (a, n) ∈ T ∧ n.kn = true ∧ n.tk ≤ now ∧ told = toldC false noMac true false ∧ T' = dropT T a ++ [(a, newNb now l)]) ∨
 (∃ n, (a, n) ∈ T ∧ n.kn = false ∧ told = toldC false noMac false false ∧ T' = updT T a (waiting n l)) ∨
 (noneT T a ∧ ∃ T2, RoomT T T2 ∧ told = toldC false noMac true false ∧ T' = T2 ++ [(a, newNb now l)]) ∨
 (noneT T a ∧ FullT T ∧ told = toldC false noMac false true ∧ T' = T)
def LearnT (T : Tb) (a : Int) (n' : Nb) (fresh : Bool) (ws : List (List Int)) (T' : Tb) : Prop :=
 (∃ n, (a, n) ∈ T ∧ ws = n.ws ∧ T' = updT T a n') ∨
 (noneT T a ∧ fresh = false ∧ ws = [] ∧ T' = T) ∨
 (noneT T a ∧ fresh = true ∧ (∃ T2, RoomT T T2 ∧ T' = T2 ++ [(a, n')]) ∧ ws = []) ∨
 (noneT T a ∧ fresh = true ∧ FullT T ∧ ws = [] ∧ T' = T)
def stepT (now : Int) (e : Int × Nb) : Option (Int × Nb) := if now < e.2.tk then some e else if e.2.kn = true then none else if 3 ≤ e.2.tr then none else some (e.1, stepN now e.2)
def askT (now : Int) (e : Int × Nb) : Prop := e.2.tk ≤ now ∧ e.2.kn = false ∧ e.2.tr < 3
def lostT (now : Int) (e : Int × Nb) : Prop := e.2.tk ≤ now ∧ e.2.kn = false ∧ 3 ≤ e.2.tr
def TickT (T : Tb) (now : Int) (ask lost : List Int) (T' : Tb) : Prop :=
 T' = T.filterMap (stepT now) ∧ (ask.Pairwise (· < ·) ∧ ∀ a, a ∈ ask ↔ ∃ e ∈ T, e.1 = a ∧ askT now e) ∧ (lost.Pairwise (· < ·) ∧ ∀ a, a ∈ lost ↔ ∃ e ∈ T, e.1 = a ∧ lostT now e)
open Go.RowKit
theorem none_abs {S : List En} {a : Int} (h : ∀ x ∈ S, x.a ≠ a) : noneT (absT S) a := fun x hx => by
 obtain ⟨z, hz, rfl⟩ := List.mem_map.1 hx
 exact h z hz
theorem Below.gr {w w' w2 : World} {row : Option Nat} (h : Below w.heap.size w w') (hG : w'.grownBy w2 row) (hr : ∀ b, row = some b → w.heap.size ≤ b) : Below w.heap.size w w2 :=
 ⟨hG.os.trans h.os, hG.tape.trans h.tape, hG.output.trans h.output, Nat.le_trans h.size hG.size, fun b hb => (hG.block b (Nat.lt_of_lt_of_le hb h.size) (fun e => by have := hr b e.symm; omega)).trans (h.block b hb)⟩
theorem abs_step (now : Int) (S : List En) : absT (S.filterMap (stepE now)) = (absT S).filterMap (stepT now) := by
 unfold absT
 rw [List.map_filterMap, List.filterMap_map]
 refine filterMap_congr_ fun x _ => ?_
 show Option.map _ (stepE now x) = stepT now (x.a, x.n)
 unfold stepE stepT
 split
 ·rfl
 ·split
  ·rfl
  ·split <;> rfl
end Go.Proofs.YtaeafkdfbcppgaaGreat
