/- Proved: a new Store; what holds of those that are put together stays so behind each piece; a Store in memory with what it holds: new, told a piece, ticked, counted; a host's whole state in memory, each block with its owner's mark, and what keeps it; what a call of a host has sent. Conditions: as each law says. -/
import Derived.Deep.CutBlock
import Derived.Test.YtaeafkdfbcppgaaGreatT18
import Derived.Test.YtaeafkdfbcppgaaGreatT19
set_option linter.unusedSectionVars false
set_option linter.unusedSimpArgs false
set_option linter.unusedVariables false
namespace Go.Proofs.YtaeafkdfbcppgaaGreat
open Go.RowKit
variable {V : HV}
theorem st_new (w : World) (ps : Nat) (h : Bk w ps 164 (hostC { V with by_ := .map none, age := .slice none 0 0 })) : StW V w ps none none 0 [] :=
 ⟨h, .inl ⟨rfl, rfl, rfl, rfl⟩, Ow.none_ _ _ _, (fun x hx => by cases hx), List.Pairwise.nil, (fun x hx => by cases hx), (fun x hx => by cases hx), ⟨(fun b hb => by cases hb), (by simp [blk])⟩⟩
theorem foot_new {ps b : Nat} (h : foot ps none none [] b) : b = ps := by
 rcases h with (h | h | h) | ⟨y, hy, _⟩
 ·exact h
 ·cases h
 ·simp [blk] at h
 ·cases hy
def RecsOk (L : List Rec) : Prop := (∀ x ∈ L, RecOk x) ∧ L.length ≤ 8
theorem RecsOk.nil : RecsOk [] := ⟨(fun x hx => by cases hx), Nat.zero_le _⟩
open Go.RowKit
variable {V : HV}
def Sto (V : HV) (w : World) (ps : Nat) (F : Nat → Prop) (L : List Rec) : Prop :=
 ∃ mv aA ac Ws, StW V w ps mv aA ac Ws ∧ Ws.map (·.r) = L ∧ RecsOk L ∧ ∀ b, foot ps mv aA Ws b ↔ F b
theorem Sto.lt {w : World} {ps : Nat} {F : Nat → Prop} {L : List Rec} (h : Sto V w ps F L) {b : Nat} (hb : F b) : b < w.heap.size := by
 obtain ⟨mv, aA, ac, Ws, h1, _, _, h4⟩ := h
 exact h1.foot_lt ((h4 b).2 hb)
theorem Sto.chg {w w' : World} {ps : Nat} {F G : Nat → Prop} {L : List Rec} (h : Sto V w ps F L) (hc : Chg G w w') (hG : ∀ b, F b → ¬ G b) : Sto V w' ps F L := by
 obtain ⟨mv, aA, ac, Ws, h1, h2, h3, h4⟩ := h
 exact ⟨mv, aA, ac, Ws, h1.chg hc (fun b hb => hG b ((h4 b).1 hb)), h2, h3, h4⟩
theorem sto_new (w : World) (ps : Nat) (h : Bk w ps 164 (hostC { V with by_ := .map none, age := .slice none 0 0 })) : Sto V w ps (fun b => b = ps) [] :=
 ⟨none, none, 0, [], st_new w ps h, rfl, RecsOk.nil, fun b => ⟨foot_new, fun e => .inl (.inl e)⟩⟩
open Go.RowKit
theorem HostAt.cap {w : World} {F : Nat → Prop} {d : HD} {v : HV} (t : HostAt w F d v) : HostAt w (fun b => F b ∧ b < w.heap.size) d v where
 hb := t.hb
 k0 := t.k0
 bkt := t.bkt
 plc := t.plc
 arr := t.arr
 grp := t.grp
 rt := t.rt
 bw := t.bw
 ar := t.ar
 fh := ⟨t.fh, t.hb.lt⟩
 fn := fun b h1 h2 => ⟨t.fn b h1 h2, by have := t.rt.last.lt; omega⟩
 fa := fun b hb => ⟨t.fa b hb, (t.rt.row.lt b hb).2⟩
 fb := ⟨t.fb, by obtain ⟨_, _, _, _, h⟩ := t.bw; exact h.lt⟩
 fr := ⟨t.fr, t.ar.lt⟩
theorem HostAt.turn {w w' : World} {F G : Nat → Prop} {d : HD} {v v' : HV} (t : HostAt w F d v) (hb : HB w' d.h v') (hc : Chg G w w') (hd : ∀ b, F b → b ≠ d.h → ¬ G b) (h1 : v'.k0 = v.k0) (h2 : v'.bkt = v.bkt) (h3 : v'.plc = v.plc) (h4 : v'.arr = v.arr) (h5 : v'.grp = v.grp) : HostAt w' F d v' where
 hb := hb
 k0 := h1.trans t.k0
 bkt := h2.trans t.bkt
 plc := h3.trans t.plc
 arr := h4.trans t.arr
 grp := h5.trans t.grp
 rt := t.rt.keep (fun b q1 q2 => hc.block b (by have := t.rt.last.lt; omega) (hd b (t.fn b q1 q2) (by
   have q3 : b = d.S + (b - d.S) := by omega
   rintro rfl
   rcases Nat.lt_or_ge (d.h - d.S) 24 with q | q
   ·have := t.rt.nodes (d.h - d.S) (by omega) q
    rw [← q3] at this
    exact Bk.ne_ t.hb this (by decide) rfl
   ·have e : d.h = d.S + 24 := by omega
    exact Bk.ne_ t.hb t.rt.last (by decide) e))) (fun b q => hc.block b (t.rt.row.lt b q).2 (hd b (t.fa b q) (by
   rintro rfl
   obtain ⟨g, e1, _, _, e4, _⟩ := t.rt.row.cell (j := 0) (u := .int .u32 net) rfl
   rw [e1] at q
   injection q with q
   have hg : g = d.h := q
   subst hg
   have := (Bk.cell t.hb 0).symm.trans e4
   injection this with this
   cases this)))
 bw := by
  obtain ⟨a, b, q1, q2, q3⟩ := t.bw
  exact ⟨a, b, q1, q2, (hc.block _ q3.lt (hd _ t.fb (fun e => Bk.ne_ t.hb q3 (by decide) e.symm))).trans q3⟩
 ar := t.ar.keep_ (hc.block _ t.ar.lt (hd _ t.fr (fun e => by
  obtain ⟨es, cl, q1, _⟩ := t.ar
  have q2 : w.heap[d.h]? = _ := t.hb
  rw [e, q2] at q1
  cases q1)))
 fh := t.fh
 fn := t.fn
 fa := t.fa
 fb := t.fb
 fr := t.fr
theorem RowAt.off {w : World} {F : Nat → Prop} {v : Value} {l : List Int} {g : Nat} {cs : Array Value} (h : RowAt w F v l) (hb : Bk w g 164 cs) : RowAt w (fun b => F b ∧ b ≠ g) v l := by
 obtain ⟨A, n, c, rfl, h1, h2, h3⟩ := h
 exact ⟨A, n, c, rfl, h1, fun b e => ⟨h2 b e, fun e2 => hb.ow_ne h1 (by decide) (by rw [e, e2])⟩, h3⟩
theorem RowsAt.off {w : World} {F : Nat → Prop} {g : Nat} {cs : Array Value} (hb : Bk w g 164 cs) : ∀ {vs : List Value} {ls : List (List Int)}, RowsAt w F vs ls → RowsAt w (fun b => F b ∧ b ≠ g) vs ls
 | [], [], _ => trivial
 | v :: vs, l :: ls, h => ⟨h.1.off hb, RowsAt.off hb h.2⟩
 | [], _ :: _, h => h.elim
 | _ :: _, [], h => h.elim
theorem EnAt.off {w : World} {F : Nat → Prop} {e : En} {g : Nat} {cs : Array Value} (h : EnAt w F e) (hb : Bk w g 164 cs) : EnAt w (fun b => F b ∧ b ≠ g) e := by
 obtain ⟨h1, h2, ⟨vs, h3, h4⟩, h5, h6⟩ := h
 exact ⟨h1, ⟨h2, fun e2 => Bk.ne_ h1 (by rw [← e2] at hb; exact hb) (by decide) rfl⟩, ⟨vs, h3, h4.off hb⟩, fun b e => ⟨h5 b e, fun e2 => Bk.of_ne hb h3 (by decide) (by rw [e, e2])⟩, h6⟩
theorem CacheAt.swap {V V' : HV} {w w' : World} {F : Nat → Prop} {g : Nat} {S : List En} (h : CacheAt V w F g S) (hb : HB w g V) (hk : ∀ b, F b → b ≠ g → b < w.heap.size → w'.heap[b]? = w.heap[b]?) (hb' : HB w' g V') (he : V'.near = V.near) : CacheAt V' w' F g S := by
 obtain ⟨mv, ⟨h1, h2, h3⟩, h4, h5, h6, h7⟩ := h
 have e8 : V.near = .map mv := by
  have a := hb.near
  have c : w.cell? ⟨g, 8, none⟩ = some (.map mv) := h1.cell 8
  rw [a] at c
  injection c
 have hbk : Bk w' g 164 (hostC { V' with near := .map mv }) := by
  have : { V' with near := .map mv } = V' := by rw [← e8, ← he]
  rw [this]
  exact hb'
 have hmg : ∀ b, mv = some b → b ≠ g := fun b e => (h3 b e).ne_bk h1
 refine ⟨mv, ⟨hbk, h2, fun b e => IM.keep_ (h3 b e) (hk b (h5 b e) (hmg b e) (h3 b e).lt)⟩, h4, h5, fun e hE => ?_, h7⟩
 exact ((h6 e hE).off h1).keep (fun b hF hl => hk b hF.1 hF.2 hl) (fun b hF => hF.1)
theorem Pt.keep_ {E : TypeId} {w w' : World} {base : Nat} {A : Option Addr} {n c : Nat} {xs : List Value} (h : Ow E w base A n c xs) (hb : ∀ b, blk A = some b → w'.heap[b]? = w.heap[b]?) : Ow E w' base A n c xs := by
 refine ⟨h.1, ?_⟩
 rcases h.2 with h1 | ⟨g, cap, cur, hA, hbg, hh, rest⟩
 ·exact .inl h1
 ·have e := (Value.slice.inj hA).1
  exact .inr ⟨g, cap, cur, hA, hbg, (hb g (by rw [e]; rfl)).trans hh, rest⟩
theorem Sto.swap {V V' : HV} {w w' : World} {F : Nat → Prop} {g : Nat} {L : List Rec} (h : Sto V w g F L) (hb : HB w g V) {G : Nat → Prop} (hc : Chg G w w') (hG : ∀ b, F b → b ≠ g → ¬ G b) (hb' : HB w' g V') (h1 : V'.by_ = V.by_) (h2 : V'.age = V.age) : Sto V' w' g F L := by
 obtain ⟨mv, aA, ac, Ws, s, r, k, f⟩ := h
 have e9 : V.by_ = .map mv := by
  have a := hb.by_
  have c : w.cell? ⟨g, 9, none⟩ = some (.map mv) := s.bk.cell 9
  rw [a] at c
  injection c
 have e10 : V.age = .slice aA Ws.length ac := by
  have a := hb.age
  have c : w.cell? ⟨g, 10, none⟩ = some (.slice aA Ws.length ac) := s.bk.cell 10
  rw [a] at c
  injection c
 have hbk : Bk w' g 164 (hostC { V' with by_ := .map mv, age := .slice aA Ws.length ac }) := by
  have : { V' with by_ := .map mv, age := .slice aA Ws.length ac } = V' := by rw [← e9, ← h1, ← e10, ← h2]
  rw [this]
  exact hb'
 have hF : ∀ b, foot g mv aA Ws b → b ≠ g → w'.heap[b]? = w.heap[b]? := fun b hf hn => hc.block b (s.foot_lt hf) (hG b ((f b).1 hf) hn)
 refine ⟨mv, aA, ac, Ws, ⟨hbk, ?_, ?_, ?_, s.ap, fun x hx b hb => Nat.lt_of_lt_of_le (s.lt x hx b hb) hc.size, s.no, s.ne⟩, r, k, f⟩
 ·rcases s.mp with m | ⟨b, m1, m2⟩
  ·exact .inl m
  ·exact .inr ⟨b, m1, IM.keep_ m2 (hF b (.inl (.inr (.inl m1))) (s.ne.1 b m1).1)⟩
 ·exact Pt.keep_ s.pt (fun b hb => hF b (.inl (.inr (.inr hb))) (fun e => s.ne.2 (by rw [hb, e])))
 ·intro x hx
  exact (s.wh x hx).chg hc (fun b hb => hG b ((f b).1 (.inr ⟨x, hx, hb⟩)) (fun e => (s.no x hx).1 (by rw [← e]; exact hb)))
structure Dg where
 fr : Int
 fp : Int
 to_ : Int
 tp : Int
 data : List Int
def PlC (port : Int) : Array Value := #[.int .u32 0, .int .i64 port, .bool false, .int .u32 0, .int .i64 0]
def HpC (port : Int) (q : Value) : Array Value := #[.int .u32 0, .int .i64 port, .bool false, .int .u32 0, .int .i64 0, q, .int .i64 0]
def dgCells : List Dg → List Value → List Value
 | q :: Q, v :: vs => (dgC q.fr q.fp q.to_ q.tp v).toList ++ dgCells Q vs
 | _, _ => []
def PlAt (w : World) (F : Nat → Prop) (v : HV) (d : HD) : Option (Int × List Dg) → Prop
 | none => v.prt = .map none ∧ IM mkI okI w d.plc [] ∧ F d.plc
 | some (port, Q) => ∃ pm p q qA qc vs, v.prt = .map (some pm) ∧ IM mkI okI w pm [(0, bp p)] ∧ Bk w p 305 (PlC port) ∧ IM mkI okI w d.plc [(0, bp q)] ∧ Bk w q 222 (HpC port (.slice qA Q.length qc)) ∧
   Mr 101 5 w 0 qA Q.length qc (dgCells Q vs) ∧ RowsAt w F vs (Q.map Dg.data) ∧ F d.plc ∧ F pm ∧ F p ∧ F q ∧ (∀ b, blk qA = some b → F b)
theorem RowAt.cap {w : World} {F : Nat → Prop} {v : Value} {l : List Int} (h : RowAt w F v l) : RowAt w (fun b => F b ∧ b < w.heap.size) v l := by
 obtain ⟨A, n, c, rfl, h1, h2, h3⟩ := h
 exact ⟨A, n, c, rfl, h1, fun b e => ⟨h2 b e, (Ow.lt h1 b e).2⟩, h3⟩
theorem RowsAt.cap {w : World} {F : Nat → Prop} : ∀ {vs : List Value} {ls : List (List Int)}, RowsAt w F vs ls → RowsAt w (fun b => F b ∧ b < w.heap.size) vs ls
 | [], [], _ => trivial
 | v :: vs, l :: ls, h => ⟨h.1.cap, RowsAt.cap h.2⟩
 | [], _ :: _, h => h.elim
 | _ :: _, [], h => h.elim
theorem PlAt.keep {w w' : World} {F G : Nat → Prop} {v v' : HV} {d : HD} : ∀ {P : Option (Int × List Dg)}, PlAt w F v d P → (∀ b, F b → b < w.heap.size → w'.heap[b]? = w.heap[b]?) → (∀ b, F b → b < w.heap.size → G b) → v'.prt = v.prt → PlAt w' G v' d P
 | none, ⟨h1, h2, h3⟩, hk, hG, hp => ⟨hp.trans h1, h2.keep_ (hk _ h3 h2.lt), hG _ h3 h2.lt⟩
 | some (port, Q), ⟨pm, p, q, qA, qc, vs, h1, h2, h3, h4, h5, h6, h7, f1, f2, f3, f4, f5⟩, hk, hG, hp =>
  ⟨pm, p, q, qA, qc, vs, hp.trans h1, h2.keep_ (hk _ f2 h2.lt), (hk _ f3 h3.lt).trans h3, h4.keep_ (hk _ f1 h4.lt), (hk _ f4 h5.lt).trans h5, h6.of_block (fun b hb => hk b (f5 b hb) (h6.lt b hb).2),
   h7.cap.keep (fun b hb hl => hk b hb.1 hl) (fun b hb => hG b hb.1 hb.2), hG _ f1 h4.lt, hG _ f2 h2.lt, hG _ f3 h3.lt, hG _ f4 h5.lt, fun b hb => hG b (f5 b hb) (h6.lt b hb).2⟩
def TbOk (T : List (Int × Nb)) : Prop := ∀ p ∈ T, Bs [p.2.m0, p.2.m1, p.2.m2, p.2.m3, p.2.m4, p.2.m5]
structure HostS (t : Nat) (K : Nat → Nat) (w : World) (d : HD) (v : HV) (S : List En) (Lr : List Rec) (P : Option (Int × List Dg)) : Prop where
 kh : K d.h = t
 hx : HostAt w (fun b => K b = t + 1 ∨ b = d.h) d v
 ca : CacheAt v w (fun b => K b = t + 2 ∨ b = d.h) d.h S
 st : ∃ F, Sto v w d.h F Lr ∧ ∀ b, F b → K b = t + 3 ∨ b = d.h
 pl : PlAt w (fun b => K b = t + 4) v d P
 ct : CtOk v
 id : 1 ≤ v.id ∧ v.id ≤ 65535
 ad : okH v.addr ∧ v.bits = 24 ∧ okA v.addr
 cb : TbOk (absT S)
 mb : Bs [v.m.1, v.m.2.1, v.m.2.2.1, v.m.2.2.2.1, v.m.2.2.2.2.1, v.m.2.2.2.2.2]
def hostK (t k : Nat) : Prop := t ≤ k ∧ k ≤ t + 4
def callK (t k : Nat) : Prop := t ≤ k ∧ k ≤ t + 6
section
variable {t : Nat} {K K' : Nat → Nat} {w w' : World} {d : HD} {v v' : HV} {S : List En} {Lr : List Rec} {P : Option (Int × List Dg)}
theorem HostS.lt (s : HostS t K w d v S Lr P) : d.h < w.heap.size := s.hx.hb.lt
theorem HostS.keep (s : HostS t K w d v S Lr P) {G : Nat → Prop} (hc : Chg G w w') (hG : ∀ b, b < w.heap.size → hostK t (K b) → ¬ G b) (hK : ∀ b, b < w.heap.size → K' b = K b) : HostS t K' w' d v S Lr P where
 kh := (hK _ s.lt).trans s.kh
 hx := s.hx.cap.keep (fun b hb hl => hc.block b hl (hG b hl (by rcases hb.1 with e | e; exact ⟨by omega, by omega⟩; rw [e, s.kh]; exact ⟨by omega, by omega⟩))) (fun b hb => hb.1.imp (fun e => (hK b hb.2).trans e) (fun e => e))
 ca := s.ca.cap.keep (fun b hb hl => hc.block b hl (hG b hl (by rcases hb.1 with e | e; exact ⟨by omega, by omega⟩; rw [e, s.kh]; exact ⟨by omega, by omega⟩))) (fun b hb => hb.1.imp (fun e => (hK b hb.2).trans e) (fun e => e))
 st := by
  obtain ⟨F, h1, h2⟩ := s.st
  exact ⟨F, h1.chg hc (fun b hb => hG b (h1.lt hb) (by rcases h2 b hb with e | e; exact ⟨by omega, by omega⟩; rw [e, s.kh]; exact ⟨by omega, by omega⟩)), fun b hb => (h2 b hb).imp (fun e => (hK b (h1.lt hb)).trans e) (fun e => e)⟩
 pl := s.pl.keep (fun b hb hl => hc.block b hl (hG b hl ⟨by omega, by omega⟩)) (fun b hb hl => (hK b hl).trans hb) rfl
 ct := s.ct
 id := s.id
 ad := s.ad
 cb := s.cb
 mb := s.mb
theorem HostS.below (s : HostS t K w d v S Lr P) (hb : Below w.heap.size w w') : HostS t K w' d v S Lr P := s.keep (Chg.of_below (F := fun _ => False) hb) (fun _ _ _ e => e) (fun _ _ => rfl)
theorem HostS.drewN (s : HostS t K w d v S Lr P) (n : Nat) : HostS t K (w.drewN n) d v S Lr P := s.keep ((Chg.refl (fun _ => False) w).drewN n) (fun _ _ _ e => e) (fun _ _ => rfl)
theorem HostS.upd (s : HostS t K w d v S Lr P) (hb : HB w' d.h v') (hc : Chg (fun b => b = d.h) w w') (e1 : v'.k0 = v.k0) (e2 : v'.bkt = v.bkt) (e3 : v'.plc = v.plc) (e4 : v'.arr = v.arr) (e5 : v'.grp = v.grp)
  (e6 : v'.near = v.near) (e7 : v'.by_ = v.by_) (e8 : v'.age = v.age) (e9 : v'.prt = v.prt) (e10 : v'.addr = v.addr) (e11 : v'.bits = v.bits) (e12 : v'.m = v.m) (hct : CtOk v') (hid : 1 ≤ v'.id ∧ v'.id ≤ 65535) : HostS t K w' d v' S Lr P where
 kh := s.kh
 hx := s.hx.upd hb hc e1 e2 e3 e4 e5
 ca := s.ca.swap s.hx.hb (fun b _ hn hl => hc.block b hl hn) hb e6
 st := by
  obtain ⟨F, h1, h2⟩ := s.st
  exact ⟨F, h1.swap s.hx.hb hc (fun b _ hn => hn) hb e7 e8, h2⟩
 pl := s.pl.keep (fun b hb' hl => hc.block b hl (fun e => by rw [e, s.kh] at hb'; omega)) (fun b hb' _ => hb') e9
 ct := hct
 id := hid
 ad := by rw [e10, e11]; exact s.ad
 cb := s.cb
 mb := by rw [e12]; exact s.mb
theorem HostS.cache {S' : List En} (s : HostS t K w d v S Lr P) (ha : CacheAt v w' (fun b => (K b = t + 2 ∨ b = d.h) ∨ w.heap.size ≤ b) d.h S') (hc : Chg (fun b => K b = t + 2 ∨ b = d.h) w w') (ht : TbOk (absT S')) (hK : ∀ b, b < w.heap.size → K' b = K b) (hN : ∀ b, w.heap.size ≤ b → K' b = t + 2) :
  ∃ nv, HostS t K' w' d { v with near := nv } S' Lr P := by
 obtain ⟨mv, h1, h2⟩ := ha
 have hlt := s.lt
 have hb' : HB w' d.h { v with near := .map mv } := h1.1
 refine ⟨.map mv, ?_⟩
 have hx : HostAt w' (fun b => K b = t + 1 ∨ b = d.h) d { v with near := .map mv } := s.hx.turn hb' hc (fun b hb hn e => by rcases hb with hb | hb; rcases e with e | e; omega; exact hn e; exact hn hb) rfl rfl rfl rfl rfl
 have hh := s.kh
 exact {
  kh := (hK _ hlt).trans s.kh
  hx := by
   refine ⟨hx.hb, hx.k0, hx.bkt, hx.plc, hx.arr, hx.grp, hx.rt, hx.bw, hx.ar, .inr rfl, fun b q1 q2 => ?_, fun b q => ?_, ?_, ?_⟩
   ·exact (s.hx.cap.fn b q1 q2).1.imp (fun e => (hK b (s.hx.cap.fn b q1 q2).2).trans e) (fun e => e)
   ·exact (s.hx.cap.fa b q).1.imp (fun e => (hK b (s.hx.cap.fa b q).2).trans e) (fun e => e)
   ·exact s.hx.cap.fb.1.imp (fun e => (hK _ s.hx.cap.fb.2).trans e) (fun e => e)
   ·exact s.hx.cap.fr.1.imp (fun e => (hK _ s.hx.cap.fr.2).trans e) (fun e => e)
  ca := by
   have hca : CacheAt { v with near := .map mv } w' (fun b => (K b = t + 2 ∨ b = d.h) ∨ w.heap.size ≤ b) d.h S' := ⟨mv, h1, h2⟩
   refine hca.mono (fun b hb => ?_)
   rcases Nat.lt_or_ge b w.heap.size with hl | hl
   ·rcases hb with hb | hb
    ·exact hb.imp (fun e => (hK b hl).trans e) (fun e => e)
    ·omega
   ·exact .inl (hN b hl)
  st := by
   obtain ⟨F, f1, f2⟩ := s.st
   refine ⟨F, f1.swap s.hx.hb hc (fun b hb hn e => ?_) hb' rfl rfl, fun b hb => (f2 b hb).imp (fun e => (hK b (f1.lt hb)).trans e) (fun e => e)⟩
   rcases f2 b hb with q | q
   ·rcases e with e | e
    ·omega
    ·exact hn e
   ·exact hn q
  pl := s.pl.keep (fun b hb hl => hc.block b hl (fun e => by rcases e with e | e; omega; rw [e, hh] at hb; omega)) (fun b hb hl => (hK b hl).trans hb) rfl
  ct := fun n x hn hx => s.ct n x hn (by
   rw [← hx]
   unfold hostC
   rcases n with _ | _ | _ | _ | _ | _ | _ | _ | _ | _ | _ | _ | _ | _ | _ | _ | _ | n
   all_goals first | rfl | omega)
  id := s.id
  ad := s.ad
  cb := ht
  mb := s.mb }
def wkC (h : Nat) (now draw : Int) (frames own : Value) : Array Value := #[bp h, .int .i64 now, .int .i64 draw, frames, own]
structure WkS (t : Nat) (K : Nat → Nat) (w : World) (wk : Nat) (d : HD) (now draw : Int) (L : List (List Int)) : Prop where
 ex : ∃ fA fn fc vs, Bk w wk 173 (wkC d.h now draw (.slice fA fn fc) nilS) ∧ Of 37 w 0 fA fn fc vs ∧ RowsAt w (fun b => K b = t + 5) vs L ∧ (∀ b, blk fA = some b → K b = t + 5)
 kw : K wk = t + 6
theorem WkS.keep {wk : Nat} {now draw : Int} {L : List (List Int)} (s : WkS t K w wk d now draw L) {G : Nat → Prop} (hc : Chg G w w') (hG : ∀ b, b < w.heap.size → K b = t + 5 ∨ K b = t + 6 → ¬ G b) (hK : ∀ b, b < w.heap.size → K' b = K b) : WkS t K' w' wk d now draw L := by
 obtain ⟨fA, fn, fc, vs, h1, h2, h3, h4⟩ := s.ex
 refine ⟨⟨fA, fn, fc, vs, h1.chg hc (hG _ h1.lt (.inr s.kw)), h2.of_block (fun b hb => hc.block b (h2.lt b hb).2 (hG b (h2.lt b hb).2 (.inl (h4 b hb)))), ?_, fun b hb => (hK b (h2.lt b hb).2).trans (h4 b hb)⟩, (hK _ h1.lt).trans s.kw⟩
 exact h3.cap.keep (fun b hb hl => hc.block b hl (hG b hl (.inl hb.1))) (fun b hb => (hK b hb.2).trans hb.1)
theorem WkS.below {wk : Nat} {now draw : Int} {L : List (List Int)} (s : WkS t K w wk d now draw L) (hb : Below w.heap.size w w') : WkS t K w' wk d now draw L := s.keep (Chg.of_below (F := fun _ => False) hb) (fun _ _ _ e => e) (fun _ _ => rfl)
def PostW (t : Nat) (K : Nat → Nat) (w : World) (wk : Nat) (d : HD) (now draw : Int) (v' : HV) (S' : List En) (Lr' : List Rec) (P' : Option (Int × List Dg)) (L' : List (List Int)) (w' : World) : Prop :=
 ∃ K', (∀ b, b < w.heap.size → K' b = K b) ∧ HostS t K' w' d v' S' Lr' P' ∧ WkS t K' w' wk d now draw L' ∧ Chg (fun b => callK t (K b)) w w'
theorem PostW.trans {wk : Nat} {now draw : Int} {v2 : HV} {S2 : List En} {Lr2 : List Rec} {P2 : Option (Int × List Dg)} {L2 : List (List Int)} {w1 w2 : World} {K1 : Nat → Nat}
  (hK : ∀ b, b < w.heap.size → K1 b = K b) (hc : Chg (fun b => callK t (K b)) w w1) (h : PostW t K1 w1 wk d now draw v2 S2 Lr2 P2 L2 w2) : PostW t K w wk d now draw v2 S2 Lr2 P2 L2 w2 := by
 obtain ⟨K2, k1, k2, k3, k4⟩ := h
 refine ⟨K2, fun b hb => (k1 b (Nat.lt_of_lt_of_le hb hc.size)).trans (hK b hb), k2, k3, hc.trans k4 (fun b hb => ?_)⟩
 rcases Nat.lt_or_ge b w.heap.size with h1 | h1
 ·left; rw [← hK b h1]; exact hb
 ·exact .inr h1
end
end Go.Proofs.YtaeafkdfbcppgaaGreat
