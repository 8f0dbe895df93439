/- Proved: what a call of a socket of UDP is tried by; a stack is told a frame, or a tick, over what its host does; nobody waits. Conditions: as each law says. -/
import Derived.Test.YtaeafkdfbcppgaaGreatT35
import Derived.Test.YtaeafkdfbcppgaaGreatT38
set_option linter.unusedSectionVars false
set_option linter.unusedSimpArgs false
set_option linter.unusedVariables false
namespace Go.Proofs.YtaeafkdfbcppgaaGreat
open Go.RowKit
theorem as_stream (s : Nat) (w : World) : (Instr.typeAssert (ifS s) 376 444 true).run Tryz.prog w = .ok (.tuple #[.pointer none, .bool false]) w := by kernel_rfl
theorem as_datagrams (s : Nat) (w : World) : (Instr.typeAssert (ifS s) 376 439 true).run Tryz.prog w = .ok (.tuple #[bp s, .bool true]) w := by kernel_rfl
set_option maxHeartbeats 4000000 in
set_option maxRecDepth 100000 in
theorem scall_bind (wk s : Nat) (fd a p n : Int) (dv : Value) (now draw : Int) (w : World) :
  Calls Tryz.prog 185 #[bp wk, ifS s, .agg (callC 2 fd a p n dv now draw)] w fun e w' => ∃ gs gc, e = .returned (.func (.func 258) #[] #[bp gs, bp gc]) ∧ Bk w' gs 376 #[ifS s] ∧ Bk w' gc 39 (callC 2 fd a p n dv now draw) ∧ w.heap.size ≤ gs ∧ w.heap.size ≤ gc ∧ Below w.heap.size w w' := by
 have hmf : ∀ (fn : Fn) (first cap : Array Value) (w : World), (Instr.makeFunc fn first cap).run Tryz.prog w = .ok (.func fn first cap) w := fun _ _ _ _ => rfl
 have hk1 : Bk ((w.alloc (.cells #[ifS s] 376)).alloc (.cells (callC 2 fd a p n dv now draw) 39)) w.heap.size 376 #[ifS s] := (Bk.new w _ _).alloc _
 have hk2 : Bk ((w.alloc (.cells #[ifS s] 376)).alloc (.cells (callC 2 fd a p n dv now draw) 39)) (w.heap.size + 1) 39 (callC 2 fd a p n dv now draw) := by
  have := Bk.new (w.alloc (.cells #[ifS s] 376)) 39 (callC 2 fd a p n dv now draw)
  rwa [World.size_alloc] at this
 have hB : Below w.heap.size w ((w.alloc (.cells #[ifS s] 376)).alloc (.cells (callC 2 fd a p n dv now draw) 39)) := ((Below.refl _ _).alloc (Nat.le_refl _) _).alloc (by simp) _
 have HF := Lib.hid (And.intro hk1 (And.intro hk2 hB))
 clear hk1 hk2 hB
 have hta := as_stream s
 have htd := as_datagrams s
 unfold callC
 go_enter Tryz.func185, Tryz.ntmps185
 go_wp2
 go_ret
 exact ⟨_, _, rfl, HF.out.1, HF.out.2.1, Nat.le_refl _, Nat.le_succ _, HF.out.2.2⟩
set_option maxHeartbeats 4000000 in
set_option maxRecDepth 100000 in
theorem dsendto_any (s : Nat) (a p : Int) (A : Option Addr) (n c : Nat) (w : World) :
  Calls Tryz.prog 262 #[bp s, .int .u32 a, .int .i64 p, .slice A n c, .bool true] w fun e w' => ∃ g9 g5 g6 g7 g8, e = .returned (.func (.func 315) #[] #[bp g9, bp g5, bp g6, bp g7, bp g8]) ∧ Bk w' g9 4 #[.bool true] ∧ Bk w' g5 439 #[bp s] ∧ Bk w' g6 28 #[.int .u32 a] ∧ Bk w' g7 3 #[.int .i64 p] ∧ Bk w' g8 37 #[.slice A n c] ∧ (w.heap.size ≤ g9 ∧ w.heap.size ≤ g5 ∧ w.heap.size ≤ g6 ∧ w.heap.size ≤ g7 ∧ w.heap.size ≤ g8) ∧ Below w.heap.size w w' := by
 have hmf : ∀ (fn : Fn) (first cap : Array Value) (w : World), (Instr.makeFunc fn first cap).run Tryz.prog w = .ok (.func fn first cap) w := fun _ _ _ _ => rfl
 obtain ⟨w1, e1⟩ : ∃ w1, w.alloc (.cells #[bp s] 439) = w1 := ⟨_, rfl⟩
 obtain ⟨w2, e2⟩ : ∃ w2, w1.alloc (.cells #[.int .u32 a] 28) = w2 := ⟨_, rfl⟩
 obtain ⟨w3, e3⟩ : ∃ w3, w2.alloc (.cells #[.int .i64 p] 3) = w3 := ⟨_, rfl⟩
 obtain ⟨w4, e4⟩ : ∃ w4, w3.alloc (.cells #[.slice A n c] 37) = w4 := ⟨_, rfl⟩
 obtain ⟨w5, e5⟩ : ∃ w5, w4.alloc (.cells #[.bool true] 4) = w5 := ⟨_, rfl⟩
 have z1 : w1.heap.size = w.heap.size + 1 := by rw [← e1, World.size_alloc]
 have z2 : w2.heap.size = w1.heap.size + 1 := by rw [← e2, World.size_alloc]
 have z3 : w3.heap.size = w2.heap.size + 1 := by rw [← e3, World.size_alloc]
 have z4 : w4.heap.size = w3.heap.size + 1 := by rw [← e4, World.size_alloc]
 have k5 : Bk w5 w.heap.size 439 #[bp s] := by rw [← e5, ← e4, ← e3, ← e2, ← e1]; exact ((((Bk.new _ _ _).alloc _).alloc _).alloc _).alloc _
 have k6 : Bk w5 (w.heap.size + 1) 28 #[.int .u32 a] := by rw [← z1, ← e5, ← e4, ← e3, ← e2]; exact (((Bk.new _ _ _).alloc _).alloc _).alloc _
 have k7 : Bk w5 (w.heap.size + 1 + 1) 3 #[.int .i64 p] := by rw [← z1, ← z2, ← e5, ← e4, ← e3]; exact ((Bk.new _ _ _).alloc _).alloc _
 have k8 : Bk w5 (w.heap.size + 1 + 1 + 1) 37 #[.slice A n c] := by rw [← z1, ← z2, ← z3, ← e5, ← e4]; exact (Bk.new _ _ _).alloc _
 have k9 : Bk w5 (w.heap.size + 1 + 1 + 1 + 1) 4 #[.bool true] := by rw [← z1, ← z2, ← z3, ← z4, ← e5]; exact Bk.new _ _ _
 have hB : Below w.heap.size w w5 := by rw [← e5, ← e4, ← e3, ← e2, ← e1]; exact (((((Below.refl _ _).alloc (Nat.le_refl _) _).alloc (by simp) _).alloc (by simp; omega) _).alloc (by simp; omega) _).alloc (by simp; omega) _
 have HE : Hid (((((w.alloc (.cells #[bp s] 439)).alloc (.cells #[.int .u32 a] 28)).alloc (.cells #[.int .i64 p] 3)).alloc (.cells #[.slice A n c] 37)).alloc (.cells #[.bool true] 4) = w5) := Lib.hid (by rw [e1, e2, e3, e4, e5])
 have HF := Lib.hid (And.intro k9 (And.intro k5 (And.intro k6 (And.intro k7 (And.intro k8 hB)))))
 clear e1 e2 e3 e4 e5 z1 z2 z3 z4 k5 k6 k7 k8 k9 hB
 go_enter Tryz.func262, Tryz.ntmps262
 go_wp2
 go_ret
 refine ⟨_, _, _, _, _, rfl, ?_⟩
 rw [HE.out]
 exact ⟨HF.out.1, HF.out.2.1, HF.out.2.2.1, HF.out.2.2.2.1, HF.out.2.2.2.2.1, by omega, HF.out.2.2.2.2.2⟩
set_option maxHeartbeats 4000000 in
set_option maxRecDepth 100000 in
theorem scall_send (wk s : Nat) (fd a p nn : Int) (hp : 1 ≤ p ∧ p ≤ 65535) (ha : a ≠ 0) (A : Option Addr) (n c : Nat) (now draw : Int) (w : World) :
  Calls Tryz.prog 185 #[bp wk, ifS s, .agg (callC 8 fd a p nn (.slice A n c) now draw)] w fun e w' => ∃ g9 g5 g6 g7 g8, e = .returned (.func (.func 315) #[] #[bp g9, bp g5, bp g6, bp g7, bp g8]) ∧ Bk w' g9 4 #[.bool true] ∧ Bk w' g5 439 #[bp s] ∧ Bk w' g6 28 #[.int .u32 a] ∧ Bk w' g7 3 #[.int .i64 p] ∧ Bk w' g8 37 #[.slice A n c] ∧ (w.heap.size ≤ g9 ∧ w.heap.size ≤ g5 ∧ w.heap.size ≤ g6 ∧ w.heap.size ≤ g7 ∧ w.heap.size ≤ g8) ∧ Below w.heap.size w w' := by
 have hB : Below w.heap.size w ((w.alloc (.cells #[ifS s] 376)).alloc (.cells (callC 8 fd a p nn (.slice A n c) now draw) 39)) := ((Below.refl _ _).alloc (Nat.le_refl _) _).alloc (by simp) _
 have HB := Lib.hid hB
 have p1 : ¬ p < 1 := by omega
 have p2 : ¬ 65535 < p := by omega
 have p3 : decide (p < 1) = false := decide_eq_false p1
 have p4 : decide (65535 < p) = false := decide_eq_false p2
 have p5 : (a == 0) = false := by simpa using ha
 clear hB hp ha
 have hta := as_stream s
 have htd := as_datagrams s
 unfold callC at *
 go_enter Tryz.func185, Tryz.ntmps185
 go_wp2_with fail
 refine (dsendto_any s a p A n c _).mono ?_
 rintro e1 w1 ⟨g9, g5, g6, g7, g8, rfl, h9, h5, h6, h7, h8, hg, hb⟩
 have HF := Lib.hid (And.intro h9 (And.intro h5 (And.intro h6 (And.intro h7 (And.intro h8 (And.intro hg hb))))))
 clear h9 h5 h6 h7 h8 hg hb
 go_wp2
 go_ret
 obtain ⟨h9, h5, h6, h7, h8, hg, hb⟩ := HF.out
 have hl := HB.out.size
 exact ⟨g9, g5, g6, g7, g8, rfl, h9, h5, h6, h7, h8, by omega, HB.out.trans (hb.mono hl)⟩
theorem drecv_any (s wk : Nat) (cs : Array Value) (w : World) :
  Calls Tryz.prog 419 #[bp s, bp wk, .agg cs] w fun e w' => e = .returned (.func (.func 425) #[] #[bp w.heap.size, bp (w.heap.size + 1)]) ∧ w' = (w.alloc (.cells #[bp s] 439)).alloc (.cells cs 39) := by
 have hmf : ∀ (fn : Fn) (first cap : Array Value) (w : World), (Instr.makeFunc fn first cap).run Tryz.prog w = .ok (.func fn first cap) w := fun _ _ _ _ => rfl
 go_enter Tryz.func419, Tryz.ntmps419
 go_wp2
 go_ret
 exact ⟨rfl, rfl⟩
set_option maxHeartbeats 4000000 in
set_option maxRecDepth 100000 in
theorem scall_recv (wk s : Nat) (fd a p nn : Int) (hn : 1 ≤ nn) (dv : Value) (now draw : Int) (w : World) :
  Calls Tryz.prog 185 #[bp wk, ifS s, .agg (callC 9 fd a p nn dv now draw)] w fun e w' => ∃ gs gc, e = .returned (.func (.func 425) #[] #[bp gs, bp gc]) ∧ Bk w' gs 439 #[bp s] ∧ Bk w' gc 39 (callC 9 fd a p nn dv now draw) ∧ w.heap.size ≤ gs ∧ w.heap.size ≤ gc ∧ Below w.heap.size w w' := by
 obtain ⟨W, hW⟩ : ∃ W, (w.alloc (.cells #[ifS s] 376)).alloc (.cells (callC 9 fd a p nn dv now draw) 39) = W := ⟨_, rfl⟩
 have hB : Below w.heap.size w W := by rw [← hW]; exact ((Below.refl _ _).alloc (Nat.le_refl _) _).alloc (by simp) _
 have hmr : ∀ w, (method 669 439 (bp s) "wharf/sock.recv").run Tryz.prog w = .ok (419, bp s) w := fun w => meth_recv s w
 have p1 : ¬ nn < 1 := by omega
 have p3 : decide (nn < 1) = false := decide_eq_false p1
 have HB := Lib.hid hB
 have HW : Hid ((w.alloc (.cells #[ifS s] 376)).alloc (.cells #[.int .i64 9, .int .i64 0, .int .i64 fd, .int .u32 a, .int .i64 p, .int .i64 nn, dv, .int .i64 now, .int .i64 draw] 39) = W) := Lib.hid hW
 clear hB hW hn
 have hta := as_stream s
 have htd := as_datagrams s
 unfold callC
 go_enter Tryz.func185, Tryz.ntmps185
 go_wp2_with fail
 rw [HW.out]
 refine (drecv_any s wk _ _).mono ?_
 rintro e1 w1 ⟨rfl, rfl⟩
 go_wp2
 go_ret
 have hl := HB.out.size
 refine ⟨_, _, rfl, (Bk.new W _ _).alloc _, ?_, hl, by omega, HB.out.trans ((((Below.refl _ W).alloc (Nat.le_refl _) _).alloc (by simp) _).mono hl)⟩
 have := Bk.new (W.alloc (.cells #[bp s] 439)) 39 #[.int .i64 9, .int .i64 0, .int .i64 fd, .int .u32 a, .int .i64 p, .int .i64 nn, dv, .int .i64 now, .int .i64 draw]
 rwa [World.size_alloc] at this
open Go.RowKit
def SkR (t : Nat) (K : Nat → Nat) (w : World) (st sm : Nat) (d : HD) (so : Option (Nat × Bool × Int)) (R : HV → List En → Option (Int × List Dg) → List (List Int) → Prop) (e : Ending) (w' : World) : Prop :=
 ∃ v' S' P' L' K' x, e = .returned (.tuple #[nilS, x]) ∧ R v' S' P' L' ∧ SdS t K' w' st sm d v' S' P' so ∧ FrR K' w' w.heap.size x L' ∧ (∀ b, b < w.heap.size → K' b = K b) ∧ (∀ b, w.heap.size ≤ b → sideK t (K' b) ∨ K' b = 40) ∧ Chg (fun b => sideK t (K b)) w w'
set_option maxHeartbeats 4000000 in
set_option maxRecDepth 100000 in
theorem skframe_of (t : Nat) (ht : t ≤ 20) (K : Nat → Nat) (w : World) (st sm : Nat) (d : HD) (v : HV) (S : List En) (P : Option (Int × List Dg)) (so : Option (Nat × Bool × Int)) (now draw : Int) (A : Option Addr) (n c : Nat) (R : HV → List En → Option (Int × List Dg) → List (List Int) → Prop) (hs : SdS t K w st sm d v S P so)
  (hF : ∀ K1 w1, (∀ b, b < w.heap.size → K1 b = K b) → Below w.heap.size w w1 → HostS t K1 w1 d v S [] P → Calls Tryz.prog 15 #[.pointer (some ⟨d.h, 0, none⟩), .slice A n c, .int .i64 now, .int .i64 draw] w1 (HostR t K1 w1 d R)) :
  Calls Tryz.prog 113 #[bp st, .slice A n c, .int .i64 now, .int .i64 draw] w (SkR t K w st sm d so R) := by
 obtain ⟨W, hW⟩ : ∃ W, w.alloc (.cells (swC st now draw nilS nilS (.pointer none)) 374) = W := ⟨_, rfl⟩
 have hk : Bk W w.heap.size 374 (swC st now draw nilS nilS (.pointer none)) := by rw [← hW]; exact Bk.new _ _ _
 have hB : Below w.heap.size w W := by rw [← hW]; exact (Below.refl _ _).alloc (Nat.le_refl _) _
 have hz : W.heap.size = w.heap.size + 1 := by rw [← hW, World.size_alloc]
 obtain ⟨K1, k1, k2⟩ : ∃ K1 : Nat → Nat, (∀ b, b < w.heap.size → K1 b = K b) ∧ ∀ b, w.heap.size ≤ b → K1 b = 40 := ⟨fun b => if b < w.heap.size then K b else 40, fun b hb => if_pos hb, fun b hb => if_neg (by omega)⟩
 have hs1 : SdS t K1 W st sm d v S P so := hs.keep (Chg.of_below (F := fun _ => False) hB) (fun _ _ _ e => e) (fun b hb _ => k1 b hb)
 have c00 : ∀ o, (w.alloc o).cell? ⟨st, 0, none⟩ = some (bp d.h) := fun o => (hs.stk.alloc o).cell 0
 have HF := Lib.hid (hF K1 W k1 hB hs1.hs)
 have HX := Lib.hid (And.intro hk (And.intro hB (And.intro hz (And.intro k1 (And.intro k2 (And.intro hs1 (And.intro hs ht)))))))
 have HW : Hid (w.alloc (.cells #[bp st, .int .i64 now, .int .i64 draw, .slice none 0 0, .slice none 0 0, .pointer none] 374) = W) := Lib.hid hW
 clear hW hk hB hz k1 k2 hs1 hs ht hF
 go_enter Tryz.func113, Tryz.ntmps113
 go_wp2_with fail
 rw [HW.out]
 refine HF.out.mono ?_
 rintro e1 w1 ⟨v', S', P', L', K', fA, fc, vs, rfl, hR, z1, z2, z3, z4, z5, z6, z7⟩
 have hn40 : ¬ hostK t (K1 w.heap.size) := by rw [HX.out.2.2.2.2.1 _ (Nat.le_refl _)]; intro e; exact absurd e.2 (by have := HX.out.2.2.2.2.2.2.2; omega)
 have hk1 := HX.out.1.chg z4 hn40
 have c4 : w1.cell? ⟨w.heap.size, 4, none⟩ = some nilS := hk1.cell 4
 have f4 := hk1.frozen 4
 obtain ⟨W2, hW2⟩ : ∃ W2, w1.setCell ⟨w.heap.size, 4, none⟩ (.slice fA L'.length fc) = W2 := ⟨_, rfl⟩
 have hk2 : Bk W2 w.heap.size 374 (swC st now draw nilS (.slice fA L'.length fc) (.pointer none)) := by rw [← hW2]; exact hk1.set 4 _
 have hsd := HX.out.2.2.2.2.2.1.host z1 z2 z4
 have hc2 : Chg (fun b => b = w.heap.size) w1 W2 := by rw [← hW2]; exact (Chg.refl _ w1).set1 _
 have hKr : K' w.heap.size = 40 := (z2 _ (by have := HX.out.2.2.1; omega)).trans (HX.out.2.2.2.2.1 _ (Nat.le_refl _))
 have hsd2 : SdS t K' W2 st sm d v' S' P' so := hsd.keep hc2 (fun b _ hk' e => by
  rw [e, hKr] at hk'
  have := HX.out.2.2.2.2.2.2.2
  rcases hk' with h | h
  ·exact absurd h.2 (by omega)
  ·omega) (fun _ _ _ => rfl)
 have HS2 := Lib.hid hsd2.stk
 have HK2 := Lib.hid hk2
 have HFIN : Hid (∀ nq, SkR t K w st sm d so R (.returned (.tuple #[nilS, .slice fA L'.length fc])) (W2.drewN nq)) := Lib.hid (fun nq => by
  have hl1 := HX.out.2.2.1
  have hl2 := z4.size
  have hc3 := hc2.drewN nq
  refine ⟨v', S', P', L', K', _, rfl, hR, hsd2.drewN nq, ⟨fA, fc, vs, rfl, z5.of_block (fun b hb => hc3.block b (z5.lt b hb).2 (fun e => by have := (z7 b hb).2; omega)), z6.cap.keep (fun b hb hl => hc3.block b hl (fun e => by have := hb.1.2; omega)) (fun b hb => ⟨hb.1.1, by have := hb.1.2; omega⟩), fun b hb => ⟨(z7 b hb).1, by have := (z7 b hb).2; omega⟩⟩, fun b hb => (z2 b (by omega)).trans (HX.out.2.2.2.1 b hb), fun b hb => ?_, ?_⟩
  ·rcases Nat.lt_or_ge b W.heap.size with h | h
   ·right; rw [z2 b h]; exact HX.out.2.2.2.2.1 b hb
   ·exact (z3 b h).imp sideK_host id
  ·refine ((Chg.of_below (F := fun b => sideK t (K b)) HX.out.2.1).trans z4 (fun y e => ?_)).trans hc3 (fun y e => .inr (by omega))
   rcases Nat.lt_or_ge y w.heap.size with h | h
   ·left; rw [← HX.out.2.2.2.1 y h]; exact .inl e
   ·exact .inr h)
 have hy3 : W2.cell? ⟨w.heap.size, 3, none⟩ = some nilS := hk2.cell 3
 have hy4 : W2.cell? ⟨w.heap.size, 4, none⟩ = some (.slice fA L'.length fc) := hk2.cell 4
 have HW2 := Lib.hid hW2
 clear hR z1 z2 z3 z4 z5 z6 z7 hn40 hk1 hW2 hk2 hsd hc2 hKr hsd2
 go_wp2_with fail
 rw [HW2.out]
 refine (again_nil w.heap.size st d.h sm now draw nilS (.slice fA L'.length fc) (.pointer none) _ HK2.out HS2.out).mono ?_
 rintro e2 w2 ⟨rfl, rfl⟩
 go_wp2_with fail
 go_quiet (fail)
 go_wp2
 go_ret2
 exact HFIN.out _
set_option maxHeartbeats 4000000 in
set_option maxRecDepth 100000 in
theorem sktick_of (t : Nat) (ht : t ≤ 20) (K : Nat → Nat) (w : World) (st sm : Nat) (d : HD) (v : HV) (S : List En) (P : Option (Int × List Dg)) (so : Option (Nat × Bool × Int)) (now draw : Int) (R : HV → List En → Option (Int × List Dg) → List (List Int) → Prop) (hs : SdS t K w st sm d v S P so)
  (hF : ∀ K1 w1, (∀ b, b < w.heap.size → K1 b = K b) → Below w.heap.size w w1 → HostS t K1 w1 d v S [] P → Calls Tryz.prog 16 #[.pointer (some ⟨d.h, 0, none⟩), .int .i64 now, .int .i64 draw] w1 (HostR t K1 w1 d R)) :
  Calls Tryz.prog 116 #[bp st, .int .i64 now, .int .i64 draw] w (SkR t K w st sm d so R) := by
 obtain ⟨W, hW⟩ : ∃ W, w.alloc (.cells (swC st now draw nilS nilS (.pointer none)) 374) = W := ⟨_, rfl⟩
 have hk : Bk W w.heap.size 374 (swC st now draw nilS nilS (.pointer none)) := by rw [← hW]; exact Bk.new _ _ _
 have hB : Below w.heap.size w W := by rw [← hW]; exact (Below.refl _ _).alloc (Nat.le_refl _) _
 have hz : W.heap.size = w.heap.size + 1 := by rw [← hW, World.size_alloc]
 obtain ⟨K1, k1, k2⟩ : ∃ K1 : Nat → Nat, (∀ b, b < w.heap.size → K1 b = K b) ∧ ∀ b, w.heap.size ≤ b → K1 b = 40 := ⟨fun b => if b < w.heap.size then K b else 40, fun b hb => if_pos hb, fun b hb => if_neg (by omega)⟩
 have hs1 : SdS t K1 W st sm d v S P so := hs.keep (Chg.of_below (F := fun _ => False) hB) (fun _ _ _ e => e) (fun b hb _ => k1 b hb)
 have c00 : ∀ o, (w.alloc o).cell? ⟨st, 0, none⟩ = some (bp d.h) := fun o => (hs.stk.alloc o).cell 0
 have HF := Lib.hid (hF K1 W k1 hB hs1.hs)
 have HX := Lib.hid (And.intro hk (And.intro hB (And.intro hz (And.intro k1 (And.intro k2 (And.intro hs1 (And.intro hs ht)))))))
 have HW : Hid (w.alloc (.cells #[bp st, .int .i64 now, .int .i64 draw, .slice none 0 0, .slice none 0 0, .pointer none] 374) = W) := Lib.hid hW
 clear hW hk hB hz k1 k2 hs1 hs ht hF
 go_enter Tryz.func116, Tryz.ntmps116
 go_wp2_with fail
 rw [HW.out]
 refine HF.out.mono ?_
 rintro e1 w1 ⟨v', S', P', L', K', fA, fc, vs, rfl, hR, z1, z2, z3, z4, z5, z6, z7⟩
 have hn40 : ¬ hostK t (K1 w.heap.size) := by rw [HX.out.2.2.2.2.1 _ (Nat.le_refl _)]; intro e; exact absurd e.2 (by have := HX.out.2.2.2.2.2.2.2; omega)
 have hk1 := HX.out.1.chg z4 hn40
 have c4 : w1.cell? ⟨w.heap.size, 4, none⟩ = some nilS := hk1.cell 4
 have f4 := hk1.frozen 4
 obtain ⟨W2, hW2⟩ : ∃ W2, w1.setCell ⟨w.heap.size, 4, none⟩ (.slice fA L'.length fc) = W2 := ⟨_, rfl⟩
 have hk2 : Bk W2 w.heap.size 374 (swC st now draw nilS (.slice fA L'.length fc) (.pointer none)) := by rw [← hW2]; exact hk1.set 4 _
 have hsd := HX.out.2.2.2.2.2.1.host z1 z2 z4
 have hc2 : Chg (fun b => b = w.heap.size) w1 W2 := by rw [← hW2]; exact (Chg.refl _ w1).set1 _
 have hKr : K' w.heap.size = 40 := (z2 _ (by have := HX.out.2.2.1; omega)).trans (HX.out.2.2.2.2.1 _ (Nat.le_refl _))
 have hsd2 : SdS t K' W2 st sm d v' S' P' so := hsd.keep hc2 (fun b _ hk' e => by
  rw [e, hKr] at hk'
  have := HX.out.2.2.2.2.2.2.2
  rcases hk' with h | h
  ·exact absurd h.2 (by omega)
  ·omega) (fun _ _ _ => rfl)
 have HS2 := Lib.hid hsd2.stk
 have HK2 := Lib.hid hk2
 have HFIN : Hid (∀ nq, SkR t K w st sm d so R (.returned (.tuple #[nilS, .slice fA L'.length fc])) (W2.drewN nq)) := Lib.hid (fun nq => by
  have hl1 := HX.out.2.2.1
  have hl2 := z4.size
  have hc3 := hc2.drewN nq
  refine ⟨v', S', P', L', K', _, rfl, hR, hsd2.drewN nq, ⟨fA, fc, vs, rfl, z5.of_block (fun b hb => hc3.block b (z5.lt b hb).2 (fun e => by have := (z7 b hb).2; omega)), z6.cap.keep (fun b hb hl => hc3.block b hl (fun e => by have := hb.1.2; omega)) (fun b hb => ⟨hb.1.1, by have := hb.1.2; omega⟩), fun b hb => ⟨(z7 b hb).1, by have := (z7 b hb).2; omega⟩⟩, fun b hb => (z2 b (by omega)).trans (HX.out.2.2.2.1 b hb), fun b hb => ?_, ?_⟩
  ·rcases Nat.lt_or_ge b W.heap.size with h | h
   ·right; rw [z2 b h]; exact HX.out.2.2.2.2.1 b hb
   ·exact (z3 b h).imp sideK_host id
  ·refine ((Chg.of_below (F := fun b => sideK t (K b)) HX.out.2.1).trans z4 (fun y e => ?_)).trans hc3 (fun y e => .inr (by omega))
   rcases Nat.lt_or_ge y w.heap.size with h | h
   ·left; rw [← HX.out.2.2.2.1 y h]; exact .inl e
   ·exact .inr h)
 have hy3 : W2.cell? ⟨w.heap.size, 3, none⟩ = some nilS := hk2.cell 3
 have hy4 : W2.cell? ⟨w.heap.size, 4, none⟩ = some (.slice fA L'.length fc) := hk2.cell 4
 have HW2 := Lib.hid hW2
 clear hR z1 z2 z3 z4 z5 z6 z7 hn40 hk1 hW2 hk2 hsd hc2 hKr hsd2
 go_wp2_with fail
 rw [HW2.out]
 refine (again_nil w.heap.size st d.h sm now draw nilS (.slice fA L'.length fc) (.pointer none) _ HK2.out HS2.out).mono ?_
 rintro e2 w2 ⟨rfl, rfl⟩
 go_wp2_with fail
 go_quiet (fail)
 go_wp2
 go_ret2
 exact HFIN.out _
end Go.Proofs.YtaeafkdfbcppgaaGreat
