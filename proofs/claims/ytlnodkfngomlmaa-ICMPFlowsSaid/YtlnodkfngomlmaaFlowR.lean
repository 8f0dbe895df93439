/- Proved: whose flow some bytes are, by the reference's Flow, by its walk. Conditions: the bytes lie in memory. -/
import Derived.Test.YtlnodkfngomlmaaFlow
import Derived.Deep.RegionHeld3
set_option linter.unusedVariables false
namespace Go.Proofs.Ytlnodkfngomlmaa
open Go.RowKit
theorem RB.drewN {w : World} {B : Nat} {A : Option Addr} {l : List Int} (h : RB w B A l) (k : Nat) : RB (w.drewN k) B A l := h
theorem get4_lit (A : Option Addr) (n c B : Nat) (l : List Int) (k : Nat) (K : Int) (hK : (k : Int) = K) (hn : l.length = n) (hk : k + 4 ≤ n) (hmax : n ≤ 140737488355328) (hb : Bs l) (w : World) (hr : RB w B A l) :
    Calls Try.prog 49 #[.slice A n c, .int .i64 K] w fun e w' => e = .returned (.int .u32 (rd4 l k)) ∧ ∃ j, w' = w.drewN j := by
  subst hK; exact get4_any A n c B l k hn hk hmax hb w hr
structure RBx (w : World) (B : Nat) (A : Option Addr) (l : List Int) : Prop where
  rb : RB w B A l
  le : B ≤ w.heap.size
theorem RBx.drew {w : World} {B : Nat} {A : Option Addr} {l : List Int} (h : RBx w B A l) : RBx w.drew B A l := ⟨h.rb, h.le⟩
theorem RBx.drewN {w : World} {B : Nat} {A : Option Addr} {l : List Int} {k : Nat} (h : RBx w B A l) : RBx (w.drewN k) B A l := ⟨h.rb, h.le⟩
theorem RBx.alloc {w : World} {B : Nat} {A : Option Addr} {l : List Int} {o : Obj} (h : RBx w B A l) : RBx (w.alloc o) B A l := ⟨Rw.alloc h.rb h.le o, by have := h.le; simp; omega⟩
theorem cell_new (w : World) (k : Nat) (cs : Array Value) (T : TypeId) (i : Nat) : ((w.drewN k).alloc (.cells cs T)).cell? ⟨w.heap.size, i, none⟩ = cs[i]? := (Bk.new (w.drewN k) T cs).cell i
theorem frozen_new (w : World) (k : Nat) (cs : Array Value) (T : TypeId) (i : Nat) : ((w.drewN k).alloc (.cells cs T)).frozen? ⟨w.heap.size, i, none⟩ = false := (Bk.new (w.drewN k) T cs).frozen i
structure P0 (w : World) (T : TypeId) (gr g B : Nat) (A : Option Addr) (l : List Int) (X : World) : Prop where
  sz : X.heap.size = g
  lt : gr < g
  ge : w.heap.size ≤ gr
  hgr : Bk X gr T #[.int .i64 0, .int .u32 0, .int .i64 0, .int .u32 0, .int .i64 0]
  hQ : Below w.heap.size w X
  rb : RBx X B A l
  hB : B ≤ g
structure Pre (w : World) (T : TypeId) (gr g B : Nat) (A : Option Addr) (l : List Int) (X : World) : Prop where
  lt : gr < g
  ge : w.heap.size ≤ gr
  hm : Bk X g T #[.int .i64 0, .int .u32 0, .int .i64 0, .int .u32 0, .int .i64 0]
  hgr : Bk X gr T #[.int .i64 0, .int .u32 0, .int .i64 0, .int .u32 0, .int .i64 0]
  hQ : Below w.heap.size w X
  rb : RBx X B A l
  hB : B ≤ g
section
variable {w X : World} {T : TypeId} {gr g B k : Nat} {A : Option Addr} {l : List Int}
theorem P0.drew (h : P0 w T gr g B A l X) : P0 w T gr g B A l X.drew := ⟨h.sz, h.lt, h.ge, h.hgr, h.hQ.drew, h.rb.drew, h.hB⟩
theorem P0.drewN (h : P0 w T gr g B A l X) : P0 w T gr g B A l (X.drewN k) := ⟨h.sz, h.lt, h.ge, h.hgr, bel_drewN h.hQ k, h.rb.drewN, h.hB⟩
theorem Pre.drew (h : Pre w T gr g B A l X) : Pre w T gr g B A l X.drew := ⟨h.lt, h.ge, h.hm, h.hgr, h.hQ.drew, h.rb.drew, h.hB⟩
theorem Pre.drewN (h : Pre w T gr g B A l X) : Pre w T gr g B A l (X.drewN k) := ⟨h.lt, h.ge, h.hm, h.hgr, bel_drewN h.hQ k, h.rb.drewN, h.hB⟩
theorem Pre.alloc (h : P0 w T gr g B A l X) : Pre w T gr g B A l (X.alloc (.cells #[.int .i64 0, .int .u32 0, .int .i64 0, .int .u32 0, .int .i64 0] T)) :=
  ⟨h.lt, h.ge, by have := Bk.new X T #[.int .i64 0, .int .u32 0, .int .i64 0, .int .u32 0, .int .i64 0]; rwa [h.sz] at this, h.hgr.alloc _, h.hQ.alloc (by rw [h.sz]; have := h.ge; have := h.lt; omega) _, h.rb.alloc, h.hB⟩
structure Laid (w : World) (T : TypeId) (gr g B : Nat) (A : Option Addr) (l : List Int) (p f t : Int) (W : World) : Prop where
  hm : Bk W g T #[.int .i64 p, .int .u32 f, .int .i64 0, .int .u32 t, .int .i64 0]
  hgr : Bk W gr T #[.int .i64 0, .int .u32 0, .int .i64 0, .int .u32 0, .int .i64 0]
  hQ : Below w.heap.size w W
  rb : RB W B A l
theorem Laid.of_pre (h : Pre w T gr g B A l X) (p f t : Int) : Laid w T gr g B A l p f t (((((X.setCell ⟨g, 0, none⟩ (.int .i64 p)).setCell ⟨g, 1, none⟩ (.int .u32 f)).setCell ⟨g, 2, none⟩ (.int .i64 0)).setCell ⟨g, 3, none⟩ (.int .u32 t)).setCell ⟨g, 4, none⟩ (.int .i64 0)) := by
  have hne : gr ≠ g := by have := h.lt; omega
  have hge : w.heap.size ≤ g := by have := h.lt; have := h.ge; omega
  refine ⟨((((h.hm.set 0 _).set 1 _).set 2 _).set 3 _).set 4 _, ((((h.hgr.far hne _).far hne _).far hne _).far hne _).far hne _, ((((h.hQ.setCell hge _).setCell hge _).setCell hge _).setCell hge _).setCell hge _, ?_⟩
  exact Rw.setCell (Rw.setCell (Rw.setCell (Rw.setCell (Rw.setCell h.rb.rb h.hB _) h.hB _) h.hB _) h.hB _) h.hB _
end
set_option maxRecDepth 100000 in
set_option maxHeartbeats 1500000 in
theorem rflow_short (A : Option Addr) (n c B : Nat) (l : List Int) (hn : l.length = n) (h20 : n < 20) (hc : n ≤ c) (hmax : n ≤ 1000000) (hb : Bs l) (w : World) (hr : RB w B A l) (hB : B ≤ w.heap.size) :
    Calls Try.prog 29 #[.slice A n c] w (FlowRet w l) := by
  have LEM := Lib.hid (flow_2 (l := l) (by rw [hn]; exact h20))
  go_enter Try.func29, Try.ntmps29
  go_wp2_with fail
  refine bodyPost_ret (v := .tuple #[.agg #[.int .i64 0, .int .u32 0, .int .i64 0, .int .u32 0, .int .i64 0], .int .i64 2]) (by simp [results, Try.results29, go_sem, *]) rfl (flow_ret LEM.out rfl ((Below.refl _ _).alloc (Nat.le_refl _) _))
set_option maxRecDepth 100000 in
set_option maxHeartbeats 1500000 in
theorem rflow_form1 (A : Option Addr) (n c B : Nat) (l : List Int) (hn : l.length = n) (h20 : 20 ≤ n) (v4 : (at8 l 0 / 16 != 4) = true) (hc : n ≤ c) (hmax : n ≤ 1000000) (hb : Bs l) (w : World) (hr : RB w B A l) (hB : B ≤ w.heap.size) :
    Calls Try.prog 29 #[.slice A n c] w (FlowRet w l) := by
  have HN := Lib.hid hn
  obtain ⟨w0, hw0⟩ : ∃ w0, w.alloc (.cells #[.int .i64 0, .int .u32 0, .int .i64 0, .int .u32 0, .int .i64 0] 60) = w0 := ⟨_, rfl⟩
  have hB0 : Below w.heap.size w w0 := by rw [← hw0]; exact (Below.refl _ _).alloc (Nat.le_refl _) _
  have hg0 : Bk w0 w.heap.size 60 #[.int .i64 0, .int .u32 0, .int .i64 0, .int .u32 0, .int .i64 0] := by rw [← hw0]; exact Bk.new w _ _
  have hr0 : RB w0 B A l := Rw.below hr (hB0.mono hB)
  have HW0 := Lib.hid hw0
  have z0 := hg0.lt
  have hB1 : B ≤ w0.heap.size := by omega
  obtain ⟨b, off, rfl, hbB, x0⟩ := hr0.at_ (k := 0) (by omega)
  obtain ⟨b', off', e', _, x9⟩ := hr0.at_ (k := 9) (by omega)
  injection e' with e'; injection e' with e1 e2; subst e1; subst e2
  change w0.cell? ⟨b, off, none⟩ = some (.int .u8 (at8 l 0)) at x0
  change w0.cell? ⟨b, off + 9, none⟩ = some (.int .u8 (at8 l 9)) at x9
  have a0 := at8_bd hb 0
  have a9 := at8_bd hb 9
  have a6 := rd2_bd hb 6
  have x0a : (w.alloc (.cells #[.int .i64 0, .int .u32 0, .int .i64 0, .int .u32 0, .int .i64 0] 60)).cell? ⟨b, off, none⟩ = some (.int .u8 (at8 l 0)) := by rw [hw0]; exact x0
  have n20 : (20 : Int) ≤ n := by omega
  have n0 : 0 < n := by omega
  have n9 : (9 : Int) < n := by omega
  have hbn : b ≠ w.heap.size := by omega
  have hbn2 : w.heap.size ≠ b := by omega
  have hb0 : b < w0.heap.size := by omega
  have hbm : b ≠ w0.heap.size := by omega
  have hbm2 : w0.heap.size ≠ b := by omega
  have LEM := Lib.hid (flow_3 (l := l) (by rw [hn]; omega) (.inl (by simpa using v4)))
  clear hn hw0
  go_enter Try.func29, Try.ntmps29
  go_wp2_with fail
  refine bodyPost_ret (v := .tuple #[.agg #[.int .i64 0, .int .u32 0, .int .i64 0, .int .u32 0, .int .i64 0], .int .i64 3]) (by simp [results, Try.results29, go_sem, *]) rfl (flow_ret LEM.out rfl ((Below.refl _ _).alloc (Nat.le_refl _) _))
set_option maxRecDepth 100000 in
set_option maxHeartbeats 1500000 in
theorem rflow_form2 (A : Option Addr) (n c B : Nat) (l : List Int) (hn : l.length = n) (h20 : 20 ≤ n) (v4 : (at8 l 0 / 16 != 4) = false) (hx : at8 l 0 % 16 * 4 < 20) (hc : n ≤ c) (hmax : n ≤ 1000000) (hb : Bs l) (w : World) (hr : RB w B A l) (hB : B ≤ w.heap.size) :
    Calls Try.prog 29 #[.slice A n c] w (FlowRet w l) := by
  have HN := Lib.hid hn
  obtain ⟨w0, hw0⟩ : ∃ w0, w.alloc (.cells #[.int .i64 0, .int .u32 0, .int .i64 0, .int .u32 0, .int .i64 0] 60) = w0 := ⟨_, rfl⟩
  have hB0 : Below w.heap.size w w0 := by rw [← hw0]; exact (Below.refl _ _).alloc (Nat.le_refl _) _
  have hg0 : Bk w0 w.heap.size 60 #[.int .i64 0, .int .u32 0, .int .i64 0, .int .u32 0, .int .i64 0] := by rw [← hw0]; exact Bk.new w _ _
  have hr0 : RB w0 B A l := Rw.below hr (hB0.mono hB)
  have HW0 := Lib.hid hw0
  have z0 := hg0.lt
  have hB1 : B ≤ w0.heap.size := by omega
  obtain ⟨b, off, rfl, hbB, x0⟩ := hr0.at_ (k := 0) (by omega)
  obtain ⟨b', off', e', _, x9⟩ := hr0.at_ (k := 9) (by omega)
  injection e' with e'; injection e' with e1 e2; subst e1; subst e2
  change w0.cell? ⟨b, off, none⟩ = some (.int .u8 (at8 l 0)) at x0
  change w0.cell? ⟨b, off + 9, none⟩ = some (.int .u8 (at8 l 9)) at x9
  have a0 := at8_bd hb 0
  have a9 := at8_bd hb 9
  have a6 := rd2_bd hb 6
  have x0a : (w.alloc (.cells #[.int .i64 0, .int .u32 0, .int .i64 0, .int .u32 0, .int .i64 0] 60)).cell? ⟨b, off, none⟩ = some (.int .u8 (at8 l 0)) := by rw [hw0]; exact x0
  have n20 : (20 : Int) ≤ n := by omega
  have n0 : 0 < n := by omega
  have n9 : (9 : Int) < n := by omega
  have hbn : b ≠ w.heap.size := by omega
  have hbn2 : w.heap.size ≠ b := by omega
  have hb0 : b < w0.heap.size := by omega
  have hbm : b ≠ w0.heap.size := by omega
  have hbm2 : w0.heap.size ≠ b := by omega
  have LEM := Lib.hid (flow_3 (l := l) (by rw [hn]; omega) (.inr hx))
  clear hn hw0
  go_enter Try.func29, Try.ntmps29
  go_wp2_with fail
  refine bodyPost_ret (v := .tuple #[.agg #[.int .i64 0, .int .u32 0, .int .i64 0, .int .u32 0, .int .i64 0], .int .i64 3]) (by simp [results, Try.results29, go_sem, *]) rfl (flow_ret LEM.out rfl ((Below.refl _ _).alloc (Nat.le_refl _) _))
set_option maxRecDepth 100000 in
set_option maxHeartbeats 1500000 in
theorem rflow_long (A : Option Addr) (n c B : Nat) (l : List Int) (hn : l.length = n) (h20 : 20 ≤ n) (v4 : (at8 l 0 / 16 != 4) = false) (m : Nat) (hmm : at8 l 0 % 16 * 4 - 20 = (m : Int)) (hlong : n < 20 + m) (hc : n ≤ c) (hmax : n ≤ 1000000) (hb : Bs l) (w : World) (hr : RB w B A l) (hB : B ≤ w.heap.size) :
    Calls Try.prog 29 #[.slice A n c] w (FlowRet w l) := by
  have HN := Lib.hid hn
  obtain ⟨w0, hw0⟩ : ∃ w0, w.alloc (.cells #[.int .i64 0, .int .u32 0, .int .i64 0, .int .u32 0, .int .i64 0] 60) = w0 := ⟨_, rfl⟩
  have hB0 : Below w.heap.size w w0 := by rw [← hw0]; exact (Below.refl _ _).alloc (Nat.le_refl _) _
  have hg0 : Bk w0 w.heap.size 60 #[.int .i64 0, .int .u32 0, .int .i64 0, .int .u32 0, .int .i64 0] := by rw [← hw0]; exact Bk.new w _ _
  have hr0 : RB w0 B A l := Rw.below hr (hB0.mono hB)
  have HW0 := Lib.hid hw0
  have z0 := hg0.lt
  have hB1 : B ≤ w0.heap.size := by omega
  obtain ⟨b, off, rfl, hbB, x0⟩ := hr0.at_ (k := 0) (by omega)
  obtain ⟨b', off', e', _, x9⟩ := hr0.at_ (k := 9) (by omega)
  injection e' with e'; injection e' with e1 e2; subst e1; subst e2
  change w0.cell? ⟨b, off, none⟩ = some (.int .u8 (at8 l 0)) at x0
  change w0.cell? ⟨b, off + 9, none⟩ = some (.int .u8 (at8 l 9)) at x9
  have a0 := at8_bd hb 0
  have a9 := at8_bd hb 9
  have a6 := rd2_bd hb 6
  have x0a : (w.alloc (.cells #[.int .i64 0, .int .u32 0, .int .i64 0, .int .u32 0, .int .i64 0] 60)).cell? ⟨b, off, none⟩ = some (.int .u8 (at8 l 0)) := by rw [hw0]; exact x0
  have n20 : (20 : Int) ≤ n := by omega
  have n0 : 0 < n := by omega
  have n9 : (9 : Int) < n := by omega
  have hbn : b ≠ w.heap.size := by omega
  have hbn2 : w.heap.size ≠ b := by omega
  have hb0 : b < w0.heap.size := by omega
  have hbm : b ≠ w0.heap.size := by omega
  have hbm2 : w0.heap.size ≠ b := by omega
  have LEM := Lib.hid (flow_4 (l := l) (by rw [hn]; omega) (fun h => h.elim (by simpa using v4) (by omega)) (by rw [hn]; omega))
  obtain ⟨hq, hQ⟩ : ∃ hq : Nat, 20 + m = hq := ⟨_, rfl⟩
  have hqq : at8 l 0 % 16 * 4 = (hq : Int) := by omega
  have hq20 : (20 : Int) ≤ hq := by omega
  have hq60 : (hq : Int) ≤ 60 := by omega
  have HQ := Lib.hid hQ
  clear hmm
  have hql : (n : Int) < hq := by omega
  clear hQ hlong
  clear hn hw0
  go_enter Try.func29, Try.ntmps29
  go_wp2_with fail
  refine bodyPost_ret (v := .tuple #[.agg #[.int .i64 0, .int .u32 0, .int .i64 0, .int .u32 0, .int .i64 0], .int .i64 2]) (by simp [results, Try.results29, go_sem, *]) rfl (flow_ret LEM.out rfl ((Below.refl _ _).alloc (Nat.le_refl _) _))
set_option maxRecDepth 100000 in
set_option maxHeartbeats 1500000 in
theorem rflow_none (A : Option Addr) (n c B : Nat) (l : List Int) (hn : l.length = n) (h20 : 20 ≤ n) (v4 : (at8 l 0 / 16 != 4) = false) (m : Nat) (hmm : at8 l 0 % 16 * 4 - 20 = (m : Int)) (hle : 20 + m ≤ n) (p17 : ¬ at8 l 9 = 17) (p6 : ¬ at8 l 9 = 6) (hc : n ≤ c) (hmax : n ≤ 1000000) (hb : Bs l) (w : World) (hr : RB w B A l) (hB : B ≤ w.heap.size) :
    Calls Try.prog 29 #[.slice A n c] w (FlowRet w l) := by
  have HN := Lib.hid hn
  obtain ⟨w0, hw0⟩ : ∃ w0, w.alloc (.cells #[.int .i64 0, .int .u32 0, .int .i64 0, .int .u32 0, .int .i64 0] 60) = w0 := ⟨_, rfl⟩
  have hB0 : Below w.heap.size w w0 := by rw [← hw0]; exact (Below.refl _ _).alloc (Nat.le_refl _) _
  have hg0 : Bk w0 w.heap.size 60 #[.int .i64 0, .int .u32 0, .int .i64 0, .int .u32 0, .int .i64 0] := by rw [← hw0]; exact Bk.new w _ _
  have hr0 : RB w0 B A l := Rw.below hr (hB0.mono hB)
  have HW0 := Lib.hid hw0
  have z0 := hg0.lt
  have hB1 : B ≤ w0.heap.size := by omega
  obtain ⟨b, off, rfl, hbB, x0⟩ := hr0.at_ (k := 0) (by omega)
  obtain ⟨b', off', e', _, x9⟩ := hr0.at_ (k := 9) (by omega)
  injection e' with e'; injection e' with e1 e2; subst e1; subst e2
  change w0.cell? ⟨b, off, none⟩ = some (.int .u8 (at8 l 0)) at x0
  change w0.cell? ⟨b, off + 9, none⟩ = some (.int .u8 (at8 l 9)) at x9
  have a0 := at8_bd hb 0
  have a9 := at8_bd hb 9
  have a6 := rd2_bd hb 6
  have x0a : (w.alloc (.cells #[.int .i64 0, .int .u32 0, .int .i64 0, .int .u32 0, .int .i64 0] 60)).cell? ⟨b, off, none⟩ = some (.int .u8 (at8 l 0)) := by rw [hw0]; exact x0
  have n20 : (20 : Int) ≤ n := by omega
  have n0 : 0 < n := by omega
  have n9 : (9 : Int) < n := by omega
  have hbn : b ≠ w.heap.size := by omega
  have hbn2 : w.heap.size ≠ b := by omega
  have hb0 : b < w0.heap.size := by omega
  have hbm : b ≠ w0.heap.size := by omega
  have hbm2 : w0.heap.size ≠ b := by omega
  have LEM := Lib.hid (flow_6 (l := l) (by rw [hn]; omega) (fun h => h.elim (by simpa using v4) (by omega)) (by rw [hn]; omega) (fun h => h.1.elim p6 p17))
  obtain ⟨p, hp⟩ : ∃ p, at8 l 9 = p := ⟨_, rfl⟩
  rw [hp] at p17 p6 a9 x9
  have q17 : (p == 17) = false := by simpa using p17
  have q6 : (p == 6) = false := by simpa using p6
  have HP := Lib.hid hp
  clear hp p17 p6
  obtain ⟨hq, hQ⟩ : ∃ hq : Nat, 20 + m = hq := ⟨_, rfl⟩
  have hqq : at8 l 0 % 16 * 4 = (hq : Int) := by omega
  have hq20 : (20 : Int) ≤ hq := by omega
  have hq60 : (hq : Int) ≤ 60 := by omega
  have HQ := Lib.hid hQ
  clear hmm
  have hql : (hq : Int) ≤ n := by omega
  have g2 := fun (k : Nat) (hk : k + 2 ≤ n) (w' : World) (h : RB w' B (some ⟨b, off, none⟩) l) => get2_any _ n c B l k hn hk (by omega) hb w' h
  have G12 := Lib.hid (fun (w' : World) (h : RB w' B (some ⟨b, off, none⟩) l) => get4_lit _ n c B l 12 12 rfl hn (by omega) (by omega) hb w' h)
  have G16 := Lib.hid (fun (w' : World) (h : RB w' B (some ⟨b, off, none⟩) l) => get4_lit _ n c B l 16 16 rfl hn (by omega) (by omega) hb w' h)
  have hx0 : RBx w0 B (some ⟨b, off, none⟩) l := ⟨hr0, hB1⟩
  have y0 : ∀ k, ((w0.drewN k).alloc (.cells #[.int .i64 0, .int .u32 0, .int .i64 0, .int .u32 0, .int .i64 0] 60)).cell? ⟨w0.heap.size, 0, none⟩ = some (.int .i64 0) := fun k => cell_new w0 k _ _ 0
  have u0 : ∀ k, ((w0.drewN k).alloc (.cells #[.int .i64 0, .int .u32 0, .int .i64 0, .int .u32 0, .int .i64 0] 60)).frozen? ⟨w0.heap.size, 0, none⟩ = false := fun k => frozen_new w0 k _ _ 0
  have y1 : ∀ k, ((w0.drewN k).alloc (.cells #[.int .i64 0, .int .u32 0, .int .i64 0, .int .u32 0, .int .i64 0] 60)).cell? ⟨w0.heap.size, 1, none⟩ = some (.int .u32 0) := fun k => cell_new w0 k _ _ 1
  have u1 : ∀ k, ((w0.drewN k).alloc (.cells #[.int .i64 0, .int .u32 0, .int .i64 0, .int .u32 0, .int .i64 0] 60)).frozen? ⟨w0.heap.size, 1, none⟩ = false := fun k => frozen_new w0 k _ _ 1
  have y2 : ∀ k, ((w0.drewN k).alloc (.cells #[.int .i64 0, .int .u32 0, .int .i64 0, .int .u32 0, .int .i64 0] 60)).cell? ⟨w0.heap.size, 2, none⟩ = some (.int .i64 0) := fun k => cell_new w0 k _ _ 2
  have u2 : ∀ k, ((w0.drewN k).alloc (.cells #[.int .i64 0, .int .u32 0, .int .i64 0, .int .u32 0, .int .i64 0] 60)).frozen? ⟨w0.heap.size, 2, none⟩ = false := fun k => frozen_new w0 k _ _ 2
  have y3 : ∀ k, ((w0.drewN k).alloc (.cells #[.int .i64 0, .int .u32 0, .int .i64 0, .int .u32 0, .int .i64 0] 60)).cell? ⟨w0.heap.size, 3, none⟩ = some (.int .u32 0) := fun k => cell_new w0 k _ _ 3
  have u3 : ∀ k, ((w0.drewN k).alloc (.cells #[.int .i64 0, .int .u32 0, .int .i64 0, .int .u32 0, .int .i64 0] 60)).frozen? ⟨w0.heap.size, 3, none⟩ = false := fun k => frozen_new w0 k _ _ 3
  have y4 : ∀ k, ((w0.drewN k).alloc (.cells #[.int .i64 0, .int .u32 0, .int .i64 0, .int .u32 0, .int .i64 0] 60)).cell? ⟨w0.heap.size, 4, none⟩ = some (.int .i64 0) := fun k => cell_new w0 k _ _ 4
  have u4 : ∀ k, ((w0.drewN k).alloc (.cells #[.int .i64 0, .int .u32 0, .int .i64 0, .int .u32 0, .int .i64 0] 60)).frozen? ⟨w0.heap.size, 4, none⟩ = false := fun k => frozen_new w0 k _ _ 4
  have hp0 : P0 w 60 w.heap.size w0.heap.size B (some ⟨b, off, none⟩) l w0 := ⟨rfl, z0, Nat.le_refl _, hg0, hB0, ⟨hr0, hB1⟩, hB1⟩
  have G2 := Lib.hid g2
  have v9 : IntKind.i64.wrap p = p := IntWalk.i64_in _ (by omega)
  clear g2 hQ hle
  clear hn hw0
  go_enter Try.func29, Try.ntmps29
  go_wp2_with fail
  rw [HW0.out]
  go_region_held3 (fun w' => w'.cell? ⟨b, off + 9, none⟩ = some (.int .u8 p))
    (first | with_reducible assumption | go_keep)
    (first
      | (go_at_call 49; ((with_reducible refine (G12.out _ (RBx.rb (by repeat (first | with_reducible exact hx0 | with_reducible apply RBx.drew | with_reducible apply RBx.drewN | with_reducible apply RBx.alloc)))).mono ?_); rintro e w2 ⟨rfl, j, rfl⟩))
      | (go_at_call 49; ((with_reducible refine (G16.out _ (RBx.rb (by repeat (first | with_reducible exact hx0 | with_reducible apply RBx.drew | with_reducible apply RBx.drewN | with_reducible apply RBx.alloc)))).mono ?_); rintro e w2 ⟨rfl, j2, rfl⟩)))
  all_goals
    generalize hW : World.setCell _ ⟨w0.heap.size, 4, none⟩ (.int .i64 0) = W
    have hL : Laid w 60 w.heap.size w0.heap.size B (some ⟨b, off, none⟩) l p (rd4 l 12) (rd4 l 16) W := by
      rw [← hW]
      refine Laid.of_pre ?_ _ _ _
      repeat (first | with_reducible exact hp0 | with_reducible apply Pre.drewN | with_reducible apply Pre.drew | with_reducible apply Pre.alloc | with_reducible apply P0.drewN | with_reducible apply P0.drew)
    have HWW := Lib.hid hW
    clear hW
    have c0 := hL.hm.cell 0
    have c1 := hL.hm.cell 1
    have c2 := hL.hm.cell 2
    have c3 := hL.hm.cell 3
    have c4 := hL.hm.cell 4
    have d0 := hL.hgr.cell 0
    have d1 := hL.hgr.cell 1
    have d2 := hL.hgr.cell 2
    have d3 := hL.hgr.cell 3
    have d4 := hL.hgr.cell 4
    have e0 := hL.hgr.frozen 0
    have e1 := hL.hgr.frozen 1
    have e2 := hL.hgr.frozen 2
    have e3 := hL.hgr.frozen 3
    have e4 := hL.hgr.frozen 4
    have f2 := hL.hm.frozen 2
    have f4 := hL.hm.frozen 4
    have hgm1 : w.heap.size ≠ w0.heap.size := by omega
    have hgm2 : w0.heap.size ≠ w.heap.size := by omega
    have hgm3 : w.heap.size ≤ w0.heap.size := by omega
    have HQQ := Lib.hid hL.hQ
    have hLr := hL.rb
    simp only [List.getElem?_toArray, List.getElem?_cons_zero, List.getElem?_cons_succ] at c0 c1 c2 c3 c4 d0 d1 d2 d3 d4
    go_wp2_with fail
    refine bodyPost_ret (v := .tuple #[.agg #[.int .i64 p, .int .u32 (rd4 l 12), .int .i64 0, .int .u32 (rd4 l 16), .int .i64 0], .int .i64 0]) (by simp [results, Try.results29, go_sem, *]) rfl (flow_ret (by rw [LEM.out, HP.out]) rfl (((((HQQ.out.setCell (Nat.le_refl _) _).setCell (Nat.le_refl _) _).setCell (Nat.le_refl _) _).setCell (Nat.le_refl _) _).setCell (Nat.le_refl _) _))
end Go.Proofs.Ytlnodkfngomlmaa
