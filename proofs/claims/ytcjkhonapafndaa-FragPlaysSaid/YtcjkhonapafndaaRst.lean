/- Proved: drop of the reference's Store: a new row without the one; which of the reference's wholes a piece belongs to, and which is the oldest, by their walks; laying a piece's bytes in the reference's whole (plain), and rows of truth values that grow; lay of the reference's whole, by its walk; the reference's Store in memory with the rows of its wholes: what keeps it. Conditions: as each law says. -/
import Derived.Test.YtcjkhonapafndaaRv
import Derived.Test.YtcjkhonapafndaaInv
import Derived.WalkMore
import Derived.Deep.LoopGhost
import Derived.Test.YtcjkhonapafndaaBck
import Derived.Deep.DeepCutAuto
set_option linter.unusedVariables false
set_option linter.unusedSimpArgs false
namespace Go.Proofs.Ytcjkhonapafndaa
open Go.RowKit
/-- What each operation of region 4 yields, but for the memory that is made. -/
def cnC (q g n c i : Nat) (A2 : Option Addr) : Nat → Value
  | 0 => .pointer (some ⟨q, 0, none⟩)
  | 2 => .pointer (some ⟨q, 0, none⟩)
  | 3 => .pointer (some ⟨q, 0, none⟩)
  | 4 => .pointer (some ⟨q, 0, none⟩)
  | 5 => .slice (some ⟨g, 0, none⟩) n c
  | 6 => .int .i64 (i : Int)
  | 7 => .slice (some ⟨g, 0, none⟩) i c
  | 9 => .pointer (some ⟨q, 0, none⟩)
  | 10 => .pointer (some ⟨q, 0, none⟩)
  | 11 => .pointer (some ⟨q, 0, none⟩)
  | 12 => .slice (some ⟨g, 0, none⟩) n c
  | 13 => .int .i64 (i : Int)
  | 14 => .int .i64 ((i : Int) + 1)
  | 15 => .slice A2 (n - (i + 1)) (c - (i + 1))
  | 17 => .pointer (some ⟨q, 0, none⟩)
  | 18 => .pointer (some ⟨q, 0, none⟩)
  | _ => undef
def cnPlain (j : Nat) : Bool := !(j == 1 || j == 8 || j == 16 || j == 19)
/-- What waits for what. -/
def cnD (L : Nat → Bool) : Prop := (L 19 = true → L 16 = true) ∧ (L 16 = true → L 8 = true ∧ L 15 = true) ∧ (L 15 = true → L 12 = true) ∧ (L 8 = true → L 7 = true) ∧ (L 7 = true → L 5 = true)
def cnR (q g n c i : Nat) (A2 : Option Addr) (S : List RVm) (w0 : World) (L : Nat → Bool) (v : Nat → Value) (w : World) : Prop :=
  (∀ j, L j = true → cnPlain j = true → v j = cnC q g n c i A2 j) ∧ Chg (fun b => b = q) w0 w ∧ cnD L ∧
  (L 1 = true → L 8 = false → w.ownsRow w0.heap.size 94 20 (v 1) 0 []) ∧
  (L 8 = true → L 16 = false → w.ownsRow w0.heap.size 94 20 (v 8) i (rvsC (S.take i))) ∧
  (L 16 = true → w.ownsRow w0.heap.size 94 20 (v 16) (i + (n - (i + 1))) (rvsC (S.take i) ++ rvsC (S.drop (i + 1)))) ∧
  (L 19 = false → Bk w q 60 #[.slice (some ⟨g, 0, none⟩) n c]) ∧ (L 19 = true → Bk w q 60 #[v 16])
section
variable {q g n c i : Nat} {A2 : Option Addr} {S : List RVm} {w0 : World} {L : Nat → Bool} {v : Nat → Value} {w : World}
theorem cnR_plain (h : cnR q g n c i A2 S w0 L v w) : ∀ j, L j = true → cnPlain j = true → v j = cnC q g n c i A2 j := h.1
theorem cnD_old (h : cnD L) (hL : L 5 = false ∨ L 12 = false) : L 19 = false := by
  obtain ⟨h1, h2, h3, h4, h5⟩ := h
  cases e : L 19 with
  | false => rfl
  | true =>
    have a := h2 (h1 e)
    rcases hL with hL | hL
    · rw [h5 (h4 a.1)] at hL; cases hL
    · rw [h3 a.2] at hL; cases hL
theorem cnD_step {x : Nat} (h : cnD L) (h7 : x = 7 → L 5 = true) (h8 : x = 8 → L 7 = true) (h15 : x = 15 → L 12 = true) (h16 : x = 16 → L 8 = true ∧ L 15 = true) (h19 : x = 19 → L 16 = true) : cnD (upd L x true) := by
  obtain ⟨e1, e2, e3, e4, e5⟩ := h
  have up : ∀ j, L j = true → upd L x true j = true := fun j hj => by
    unfold upd; split
    · rfl
    · exact hj
  have dn : ∀ j, upd L x true j = true → x = j ∨ L j = true := fun j hj => by
    unfold upd at hj; split at hj
    · next h => exact .inl h.symm
    · exact .inr hj
  refine ⟨fun h => up _ ((dn _ h).elim h19 e1), fun h => ?_, fun h => up _ ((dn _ h).elim h15 e3), fun h => up _ ((dn _ h).elim h8 e4), fun h => up _ ((dn _ h).elim h7 e5)⟩
  have := (dn _ h).elim h16 e2
  exact ⟨up _ this.1, up _ this.2⟩
/-- One more of the plain ones. -/
theorem cnR_step (h : cnR q g n c i A2 S w0 L v w) {x : Nat} {u : Value} (hp : cnPlain x = true) (hu : u = cnC q g n c i A2 x) (h7 : x = 7 → L 5 = true) (h15 : x = 15 → L 12 = true) : cnR q g n c i A2 S w0 (upd L x true) (upd v x u) w := by
  obtain ⟨h1, h2, hd, h3, h4, h5, h6, h8⟩ := h
  have n1 : 1 ≠ x := by rintro rfl; cases hp
  have n8 : 8 ≠ x := by rintro rfl; cases hp
  have n16 : 16 ≠ x := by rintro rfl; cases hp
  have n19 : 19 ≠ x := by rintro rfl; cases hp
  refine ⟨fun y hy hpy => ?_, h2, cnD_step hd h7 (fun e => absurd e.symm n8) h15 (fun e => absurd e.symm n16) (fun e => absurd e.symm n19), ?_, ?_, ?_, ?_, ?_⟩
  · by_cases e : y = x
    · subst e; rw [upd_same]; exact hu
    · rw [upd_ne _ _ e]; rw [upd_ne _ _ e] at hy; exact h1 y hy hpy
  · rw [upd_ne _ _ n1, upd_ne _ _ n8, upd_ne _ _ n1]; exact h3
  · rw [upd_ne _ _ n8, upd_ne _ _ n16, upd_ne _ _ n8]; exact h4
  · rw [upd_ne _ _ n16, upd_ne _ _ n16]; exact h5
  · rw [upd_ne _ _ n19]; exact h6
  · rw [upd_ne _ _ n19, upd_ne _ _ n16]; exact h8
end

set_option maxHeartbeats 4000000 in
set_option maxRecDepth 100000 in
theorem drop_st (q g n c i : Nat) (S : List RVm) (w : World) (h : RsS w q (some ⟨g, 0, none⟩) n c S) (hn : n ≤ 1000) (hi : i < n) :
    Calls Try.prog 51 #[.pointer (some ⟨q, 0, none⟩), .int .i64 i] w fun e w' => e = .returned (.tuple #[]) ∧ ∃ A' n' c', RsS w' q A' n' c' (S.take i ++ S.drop (i + 1)) ∧ Chg (fun b => b = q) w w' ∧ ∀ b, blk A' = some b → w.heap.size ≤ b := by
  obtain ⟨hbq, hrs, hnb⟩ := h
  have hql := hbq.lt
  have hgq : g ≠ q := fun e => hnb (by rw [e]; rfl)
  obtain ⟨_, hgl, hcs⟩ := hrs.rw
  have hlen := hrs.len
  have hnc := hrs.cap
  have hch : ∀ w3, Chg (fun b => b = q) w w3 → ∀ j u, (rvsC S)[j]? = some u → w3.cell? ⟨g, j, none⟩ = some u := fun w3 hc j u hu => (hc.cell (p := ⟨g, j, none⟩) hgl hgq).trans (hcs j u hu)
  have hs8 : ∀ w3, Chg (fun b => b = q) w w3 → ∀ j u, (rvsC (S.take i))[j]? = some u → w3.cell? ((⟨g, 0, none⟩ : Addr).add j) = some u := fun w3 hc j u hu => by
    rw [add_eq, Nat.zero_add]
    refine hch w3 hc j u ?_
    rw [rvsC_take, List.getElem?_take] at hu
    split at hu
    · exact hu
    · cases hu
  obtain ⟨a2, ha2⟩ : ∃ a2, (if c = i + 1 then (⟨g, 0, none⟩ : Addr) else ⟨g, (i + 1) * 20, none⟩) = a2 := ⟨_, rfl⟩
  have hs16 : ∀ w3, Chg (fun b => b = q) w w3 → ∀ j u, (rvsC (S.drop (i + 1)))[j]? = some u → w3.cell? (a2.add j) = some u := fun w3 hc j u hu => by
    rw [rvsC_drop, List.getElem?_drop] at hu
    have hj := (List.getElem?_eq_some_iff.1 hu).1
    rw [rvsC_len] at hj
    rw [← ha2, if_neg (by omega), add_eq]
    exact hch w3 hc _ u hu
  obtain ⟨A2, hA2⟩ : ∃ A2, (if c = i + 1 then some (⟨g, 0, none⟩ : Addr) else some ⟨g, (i + 1) * 20, none⟩) = A2 := ⟨_, rfl⟩
  have ha2 : A2 = some a2 := by rw [← hA2, ← ha2]; split <;> rfl
  have HA2 := Lib.hid hA2
  have HB := Lib.hid hbq
  clear hA2 hbq hrs hcs
  go_enter Try.func51, Try.ntmps51
  refine wp_region_inv [some 4, some 5, some 6, some 7, some 8, some 9, some 10, some 11, some 12, some 13, some 14, some 15, some 16, some 17, some 18, some 19, some 20, some 21, some 22, none] (cnR q g n c i A2 S w) (by kernel_rfl) rfl (by kernel_rfl) (by kernel_rfl) (by kernel_rfl) (by kernel_rfl) ?_ ?_ ?_
  · exact ⟨(fun _ h => by cases h), (Chg.refl _ w).drewN 1, ⟨(fun h => by cases h), (fun h => by cases h), (fun h => by cases h), (fun h => by cases h), (fun h => by cases h)⟩, (fun h => by cases h), (fun h => by cases h), (fun h => by cases h), (fun _ => HB.out), (fun h => by cases h)⟩
  · refine ⟨?_, ?_, ?_, ?_, ?_, ?_, ?_, ?_, ?_, ?_, ?_, ?_, ?_, ?_, ?_, ?_, ?_, ?_, ?_, ?_, trivial⟩
    · intro L v w3 f hL hdep hF hR K hK
      have e0 : f.eval (.tmp 0) = .pointer (some ⟨q, 0, none⟩) := (hF.1 0 (by decide)).trans rfl
      unfold Oper.wp
      simp only [execOp, e0]
      exact hK _ _ (cnR_step hR rfl rfl (fun h => by cases h) (fun h => by cases h))
    · intro L v w3 f hL hdep hF hR K hK
      clear hdep
      obtain ⟨q1, q2, q3, q4, q5, q6, q7, q8⟩ := hR
      unfold Oper.wp
      go_simp
      refine hK _ _ ⟨fun y hy hpy => ?_, q2.alloc _, cnD_step q3 (fun h => by cases h) (fun h => by cases h) (fun h => by cases h) (fun h => by cases h) (fun h => by cases h), ?_, ?_, ?_, ?_, ?_⟩
      · have ny : y ≠ 1 := by rintro rfl; cases hpy
        rw [upd_ne _ _ ny]; rw [upd_ne _ _ ny] at hy; exact q1 y hy hpy
      · exact fun _ _ => by rw [upd_same]; exact ⟨rfl, .inr ⟨w3.heap.size, 0, #[], rfl, q2.size, heap_alloc_new w3 _, Nat.le_refl _, Nat.zero_le _, rfl, rfl⟩⟩
      · exact fun a b => World.ownsRow.alloc (q5 a b) _
      · exact fun a => World.ownsRow.alloc (q6 a) _
      · exact fun a => (q7 a).alloc _
      · exact fun a => (q8 a).alloc _
    · intro L v w3 f hL hdep hF hR K hK
      have e0 : f.eval (.tmp 0) = .pointer (some ⟨q, 0, none⟩) := (hF.1 0 (by decide)).trans rfl
      unfold Oper.wp
      simp only [execOp, e0]
      exact hK _ _ (cnR_step hR rfl rfl (fun h => by cases h) (fun h => by cases h))
    · intro L v w3 f hL hdep hF hR K hK
      simp [Region.binds] at hdep
      have e2 : f.eval (.tmp 6) = _ := ((hF.2 2 6 rfl hdep).trans (cnR_plain hR 2 hdep rfl)).trans (show cnC q g n c i A2 2 = .pointer (some ⟨q, 0, none⟩) from rfl)
      have g2 : f.tmps[6]?.getD undef = .pointer (some ⟨q, 0, none⟩) := by have := e2; simpa [Act.eval] using this
      clear e2
      unfold Oper.wp
      go_simp
      exact hK _ _ (cnR_step hR rfl rfl (fun h => by cases h) (fun h => by cases h))
    · intro L v w3 f hL hdep hF hR K hK
      simp [Region.binds] at hdep
      have e3 : f.eval (.tmp 7) = _ := ((hF.2 3 7 rfl hdep).trans (cnR_plain hR 3 hdep rfl)).trans (show cnC q g n c i A2 3 = .pointer (some ⟨q, 0, none⟩) from rfl)
      have g3 : f.tmps[7]?.getD undef = .pointer (some ⟨q, 0, none⟩) := by have := e3; simpa [Act.eval] using this
      clear e3
      unfold Oper.wp
      go_simp
      exact hK _ _ (cnR_step hR rfl rfl (fun h => by cases h) (fun h => by cases h))
    · intro L v w3 f hL hdep hF hR K hK
      simp [Region.binds] at hdep
      have hold := cnD_old hR.2.2.1 (.inl hL)
      have hcq : w3.cell? ⟨q, 0, none⟩ = some (.slice (some ⟨g, 0, none⟩) n c) := ((hR.2.2.2.2.2.2.1 hold).cell 0).trans rfl
      have e4 : f.eval (.tmp 8) = _ := ((hF.2 4 8 rfl hdep).trans (cnR_plain hR 4 hdep rfl)).trans (show cnC q g n c i A2 4 = .pointer (some ⟨q, 0, none⟩) from rfl)
      have g4 : f.tmps[8]?.getD undef = .pointer (some ⟨q, 0, none⟩) := by have := e4; simpa [Act.eval] using this
      clear e4
      unfold Oper.wp
      go_simp
      exact hK _ _ (cnR_step hR rfl rfl (fun h => by cases h) (fun h => by cases h))
    · intro L v w3 f hL hdep hF hR K hK
      have e0 : f.eval (.tmp 1) = .int .i64 (i : Int) := (hF.1 1 (by decide)).trans rfl
      unfold Oper.wp
      simp only [execOp, e0]
      exact hK _ _ (cnR_step hR rfl rfl (fun h => by cases h) (fun h => by cases h))
    · intro L v w3 f hL hdep hF hR K hK
      simp [Region.binds] at hdep
      obtain ⟨d5, d6⟩ := hdep
      have e5 : f.eval (.tmp 9) = _ := ((hF.2 5 9 rfl d5).trans (cnR_plain hR 5 d5 rfl)).trans (show cnC q g n c i A2 5 = .slice (some ⟨g, 0, none⟩) n c from rfl)
      have g5 : f.tmps[9]?.getD undef = .slice (some ⟨g, 0, none⟩) n c := by have := e5; simpa [Act.eval] using this
      clear e5
      have e6 : f.eval (.tmp 10) = _ := ((hF.2 6 10 rfl d6).trans (cnR_plain hR 6 d6 rfl)).trans (show cnC q g n c i A2 6 = .int .i64 (i : Int) from rfl)
      have g6 : f.tmps[10]?.getD undef = .int .i64 (i : Int) := by have := e6; simpa [Act.eval] using this
      clear e6
      have c7 : i ≤ c := by omega
      unfold Oper.wp
      go_simp
      exact hK _ _ (cnR_step hR rfl rfl (fun _ => d5) (fun h => by cases h))
    · intro L v w3 f hL hdep hF hR K hK
      simp [Region.binds] at hdep
      obtain ⟨d1, d7⟩ := hdep
      have e7 : f.eval (.tmp 11) = _ := ((hF.2 7 11 rfl d7).trans (cnR_plain hR 7 d7 rfl)).trans (show cnC q g n c i A2 7 = .slice (some ⟨g, 0, none⟩) i c from rfl)
      have e1 : f.eval (.tmp 5) = v 1 := hF.2 1 5 rfl d1
      obtain ⟨q1, q2, q3, q4, q5, q6, q7, q8⟩ := hR
      have hO := q4 d1 hL
      have hold : L 19 = false := by
        cases e : L 19 with
        | false => rfl
        | true => exact absurd ((q3.2.1 (q3.1 e)).1) (by rw [hL]; decide)
      obtain ⟨ti, i1, i2, i3, i4⟩ := info_rw
      obtain ⟨u, w4, hrun, hO4, hG, _⟩ := run_append_own (P := Try.prog) (w := w3) w.heap.size 58 58 94 ti _ 20 200 Try.underlying58 i1 i2 i3 i4 rfl (by omega) (v 1) (0) _ hO ⟨g, 0, none⟩ i c (rvsC (S.take i)) (by rw [rvsC_len, List.length_take]; omega) (hs8 _ q2) (rvsC_one _) (by unfold maxLen; omega) (by omega) q2.size
      have hne : some q ≠ (v 1).ownBlock := fun e => absurd (World.ownsRow.lt hO q e.symm).1 (by omega)
      unfold Oper.wp execOp
      simp only [resolve, invoke, builtin, Sem.run_bind, Sem.run_pure, Result.andThen_ok, List.map_toArray, List.map_cons, List.map_nil, e1, e7, hrun]
      refine hK _ _ ⟨fun y hy hpy => ?_, q2.trans (Chg.of_grown (F := fun b => (v 1).ownBlock = some b) hG (fun b e => e)) (fun x hx => .inr (World.ownsRow.lt hO x hx).1), cnD_step q3 (fun h => by cases h) (fun h => by first | exact d7 | cases h) (fun h => by cases h) (fun h => by first | exact ⟨d8, d15⟩ | cases h) (fun h => by cases h), ?_, ?_, ?_, ?_, ?_⟩
      · have ny : y ≠ 8 := by rintro rfl; cases hpy
        rw [upd_ne _ _ ny]; rw [upd_ne _ _ ny] at hy; exact q1 y hy hpy
      · exact fun _ h => by rw [upd_same] at h; cases h
      · exact fun _ _ => by
          rw [upd_same]
          rw [Nat.zero_add, List.nil_append] at hO4
          exact hO4
      · exact fun h => by have h9 : L 16 = true := h; have := (q3.2.1 h9).1; rw [hL] at this; cases this
      · exact fun _ => (q7 hold).grown hG hne
      · exact fun h => by have h9 : L 19 = true := h; rw [hold] at h9; cases h9
    · intro L v w3 f hL hdep hF hR K hK
      have e0 : f.eval (.tmp 0) = .pointer (some ⟨q, 0, none⟩) := (hF.1 0 (by decide)).trans rfl
      unfold Oper.wp
      simp only [execOp, e0]
      exact hK _ _ (cnR_step hR rfl rfl (fun h => by cases h) (fun h => by cases h))
    · intro L v w3 f hL hdep hF hR K hK
      simp [Region.binds] at hdep
      have e9 : f.eval (.tmp 13) = _ := ((hF.2 9 13 rfl hdep).trans (cnR_plain hR 9 hdep rfl)).trans (show cnC q g n c i A2 9 = .pointer (some ⟨q, 0, none⟩) from rfl)
      have g9 : f.tmps[13]?.getD undef = .pointer (some ⟨q, 0, none⟩) := by have := e9; simpa [Act.eval] using this
      clear e9
      unfold Oper.wp
      go_simp
      exact hK _ _ (cnR_step hR rfl rfl (fun h => by cases h) (fun h => by cases h))
    · intro L v w3 f hL hdep hF hR K hK
      simp [Region.binds] at hdep
      have e10 : f.eval (.tmp 14) = _ := ((hF.2 10 14 rfl hdep).trans (cnR_plain hR 10 hdep rfl)).trans (show cnC q g n c i A2 10 = .pointer (some ⟨q, 0, none⟩) from rfl)
      have g10 : f.tmps[14]?.getD undef = .pointer (some ⟨q, 0, none⟩) := by have := e10; simpa [Act.eval] using this
      clear e10
      unfold Oper.wp
      go_simp
      exact hK _ _ (cnR_step hR rfl rfl (fun h => by cases h) (fun h => by cases h))
    · intro L v w3 f hL hdep hF hR K hK
      simp [Region.binds] at hdep
      have hold := cnD_old hR.2.2.1 (.inr hL)
      have hcq : w3.cell? ⟨q, 0, none⟩ = some (.slice (some ⟨g, 0, none⟩) n c) := ((hR.2.2.2.2.2.2.1 hold).cell 0).trans rfl
      have e11 : f.eval (.tmp 15) = _ := ((hF.2 11 15 rfl hdep).trans (cnR_plain hR 11 hdep rfl)).trans (show cnC q g n c i A2 11 = .pointer (some ⟨q, 0, none⟩) from rfl)
      have g11 : f.tmps[15]?.getD undef = .pointer (some ⟨q, 0, none⟩) := by have := e11; simpa [Act.eval] using this
      clear e11
      unfold Oper.wp
      go_simp
      exact hK _ _ (cnR_step hR rfl rfl (fun h => by cases h) (fun h => by cases h))
    · intro L v w3 f hL hdep hF hR K hK
      have e0 : f.eval (.tmp 1) = .int .i64 (i : Int) := (hF.1 1 (by decide)).trans rfl
      unfold Oper.wp
      simp only [execOp, e0]
      exact hK _ _ (cnR_step hR rfl rfl (fun h => by cases h) (fun h => by cases h))
    · intro L v w3 f hL hdep hF hR K hK
      simp [Region.binds] at hdep
      have e13 : f.eval (.tmp 17) = _ := ((hF.2 13 17 rfl hdep).trans (cnR_plain hR 13 hdep rfl)).trans (show cnC q g n c i A2 13 = .int .i64 (i : Int) from rfl)
      have g13 : f.tmps[17]?.getD undef = .int .i64 (i : Int) := by have := e13; simpa [Act.eval] using this
      clear e13
      unfold Oper.wp
      go_simp
      exact hK _ _ (cnR_step hR rfl (by rw [IntWalk.i64_in _ (by omega)]; rfl) (fun h => by cases h) (fun h => by cases h))
    · intro L v w3 f hL hdep hF hR K hK
      simp [Region.binds] at hdep
      obtain ⟨d12, d14⟩ := hdep
      have e12 : f.eval (.tmp 16) = _ := ((hF.2 12 16 rfl d12).trans (cnR_plain hR 12 d12 rfl)).trans (show cnC q g n c i A2 12 = .slice (some ⟨g, 0, none⟩) n c from rfl)
      have g12 : f.tmps[16]?.getD undef = .slice (some ⟨g, 0, none⟩) n c := by have := e12; simpa [Act.eval] using this
      clear e12
      have e14 : f.eval (.tmp 18) = _ := ((hF.2 14 18 rfl d14).trans (cnR_plain hR 14 d14 rfl)).trans (show cnC q g n c i A2 14 = .int .i64 ((i : Int) + 1) from rfl)
      have g14 : f.tmps[18]?.getD undef = .int .i64 ((i : Int) + 1) := by have := e14; simpa [Act.eval] using this
      clear e14
      have c15a : (0 : Int) ≤ (i : Int) + 1 := by omega
      have c15b : (i : Int) + 1 ≤ n := by omega
      unfold Oper.wp
      go_simp
      rw [HA2.out]
      exact hK _ _ (cnR_step hR rfl rfl (fun h => by cases h) (fun _ => d12))
    · intro L v w3 f hL hdep hF hR K hK
      simp [Region.binds] at hdep
      obtain ⟨d8, d15, _⟩ := hdep
      have e15 : f.eval (.tmp 19) = _ := ((hF.2 15 19 rfl d15).trans (cnR_plain hR 15 d15 rfl)).trans (show cnC q g n c i A2 15 = .slice A2 (n - (i + 1)) (c - (i + 1)) from rfl)
      have e8 : f.eval (.tmp 12) = v 8 := hF.2 8 12 rfl d8
      obtain ⟨q1, q2, q3, q4, q5, q6, q7, q8⟩ := hR
      have hO := q5 d8 hL
      have hold : L 19 = false := by
        cases e : L 19 with
        | false => rfl
        | true => exact absurd (q3.1 e) (by rw [hL]; decide)
      obtain ⟨ti, i1, i2, i3, i4⟩ := info_rw
      obtain ⟨u, w4, hrun, hO4, hG, _⟩ := run_append_own (P := Try.prog) (w := w3) w.heap.size 58 58 94 ti _ 20 200 Try.underlying58 i1 i2 i3 i4 rfl (by omega) (v 8) (i) _ hO a2 (n - (i + 1)) (c - (i + 1)) (rvsC (S.drop (i + 1))) (by rw [rvsC_len, List.length_drop]; omega) (hs16 _ q2) (rvsC_one _) (by unfold maxLen; omega) (by omega) q2.size
      have hne : some q ≠ (v 8).ownBlock := fun e => absurd (World.ownsRow.lt hO q e.symm).1 (by omega)
      unfold Oper.wp execOp
      simp only [resolve, invoke, builtin, Sem.run_bind, Sem.run_pure, Result.andThen_ok, List.map_toArray, List.map_cons, List.map_nil, e8, e15, ha2, hrun]
      refine hK _ _ ⟨fun y hy hpy => ?_, q2.trans (Chg.of_grown (F := fun b => (v 8).ownBlock = some b) hG (fun b e => e)) (fun x hx => .inr (World.ownsRow.lt hO x hx).1), cnD_step q3 (fun h => by cases h) (fun h => by first | exact d7 | cases h) (fun h => by cases h) (fun h => by first | exact ⟨d8, d15⟩ | cases h) (fun h => by cases h), ?_, ?_, ?_, ?_, ?_⟩
      · have ny : y ≠ 16 := by rintro rfl; cases hpy
        rw [upd_ne _ _ ny]; rw [upd_ne _ _ ny] at hy; exact q1 y hy hpy
      · exact fun _ h => by have h9 : L 8 = false := h; rw [d8] at h9; cases h9
      · exact fun _ h => by rw [upd_same] at h; cases h
      · exact fun _ => by rw [upd_same]; exact hO4
      · exact fun _ => (q7 hold).grown hG hne
      · exact fun h => by have h9 : L 19 = true := h; rw [hold] at h9; cases h9
    · intro L v w3 f hL hdep hF hR K hK
      simp [Region.binds] at hdep
      have e0 : f.eval (.tmp 4) = _ := ((hF.2 0 4 rfl hdep.1).trans (cnR_plain hR 0 hdep.1 rfl)).trans (show cnC q g n c i A2 0 = .pointer (some ⟨q, 0, none⟩) from rfl)
      have g0 : f.tmps[4]?.getD undef = .pointer (some ⟨q, 0, none⟩) := by have := e0; simpa [Act.eval] using this
      clear e0
      unfold Oper.wp
      go_simp
      exact hK _ _ (cnR_step hR rfl rfl (fun h => by cases h) (fun h => by cases h))
    · intro L v w3 f hL hdep hF hR K hK
      simp [Region.binds] at hdep
      have e17 : f.eval (.tmp 21) = _ := ((hF.2 17 21 rfl hdep.1).trans (cnR_plain hR 17 hdep.1 rfl)).trans (show cnC q g n c i A2 17 = .pointer (some ⟨q, 0, none⟩) from rfl)
      have g17 : f.tmps[21]?.getD undef = .pointer (some ⟨q, 0, none⟩) := by have := e17; simpa [Act.eval] using this
      clear e17
      unfold Oper.wp
      go_simp
      exact hK _ _ (cnR_step hR rfl rfl (fun h => by cases h) (fun h => by cases h))
    · intro L v w3 f hL hdep hF hR K hK
      simp [Region.binds] at hdep
      obtain ⟨d18, d16, _⟩ := hdep
      have e18 : f.eval (.tmp 22) = _ := ((hF.2 18 22 rfl d18).trans (cnR_plain hR 18 d18 rfl)).trans (show cnC q g n c i A2 18 = .pointer (some ⟨q, 0, none⟩) from rfl)
      have g18 : f.tmps[22]?.getD undef = .pointer (some ⟨q, 0, none⟩) := by have := e18; simpa [Act.eval] using this
      clear e18
      obtain ⟨q1, q2, q3, q4, q5, q6, q7, q8⟩ := hR
      have e16 : f.eval (.tmp 20) = v 16 := hF.2 16 20 rfl d16
      have hO := q6 d16
      have hB := q7 hL
      have hne : (v 16).ownBlock = none ∨ (v 16).ownBlock ≠ some q := .inr fun e => absurd (World.ownsRow.lt hO q e).1 (by omega)
      have hcq : w3.cell? ⟨q, 0, none⟩ = some (.slice (some ⟨g, 0, none⟩) n c) := (hB.cell 0).trans rfl
      have hfq : w3.frozen? ⟨q, 0, none⟩ = false := hB.frozen 0
      have h16 : ∃ A c, v 16 = .slice A (i + (n - (i + 1))) c := by
        rcases hO.2 with ⟨h, h'⟩ | ⟨_, cap, _, h, _⟩
        · exact ⟨none, 0, by rw [h, h']⟩
        · exact ⟨_, cap, h⟩
      obtain ⟨A9, c9, h16⟩ := h16
      have g16 : f.tmps[20]?.getD undef = .slice A9 (i + (n - (i + 1))) c9 := by have := e16.trans h16; simpa [Act.eval] using this
      clear e16
      have hG : ∀ u, w3.grownBy (w3.setCell ⟨q, 0, none⟩ u) (some q) := fun u => grownBy_setCell (World.grownBy.refl w3 (some q)) (.inl rfl) u
      unfold Oper.wp
      go_simp
      refine hK undef _ ⟨fun y hy hpy => ?_, q2.setCell (.inl rfl) _, cnD_step q3 (fun h => by cases h) (fun h => by cases h) (fun h => by cases h) (fun h => by cases h) (fun _ => d16), ?_, ?_, ?_, ?_, ?_⟩
      · have ny : y ≠ 19 := by rintro rfl; cases hpy
        rw [upd_ne _ _ ny]; rw [upd_ne _ _ ny] at hy; exact q1 y hy hpy
      · exact fun _ h => by have h9 : L 8 = false := h; rw [(q3.2.1 d16).1] at h9; cases h9
      · exact fun _ h => by have h9 : L 16 = false := h; rw [d16] at h9; cases h9
      · exact fun _ => World.ownsRow.kept hO (hG _) hne
      · exact fun h => by rw [upd_same] at h; cases h
      · exact fun _ => by
          show Bk _ q 60 #[v 16]
          rw [h16]
          exact hB.set 0 _
  · intro v w3 L hall hR
    obtain ⟨q1, q2, q3, q4, q5, q6, q7, q8⟩ := hR
    have hO := q6 (hall 16 (by decide))
    have hB := q8 (hall 19 (by decide))
    have h16 : ∃ A c, v 16 = .slice A (i + (n - (i + 1))) c := by
      rcases hO.2 with ⟨h, h'⟩ | ⟨_, cap, _, h, _⟩
      · exact ⟨none, 0, by rw [h, h']⟩
      · exact ⟨_, cap, h⟩
    obtain ⟨A9, c9, e16⟩ := h16
    rw [e16] at hB hO
    rw [← rvsC_append] at hO
    have hO9 : Rs w3 w.heap.size A9 (i + (n - (i + 1))) c9 (S.take i ++ S.drop (i + 1)) := hO
    have HFI : Hid (∃ A' n' c', RsS w3 q A' n' c' (S.take i ++ S.drop (i + 1)) ∧ Chg (fun b => b = q) w w3 ∧ ∀ b, blk A' = some b → w.heap.size ≤ b) :=
      Lib.hid ⟨A9, _, c9, ⟨hB, hO9.mono (Nat.zero_le _), fun e => by have := (hO9.lt q e).1; omega⟩, q2, fun b hb => (hO9.lt b hb).1⟩
    clear hO9
    clear q1 q2 q3 q4 q5 q6 q7 q8 hO hB
    simp only [frL, if_true, Act.put, List.setIfInBounds_toArray, List.set_cons_zero, List.set_cons_succ]
    go_wp2
    refine bodyPost_end (results_none rfl _ _ _) rfl ?_
    obtain ⟨A', n', c', h1, h2, h3⟩ := HFI.out
    exact ⟨rfl, A', ⟨n', c', h1⟩, h2, h3⟩
end Go.Proofs.Ytcjkhonapafndaa
namespace Go.Proofs.Ytcjkhonapafndaa
open Go.RowKit
/-- Which whole is a piece's. -/
def SpotP (L : List RVm) (k : K4) (s : Int) : Prop := (s = -1 ∧ ∀ x ∈ L, x.k ≠ k) ∨ ∃ K1 x K2, L = K1 ++ x :: K2 ∧ x.k = k ∧ (∀ y ∈ K1, y.k ≠ k) ∧ s = (K1.length : Int)
theorem SpotP.hit {L : List RVm} {k : K4} {i : Nat} {x : RVm} (hx : L[i]? = some x) (hk : x.k = k) (hb : ∀ j y, j < i → L[j]? = some y → y.k ≠ k) : SpotP L k i := by
  obtain ⟨hl, e⟩ := List.getElem?_eq_some_iff.1 hx
  refine .inr ⟨L.take i, x, L.drop (i + 1), ?_, hk, fun y hy => ?_, by rw [List.length_take]; omega⟩
  · rw [← e, List.getElem_cons_drop, List.take_append_drop]
  · obtain ⟨j, hj⟩ := List.mem_iff_getElem?.1 hy
    rw [List.getElem?_take] at hj
    split at hj
    · next h => exact hb j y h hj
    · cases hj
theorem SpotP.miss {L : List RVm} {k : K4} {n : Nat} (hn : L.length = n) (hb : ∀ j y, j < n → L[j]? = some y → y.k ≠ k) : SpotP L k (-1) :=
  .inl ⟨rfl, fun y hy => by
    obtain ⟨j, hj⟩ := List.mem_iff_getElem?.1 hy
    exact hb j y (by have := (List.getElem?_eq_some_iff.1 hj).1; omega) hj⟩
theorem RsS.below {w w' : World} {q : Nat} {A : Option Addr} {n c : Nat} {L : List RVm} (h : RsS w q A n c L) (hb : Below w.heap.size w w') : RsS w' q A n c L :=
  ⟨h.1.below hb h.1.lt, h.2.1.chg (Chg.of_below (F := fun _ => False) hb) (fun _ _ e => e), h.2.2⟩
set_option maxHeartbeats 4000000 in
set_option maxRecDepth 100000 in
theorem spot_any (q : Nat) (A : Option Addr) (n c : Nat) (L : List RVm) (p : PkV) (oV dV : Value) (w : World) (h : RsS w q A n c L) (hn : n ≤ 1000) :
    Calls Try.prog 50 #[.pointer (some ⟨q, 0, none⟩), .agg (pkC p oV dV)] w fun e w' => (∃ s, e = .returned (.int .i64 s) ∧ SpotP L (pkK p) s) ∧ Below w.heap.size w w' := by
  obtain ⟨gx, hgx⟩ : ∃ gx, w.heap.size = gx := ⟨_, rfl⟩
  obtain ⟨W, hW⟩ : ∃ W, w.alloc (.cells (pkC p oV dV) 26) = W := ⟨_, rfl⟩
  have hm : Bk W gx 26 (pkC p oV dV) := by rw [← hW, ← hgx]; exact Bk.new w _ _
  have hBW : Below gx w W := by rw [← hW, ← hgx]; exact (Below.refl _ _).alloc (Nat.le_refl _) _
  have hS : RsS W q A n c L := h.below (by rw [hgx]; exact hBW)
  have hlen := h.2.1.len
  have HW : Hid (w.alloc (.cells #[.int .i64 p.svc, .int .i64 p.id, .bool p.whole, .bool p.more, .int .i64 p.off, .int .i64 p.life, .int .i64 p.proto, .int .u32 p.src, .int .u32 p.dst, oV, dV] 26) = W) := Lib.hid hW
  have HGX := Lib.hid hgx
  have HM := Lib.hid hm
  have HBW := Lib.hid hBW
  have HS := Lib.hid hS
  have HLEN := Lib.hid hlen
  have hn0 : (0 : Int) ≤ (n : Int) := by omega
  unfold pkC
  clear hW hgx hm hBW hS hlen h
  go_enter Try.func50, Try.ntmps50
  go_wp2_with fail
  rw [HW.out, HGX.out]
  go_loopw [5] (fun v5 wr => ∃ k : Nat, k ≤ n ∧ v5 = .int .i64 k ∧ Hid ((∀ j y, j < k → L[j]? = some y → y.k ≠ pkK p) ∧ Below W.heap.size W wr)) (fun v5 _ => n - (intOf v5).toNat)
  case atStart => exact ⟨0, Nat.zero_le _, rfl, Lib.hid ⟨fun j y hj => by omega, Below.refl _ _⟩⟩
  case round =>
    obtain ⟨k, hk, rfl, HR⟩ := hrel
    have hSr := HS.out.below HR.out.2
    have c0 : wr.cell? ⟨q, 0, none⟩ = some (.slice A n c) := hSr.1.cell 0
    rcases Nat.lt_or_ge k n with r | r
    · have t1 : decide ((k : Int) < (n : Int)) = true := decide_eq_true (by omega)
      obtain ⟨x, hx⟩ : ∃ x, L[k]? = some x := ⟨_, List.getElem?_eq_getElem (by have := HLEN.out; omega)⟩
      obtain ⟨g, rfl, _, hg, hcl⟩ := hSr.2.1.cell hx
      have hrg := hSr.2.1.range hx
      have HRG := Lib.hid hrg
      have hbx := Bk.new wr 94 (rvC x).toArray
      have hpx := ((HM.out.below HR.out.2 HM.out.lt).alloc (.cells (rvC x).toArray 94))
      have m0 : (wr.alloc (.cells (rvC x).toArray 94)).cell? ⟨wr.heap.size, 0, none⟩ = some (.int .u32 x.k.1) := hbx.cell 0
      have m1 : (wr.alloc (.cells (rvC x).toArray 94)).cell? ⟨wr.heap.size, 1, none⟩ = some (.int .u32 x.k.2.1) := hbx.cell 1
      have m2 : (wr.alloc (.cells (rvC x).toArray 94)).cell? ⟨wr.heap.size, 2, none⟩ = some (.int .i64 x.k.2.2.1) := hbx.cell 2
      have m3 : (wr.alloc (.cells (rvC x).toArray 94)).cell? ⟨wr.heap.size, 3, none⟩ = some (.int .i64 x.k.2.2.2) := hbx.cell 3
      have y7 : (wr.alloc (.cells (rvC x).toArray 94)).cell? ⟨gx, 7, none⟩ = some (.int .u32 p.src) := hpx.cell 7
      have y8 : (wr.alloc (.cells (rvC x).toArray 94)).cell? ⟨gx, 8, none⟩ = some (.int .u32 p.dst) := hpx.cell 8
      have y6 : (wr.alloc (.cells (rvC x).toArray 94)).cell? ⟨gx, 6, none⟩ = some (.int .i64 p.proto) := hpx.cell 6
      have y1 : (wr.alloc (.cells (rvC x).toArray 94)).cell? ⟨gx, 1, none⟩ = some (.int .i64 p.id) := hpx.cell 1
      have HX := Lib.hid hx
      have HB2 : Hid (Below W.heap.size W (wr.alloc (.cells (rvC x).toArray 94))) := Lib.hid (HR.out.2.alloc HR.out.2.size _)
      have HZ : Hid (gx ≤ wr.heap.size) := Lib.hid (by have := HM.out.lt; have := HR.out.2.size; omega)
      have hways : (¬ x.k.1 = p.src) ∨ (x.k.1 = p.src ∧ ¬ x.k.2.1 = p.dst) ∨ (x.k.1 = p.src ∧ x.k.2.1 = p.dst ∧ ¬ x.k.2.2.1 = p.proto) ∨ (x.k.1 = p.src ∧ x.k.2.1 = p.dst ∧ x.k.2.2.1 = p.proto ∧ ¬ x.k.2.2.2 = p.id) ∨ (x.k.1 = p.src ∧ x.k.2.1 = p.dst ∧ x.k.2.2.1 = p.proto ∧ x.k.2.2.2 = p.id) := by
        clear hcl hbx hpx
        omega
      have HWS := Lib.hid hways
      clear hcl hbx hpx hx hSr hways hrg
      go_upto_region 5 with (first | (refine ld_rw rfl (.tmp 21) rfl rfl x HRG.out ?_) | (refine st_rw_new rfl (.tmp 6) (.tmp 22) rfl rfl rfl rfl x rfl ?_))
      rcases HWS.out with hw | hw | hw | hw | hw
      · have q0 : (x.k.1 == p.src) = false := beq_eq_false_iff_ne.2 (by omega)
        have HWY := Lib.hid hw
        clear hw
        go_wp2_with fail
        go_roundw
        case rel =>
          refine ⟨k + 1, by omega, by go_num, Lib.hid ⟨fun j y hj hy => ?_, HB2.out⟩⟩
          rcases Nat.lt_or_ge j k with h5 | h5
          · exact HR.out.1 j y h5 hy
          · obtain rfl : j = k := by omega
            rw [HX.out] at hy
            injection hy with hy
            subst hy
            intro e
            have h6 := HWY.out
            unfold pkK at e
            rw [e] at h6
            simp at h6
        case measure => simp [intOf]; omega
      · have q0 : (x.k.1 == p.src) = true := beq_iff_eq.2 (by omega)
        have q1 : (x.k.2.1 == p.dst) = false := beq_eq_false_iff_ne.2 (by omega)
        have HWY := Lib.hid hw
        clear hw
        go_wp2_with fail
        go_roundw
        case rel =>
          refine ⟨k + 1, by omega, by go_num, Lib.hid ⟨fun j y hj hy => ?_, HB2.out⟩⟩
          rcases Nat.lt_or_ge j k with h5 | h5
          · exact HR.out.1 j y h5 hy
          · obtain rfl : j = k := by omega
            rw [HX.out] at hy
            injection hy with hy
            subst hy
            intro e
            have h6 := HWY.out
            unfold pkK at e
            rw [e] at h6
            simp at h6
        case measure => simp [intOf]; omega
      · have q0 : (x.k.1 == p.src) = true := beq_iff_eq.2 (by omega)
        have q1 : (x.k.2.1 == p.dst) = true := beq_iff_eq.2 (by omega)
        have q2 : (x.k.2.2.1 == p.proto) = false := beq_eq_false_iff_ne.2 (by omega)
        have HWY := Lib.hid hw
        clear hw
        go_wp2_with fail
        go_roundw
        case rel =>
          refine ⟨k + 1, by omega, by go_num, Lib.hid ⟨fun j y hj hy => ?_, HB2.out⟩⟩
          rcases Nat.lt_or_ge j k with h5 | h5
          · exact HR.out.1 j y h5 hy
          · obtain rfl : j = k := by omega
            rw [HX.out] at hy
            injection hy with hy
            subst hy
            intro e
            have h6 := HWY.out
            unfold pkK at e
            rw [e] at h6
            simp at h6
        case measure => simp [intOf]; omega
      · have q0 : (x.k.1 == p.src) = true := beq_iff_eq.2 (by omega)
        have q1 : (x.k.2.1 == p.dst) = true := beq_iff_eq.2 (by omega)
        have q2 : (x.k.2.2.1 == p.proto) = true := beq_iff_eq.2 (by omega)
        have q3 : (x.k.2.2.2 == p.id) = false := beq_eq_false_iff_ne.2 (by omega)
        have HWY := Lib.hid hw
        clear hw
        go_wp2_with fail
        go_roundw
        case rel =>
          refine ⟨k + 1, by omega, by go_num, Lib.hid ⟨fun j y hj hy => ?_, HB2.out⟩⟩
          rcases Nat.lt_or_ge j k with h5 | h5
          · exact HR.out.1 j y h5 hy
          · obtain rfl : j = k := by omega
            rw [HX.out] at hy
            injection hy with hy
            subst hy
            intro e
            have h6 := HWY.out
            unfold pkK at e
            rw [e] at h6
            simp at h6
        case measure => simp [intOf]; omega
      · have q0 : (x.k.1 == p.src) = true := beq_iff_eq.2 (by omega)
        have q1 : (x.k.2.1 == p.dst) = true := beq_iff_eq.2 (by omega)
        have q2 : (x.k.2.2.1 == p.proto) = true := beq_iff_eq.2 (by omega)
        have q3 : (x.k.2.2.2 == p.id) = true := beq_iff_eq.2 (by omega)
        have HWY := Lib.hid hw
        clear hw
        go_wp2_with fail
        go_ret
        refine ⟨⟨_, rfl, SpotP.hit HX.out ?_ HR.out.1⟩, by rw [HGX.out]; exact HBW.out.trans (HB2.out.mono (Nat.le_of_lt HM.out.lt))⟩
        have h6 := HWY.out
        unfold pkK
        exact Prod.ext h6.1 (Prod.ext h6.2.1 (Prod.ext h6.2.2.1 h6.2.2.2))
    · obtain rfl : k = n := by omega
      have t1 : decide ((k : Int) < (k : Int)) = false := decide_eq_false (by omega)
      go_wp2_with fail
      go_ret
      exact ⟨⟨_, rfl, SpotP.miss HLEN.out HR.out.1⟩, by rw [HGX.out]; exact HBW.out.trans (HR.out.2.mono (Nat.le_of_lt HM.out.lt))⟩
/-- Which is the oldest of the first i. -/
def OldP (L : List RVm) (i m : Nat) : Prop := ∃ K1 x K2, L.take i = K1 ++ x :: K2 ∧ K1.length = m ∧ (∀ y ∈ K1, x.bg < y.bg) ∧ ∀ y ∈ K2, x.bg ≤ y.bg
theorem OldP.one {L : List RVm} (h : 0 < L.length) : OldP L 1 0 := by
  rcases L with _ | ⟨x, t⟩
  · cases h
  · exact ⟨[], x, [], rfl, rfl, (fun _ h => by cases h), (fun _ h => by cases h)⟩
theorem OldP.at_ {L : List RVm} {i m : Nat} (h : OldP L i m) : ∃ x, L[m]? = some x ∧ m < i := by
  obtain ⟨K1, x, K2, e, h1, _⟩ := h
  have h2 : (L.take i)[m]? = some x := by rw [e, List.getElem?_append_right (by omega), h1, Nat.sub_self]; rfl
  rw [List.getElem?_take] at h2
  split at h2
  · next h3 => exact ⟨x, h2, h3⟩
  · cases h2
theorem OldP.step {L : List RVm} {i m : Nat} {x y : RVm} (h : OldP L i m) (hx : L[m]? = some x) (hy : L[i]? = some y) : OldP L (i + 1) (if y.bg < x.bg then i else m) := by
  obtain ⟨K1, x', K2, e, h1, h2, h3⟩ := h
  have hx' : x' = x := by
    have h4 : (L.take i)[m]? = some x' := by rw [e, List.getElem?_append_right (by omega), h1, Nat.sub_self]; rfl
    rw [List.getElem?_take] at h4
    split at h4
    · rw [hx] at h4; injection h4 with h4; exact h4.symm
    · cases h4
  subst hx'
  have hl : (L.take i).length = i := by rw [List.length_take]; have := (List.getElem?_eq_some_iff.1 hy).1; omega
  split
  · next hb =>
    refine ⟨L.take i, y, [], by rw [List.take_add_one, hy]; rfl, hl, fun z hz => ?_, (fun _ h => by cases h)⟩
    rw [e] at hz
    rcases List.mem_append.1 hz with q | q
    · have := h2 z q; omega
    · rcases List.mem_cons.1 q with rfl | q
      · exact hb
      · have := h3 z q; omega
  · next hb =>
    refine ⟨K1, x', K2 ++ [y], by rw [List.take_add_one, hy, e]; simp, h1, h2, fun z hz => ?_⟩
    rcases List.mem_append.1 hz with q | q
    · exact h3 z q
    · simp at q; subst q; omega
set_option maxHeartbeats 4000000 in
set_option maxRecDepth 100000 in
theorem oldest_any (q : Nat) (A : Option Addr) (n c : Nat) (L : List RVm) (w : World) (h : RsS w q A n c L) (hn : n ≤ 1000) (h0 : 0 < n) :
    Calls Try.prog 52 #[.pointer (some ⟨q, 0, none⟩)] w fun e w' => (∃ m, e = .returned (.int .i64 (m : Nat)) ∧ OldP L n m) ∧ ∃ k, w' = w.drewN k := by
  have hlen := h.2.1.len
  have HS := Lib.hid h
  have HLEN := Lib.hid hlen
  have hn0 : (0 : Int) ≤ (n : Int) := by omega
  clear h hlen
  go_enter Try.func52, Try.ntmps52
  go_wp2_with fail
  go_loopw [3, 4] (fun v3 v4 wr => ∃ (m i : Nat), 1 ≤ i ∧ i ≤ n ∧ v3 = .int .i64 m ∧ v4 = .int .i64 i ∧ Hid (OldP L i m ∧ ∃ k, wr = w.drewN k)) (fun _ v4 _ => n - (intOf v4).toNat)
  case atStart => exact ⟨0, 1, by omega, by omega, rfl, rfl, Lib.hid ⟨OldP.one (by have := HLEN.out; omega), 0, rfl⟩⟩
  case round =>
    obtain ⟨m, i, hi1, hi2, rfl, rfl, HR⟩ := hrel
    obtain ⟨kk, hkk⟩ := HR.out.2
    have hbr : Below w.heap.size w wr := by rw [hkk]; exact bel_drewN (Below.refl _ _) kk
    have hSr := HS.out.below hbr
    have c0 : wr.cell? ⟨q, 0, none⟩ = some (.slice A n c) := hSr.1.cell 0
    have HK := Lib.hid hkk
    clear hkk hbr
    rcases Nat.lt_or_ge i n with r | r
    · have t1 : decide ((i : Int) < (n : Int)) = true := decide_eq_true (by omega)
      obtain ⟨y, hy⟩ : ∃ y, L[i]? = some y := ⟨_, List.getElem?_eq_getElem (by have := HLEN.out; omega)⟩
      obtain ⟨x, hx, hmi⟩ := HR.out.1.at_
      obtain ⟨g, rfl, _, hg, hcl⟩ := hSr.2.1.cell hy
      obtain ⟨g', hge, _, _, hcl'⟩ := hSr.2.1.cell hx
      injection hge with hge
      injection hge with hge
      subst hge
      have e1 : wr.cell? ⟨g, i * 20 + 4, none⟩ = some (.int .i64 y.bg) := (hcl 4 _ rfl).1
      have e2 : wr.cell? ⟨g, m * 20 + 4, none⟩ = some (.int .i64 x.bg) := (hcl' 4 _ rfl).1
      have HN := Lib.hid (HR.out.1.step hx hy)
      have hm1 : (0 : Int) ≤ (m : Int) ∧ (m : Int) < (n : Int) := by omega
      have hm2 : (0 : Int) ≤ (i : Int) ∧ (i : Int) < (n : Int) := by omega
      obtain ⟨ybg, hyb⟩ : ∃ b, y.bg = b := ⟨_, rfl⟩
      obtain ⟨xbg, hxb⟩ : ∃ b, x.bg = b := ⟨_, rfl⟩
      rw [hyb] at e1
      rw [hxb] at e2
      rw [hyb, hxb] at HN
      clear hcl hcl' hx hy hSr hyb hxb
      rcases (by omega : ybg < xbg ∨ ¬ ybg < xbg) with d | d
      · have t2 : decide (ybg < xbg) = true := decide_eq_true d
        rw [if_pos d] at HN
        clear d
        go_wp2_with fail
        go_quiet (fail)
        go_wp2_with fail
        go_roundw
        case rel => exact ⟨i, i + 1, by omega, by omega, rfl, by go_num, Lib.hid ⟨HN.out, kk + nq, by rw [HK.out, World.drewN_drewN]⟩⟩
        case measure => simp [intOf]; omega
      · have t2 : decide (ybg < xbg) = false := decide_eq_false d
        rw [if_neg d] at HN
        clear d
        go_wp2_with fail
        go_quiet (fail)
        go_wp2_with fail
        go_roundw
        case rel => exact ⟨m, i + 1, by omega, by omega, rfl, by go_num, Lib.hid ⟨HN.out, kk + nq, by rw [HK.out, World.drewN_drewN]⟩⟩
        case measure => simp [intOf]; omega
    · obtain rfl : i = n := by omega
      have t1 : decide ((i : Int) < (i : Int)) = false := decide_eq_false (by omega)
      go_wp2_with fail
      go_ret
      exact ⟨⟨m, rfl, HR.out.1⟩, HR.out.2⟩
end Go.Proofs.Ytcjkhonapafndaa
namespace Go.Proofs.Ytcjkhonapafndaa
open Go.RowKit
theorem ow_apart {E E' : TypeId} {w : World} {b b' n n' c c' : Nat} {A A' : Option Addr} {xs xs' : List Value} (h : Ow E w b A n c xs) (h' : Ow E' w b' A' n' c' xs') (hE : E ≠ E') : blk A = none ∨ blk A ≠ blk A' := by
  rcases h.cases_ with ⟨rfl, _⟩ | ⟨g, cur, rfl, _, h1, _⟩
  · exact .inl rfl
  · rcases h'.cases_ with ⟨rfl, _⟩ | ⟨g', cur', rfl, _, h2, _⟩
    · right; simp [blk]
    · right
      intro e
      have e2 : g = g' := by simpa [blk] using e
      subst e2
      rw [h1] at h2
      injection h2 with h2; injection h2 with _ h2
      exact hE h2
section
variable {ops : Array Oper} {rest : List Oper} {o : Oper} {a : Act} {w : World} {Q : Exit → Act → World → Prop}
theorem ap_bool2 (hgd : o.guard = none) (s x : Operand)
    (ho : o.op = .call { callee := .builtin .append, args := #[s, x], argTypes := #[51, 51] })
    (base : Nat) {A : Option Addr} {n c : Nat} {B : List Bool} (hs : a.eval s = .slice A n c) (hown : Ow 4 w base A n c (bls B))
    (hx : a.eval x = .slice (some ⟨w.heap.size, 0, none⟩) 1 1) (hn : n ≤ 100000) (hb : base ≤ w.heap.size)
    (h : ∀ A' c' w', Ow 4 w' base A' (n + 1) c' (bls (B ++ [false])) → Below base w w' → w.grownBy w' (blk A) → wpList Try.prog ops Q rest (a.put o.dst (.slice A' (n + 1) c')) w') :
    wpList Try.prog ops Q (o :: rest) a (w.alloc (.cells #[.bool false] 4)) := by
  have hz : (w.alloc (.cells #[.bool false] 4)).heap.size = w.heap.size + 1 := World.size_alloc _ _
  have hrow := Ow.rw (ow_lit w 4 w.heap.size [.bool false] (Nat.le_refl _) (by decide))
  refine wpList_append_rw (P := Try.prog) (w := w.alloc (.cells #[.bool false] 4)) hgd s x 51 ho base 4 (.bool false) 1 Try.underlying51 info_bool rfl hs (Ow.alloc hown _) hx hrow rfl (fun u hu => by
    simp at hu; subst hu; rfl) (by unfold maxLen; omega) (by omega) (by omega) fun A' c' w' h1 h2 h3 => ?_
  have e : bls B ++ [.bool false] = bls (B ++ [false]) := by simp [bls]
  rw [e] at h1
  refine h A' c' w' h1 (((Below.refl _ w).alloc hb _).trans ((Below.refl base _).grown h2 (by omega) (fun k hk => ?_))) ((World.grownBy_alloc w _ _).trans h2)
  exact (Ow.lt hown k hk).1
theorem ap_bools_new (hgd : o.guard = none) (s x : Operand)
    (ho : o.op = .call { callee := .builtin .append, args := #[s, x], argTypes := #[51, 51] })
    (hs : a.eval s = .slice (some ⟨w.heap.size, 0, none⟩) 0 0)
    {B : Nat} {A2 : Option Addr} {m c2 : Nat} {l2 : List Bool} (hx : a.eval x = .slice A2 m c2) (hr : Rw w B A2 (bls l2)) (hB : B ≤ w.heap.size) (hm : l2.length = m) (hsz : m ≤ 100000)
    (h : ∀ A' c' w', Ow 4 w' w.heap.size A' m c' (bls l2) → Below w.heap.size w w' → w.heap.size < w'.heap.size → wpList Try.prog ops Q rest (a.put o.dst (.slice A' m c')) w') :
    wpList Try.prog ops Q (o :: rest) a (w.alloc (.cells #[] 4)) := by
  have hz : (w.alloc (.cells #[] 4)).heap.size = w.heap.size + 1 := World.size_alloc _ _
  refine wpList_append_rw (P := Try.prog) (w := w.alloc (.cells #[] 4)) hgd s x 51 ho w.heap.size 4 (.bool false) 1 Try.underlying51 info_bool rfl hs (ow_lit w 4 w.heap.size [] (Nat.le_refl _) (by decide)) hx (Rw.alloc hr hB _) (by rw [bls_len]; exact hm) (fun u hu => by
    unfold bls at hu
    obtain ⟨y, _, rfl⟩ := List.mem_map.1 hu
    rfl) (by unfold maxLen; omega) (by omega) (by omega) fun A' c' w' h1 h2 h3 => ?_
  rw [Nat.zero_add] at h1 ⊢
  rw [List.nil_append] at h1
  refine h A' c' w' h1 (((Below.refl _ w).alloc (Nat.le_refl _) _).trans ((Below.refl w.heap.size _).grown h2 (by omega) (fun k hk => ?_))) (by have := h2.size; omega)
  have := (by simpa [blk] using hk : w.heap.size = k)
  omega
end
/-! ### laying (plain) -/
structure LvI (a : Nat) (pl : List Int) (D0 : List Int) (H0 : List Bool) (k : Nat) (D : List Int) (H : List Bool) : Prop where
  dn : D.length = D0.length
  hl : H.length = H0.length
  has : ∀ c : Nat, H[c]? = some true ↔ H0[c]? = some true ∨ (a ≤ c ∧ c < k)
  old : ∀ c : Nat, H0[c]? = some true → D[c]? = D0[c]?
  out : ∀ c : Nat, ¬ (a ≤ c ∧ c < k) → D[c]? = D0[c]?
  new : ∀ c : Nat, H0[c]? ≠ some true → a ≤ c → c < k → D[c]? = pl[c - a]?
theorem LvI.start (a : Nat) (dl D0 : List Int) (H0 : List Bool) : LvI a dl D0 H0 a D0 H0 :=
  ⟨rfl, rfl, fun c => ⟨.inl, fun h => h.elim id (fun h => by omega)⟩, fun _ _ => rfl, fun _ _ => rfl, fun c _ h1 h2 => by omega⟩
theorem LvI.skip {a k : Nat} {dl D0 D : List Int} {H0 H : List Bool} (h : LvI a dl D0 H0 k D H) (hk : a ≤ k) (hb : H[k]? = some true) : LvI a dl D0 H0 (k + 1) D H := by
  have h0 : H0[k]? = some true := by
    rcases (h.has k).1 hb with q | q
    · exact q
    · omega
  refine ⟨h.dn, h.hl, fun c => ?_, h.old, fun c hc => ?_, fun c h1 h2 h3 => ?_⟩
  · rw [h.has]
    constructor
    · rintro (q | q)
      · exact .inl q
      · exact .inr ⟨q.1, by omega⟩
    · rintro (q | q)
      · exact .inl q
      · rcases Nat.lt_or_ge c k with r | r
        · exact .inr ⟨q.1, r⟩
        · have : c = k := by omega
          subst this; exact .inl h0
  · exact h.out c (fun q => hc ⟨q.1, by omega⟩)
  · rcases Nat.lt_or_ge c k with r | r
    · exact h.new c h1 h2 r
    · have : c = k := by omega
      subst this; exact absurd h0 h1
theorem LvI.put {a k : Nat} {dl D0 D : List Int} {H0 H : List Bool} {v : Int} (h : LvI a dl D0 H0 k D H) (hk : a ≤ k) (hb : H[k]? = some false) (hD : D.length = H.length) (hv : dl[k - a]? = some v) : LvI a dl D0 H0 (k + 1) (D.set k v) (H.set k true) := by
  have hkl : k < H.length := (List.getElem?_eq_some_iff.1 hb).1
  have h0 : H0[k]? ≠ some true := fun e => by rw [(h.has k).2 (.inl e)] at hb; cases hb
  refine ⟨by rw [List.length_set, h.dn], by rw [List.length_set, h.hl], fun c => ?_, fun c hc => ?_, fun c hc => ?_, fun c h1 h2 h3 => ?_⟩
  · by_cases e : k = c
    · subst e
      rw [List.getElem?_set_self hkl]
      simp; right; omega
    · rw [List.getElem?_set_ne e, h.has]
      constructor
      · rintro (q | q)
        · exact .inl q
        · exact .inr ⟨q.1, by omega⟩
      · rintro (q | q)
        · exact .inl q
        · exact .inr ⟨q.1, by omega⟩
  · have e : k ≠ c := fun e => h0 (e ▸ hc)
    rw [List.getElem?_set_ne e]; exact h.old c hc
  · have e : k ≠ c := fun e => hc (by omega)
    rw [List.getElem?_set_ne e]; exact h.out c (fun q => hc ⟨q.1, by omega⟩)
  · by_cases e : k = c
    · subst e
      rw [List.getElem?_set_self (by omega), hv]
    · rw [List.getElem?_set_ne e]; exact h.new c h1 h2 (by omega)
/-- The end and the first piece are told. -/
def finM (x : RVm) (p : PkV) (dn : Nat) : RVm := if p.more then x else { x with fin := p.off + dn }
def fstM (x : RVm) (p : PkV) (oA : Option Addr) (on oc : Nat) (ol : List Int) (dA : Option Addr) (dn dc : Nat) (dl : List Int) : RVm :=
  if p.off = 0 ∧ x.hf = false then { x with hf := true, f := p, oA := oA, on := on, oc := oc, ol := ol, fA := dA, fn := dn, fc := dc, fl := dl } else x
theorem finM_f (x : RVm) (p : PkV) (dn : Nat) : (finM x p dn).dA = x.dA ∧ (finM x p dn).dn = x.dn ∧ (finM x p dn).dc = x.dc ∧ (finM x p dn).hA = x.hA ∧ (finM x p dn).hn = x.hn ∧ (finM x p dn).hc = x.hc ∧ (finM x p dn).hf = x.hf ∧ (finM x p dn).k = x.k ∧ (finM x p dn).bg = x.bg := by
  unfold finM; split <;> exact ⟨rfl, rfl, rfl, rfl, rfl, rfl, rfl, rfl, rfl⟩
theorem fstM_f (x : RVm) (p : PkV) (oA : Option Addr) (on oc : Nat) (ol : List Int) (dA : Option Addr) (dn dc : Nat) (dl : List Int) : (fstM x p oA on oc ol dA dn dc dl).dA = x.dA ∧ (fstM x p oA on oc ol dA dn dc dl).dn = x.dn ∧ (fstM x p oA on oc ol dA dn dc dl).dc = x.dc ∧ (fstM x p oA on oc ol dA dn dc dl).hA = x.hA ∧ (fstM x p oA on oc ol dA dn dc dl).hn = x.hn ∧ (fstM x p oA on oc ol dA dn dc dl).hc = x.hc := by
  unfold fstM; split <;> exact ⟨rfl, rfl, rfl, rfl, rfl, rfl⟩
def layM (x : RVm) (p : PkV) (oA : Option Addr) (on oc : Nat) (ol : List Int) (dA : Option Addr) (dn dc : Nat) (dl : List Int) (A7 A8 : Option Addr) (N c7 c8 : Nat) (D : List Int) (H : List Bool) : RVm :=
  { fstM (finM x p dn) p oA on oc ol dA dn dc dl with dA := A7, dn := N, dc := c7, data := D, hA := A8, hn := N, hc := c8, has := H }
theorem layM_rv {x : RVm} {p : PkV} {oA dA A7 A8 : Option Addr} {on oc dn dc N c7 c8 : Nat} {ol dl D : List Int} {H : List Bool} (hdl : x.data.length = x.has.length) (hdn : dl.length = dn) (hN : N = max x.has.length (p.off.toNat + dn))
    (hI : LvI p.off.toNat dl (x.data ++ List.replicate (N - x.has.length) 0) (x.has ++ List.replicate (N - x.has.length) false) (p.off.toNat + dn) D H) : LayV x.rv p ol dl (layM x p oA on oc ol dA dn dc dl A7 A8 N c7 c8 D H).rv := by
  subst hdn
  have hh0 : ∀ c : Nat, (x.has ++ List.replicate (N - x.has.length) false)[c]? = some true ↔ x.has[c]? = some true := fun c => by
    rcases Nat.lt_or_ge c x.has.length with q | q
    · rw [List.getElem?_append_left q]
    · rw [List.getElem?_append_right q, List.getElem?_eq_none q, List.getElem?_replicate]
      split <;> simp
  have hd0 : ∀ c : Nat, c < x.has.length → (x.data ++ List.replicate (N - x.has.length) 0)[c]? = x.data[c]? := fun c hc => List.getElem?_append_left (by omega)
  have hl1 : D.length = N := by rw [hI.dn, List.length_append, List.length_replicate]; omega
  have hl2 : H.length = N := by rw [hI.hl, List.length_append, List.length_replicate]; omega
  have e1 : (layM x p oA on oc ol dA dl.length dc dl A7 A8 N c7 c8 D H).rv.k = x.k ∧ (layM x p oA on oc ol dA dl.length dc dl A7 A8 N c7 c8 D H).rv.bg = x.bg ∧ (layM x p oA on oc ol dA dl.length dc dl A7 A8 N c7 c8 D H).rv.fin = (if p.more then x.fin else p.off + dl.length) ∧
      (layM x p oA on oc ol dA dl.length dc dl A7 A8 N c7 c8 D H).rv.first = (if p.off = 0 ∧ x.rv.first = none then some (p, ol, dl) else x.rv.first) := by
    unfold layM fstM finM RVm.rv
    cases hm : p.more <;> cases hf : x.hf <;> by_cases h0 : p.off = 0 <;> simp [h0, hf]
  obtain ⟨a1, a2, a3, a4⟩ := e1
  refine ⟨a1, a2, a3, a4, ?_, ?_, fun c => ?_, fun c hc => ?_, fun c h1 h2 h3 => ?_⟩
  · show D.length = _
    rw [hl1]; exact hN
  · show H.length = _
    rw [hl2]; exact hN
  · show H[c]? = some true ↔ x.has[c]? = some true ∨ _
    rw [hI.has, hh0]
  · have hc' : x.has[c]? = some true := hc
    show D[c]? = x.data[c]?
    rw [hI.old c ((hh0 c).2 hc'), hd0 c (List.getElem?_eq_some_iff.1 hc').1]
  · have h1' : x.has[c]? ≠ some true := h1
    exact hI.new c (fun e => h1' ((hh0 c).1 e)) h2 h3
end Go.Proofs.Ytcjkhonapafndaa
namespace Go.Proofs.Ytcjkhonapafndaa
open Go.RowKit
def lenAt2 : Value → Nat
  | .slice _ n _ => n
  | _ => 0
/-- The three boxes: the whole, the packet, the result. -/
structure LyB (w : World) (p : PkV) (oV dV : Value) (y : RVm) (wx : World) : Prop where
  a : Bk wx w.heap.size 94 (rvC y).toArray
  b : Bk wx (w.heap.size + 1) 26 (pkC p oV dV)
  c : Bk wx (w.heap.size + 2) 94 #[.int .u32 0, .int .u32 0, .int .i64 0, .int .i64 0, .int .i64 0, .slice none 0 0, .slice none 0 0, .int .i64 0, .int .i64 0, .int .i64 0, .bool false, .bool false, .int .i64 0, .int .i64 0, .int .i64 0, .int .u32 0, .int .u32 0, .slice none 0 0, .slice none 0 0, .bool false]
  be : Below w.heap.size w wx
theorem LyB.set {w wx : World} {p : PkV} {oV dV : Value} {y y' : RVm} (h : LyB w p oV dV y wx) (k : Nat) (v : Value) (hy : (rvC y').toArray = (rvC y).toArray.setIfInBounds k v) : LyB w p oV dV y' (wx.setCell ⟨w.heap.size, k, none⟩ v) := by
  have hC : Chg (fun b => b = w.heap.size) wx (wx.setCell ⟨w.heap.size, k, none⟩ v) := (Chg.refl (fun b => b = w.heap.size) _).setCell (p := ⟨w.heap.size, k, none⟩) (.inl rfl) _
  exact ⟨by rw [hy]; exact h.a.set k v, h.b.chg hC (by omega), h.c.chg hC (by omega), h.be.trans (hC.below (fun b hb => by omega) (Nat.le_of_lt h.a.lt))⟩
theorem LyB.below {w wx wy : World} {p : PkV} {oV dV : Value} {y : RVm} (h : LyB w p oV dV y wx) (hb : Below wx.heap.size wx wy) : LyB w p oV dV y wy :=
  ⟨h.a.below hb h.a.lt, h.b.below hb h.b.lt, h.c.below hb h.c.lt, h.be.trans (hb.mono (Nat.le_of_lt h.a.lt))⟩
/-- The two rows are stored. -/
theorem LyB.rows {w wx : World} {p : PkV} {oV dV : Value} {y : RVm} (h : LyB w p oV dV y wx) (A7 A8 : Option Addr) (N c7 c8 : Nat) (D : List Int) (H : List Bool) :
    LyB w p oV dV { y with dA := A7, dn := N, dc := c7, data := D, hA := A8, hn := N, hc := c8, has := H } ((wx.setCell ⟨w.heap.size, 5, none⟩ (.slice A7 N c7)).setCell ⟨w.heap.size, 6, none⟩ (.slice A8 N c8)) := by
  obtain ⟨yk, ybg, yfin, ydA, ydn, ydc, ydata, yhA, yhn, yhc, yhas, yhf, ⟨fsvc, fid, fwh, fmo, foff, flife, fproto, fsrc, fdst⟩, yoA, yon, yoc, yol, yfA, yfn, yfc, yfl⟩ := y
  have h1 := h.set (y' := ⟨yk, ybg, yfin, A7, N, c7, D, yhA, yhn, yhc, yhas, yhf, ⟨fsvc, fid, fwh, fmo, foff, flife, fproto, fsrc, fdst⟩, yoA, yon, yoc, yol, yfA, yfn, yfc, yfl⟩) 5 (.slice A7 N c7) rfl
  exact h1.set (y' := ⟨yk, ybg, yfin, A7, N, c7, D, A8, N, c8, H, yhf, ⟨fsvc, fid, fwh, fmo, foff, flife, fproto, fsrc, fdst⟩, yoA, yon, yoc, yol, yfA, yfn, yfc, yfl⟩) 6 (.slice A8 N c8) rfl
/-- The first piece is stored. -/
theorem LyB.fst {w wx : World} {p : PkV} {oA dA : Option Addr} {on oc dn dc : Nat} {ol dl : List Int} {y : RVm} (h : LyB w p (.slice oA on oc) (.slice dA dn dc) y wx) :
    LyB w p (.slice oA on oc) (.slice dA dn dc) { y with hf := true, f := p, oA := oA, on := on, oc := oc, ol := ol, fA := dA, fn := dn, fc := dc, fl := dl } ((((((((((((wx.setCell ⟨w.heap.size, 19, none⟩ (.bool true)).setCell ⟨w.heap.size, 8, none⟩ (.int .i64 p.svc)).setCell ⟨w.heap.size, 9, none⟩ (.int .i64 p.id)).setCell ⟨w.heap.size, 10, none⟩ (.bool p.whole)).setCell ⟨w.heap.size, 11, none⟩ (.bool p.more)).setCell ⟨w.heap.size, 12, none⟩ (.int .i64 p.off)).setCell ⟨w.heap.size, 13, none⟩ (.int .i64 p.life)).setCell ⟨w.heap.size, 14, none⟩ (.int .i64 p.proto)).setCell ⟨w.heap.size, 15, none⟩ (.int .u32 p.src)).setCell ⟨w.heap.size, 16, none⟩ (.int .u32 p.dst)).setCell ⟨w.heap.size, 17, none⟩ (.slice oA on oc)).setCell ⟨w.heap.size, 18, none⟩ (.slice dA dn dc)) := by
  obtain ⟨psvc, pid, pwh, pmo, poff, plife, pproto, psrc, pdst⟩ := p
  obtain ⟨yk, ybg, yfin, ydA, ydn, ydc, ydata, yhA, yhn, yhc, yhas, yhf, ⟨fsvc, fid, fwh, fmo, foff, flife, fproto, fsrc, fdst⟩, yoA, yon, yoc, yol, yfA, yfn, yfc, yfl⟩ := y
  have h1 := h.set (y' := ⟨yk, ybg, yfin, ydA, ydn, ydc, ydata, yhA, yhn, yhc, yhas, true, ⟨fsvc, fid, fwh, fmo, foff, flife, fproto, fsrc, fdst⟩, yoA, yon, yoc, yol, yfA, yfn, yfc, yfl⟩) 19 (.bool true) rfl
  have h2 := h1.set (y' := ⟨yk, ybg, yfin, ydA, ydn, ydc, ydata, yhA, yhn, yhc, yhas, true, ⟨psvc, fid, fwh, fmo, foff, flife, fproto, fsrc, fdst⟩, yoA, yon, yoc, yol, yfA, yfn, yfc, yfl⟩) 8 (.int .i64 psvc) rfl
  have h3 := h2.set (y' := ⟨yk, ybg, yfin, ydA, ydn, ydc, ydata, yhA, yhn, yhc, yhas, true, ⟨psvc, pid, fwh, fmo, foff, flife, fproto, fsrc, fdst⟩, yoA, yon, yoc, yol, yfA, yfn, yfc, yfl⟩) 9 (.int .i64 pid) rfl
  have h4 := h3.set (y' := ⟨yk, ybg, yfin, ydA, ydn, ydc, ydata, yhA, yhn, yhc, yhas, true, ⟨psvc, pid, pwh, fmo, foff, flife, fproto, fsrc, fdst⟩, yoA, yon, yoc, yol, yfA, yfn, yfc, yfl⟩) 10 (.bool pwh) rfl
  have h5 := h4.set (y' := ⟨yk, ybg, yfin, ydA, ydn, ydc, ydata, yhA, yhn, yhc, yhas, true, ⟨psvc, pid, pwh, pmo, foff, flife, fproto, fsrc, fdst⟩, yoA, yon, yoc, yol, yfA, yfn, yfc, yfl⟩) 11 (.bool pmo) rfl
  have h6 := h5.set (y' := ⟨yk, ybg, yfin, ydA, ydn, ydc, ydata, yhA, yhn, yhc, yhas, true, ⟨psvc, pid, pwh, pmo, poff, flife, fproto, fsrc, fdst⟩, yoA, yon, yoc, yol, yfA, yfn, yfc, yfl⟩) 12 (.int .i64 poff) rfl
  have h7 := h6.set (y' := ⟨yk, ybg, yfin, ydA, ydn, ydc, ydata, yhA, yhn, yhc, yhas, true, ⟨psvc, pid, pwh, pmo, poff, plife, fproto, fsrc, fdst⟩, yoA, yon, yoc, yol, yfA, yfn, yfc, yfl⟩) 13 (.int .i64 plife) rfl
  have h8 := h7.set (y' := ⟨yk, ybg, yfin, ydA, ydn, ydc, ydata, yhA, yhn, yhc, yhas, true, ⟨psvc, pid, pwh, pmo, poff, plife, pproto, fsrc, fdst⟩, yoA, yon, yoc, yol, yfA, yfn, yfc, yfl⟩) 14 (.int .i64 pproto) rfl
  have h9 := h8.set (y' := ⟨yk, ybg, yfin, ydA, ydn, ydc, ydata, yhA, yhn, yhc, yhas, true, ⟨psvc, pid, pwh, pmo, poff, plife, pproto, psrc, fdst⟩, yoA, yon, yoc, yol, yfA, yfn, yfc, yfl⟩) 15 (.int .u32 psrc) rfl
  have h10 := h9.set (y' := ⟨yk, ybg, yfin, ydA, ydn, ydc, ydata, yhA, yhn, yhc, yhas, true, ⟨psvc, pid, pwh, pmo, poff, plife, pproto, psrc, pdst⟩, yoA, yon, yoc, yol, yfA, yfn, yfc, yfl⟩) 16 (.int .u32 pdst) rfl
  have h11 := h10.set (y' := ⟨yk, ybg, yfin, ydA, ydn, ydc, ydata, yhA, yhn, yhc, yhas, true, ⟨psvc, pid, pwh, pmo, poff, plife, pproto, psrc, pdst⟩, oA, on, oc, ol, yfA, yfn, yfc, yfl⟩) 17 (.slice oA on oc) rfl
  have h12 := h11.set (y' := ⟨yk, ybg, yfin, ydA, ydn, ydc, ydata, yhA, yhn, yhc, yhas, true, ⟨psvc, pid, pwh, pmo, poff, plife, pproto, psrc, pdst⟩, oA, on, oc, ol, dA, dn, dc, dl⟩) 18 (.slice dA dn dc) rfl
  exact h12
set_option maxHeartbeats 16000000 in
set_option maxRecDepth 100000 in
theorem rlay_any (x : RVm) (p : PkV) (oA dA : Option Addr) (on oc dn dc : Nat) (ol dl : List Int) (en : Nat) (w : World) (hd : RB w w.heap.size x.dA x.data) (hdl : x.data.length = x.dn) (hh : Rw w w.heap.size x.hA (bls x.has)) (hhl : x.has.length = x.hn) (heq : x.dn = x.hn) (hle : x.hn ≤ 65515)
    (hr : RB w w.heap.size dA dl) (hdn : dl.length = dn) (hdc : dn ≤ dc) (hoff : 0 ≤ p.off) (hen : (en : Int) = p.off + dn) (hen2 : en ≤ 65515) :
    Calls Try.prog 53 #[.agg (rvC x).toArray, .agg (pkC p (.slice oA on oc) (.slice dA dn dc)), .int .i64 en] w fun e w' => ∃ (A7 A8 : Option Addr) (N c7 c8 : Nat) (D : List Int) (H : List Bool),
      e = .returned (.agg (rvC (layM x p oA on oc ol dA dn dc dl A7 A8 N c7 c8 D H)).toArray) ∧ N = max x.hn en ∧ LvI p.off.toNat dl (x.data ++ List.replicate (N - x.hn) 0) (x.has ++ List.replicate (N - x.hn) false) en D H ∧
      OB 5 w' w.heap.size A7 N c7 D ∧ Ow 4 w' w.heap.size A8 N c8 (bls H) ∧ Below w.heap.size w w' := by
  obtain ⟨W, hW⟩ : ∃ W, ((w.alloc (.cells (rvC x).toArray 94)).alloc (.cells (pkC p (.slice oA on oc) (.slice dA dn dc)) 26)).alloc (.cells #[.int .u32 0, .int .u32 0, .int .i64 0, .int .i64 0, .int .i64 0, .slice none 0 0, .slice none 0 0, .int .i64 0, .int .i64 0, .int .i64 0, .bool false, .bool false, .int .i64 0, .int .i64 0, .int .i64 0, .int .u32 0, .int .u32 0, .slice none 0 0, .slice none 0 0, .bool false] 94) = W := ⟨_, rfl⟩
  obtain ⟨gw, hgw⟩ : ∃ gw, w.heap.size = gw := ⟨_, rfl⟩
  have hz : (w.alloc (.cells (rvC x).toArray 94)).heap.size = gw + 1 := by rw [World.size_alloc, hgw]
  have hz2 : ((w.alloc (.cells (rvC x).toArray 94)).alloc (.cells (pkC p (.slice oA on oc) (.slice dA dn dc)) 26)).heap.size = gw + 2 := by rw [World.size_alloc, hz]
  have hL : LyB w p (.slice oA on oc) (.slice dA dn dc) x W := by
    rw [← hW]
    refine ⟨((Bk.new w _ _).alloc _).alloc _, ?_, ?_, (((Below.refl _ _).alloc (Nat.le_refl _) _).alloc (by omega) _).alloc (by omega) _⟩
    · have := (Bk.new (w.alloc (.cells (rvC x).toArray 94)) 26 (pkC p (.slice oA on oc) (.slice dA dn dc))).alloc (.cells #[.int .u32 0, .int .u32 0, .int .i64 0, .int .i64 0, .int .i64 0, .slice none 0 0, .slice none 0 0, .int .i64 0, .int .i64 0, .int .i64 0, .bool false, .bool false, .int .i64 0, .int .i64 0, .int .i64 0, .int .u32 0, .int .u32 0, .slice none 0 0, .slice none 0 0, .bool false] 94)
      rw [hz] at this
      rw [hgw]; exact this
    · have := Bk.new ((w.alloc (.cells (rvC x).toArray 94)).alloc (.cells (pkC p (.slice oA on oc) (.slice dA dn dc)) 26)) 94 #[.int .u32 0, .int .u32 0, .int .i64 0, .int .i64 0, .int .i64 0, .slice none 0 0, .slice none 0 0, .int .i64 0, .int .i64 0, .int .i64 0, .bool false, .bool false, .int .i64 0, .int .i64 0, .int .i64 0, .int .u32 0, .int .u32 0, .slice none 0 0, .slice none 0 0, .bool false]
      rw [hz2] at this
      rw [hgw]; exact this
  obtain ⟨psvc, pid, pwh, pmo, poff, plife, pproto, psrc, pdst⟩ := p
  simp only at hoff hen
  obtain ⟨pn, rfl⟩ : ∃ pn : Nat, poff = (pn : Int) := ⟨poff.toNat, by omega⟩
  obtain ⟨xn, hxn⟩ : ∃ n, x.hn = n := ⟨_, rfl⟩
  rw [hxn] at hhl heq hle
  have HXN := Lib.hid hxn
  have HW : Hid (((w.alloc (.cells (rvC x).toArray 94)).alloc (.cells #[.int .i64 psvc, .int .i64 pid, .bool pwh, .bool pmo, .int .i64 (pn : Int), .int .i64 plife, .int .i64 pproto, .int .u32 psrc, .int .u32 pdst, .slice oA on oc, .slice dA dn dc] 26)).alloc (.cells #[.int .u32 0, .int .u32 0, .int .i64 0, .int .i64 0, .int .i64 0, .slice none 0 0, .slice none 0 0, .int .i64 0, .int .i64 0, .int .i64 0, .bool false, .bool false, .int .i64 0, .int .i64 0, .int .i64 0, .int .u32 0, .int .u32 0, .slice none 0 0, .slice none 0 0, .bool false] 94) = W) := Lib.hid hW
  obtain ⟨xhf, hxf⟩ : ∃ b, x.hf = b := ⟨_, rfl⟩
  have HXF := Lib.hid hxf
  have HGW := Lib.hid hgw
  have HL := Lib.hid hL
  have HD := Lib.hid hd
  have HDL := Lib.hid hdl
  have HH := Lib.hid hh
  have HHL := Lib.hid hhl
  have HEQ := Lib.hid heq
  have HR := Lib.hid hr
  have HDN := Lib.hid hdn
  have HEN := Lib.hid hen
  have HOFF := Lib.hid hoff
  have ha := hL.a
  rw [hgw] at ha
  have f7 : W.frozen? ⟨gw, 7, none⟩ = false := ha.frozen 7
  have cc7 : W.cell? ⟨gw, 7, none⟩ = some (.int .i64 x.fin) := ha.cell 7
  unfold pkC
  simp only
  clear hW hL hd hdl hh hhl hr hdn ha hz hz2 hoff hen heq hgw hxf hxn
  go_enter Try.func53, Try.ntmps53
  go_upto_if 12 with (fail)
  rw [HW.out]
  rw [HGW.out]
  go_cut [] (fun wx => Hid (LyB w (⟨psvc, pid, pwh, pmo, (pn : Int), plife, pproto, psrc, pdst⟩ : PkV) (.slice oA on oc) (.slice dA dn dc) (finM x (⟨psvc, pid, pwh, pmo, (pn : Int), plife, pproto, psrc, pdst⟩ : PkV) dn) wx))
  case first =>
    cases pmo with
    | true =>
      go_wp2_with fail
      go_meet
      exact HL
    | false =>
      go_wp2_with fail
      go_meet
      refine Lib.hid ?_
      have h := HL.out.set (y' := { x with fin := (pn : Int) + dn }) 7 (.int .i64 ((pn : Int) + dn)) rfl
      rw [HGW.out, ← HEN.out] at h
      show LyB w _ _ _ { x with fin := (pn : Int) + (dn : Int) } _
      rw [← HEN.out]
      exact h
  case rest =>
    obtain ⟨Wd, hWd⟩ : ∃ Wd, Wd = wc := ⟨_, rfl⟩
    subst hWd
    have HL1 := hcut
    obtain ⟨y1, hy1⟩ : ∃ y, finM x (⟨psvc, pid, pwh, pmo, (pn : Int), plife, pproto, psrc, pdst⟩ : PkV) dn = y := ⟨_, rfl⟩
    rw [hy1] at HL1
    have hyf : y1.hf = xhf := by rw [← hy1, (finM_f x (⟨psvc, pid, pwh, pmo, (pn : Int), plife, pproto, psrc, pdst⟩ : PkV) dn).2.2.2.2.2.2.1]; exact HXF.out
    have HY1 := Lib.hid hy1
    have ha := HL1.out.a
    have hb := HL1.out.b
    rw [HGW.out] at ha hb
    have cc19 : Wd.cell? ⟨gw, 19, none⟩ = some (.bool xhf) := by rw [← hyf]; exact ha.cell 19
    have b0 : Wd.cell? ⟨gw + 1, 0, none⟩ = some (.int .i64 psvc) := hb.cell 0
    have b1 : Wd.cell? ⟨gw + 1, 1, none⟩ = some (.int .i64 pid) := hb.cell 1
    have b2 : Wd.cell? ⟨gw + 1, 2, none⟩ = some (.bool pwh) := hb.cell 2
    have b3 : Wd.cell? ⟨gw + 1, 3, none⟩ = some (.bool pmo) := hb.cell 3
    have b4 : Wd.cell? ⟨gw + 1, 4, none⟩ = some (.int .i64 (pn : Int)) := hb.cell 4
    have b5 : Wd.cell? ⟨gw + 1, 5, none⟩ = some (.int .i64 plife) := hb.cell 5
    have b6 : Wd.cell? ⟨gw + 1, 6, none⟩ = some (.int .i64 pproto) := hb.cell 6
    have b7 : Wd.cell? ⟨gw + 1, 7, none⟩ = some (.int .u32 psrc) := hb.cell 7
    have b8 : Wd.cell? ⟨gw + 1, 8, none⟩ = some (.int .u32 pdst) := hb.cell 8
    have b9 : Wd.cell? ⟨gw + 1, 9, none⟩ = some (.slice oA on oc) := hb.cell 9
    have b10 : Wd.cell? ⟨gw + 1, 10, none⟩ = some (.slice dA dn dc) := hb.cell 10
    have e8 : Wd.cell? ⟨gw, 8, none⟩ = some (.int .i64 y1.f.svc) := ha.cell 8
    have e9 : Wd.cell? ⟨gw, 9, none⟩ = some (.int .i64 y1.f.id) := ha.cell 9
    have e10 : Wd.cell? ⟨gw, 10, none⟩ = some (.bool y1.f.whole) := ha.cell 10
    have e11 : Wd.cell? ⟨gw, 11, none⟩ = some (.bool y1.f.more) := ha.cell 11
    have e12 : Wd.cell? ⟨gw, 12, none⟩ = some (.int .i64 y1.f.off) := ha.cell 12
    have e13 : Wd.cell? ⟨gw, 13, none⟩ = some (.int .i64 y1.f.life) := ha.cell 13
    have e14 : Wd.cell? ⟨gw, 14, none⟩ = some (.int .i64 y1.f.proto) := ha.cell 14
    have e15 : Wd.cell? ⟨gw, 15, none⟩ = some (.int .u32 y1.f.src) := ha.cell 15
    have e16 : Wd.cell? ⟨gw, 16, none⟩ = some (.int .u32 y1.f.dst) := ha.cell 16
    have e17 : Wd.cell? ⟨gw, 17, none⟩ = some (.slice y1.oA y1.on y1.oc) := ha.cell 17
    have e18 : Wd.cell? ⟨gw, 18, none⟩ = some (.slice y1.fA y1.fn y1.fc) := ha.cell 18
    have f8 : Wd.frozen? ⟨gw, 8, none⟩ = false := ha.frozen 8
    have f9 : Wd.frozen? ⟨gw, 9, none⟩ = false := ha.frozen 9
    have f10 : Wd.frozen? ⟨gw, 10, none⟩ = false := ha.frozen 10
    have f11 : Wd.frozen? ⟨gw, 11, none⟩ = false := ha.frozen 11
    have f12 : Wd.frozen? ⟨gw, 12, none⟩ = false := ha.frozen 12
    have f13 : Wd.frozen? ⟨gw, 13, none⟩ = false := ha.frozen 13
    have f14 : Wd.frozen? ⟨gw, 14, none⟩ = false := ha.frozen 14
    have f15 : Wd.frozen? ⟨gw, 15, none⟩ = false := ha.frozen 15
    have f16 : Wd.frozen? ⟨gw, 16, none⟩ = false := ha.frozen 16
    have f17 : Wd.frozen? ⟨gw, 17, none⟩ = false := ha.frozen 17
    have f18 : Wd.frozen? ⟨gw, 18, none⟩ = false := ha.frozen 18
    have f19 : Wd.frozen? ⟨gw, 19, none⟩ = false := ha.frozen 19
    have hne1 : gw ≠ gw + 1 := by omega
    have hne2 : gw + 1 ≠ gw := by omega
    have HYF := Lib.hid hyf
    clear ha hb hy1 hyf f7 hcut
    go_upto_region 3 with (fail)
    go_cut [22] (fun s22 wx => s22 = .bool (decide ((pn : Int) = 0 ∧ xhf = false)) ∧ wx = Wd)
    case first =>
      rcases Nat.decEq pn 0 with q | q
      · have t1 : ((pn : Int) == 0) = false := by simp; omega
        have e1 : decide ((pn : Int) = 0 ∧ xhf = false) = false := decide_eq_false (fun e => by have := e.1; omega)
        have HE1 := Lib.hid e1
        clear q e1
        go_wp2_with fail
        go_meet
        exact ⟨by rw [HE1.out], rfl⟩
      · subst q
        cases xhf with
        | true =>
          go_wp2_with fail
          go_meet
          exact ⟨rfl, rfl⟩
        | false =>
          go_wp2_with fail
          go_meet
          exact ⟨rfl, rfl⟩
    case rest =>
    obtain ⟨rfl, rfl⟩ := hcut
    obtain ⟨bq, hbq⟩ : ∃ b, decide ((pn : Int) = 0 ∧ xhf = false) = b := ⟨_, rfl⟩
    rw [hbq]
    have HBQ := Lib.hid hbq
    clear hbq
    go_upto_if 22 with (fail)
    go_cut [] (fun wx => Hid (LyB w (⟨psvc, pid, pwh, pmo, (pn : Int), plife, pproto, psrc, pdst⟩ : PkV) (.slice oA on oc) (.slice dA dn dc) (fstM y1 (⟨psvc, pid, pwh, pmo, (pn : Int), plife, pproto, psrc, pdst⟩ : PkV) oA on oc ol dA dn dc dl) wx))
    case first =>
      cases bq with
      | false =>
        go_wp2_with fail
        go_meet
        refine Lib.hid ?_
        unfold fstM
        rw [if_neg (fun e => of_decide_eq_false HBQ.out ⟨e.1, by rw [← HYF.out]; exact e.2⟩)]
        exact HL1.out
      | true =>
        go_wp2_with fail
        go_meet
        refine Lib.hid ?_
        unfold fstM
        rw [if_pos ⟨(of_decide_eq_true HBQ.out).1, by rw [HYF.out]; exact (of_decide_eq_true HBQ.out).2⟩]
        have h := HL1.out.fst (ol := ol) (dl := dl)
        rw [HGW.out] at h
        exact h
    case rest =>
    obtain ⟨Wf, hWf⟩ : ∃ Wf, Wf = wc := ⟨_, rfl⟩
    subst hWf
    obtain ⟨y, hy⟩ : ∃ y, fstM y1 (⟨psvc, pid, pwh, pmo, (pn : Int), plife, pproto, psrc, pdst⟩ : PkV) oA on oc ol dA dn dc dl = y := ⟨_, rfl⟩
    rw [hy] at hcut
    have HL2 := hcut
    obtain ⟨a1, a2, a3, a4, a5, a6, _⟩ := finM_f x (⟨psvc, pid, pwh, pmo, (pn : Int), plife, pproto, psrc, pdst⟩ : PkV) dn
    obtain ⟨b1, b2, b3, b4, b5, b6⟩ := fstM_f y1 (⟨psvc, pid, pwh, pmo, (pn : Int), plife, pproto, psrc, pdst⟩ : PkV) oA on oc ol dA dn dc dl
    rw [hy] at b1 b2 b3 b4 b5 b6
    rw [HY1.out] at a1 a2 a3 a4 a5 a6
    rw [a1] at b1; rw [a2, HEQ.out] at b2; rw [a3] at b3; rw [a4] at b4; rw [a5, HXN.out] at b5; rw [a6] at b6
    have HYY : Hid (fstM (finM x (⟨psvc, pid, pwh, pmo, (pn : Int), plife, pproto, psrc, pdst⟩ : PkV) dn) (⟨psvc, pid, pwh, pmo, (pn : Int), plife, pproto, psrc, pdst⟩ : PkV) oA on oc ol dA dn dc dl = y) := Lib.hid (by rw [HY1.out]; exact hy)
    have ha := HL2.out.a
    have hb := HL2.out.b
    have hbe := HL2.out.be
    rw [HGW.out] at ha hb hbe
    have c5 : Wf.cell? ⟨gw, 5, none⟩ = some (.slice y.dA y.dn y.dc) := ha.cell 5
    have c6 : Wf.cell? ⟨gw, 6, none⟩ = some (.slice y.hA y.hn y.hc) := ha.cell 6
    rw [b1, b2, b3] at c5
    rw [b4, b5, b6] at c6
    have hrd : RB Wf gw x.dA x.data := by have := HD.out; rw [HGW.out] at this; exact Rw.below this hbe
    have hrh : Rw Wf gw x.hA (bls x.has) := by have := HH.out; rw [HGW.out] at this; exact Rw.below this hbe
    have hrp : RB Wf gw dA dl := by have := HR.out; rw [HGW.out] at this; exact Rw.below this hbe
    obtain ⟨gb, hgb⟩ : ∃ gb, Wf.heap.size = gb := ⟨_, rfl⟩
    have hgb3 : gw + 3 ≤ gb := by have := HL2.out.c.lt; have := HGW.out; omega
    have c5' := (World.cell?_alloc_lt Wf (.cells #[] 5) ⟨gw, 5, none⟩ (by show gw < Wf.heap.size; omega)).trans c5
    have HDL' : Hid (x.data.length = xn) := Lib.hid (HDL.out.trans HEQ.out)
    have HGB := Lib.hid hgb
    have HRD := Lib.hid hrd
    have HRH := Lib.hid hrh
    have HRP := Lib.hid hrp
    have HC6 := Lib.hid c6
    have HBE := Lib.hid hbe
    have hgwb : gw ≤ Wf.heap.size := by omega
    clear hcut hy a1 a2 a3 a4 a5 a6 b1 b2 b3 b4 b5 b6 ha hb hbe c5 c6 hrd hrh hrp hgb
    clear b0 b1 b2 b3 b4 b5 b6 b7 b8 b9 b10 cc7 cc19 e8 e9 e10 e11 e12 e13 e14 e15 e16 e17 e18 f8 f9 f10 f11 f12 f13 f14 f15 f16 f17 f18 f19 hne1 hne2
    go_wp2_with (first
      | (at_builtin; refine ap8_new rfl (.tmp 26) (.tmp 28) rfl rfl rfl HRD.out hgwb HDL'.out (by omega) ?_; intro A7 k7 w2 hO7 hB7 hz7 hk7
         have hzw : gw < Wf.heap.size := by have := HGB.out; omega
         have c6' := (World.cell?_alloc_lt w2 (.cells #[] 4) ⟨gw, 6, none⟩ (by show gw < w2.heap.size; omega)).trans ((hB7.cell (p := ⟨gw, 6, none⟩) hzw).trans HC6.out)
         have HO7 := Lib.hid hO7
         have HB7 := Lib.hid hB7
         have hgw2 : gw ≤ w2.heap.size := by omega
         clear hO7 hB7 hk7)
      | (at_builtin; refine ap_bools_new rfl (.tmp 30) (.tmp 32) rfl rfl rfl (Rw.below HRH.out (HB7.out.mono hgwb)) hgw2 HHL.out (by omega) ?_; intro A8 k8 w3 hO8 hB8 hz8))
    have HST : Hid (OB 5 w3 gb A7 xn k7 (x.data ++ List.replicate (xn - xn) 0) ∧ Ow 4 w3 gb A8 xn k8 (bls (x.has ++ List.replicate (xn - xn) false)) ∧ Below gb Wf w3) := Lib.hid (by
      rw [Nat.sub_self, List.replicate_zero, List.replicate_zero, List.append_nil, List.append_nil]
      have h7 : OB 5 w3 Wf.heap.size A7 xn k7 x.data := Ow.stays HO7.out hB8
      rw [HGB.out] at h7
      refine ⟨h7, Ow.mono hO8 (by have := HGB.out; have := HB7.out.size; omega), ?_⟩
      have := HB7.out.trans (hB8.mono HB7.out.size)
      rw [HGB.out] at this
      exact this)
    clear hO8 hB8 c5' c6' hz7 hz8
    go_loopw [7, 8] (fun v7 v8 wr => ∃ (N : Nat) (A7 A8 : Option Addr) (c7 c8 : Nat), xn ≤ N ∧ N ≤ max xn en ∧ v7 = .slice A7 N c7 ∧ v8 = .slice A8 N c8 ∧
      Hid (OB 5 wr gb A7 N c7 (x.data ++ List.replicate (N - xn) 0) ∧ Ow 4 wr gb A8 N c8 (bls (x.has ++ List.replicate (N - xn) false)) ∧ Below gb Wf wr)) (fun v7 _ _ => max xn en - lenAt2 v7)
    case atStart => exact ⟨xn, A7, A8, k7, k8, Nat.le_refl _, by omega, rfl, rfl, HST⟩
    case round =>
      obtain ⟨N, B7, B8, c7, c8, hN1, hN2, rfl, rfl, HI⟩ := hrel
      have hszr : gb ≤ wr.heap.size := by have := HI.out.2.2.size; have := HGB.out; omega
      rcases Nat.lt_or_ge N en with q | q
      · have t1 : decide ((N : Int) < (en : Int)) = true := decide_eq_true (by omega)
        go_wp2_with (first
          | (at_builtin; refine ap_bool2 rfl (.tmp 38) (.tmp 39) rfl gb rfl HI.out.2.1 rfl (by omega) hszr ?_; intro A9 k9 w4 hO9 hB9 hg9
             have HO9 := Lib.hid hO9
             have HB9 := Lib.hid hB9
             have HP7 : Hid (OB 5 w4 gb B7 N c7 (x.data ++ List.replicate (N - xn) 0)) := Lib.hid (Ow.kept HI.out.1 hg9 (ow_apart HI.out.1 HI.out.2.1 (by decide)))
             have hs4 : gb ≤ w4.heap.size := by have := hB9.size; omega
             clear hO9 hB9 hg9)
          | (at_builtin; refine ap8_one rfl (.tmp 41) (.tmp 42) rfl gb rfl HP7.out rfl (by omega) hs4 ?_; intro A10 k10 w5 hO10 hB10 hg10 hno10 hsz10 hk10))
        have HI2 : Hid (OB 5 w5 gb A10 (N + 1) k10 (x.data ++ List.replicate (N + 1 - xn) 0) ∧ Ow 4 w5 gb A9 (N + 1) k9 (bls (x.has ++ List.replicate (N + 1 - xn) false)) ∧ Below gb Wf w5) := Lib.hid (by
          have e : N + 1 - xn = (N - xn) + 1 := by omega
          rw [e, List.replicate_succ', List.replicate_succ', ← List.append_assoc, ← List.append_assoc]
          exact ⟨hO10, Ow.kept HO9.out hg10 (ow_apart HO9.out HP7.out (by decide)), HI.out.2.2.trans (HB9.out.trans hB10)⟩)
        clear hO10 hB10 hg10 hno10 hk10
        go_roundw
        case rel => exact ⟨N + 1, A10, A9, k10, k9, by omega, by omega, rfl, rfl, HI2⟩
        case measure => simp [lenAt2]; omega
      · have t1 : decide ((N : Int) < (en : Int)) = false := decide_eq_false (by omega)
        have hNm : N = max xn en := by omega
        have HNM := Lib.hid hNm
        have hNe : en ≤ N := by omega
        clear hNm
        have hbr : Below Wf.heap.size Wf wr := by have := HI.out.2.2; rw [← HGB.out] at this; exact this
        have HLR := Lib.hid (HL2.out.below hbr)
        have p4 : wr.cell? ⟨gw + 1, 4, none⟩ = some (.int .i64 (pn : Int)) := by have := HLR.out.b.cell 4; rwa [HGW.out] at this
        clear hbr
        go_wp2_with fail
        obtain ⟨D0, hD0⟩ : ∃ D, x.data ++ List.replicate (N - xn) 0 = D := ⟨_, rfl⟩
        obtain ⟨H0, hH0⟩ : ∃ H, x.has ++ List.replicate (N - xn) false = H := ⟨_, rfl⟩
        rw [hD0, hH0] at HI
        have HD0 := Lib.hid hD0
        have HH0 := Lib.hid hH0
        have hpe : pn ≤ en := by have := HEN.out; omega
        have HPE : Hid (en = pn + dn) := Lib.hid (by have := HEN.out; omega)
        clear hD0 hH0
        go_loopw [9] (fun v9 wr => ∃ (k : Nat) (D : List Int) (H : List Bool), pn ≤ k ∧ k ≤ en ∧ v9 = .int .i64 k ∧
          Hid (LvI pn dl D0 H0 k D H ∧ OB 5 wr gb B7 N c7 D ∧ Ow 4 wr gb B8 N c8 (bls H) ∧ Below gb Wf wr)) (fun v9 _ => en - (intOf v9).toNat)
        case atStart => exact ⟨pn, D0, H0, Nat.le_refl _, hpe, rfl, Lib.hid ⟨LvI.start _ _ _ _, HI.out.1, HI.out.2.1, HI.out.2.2⟩⟩
        case round =>
          obtain ⟨k, D, H, hk1, hk2, rfl, HJ⟩ := hrel
          have hbr : Below Wf.heap.size Wf wr := by have := HJ.out.2.2.2; rw [← HGB.out] at this; exact this
          have HLR := Lib.hid (HL2.out.below hbr)
          have hszr : gb ≤ wr.heap.size := by have := hbr.size; have := HGB.out; omega
          rcases Nat.lt_or_ge k en with r | r
          · have t2 : decide ((k : Int) < (en : Int)) = true := decide_eq_true (by omega)
            have hDl : D.length = N := OB.length HJ.out.2.1
            have hHl : H.length = N := by have := Ow.length HJ.out.2.2.1; rwa [bls_len] at this
            obtain ⟨b, hbk⟩ : ∃ b, H[k]? = some b := ⟨_, List.getElem?_eq_getElem (by omega)⟩
            obtain ⟨g8, rfl, hc8, hf8⟩ := Ow.cell HJ.out.2.2.1 (bls_get hbk)
            obtain ⟨g7, rfl, hc7, hf7⟩ := Ow.cell HJ.out.2.1 (by8_get D k (by omega))
            have hkn : (0 : Int) ≤ (k : Int) ∧ (k : Int) < (N : Int) := by omega
            have HBK := Lib.hid hbk
            cases b with
            | true =>
              have HN := Lib.hid (And.intro (HJ.out.1.skip hk1 HBK.out) HJ.out.2)
              clear hbk hbr hc7 hf7 hf8 hDl hHl p4
              go_wp2_with fail
              go_roundw
              case rel => exact ⟨k + 1, D, H, by omega, by omega, by go_num, HN⟩
              case measure => simp [intOf]; omega
            | false =>
              obtain ⟨j, hj⟩ : ∃ j, k - pn = j := ⟨_, rfl⟩
              have hjd : j < dl.length := by have := HDN.out; have := HPE.out; omega
              obtain ⟨v, hv⟩ : ∃ v, dl[j]? = some v := ⟨_, List.getElem?_eq_getElem hjd⟩
              obtain ⟨gd, od, rfl, hgd, hcd⟩ := Rw.at_ HRP.out (by8_get dl j hjd)
              rw [hv] at hcd
              have hcd' : Wf.cell? ⟨gd, od + j, none⟩ = some (.int .u8 v) := hcd
              have hne : g7 ≠ g8 := fun e => by
                rcases ow_apart HJ.out.2.1 HJ.out.2.2.1 (by decide) with h | h
                · simp [blk] at h
                · exact h (by rw [e])
              have hg8 := (Ow.lt HJ.out.2.2.1 g8 rfl).1
              have hg7 := (Ow.lt HJ.out.2.1 g7 rfl).1
              have hC : Chg (fun b => b = g8) wr (wr.setCell ⟨g8, k, none⟩ (.bool true)) := (Chg.refl (fun b => b = g8) _).setCell (p := ⟨g8, k, none⟩) (.inl rfl) _
              have hbp : Bk (wr.setCell ⟨g8, k, none⟩ (.bool true)) (gw + 1) 26 (pkC (⟨psvc, pid, pwh, pmo, (pn : Int), plife, pproto, psrc, pdst⟩ : PkV) (.slice oA on oc) (.slice (some ⟨gd, od, none⟩) dn dc)) := by
                have h := HLR.out.b.chg hC (fun e => by have := HGW.out; omega)
                rw [HGW.out] at h
                exact h
              have x10 : (wr.setCell ⟨g8, k, none⟩ (.bool true)).cell? ⟨gw + 1, 10, none⟩ = some (.slice (some ⟨gd, od, none⟩) dn dc) := hbp.cell 10
              have x4 : (wr.setCell ⟨g8, k, none⟩ (.bool true)).cell? ⟨gw + 1, 4, none⟩ = some (.int .i64 (pn : Int)) := hbp.cell 4
              have xd : (wr.setCell ⟨g8, k, none⟩ (.bool true)).cell? ⟨gd, od + j, none⟩ = some (.int .u8 v) := by
                have h1 : wr.cell? ⟨gd, od + j, none⟩ = some (.int .u8 v) := (hbr.cell (p := ⟨gd, od + j, none⟩) (by show gd < Wf.heap.size; have := HGB.out; omega)).trans hcd'
                exact (hC.cell (p := ⟨gd, od + j, none⟩) (by show gd < wr.heap.size; omega) (by show ¬ gd = g8; omega)).trans h1
              have hO7 := Ow.setCell (p := ⟨g8, k, none⟩) HJ.out.2.1 (by simp [blk]; exact hne) (.bool true)
              obtain ⟨g7', e7, x7, z7⟩ := Ow.cell hO7 (by8_get D k (by omega))
              injection e7 with e7; injection e7 with e7; subst e7
              have HN : Hid (LvI pn dl D0 H0 (k + 1) (D.set k v) (H.set k true) ∧ OB 5 ((wr.setCell ⟨g8, k, none⟩ (.bool true)).setCell ⟨g7, k, none⟩ (.int .u8 v)) gb (some ⟨g7, 0, none⟩) N c7 (D.set k v) ∧
                  Ow 4 ((wr.setCell ⟨g8, k, none⟩ (.bool true)).setCell ⟨g7, k, none⟩ (.int .u8 v)) gb (some ⟨g8, 0, none⟩) N c8 (bls (H.set k true)) ∧ Below gb Wf ((wr.setCell ⟨g8, k, none⟩ (.bool true)).setCell ⟨g7, k, none⟩ (.int .u8 v))) := Lib.hid (by
                refine ⟨HJ.out.1.put hk1 HBK.out (by omega) (by rw [hj]; exact hv), ?_, ?_, ?_⟩
                · obtain ⟨g', e, hO⟩ := Ow.store hO7 (by omega : k < N) (.int .u8 v)
                  injection e with e; injection e with e; subst e
                  have e8 : by8 (D.set k v) = (by8 D).set k (.int .u8 v) := by simp [by8, List.map_set]
                  unfold OB
                  rw [e8]; exact hO
                · obtain ⟨g', e, hO⟩ := Ow.store HJ.out.2.2.1 (by omega : k < N) (.bool true)
                  injection e with e; injection e with e; subst e
                  rw [bls_set]
                  exact Ow.setCell hO (by simp [blk]; exact fun e => hne e.symm) _
                · exact HJ.out.2.2.2.trans ((hC.below (fun b hb => by omega) hszr).trans (((Chg.refl (fun b => b = g7) _).setCell (p := ⟨g7, k, none⟩) (.inl rfl) _).below (fun b hb => by omega) (by have := hC.size; omega))))
              have hkj : (k : Int) - (pn : Int) = (j : Int) := by omega
              have hjb : (0 : Int) ≤ (j : Int) ∧ (j : Int) < (dn : Int) := by have := HDN.out; omega
              clear hbk hbr hcd hcd' hC hbp hO7 hj hv
              go_wp2_with fail
              go_roundw
              case rel => exact ⟨k + 1, D.set k v, H.set k true, by omega, by omega, by go_num, HN⟩
              case measure => simp [intOf]; omega
          · have hke : k = en := by omega
            have t2 : decide ((k : Int) < (en : Int)) = false := decide_eq_false (by omega)
            obtain ⟨y2, hy2⟩ : ∃ y2, ({ y with dA := B7, dn := N, dc := c7, data := D, hA := B8, hn := N, hc := c8, has := H } : RVm) = y2 := ⟨_, rfl⟩
            have hL5 := HLR.out.rows B7 B8 N c7 c8 D H
            rw [hy2, HGW.out] at hL5
            have HL5 := Lib.hid hL5
            have hra : Bk ((wr.setCell ⟨gw, 5, none⟩ (.slice B7 N c7)).setCell ⟨gw, 6, none⟩ (.slice B8 N c8)) gw 94 (rvC y2).toArray := by have := hL5.a; rwa [HGW.out] at this
            have hrc : Bk ((wr.setCell ⟨gw, 5, none⟩ (.slice B7 N c7)).setCell ⟨gw, 6, none⟩ (.slice B8 N c8)) (gw + 2) 94 #[.int .u32 0, .int .u32 0, .int .i64 0, .int .i64 0, .int .i64 0, .slice none 0 0, .slice none 0 0, .int .i64 0, .int .i64 0, .int .i64 0, .bool false, .bool false, .int .i64 0, .int .i64 0, .int .i64 0, .int .u32 0, .int .u32 0, .slice none 0 0, .slice none 0 0, .bool false] := by have := hL5.c; rwa [HGW.out] at this
            have HRG := Lib.hid (Bk.range hra)
            have HRC := Lib.hid hrc
            have har := HLR.out.a
            rw [HGW.out] at har
            have v5 : wr.cell? ⟨gw, 5, none⟩ = some (.slice y.dA y.dn y.dc) := har.cell 5
            have v6 : wr.cell? ⟨gw, 6, none⟩ = some (.slice y.hA y.hn y.hc) := har.cell 6
            have w5 : wr.frozen? ⟨gw, 5, none⟩ = false := har.frozen 5
            have w6 : wr.frozen? ⟨gw, 6, none⟩ = false := har.frozen 6
            have HKE := Lib.hid hke
            have HY2 := Lib.hid hy2
            clear hbr hL5 hra hrc har hy2 hke
            go_wp2_with (first
              | (refine ld_rw rfl (.tmp 3) rfl rfl y2 HRG.out ?_)
              | (refine st_rw_box rfl (.tmp 6) (.tmp 74) rfl rfl rfl y2 rfl HRC.out rfl ?_; intro w9 hb9 hc9))
            refine bodyPost_ret (results_c1 rfl _ _ (gw + 2) _ _ _ _ rfl hb9 Try.underlying94 rfl rw_size) rfl ?_
            have hge := HGW.out
            have n7 : ∀ b, blk B7 = some b → gb ≤ b := fun b hb => (Ow.lt HJ.out.2.1 b hb).1
            have n8 : ∀ b, blk B8 = some b → gb ≤ b := fun b hb => (Ow.lt HJ.out.2.2.1 b hb).1
            refine ⟨B7, B8, N, c7, c8, D, H, by rw [← HY2.out, ← HYY.out]; rfl, by rw [HXN.out]; exact HNM.out, ?_, ?_, ?_, ?_⟩
            · have h := HJ.out.1
              rw [HKE.out, ← HD0.out, ← HH0.out] at h
              rw [HXN.out]
              exact h
            · refine Ow.chg (Ow.setCell (p := ⟨gw, 6, none⟩) (Ow.setCell (p := ⟨gw, 5, none⟩) (Ow.mono HJ.out.2.1 (by omega)) (fun e => by have h9 : gb ≤ gw := n7 _ e; omega) _) (fun e => by have h9 : gb ≤ gw := n7 _ e; omega) _) hc9 (fun b hb => by have := n7 b hb; omega)
            · refine Ow.chg (Ow.setCell (p := ⟨gw, 6, none⟩) (Ow.setCell (p := ⟨gw, 5, none⟩) (Ow.mono HJ.out.2.2.1 (by omega)) (fun e => by have h9 : gb ≤ gw := n8 _ e; omega) _) (fun e => by have h9 : gb ≤ gw := n8 _ e; omega) _) hc9 (fun b hb => by have := n8 b hb; omega)
            · have h := HL5.out.be
              exact h.trans (hc9.below (fun b hb => by omega) (by have := h.size; omega))
end Go.Proofs.Ytcjkhonapafndaa
namespace Go.Proofs.Ytcjkhonapafndaa
open Go.RowKit
/-- The rows of a whole, in blocks of G. -/
structure RvOk (w : World) (G : Nat → Prop) (x : RVm) : Prop where
  d : RB w w.heap.size x.dA x.data
  dG : 0 < x.data.length → ∀ b, blk x.dA = some b → G b
  dl : x.data.length = x.dn
  dc : x.dn ≤ x.dc
  h : Rw w w.heap.size x.hA (bls x.has)
  hG : 0 < x.has.length → ∀ b, blk x.hA = some b → G b
  hl : x.has.length = x.hn
  eq : x.dn = x.hn
  le : x.hn ≤ 65515
  o : RB w w.heap.size x.oA x.ol
  oG : 0 < x.ol.length → ∀ b, blk x.oA = some b → G b
  ol : x.ol.length = x.on
  f : RB w w.heap.size x.fA x.fl
  fG : 0 < x.fl.length → ∀ b, blk x.fA = some b → G b
  fl : x.fl.length = x.fn
  z : x.hf = false → x.f = zeroP ∧ x.ol = []
  cp : x.on ≤ x.oc ∧ x.fn ≤ x.fc
/-- A row that may be read, kept where its block is not written. -/
theorem rw_chg {F : Nat → Prop} {w w' : World} {A : Option Addr} {xs : List Value} (h : Rw w w.heap.size A xs) (hc : Chg F w w') (hF : 0 < xs.length → ∀ b, blk A = some b → ¬ F b) : Rw w' w'.heap.size A xs := fun hn => by
  obtain ⟨b, off, rfl, hb, hx⟩ := h hn
  exact ⟨b, off, rfl, Nat.lt_of_lt_of_le hb hc.size, fun j u hu => (hc.cell (p := ⟨b, off + j, none⟩) hb (hF hn b rfl)).trans (hx j u hu)⟩
theorem RvOk.chg {w w' : World} {F G : Nat → Prop} {x : RVm} (h : RvOk w G x) (hc : Chg F w w') (hG : ∀ b, G b → ¬ F b) : RvOk w' G x :=
  ⟨rw_chg h.d hc (fun hn b hb => hG b (h.dG (by rwa [by8_length] at hn) b hb)), h.dG, h.dl, h.dc, rw_chg h.h hc (fun hn b hb => hG b (h.hG (by rwa [bls_len] at hn) b hb)), h.hG, h.hl, h.eq, h.le,
    rw_chg h.o hc (fun hn b hb => hG b (h.oG (by rwa [by8_length] at hn) b hb)), h.oG, h.ol, rw_chg h.f hc (fun hn b hb => hG b (h.fG (by rwa [by8_length] at hn) b hb)), h.fG, h.fl, h.z, h.cp⟩
theorem RvOk.mono {w : World} {G G' : Nat → Prop} {x : RVm} (h : RvOk w G x) (hG : ∀ b, G b → G' b) : RvOk w G' x :=
  ⟨h.d, fun hn b hb => hG b (h.dG hn b hb), h.dl, h.dc, h.h, fun hn b hb => hG b (h.hG hn b hb), h.hl, h.eq, h.le, h.o, fun hn b hb => hG b (h.oG hn b hb), h.ol, h.f, fun hn b hb => hG b (h.fG hn b hb), h.fl, h.z, h.cp⟩
/-- The reference's Store: its row, and the rows of its wholes. -/
structure RfS (w : World) (q : Nat) (G : Nat → Prop) (A : Option Addr) (n c : Nat) (L : List RVm) : Prop where
  st : RsS w q A n c L
  ok : ∀ x ∈ L, RvOk w G x
  nq : ¬ G q
  na : ∀ b, blk A = some b → ¬ G b
  lt : ∀ b, G b → b < w.heap.size
/-- The Store's own blocks. -/
def ownR (q : Nat) (A : Option Addr) (b : Nat) : Prop := b = q ∨ blk A = some b
theorem RsS.chg {F : Nat → Prop} {w w' : World} {q : Nat} {A : Option Addr} {n c : Nat} {L : List RVm} (h : RsS w q A n c L) (hc : Chg F w w') (hF : ∀ b, ownR q A b → ¬ F b) : RsS w' q A n c L :=
  ⟨h.1.chg hc (hF q (.inl rfl)), h.2.1.chg hc (fun b hb => hF b (.inr hb)), h.2.2⟩
theorem RfS.chg {F : Nat → Prop} {w w' : World} {q : Nat} {G : Nat → Prop} {A : Option Addr} {n c : Nat} {L : List RVm} (h : RfS w q G A n c L) (hc : Chg F w w') (hF : ∀ b, ownR q A b ∨ G b → ¬ F b) : RfS w' q G A n c L :=
  ⟨h.st.chg hc (fun b hb => hF b (.inl hb)), fun x hx => (h.ok x hx).chg hc (fun b hb => hF b (.inr hb)), h.nq, h.na, fun b hb => Nat.lt_of_lt_of_le (h.lt b hb) hc.size⟩
theorem RfS.below {w w' : World} {q : Nat} {G : Nat → Prop} {A : Option Addr} {n c : Nat} {L : List RVm} (h : RfS w q G A n c L) (hb : Below w.heap.size w w') : RfS w' q G A n c L :=
  h.chg (Chg.of_below (F := fun _ => False) hb) (fun _ _ e => e)
theorem RfS.olt {w : World} {q : Nat} {G : Nat → Prop} {A : Option Addr} {n c : Nat} {L : List RVm} (h : RfS w q G A n c L) : ∀ b, ownR q A b → b < w.heap.size := fun b hb => by
  rcases hb with rfl | hb
  · exact h.st.1.lt
  · exact (h.st.2.1.lt b hb).2
/-- One goes. -/
theorem rdrop {w : World} {q : Nat} {G : Nat → Prop} {A : Option Addr} {n c : Nat} {L : List RVm} (h : RfS w q G A n c L) (hn : n ≤ 1000) (i : Nat) (hi : i < n) :
    Calls Try.prog 51 #[.pointer (some ⟨q, 0, none⟩), .int .i64 i] w fun e w' => e = .returned (.tuple #[]) ∧ ∃ A' n' c', RfS w' q G A' n' c' (L.take i ++ L.drop (i + 1)) ∧ Chg (fun b => b = q) w w' ∧ ∀ b, blk A' = some b → w.heap.size ≤ b := by
  obtain ⟨x, hx⟩ : ∃ x, L[i]? = some x := ⟨_, List.getElem?_eq_getElem (by have := h.st.2.1.len; omega)⟩
  obtain ⟨g, rfl, _⟩ := h.st.2.1.cell hx
  refine (drop_st q g n c i L w h.st hn hi).mono ?_
  rintro e w' ⟨rfl, A', n', c', h1, h2, h3⟩
  refine ⟨rfl, A', n', c', ⟨h1, fun y hy => ?_, h.nq, fun b hb hg => by have := h3 b hb; have := h.lt b hg; omega, fun b hb => Nat.lt_of_lt_of_le (h.lt b hb) h2.size⟩, h2, h3⟩
  have hy' : y ∈ L := by
    rcases List.mem_append.1 hy with q | q
    · exact List.mem_of_mem_take q
    · exact List.mem_of_mem_drop q
  exact (h.ok y hy').chg h2 (fun b hb e => h.nq (e ▸ hb))
/-- A new whole. -/
def newM (k : K4) (now : Int) : RVm := ⟨k, now, -1, none, 0, 0, [], none, 0, 0, [], false, zeroP, none, 0, 0, [], none, 0, 0, []⟩
theorem newM_rv (k : K4) (now : Int) : (newM k now).rv = newV k now := rfl
theorem newM_ok (w : World) (G : Nat → Prop) (k : K4) (now : Int) : RvOk w G (newM k now) :=
  ⟨Rw.nil _ _ _, (fun h => by cases h), rfl, Nat.le_refl _, Rw.nil _ _ _, (fun h => by cases h), rfl, rfl, by show 0 ≤ 65515; omega, Rw.nil _ _ _, (fun h => by cases h), rfl, Rw.nil _ _ _, (fun h => by cases h), rfl, (fun _ => ⟨rfl, rfl⟩), ⟨Nat.le_refl _, Nat.le_refl _⟩⟩
/-- A whole with a piece laid, in memory. -/
theorem rlay_ok {w : World} {G : Nat → Prop} {x : RVm} (h : RvOk w G x) (p : PkV) {oA dA : Option Addr} {on oc dn dc : Nat} {ol dl : List Int} {en : Nat} (ho : RB w w.heap.size oA ol) (hol : ol.length = on) (hr : RB w w.heap.size dA dl) (hdn : dl.length = dn) (hdc : dn ≤ dc) (hoc : on ≤ oc) (hoff : 0 ≤ p.off) (hen : (en : Int) = p.off + dn) (hen2 : en ≤ 65515)
    (hGl : ∀ b, G b → b < w.heap.size) :
    Calls Try.prog 53 #[.agg (rvC x).toArray, .agg (pkC p (.slice oA on oc) (.slice dA dn dc)), .int .i64 en] w fun e w' => ∃ y, e = .returned (.agg (rvC y).toArray) ∧ LayV x.rv p ol dl y.rv ∧
      RvOk w' (fun b => G b ∨ (w.heap.size ≤ b ∧ b < w'.heap.size) ∨ (0 < ol.length ∧ blk oA = some b) ∨ (0 < dl.length ∧ blk dA = some b)) y ∧ Below w.heap.size w w' := by
  refine (rlay_any x p oA dA on oc dn dc ol dl en w h.d h.dl h.h h.hl h.eq h.le hr hdn hdc hoff hen hen2).mono ?_
  rintro e w' ⟨A7, A8, N, c7, c8, D, H, rfl, hN, hI, hO7, hO8, hB⟩
  have hxl : x.data.length = x.has.length := h.dl.trans (h.eq.trans h.hl.symm)
  have hoN : p.off.toNat + dn = en := by omega
  have hxk : RvOk w' G x := h.chg (Chg.of_below (F := fun _ => False) hB) (fun _ _ e => e)
  refine ⟨_, rfl, layM_rv hxl hdn (by rw [h.hl, hoN]; exact hN) (by rw [h.hl, hoN]; exact hI), ?_, hB⟩
  have l7 := OB.length hO7
  have l8 : H.length = N := by have := Ow.length hO8; rwa [bls_len] at this
  have f7 : ∀ b, blk A7 = some b → w.heap.size ≤ b ∧ b < w'.heap.size := fun b hb => Ow.lt hO7 b hb
  have f8 : ∀ b, blk A8 = some b → w.heap.size ≤ b ∧ b < w'.heap.size := fun b hb => Ow.lt hO8 b hb
  have ho' : RB w' w'.heap.size oA ol := Rw.more (Rw.below ho hB) hB.size
  have hr' : RB w' w'.heap.size dA dl := Rw.more (Rw.below hr hB) hB.size
  have hle := h.le
  have fst : ∀ z : RVm, (z.oA = x.oA ∧ z.on = x.on ∧ z.oc = x.oc ∧ z.ol = x.ol ∧ z.fA = x.fA ∧ z.fn = x.fn ∧ z.fc = x.fc ∧ z.fl = x.fl) ∨ (z.oA = oA ∧ z.on = on ∧ z.oc = oc ∧ z.ol = ol ∧ z.fA = dA ∧ z.fn = dn ∧ z.fc = dc ∧ z.fl = dl) → (z.hf = false → z.f = zeroP ∧ z.ol = []) →
      RvOk w' (fun b => G b ∨ (w.heap.size ≤ b ∧ b < w'.heap.size) ∨ (0 < ol.length ∧ blk oA = some b) ∨ (0 < dl.length ∧ blk dA = some b)) { z with dA := A7, dn := N, dc := c7, data := D, hA := A8, hn := N, hc := c8, has := H } := fun z hz hzz => by
    have base : RB w' w'.heap.size z.oA z.ol ∧ (0 < z.ol.length → ∀ b, blk z.oA = some b → G b ∨ (0 < ol.length ∧ blk oA = some b)) ∧ z.ol.length = z.on ∧ RB w' w'.heap.size z.fA z.fl ∧ (0 < z.fl.length → ∀ b, blk z.fA = some b → G b ∨ (0 < dl.length ∧ blk dA = some b)) ∧ z.fl.length = z.fn ∧ (z.on ≤ z.oc ∧ z.fn ≤ z.fc) := by
      rcases hz with ⟨e1, e2, e3, e4, e5, e6, e7, e8⟩ | ⟨e1, e2, e3, e4, e5, e6, e7, e8⟩
      · rw [e1, e2, e3, e4, e5, e6, e7, e8]
        exact ⟨hxk.o, fun hn b hb => .inl (h.oG hn b hb), h.ol, hxk.f, fun hn b hb => .inl (h.fG hn b hb), h.fl, h.cp⟩
      · rw [e1, e2, e3, e4, e5, e6, e7, e8]
        exact ⟨ho', fun hn b hb => .inr ⟨hn, hb⟩, hol, hr', fun hn b hb => .inr ⟨hn, hb⟩, hdn, hoc, hdc⟩
    obtain ⟨r1, r2, r3, r4, r5, r6, r7⟩ := base
    exact ⟨OB.rb hO7, fun _ b hb => .inr (.inl (f7 b hb)), l7, Ow.cap hO7, Ow.rw hO8, fun _ b hb => .inr (.inl (f8 b hb)), l8, rfl, by show N ≤ 65515; omega, r1, fun hn b hb => (r2 hn b hb).elim .inl (fun e => .inr (.inr (.inl e))), r3, r4, fun hn b hb => (r5 hn b hb).elim .inl (fun e => .inr (.inr (.inr e))), r6, hzz, r7⟩
  refine fst (fstM (finM x p dn) p oA on oc ol dA dn dc dl) ?_ ?_
  · unfold fstM finM
    by_cases c1 : p.more = true <;> by_cases c2 : p.off = 0 <;> cases c3 : x.hf <;> simp [c1, c2, c3]
  · have hz := h.z
    unfold fstM finM
    by_cases c1 : p.more = true <;> by_cases c2 : p.off = 0 <;> cases c3 : x.hf <;> simp [c1, c2, c3] <;> exact hz c3
end Go.Proofs.Ytcjkhonapafndaa
