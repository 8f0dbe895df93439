/- Proved: Cancel of the reference's wheel: a new row without the one. Conditions: the wheel lies in memory, its keys are apart. -/
import Derived.Test.YtnnblakjaiccfaaRfD
import Derived.Test.YtnnblakjaiccfaaInv
set_option linter.unusedVariables false
set_option linter.unusedSimpArgs false
namespace Go.Proofs.Ytnnblakjaiccfaa
open Go.RowKit
/-- What each operation of region 4 yields, but for the memory that is made. -/
def cnC (q g off n c i : Nat) (A2 : Option Addr) : Nat → Value
  | 0 => .pointer (some ⟨q, 0, none⟩)
  | 2 => .pointer (some ⟨q, 0, none⟩)
  | 3 => .pointer (some ⟨q, 0, none⟩)
  | 4 => .pointer (some ⟨q, 0, none⟩)
  | 5 => .slice (some ⟨g, off, none⟩) n c
  | 6 => .int .i64 (i : Int)
  | 7 => .slice (some ⟨g, off, none⟩) i c
  | 9 => .pointer (some ⟨q, 0, none⟩)
  | 10 => .pointer (some ⟨q, 0, none⟩)
  | 11 => .pointer (some ⟨q, 0, none⟩)
  | 12 => .slice (some ⟨g, off, none⟩) n c
  | 13 => .int .i64 (i : Int)
  | 14 => .int .i64 ((i : Int) + 1)
  | 15 => .slice A2 (n - (i + 1)) (c - (i + 1))
  | 17 => .pointer (some ⟨q, 0, none⟩)
  | 18 => .pointer (some ⟨q, 0, none⟩)
  | _ => undef
def cnPlain (j : Nat) : Bool := !(j == 1 || j == 8 || j == 16 || j == 19)
/-- What waits for what. -/
def cnD (L : Nat → Bool) : Prop := (L 19 = true → L 16 = true) ∧ (L 16 = true → L 8 = true ∧ L 15 = true) ∧ (L 15 = true → L 12 = true) ∧ (L 8 = true → L 7 = true) ∧ (L 7 = true → L 5 = true)
def cnR (q g off n c i : Nat) (A2 : Option Addr) (S : Mt) (w0 : World) (L : Nat → Bool) (v : Nat → Value) (w : World) : Prop :=
  (∀ j, L j = true → cnPlain j = true → v j = cnC q g off n c i A2 j) ∧ Chg (fun b => b = q) w0 w ∧ cnD L ∧
  (L 1 = true → L 8 = false → w.ownsRow w0.heap.size 60 2 (v 1) 0 []) ∧
  (L 8 = true → L 16 = false → w.ownsRow w0.heap.size 60 2 (v 8) i (tmsC (S.take i))) ∧
  (L 16 = true → w.ownsRow w0.heap.size 60 2 (v 16) (i + (n - (i + 1))) (tmsC (S.take i) ++ tmsC (S.drop (i + 1)))) ∧
  (L 19 = false → Bk w q 43 #[.slice (some ⟨g, off, none⟩) n c]) ∧ (L 19 = true → Bk w q 43 #[v 16])
section
variable {q g off n c i : Nat} {A2 : Option Addr} {S : Mt} {w0 : World} {L : Nat → Bool} {v : Nat → Value} {w : World}
theorem cnR_plain (h : cnR q g off n c i A2 S w0 L v w) : ∀ j, L j = true → cnPlain j = true → v j = cnC q g off n c i A2 j := h.1
theorem cnD_old (h : cnD L) (hL : L 5 = false ∨ L 12 = false) : L 19 = false := by
  obtain ⟨h1, h2, h3, h4, h5⟩ := h
  cases e : L 19 with
  | false => rfl
  | true =>
    have a := h2 (h1 e)
    rcases hL with hL | hL
    · rw [h5 (h4 a.1)] at hL; cases hL
    · rw [h3 a.2] at hL; cases hL
theorem cnD_step {x : Nat} (h : cnD L) (h7 : x = 7 → L 5 = true) (h8 : x = 8 → L 7 = true) (h15 : x = 15 → L 12 = true) (h16 : x = 16 → L 8 = true ∧ L 15 = true) (h19 : x = 19 → L 16 = true) : cnD (upd L x true) := by
  obtain ⟨e1, e2, e3, e4, e5⟩ := h
  have up : ∀ j, L j = true → upd L x true j = true := fun j hj => by
    unfold upd; split
    · rfl
    · exact hj
  have dn : ∀ j, upd L x true j = true → x = j ∨ L j = true := fun j hj => by
    unfold upd at hj; split at hj
    · next h => exact .inl h.symm
    · exact .inr hj
  refine ⟨fun h => up _ ((dn _ h).elim h19 e1), fun h => ?_, fun h => up _ ((dn _ h).elim h15 e3), fun h => up _ ((dn _ h).elim h8 e4), fun h => up _ ((dn _ h).elim h7 e5)⟩
  have := (dn _ h).elim h16 e2
  exact ⟨up _ this.1, up _ this.2⟩
/-- One more of the plain ones. -/
theorem cnR_step (h : cnR q g off n c i A2 S w0 L v w) {x : Nat} {u : Value} (hp : cnPlain x = true) (hu : u = cnC q g off n c i A2 x) (h7 : x = 7 → L 5 = true) (h15 : x = 15 → L 12 = true) : cnR q g off n c i A2 S w0 (upd L x true) (upd v x u) w := by
  obtain ⟨h1, h2, hd, h3, h4, h5, h6, h8⟩ := h
  have n1 : 1 ≠ x := by rintro rfl; cases hp
  have n8 : 8 ≠ x := by rintro rfl; cases hp
  have n16 : 16 ≠ x := by rintro rfl; cases hp
  have n19 : 19 ≠ x := by rintro rfl; cases hp
  refine ⟨fun y hy hpy => ?_, h2, cnD_step hd h7 (fun e => absurd e.symm n8) h15 (fun e => absurd e.symm n16) (fun e => absurd e.symm n19), ?_, ?_, ?_, ?_, ?_⟩
  · by_cases e : y = x
    · subst e; rw [upd_same]; exact hu
    · rw [upd_ne _ _ e]; rw [upd_ne _ _ e] at hy; exact h1 y hy hpy
  · rw [upd_ne _ _ n1, upd_ne _ _ n8, upd_ne _ _ n1]; exact h3
  · rw [upd_ne _ _ n8, upd_ne _ _ n16, upd_ne _ _ n8]; exact h4
  · rw [upd_ne _ _ n16, upd_ne _ _ n16]; exact h5
  · rw [upd_ne _ _ n19]; exact h6
  · rw [upd_ne _ _ n19, upd_ne _ _ n16]; exact h8
end

theorem info_rtm : ∃ i, Try.prog.info? 60 = some i ∧ i.zero = some (.agg #[.int .i64 0, .int .i64 0]) ∧ i.size = 2 ∧ i.bytes = 16 := by
  have h : (Try.prog.info? 60).map (fun i => (i.zero, i.size, i.bytes)) = some (some (.agg #[.int .i64 0, .int .i64 0]), 2, 16) := by kernel_rfl
  obtain ⟨i, h1, h2⟩ := info_parts h
  exact ⟨i, h1, h2⟩
theorem tmsC_one (S : Mt) : ∀ u ∈ tmsC S, u.oneCell' = true := fun u hu => by
  unfold tmsC at hu
  obtain ⟨t, _, ht⟩ := List.mem_flatMap.1 hu
  simp [tmC] at ht
  rcases ht with rfl | rfl <;> rfl
theorem tmsC_drop (S : Mt) (k : Nat) : tmsC (S.drop k) = (tmsC S).drop (k * 2) := by
  have h := tmsC_append (S.take k) (S.drop k)
  rw [List.take_append_drop, tmsC_take] at h
  by_cases hk : k ≤ S.length
  · have e : (tmsC S).drop (k * 2) = ((tmsC S).take (k * 2) ++ tmsC (S.drop k)).drop (k * 2) := by rw [← h]
    rw [e, List.drop_append_of_le_length (by rw [List.length_take, tmsC_len]; omega), List.drop_of_length_le (l := (tmsC S).take (k * 2)) (by rw [List.length_take]; omega), List.nil_append]
  · rw [List.drop_of_length_le (by omega), List.drop_of_length_le (by rw [tmsC_len]; omega)]; rfl
set_option maxHeartbeats 4000000 in
set_option maxRecDepth 100000 in
theorem rcan_hit (q g off n c i : Nat) (S : Mt) (k : Int) (w : World) (h : RfAt w q (some ⟨g, off, none⟩) n c S) (hn : n ≤ 1000) (hi : i < n)
    (hsp : Calls Try.prog 32 #[.pointer (some ⟨q, 0, none⟩), .int .i64 k] w fun e w' => e = .returned (.int .i64 (i : Int)) ∧ ∃ j, w' = w.drewN j) :
    Calls Try.prog 24 #[.pointer (some ⟨q, 0, none⟩), .int .i64 k] w fun e w' => e = .returned (.bool true) ∧ ∃ A' n' c', RfAt w' q A' n' c' (S.take i ++ S.drop (i + 1)) ∧ Chg (fun b => b = q) w w' ∧ ∀ b, blk A' = some b → w.heap.size ≤ b := by
  have hql := h.lt
  obtain ⟨hbq, hrw, hlen, hnc, hnb⟩ := h
  have hgq : g ≠ q := fun e => hnb (by rw [e]; rfl)
  obtain ⟨b0, o0, eb, hgl, hcs⟩ := hrw (by rw [tmsC_len]; omega)
  injection eb with eb
  injection eb with eb1 eb2
  subst eb1; subst eb2
  have hch : ∀ w3, Chg (fun b => b = q) w w3 → ∀ j u, (tmsC S)[j]? = some u → w3.cell? ⟨g, off + j, none⟩ = some u := fun w3 hc j u hu => (hc.cell (p := ⟨g, off + j, none⟩) hgl hgq).trans (hcs j u hu)
  have hs8 : ∀ w3, Chg (fun b => b = q) w w3 → ∀ j u, (tmsC (S.take i))[j]? = some u → w3.cell? ((⟨g, off, none⟩ : Addr).add j) = some u := fun w3 hc j u hu => by
    rw [add_eq]
    refine hch w3 hc j u ?_
    rw [tmsC_take, List.getElem?_take] at hu
    split at hu
    · exact hu
    · cases hu
  obtain ⟨a2, ha2⟩ : ∃ a2, (if c = i + 1 then (⟨g, off, none⟩ : Addr) else ⟨g, off + (i + 1) * 2, none⟩) = a2 := ⟨_, rfl⟩
  have hs16 : ∀ w3, Chg (fun b => b = q) w w3 → ∀ j u, (tmsC (S.drop (i + 1)))[j]? = some u → w3.cell? (a2.add j) = some u := fun w3 hc j u hu => by
    rw [tmsC_drop, List.getElem?_drop] at hu
    have hj := (List.getElem?_eq_some_iff.1 hu).1
    rw [tmsC_len] at hj
    rw [← ha2, if_neg (by omega), add_eq]
    have := hch w3 hc _ u hu
    rw [← Nat.add_assoc] at this
    exact this
  obtain ⟨A2, hA2⟩ : ∃ A2, (if c = i + 1 then some (⟨g, off, none⟩ : Addr) else some ⟨g, off + (i + 1) * 2, none⟩) = A2 := ⟨_, rfl⟩
  have ha2 : A2 = some a2 := by rw [← hA2, ← ha2]; split <;> rfl
  have HA2 := Lib.hid hA2
  have HSP := Lib.hid hsp
  have HB := Lib.hid hbq
  clear hA2 hsp hbq hrw hcs
  have t0 : decide ((i : Int) < 0) = false := decide_eq_false (by omega)
  go_enter Try.func24, Try.ntmps24
  go_wp2_with fail
  refine HSP.out.mono ?_
  rintro e w1 ⟨rfl, jj, rfl⟩
  go_wp2_with fail
  refine wp_region_inv [some 11, some 12, some 13, some 14, some 15, some 16, some 17, some 18, some 19, some 20, some 21, some 22, some 23, some 24, some 25, some 26, some 27, some 28, some 29, none] (cnR q g off n c i A2 S w) (by kernel_rfl) rfl (by kernel_rfl) (by kernel_rfl) (by kernel_rfl) (by kernel_rfl) ?_ ?_ ?_
  · exact ⟨(fun _ h => by cases h), ((Chg.refl _ w).drewN jj).drewN 1, ⟨(fun h => by cases h), (fun h => by cases h), (fun h => by cases h), (fun h => by cases h), (fun h => by cases h)⟩, (fun h => by cases h), (fun h => by cases h), (fun h => by cases h), (fun _ => HB.out), (fun h => by cases h)⟩
  · refine ⟨?_, ?_, ?_, ?_, ?_, ?_, ?_, ?_, ?_, ?_, ?_, ?_, ?_, ?_, ?_, ?_, ?_, ?_, ?_, ?_, trivial⟩
    · intro L v w3 f hL hdep hF hR K hK
      have e0 : f.eval (.tmp 0) = .pointer (some ⟨q, 0, none⟩) := (hF.1 0 (by decide)).trans rfl
      unfold Oper.wp
      simp only [execOp, e0]
      exact hK _ _ (cnR_step hR rfl rfl (fun h => by cases h) (fun h => by cases h))
    · intro L v w3 f hL hdep hF hR K hK
      clear hdep
      obtain ⟨q1, q2, q3, q4, q5, q6, q7, q8⟩ := hR
      unfold Oper.wp
      go_simp
      refine hK _ _ ⟨fun y hy hpy => ?_, q2.alloc _, cnD_step q3 (fun h => by cases h) (fun h => by cases h) (fun h => by cases h) (fun h => by cases h) (fun h => by cases h), ?_, ?_, ?_, ?_, ?_⟩
      · have ny : y ≠ 1 := by rintro rfl; cases hpy
        rw [upd_ne _ _ ny]; rw [upd_ne _ _ ny] at hy; exact q1 y hy hpy
      · exact fun _ _ => by rw [upd_same]; exact ⟨rfl, .inr ⟨w3.heap.size, 0, #[], rfl, q2.size, heap_alloc_new w3 _, Nat.le_refl _, Nat.zero_le _, rfl, rfl⟩⟩
      · exact fun a b => World.ownsRow.alloc (q5 a b) _
      · exact fun a => World.ownsRow.alloc (q6 a) _
      · exact fun a => (q7 a).alloc _
      · exact fun a => (q8 a).alloc _
    · intro L v w3 f hL hdep hF hR K hK
      have e0 : f.eval (.tmp 0) = .pointer (some ⟨q, 0, none⟩) := (hF.1 0 (by decide)).trans rfl
      unfold Oper.wp
      simp only [execOp, e0]
      exact hK _ _ (cnR_step hR rfl rfl (fun h => by cases h) (fun h => by cases h))
    · intro L v w3 f hL hdep hF hR K hK
      simp [Region.binds] at hdep
      have e2 : f.eval (.tmp 13) = _ := ((hF.2 2 13 rfl hdep).trans (cnR_plain hR 2 hdep rfl)).trans (show cnC q g off n c i A2 2 = .pointer (some ⟨q, 0, none⟩) from rfl)
      have g2 : f.tmps[13]?.getD undef = .pointer (some ⟨q, 0, none⟩) := by have := e2; simpa [Act.eval] using this
      clear e2
      unfold Oper.wp
      go_simp
      exact hK _ _ (cnR_step hR rfl rfl (fun h => by cases h) (fun h => by cases h))
    · intro L v w3 f hL hdep hF hR K hK
      simp [Region.binds] at hdep
      have e3 : f.eval (.tmp 14) = _ := ((hF.2 3 14 rfl hdep).trans (cnR_plain hR 3 hdep rfl)).trans (show cnC q g off n c i A2 3 = .pointer (some ⟨q, 0, none⟩) from rfl)
      have g3 : f.tmps[14]?.getD undef = .pointer (some ⟨q, 0, none⟩) := by have := e3; simpa [Act.eval] using this
      clear e3
      unfold Oper.wp
      go_simp
      exact hK _ _ (cnR_step hR rfl rfl (fun h => by cases h) (fun h => by cases h))
    · intro L v w3 f hL hdep hF hR K hK
      simp [Region.binds] at hdep
      have hold := cnD_old hR.2.2.1 (.inl hL)
      have hcq : w3.cell? ⟨q, 0, none⟩ = some (.slice (some ⟨g, off, none⟩) n c) := ((hR.2.2.2.2.2.2.1 hold).cell 0).trans rfl
      have e4 : f.eval (.tmp 15) = _ := ((hF.2 4 15 rfl hdep).trans (cnR_plain hR 4 hdep rfl)).trans (show cnC q g off n c i A2 4 = .pointer (some ⟨q, 0, none⟩) from rfl)
      have g4 : f.tmps[15]?.getD undef = .pointer (some ⟨q, 0, none⟩) := by have := e4; simpa [Act.eval] using this
      clear e4
      unfold Oper.wp
      go_simp
      exact hK _ _ (cnR_step hR rfl rfl (fun h => by cases h) (fun h => by cases h))
    · intro L v w3 f hL hdep hF hR K hK
      have e0 : f.eval (.tmp 5) = .int .i64 (i : Int) := (hF.1 5 (by decide)).trans rfl
      unfold Oper.wp
      simp only [execOp, e0]
      exact hK _ _ (cnR_step hR rfl rfl (fun h => by cases h) (fun h => by cases h))
    · intro L v w3 f hL hdep hF hR K hK
      simp [Region.binds] at hdep
      obtain ⟨d5, d6⟩ := hdep
      have e5 : f.eval (.tmp 16) = _ := ((hF.2 5 16 rfl d5).trans (cnR_plain hR 5 d5 rfl)).trans (show cnC q g off n c i A2 5 = .slice (some ⟨g, off, none⟩) n c from rfl)
      have g5 : f.tmps[16]?.getD undef = .slice (some ⟨g, off, none⟩) n c := by have := e5; simpa [Act.eval] using this
      clear e5
      have e6 : f.eval (.tmp 17) = _ := ((hF.2 6 17 rfl d6).trans (cnR_plain hR 6 d6 rfl)).trans (show cnC q g off n c i A2 6 = .int .i64 (i : Int) from rfl)
      have g6 : f.tmps[17]?.getD undef = .int .i64 (i : Int) := by have := e6; simpa [Act.eval] using this
      clear e6
      have c7 : i ≤ c := by omega
      unfold Oper.wp
      go_simp
      exact hK _ _ (cnR_step hR rfl rfl (fun _ => d5) (fun h => by cases h))
    · intro L v w3 f hL hdep hF hR K hK
      simp [Region.binds] at hdep
      obtain ⟨d1, d7⟩ := hdep
      have e7 : f.eval (.tmp 18) = _ := ((hF.2 7 18 rfl d7).trans (cnR_plain hR 7 d7 rfl)).trans (show cnC q g off n c i A2 7 = .slice (some ⟨g, off, none⟩) i c from rfl)
      have e1 : f.eval (.tmp 12) = v 1 := hF.2 1 12 rfl d1
      obtain ⟨q1, q2, q3, q4, q5, q6, q7, q8⟩ := hR
      have hO := q4 d1 hL
      have hold : L 19 = false := by
        cases e : L 19 with
        | false => rfl
        | true => exact absurd ((q3.2.1 (q3.1 e)).1) (by rw [hL]; decide)
      obtain ⟨ti, i1, i2, i3, i4⟩ := info_rtm
      obtain ⟨u, w4, hrun, hO4, hG, _⟩ := run_append_own (P := Try.prog) (w := w3) w.heap.size 41 41 60 ti _ 2 16 Try.underlying41 i1 i2 i3 i4 rfl (by omega) (v 1) (0) _ hO ⟨g, off, none⟩ i c (tmsC (S.take i)) (by rw [tmsC_len, List.length_take]; omega) (hs8 _ q2) (tmsC_one _) (by unfold maxLen; omega) (by omega) q2.size
      have hne : some q ≠ (v 1).ownBlock := fun e => absurd (World.ownsRow.lt hO q e.symm).1 (by omega)
      unfold Oper.wp execOp
      simp only [resolve, invoke, builtin, Sem.run_bind, Sem.run_pure, Result.andThen_ok, List.map_toArray, List.map_cons, List.map_nil, e1, e7, hrun]
      refine hK _ _ ⟨fun y hy hpy => ?_, q2.trans (Chg.of_grown (F := fun b => (v 1).ownBlock = some b) hG (fun b e => e)) (fun x hx => .inr (World.ownsRow.lt hO x hx).1), cnD_step q3 (fun h => by cases h) (fun h => by first | exact d7 | cases h) (fun h => by cases h) (fun h => by first | exact ⟨d8, d15⟩ | cases h) (fun h => by cases h), ?_, ?_, ?_, ?_, ?_⟩
      · have ny : y ≠ 8 := by rintro rfl; cases hpy
        rw [upd_ne _ _ ny]; rw [upd_ne _ _ ny] at hy; exact q1 y hy hpy
      · exact fun _ h => by rw [upd_same] at h; cases h
      · exact fun _ _ => by
          rw [upd_same]
          rw [Nat.zero_add, List.nil_append] at hO4
          exact hO4
      · exact fun h => by have h9 : L 16 = true := h; have := (q3.2.1 h9).1; rw [hL] at this; cases this
      · exact fun _ => (q7 hold).grown hG hne
      · exact fun h => by have h9 : L 19 = true := h; rw [hold] at h9; cases h9
    · intro L v w3 f hL hdep hF hR K hK
      have e0 : f.eval (.tmp 0) = .pointer (some ⟨q, 0, none⟩) := (hF.1 0 (by decide)).trans rfl
      unfold Oper.wp
      simp only [execOp, e0]
      exact hK _ _ (cnR_step hR rfl rfl (fun h => by cases h) (fun h => by cases h))
    · intro L v w3 f hL hdep hF hR K hK
      simp [Region.binds] at hdep
      have e9 : f.eval (.tmp 20) = _ := ((hF.2 9 20 rfl hdep).trans (cnR_plain hR 9 hdep rfl)).trans (show cnC q g off n c i A2 9 = .pointer (some ⟨q, 0, none⟩) from rfl)
      have g9 : f.tmps[20]?.getD undef = .pointer (some ⟨q, 0, none⟩) := by have := e9; simpa [Act.eval] using this
      clear e9
      unfold Oper.wp
      go_simp
      exact hK _ _ (cnR_step hR rfl rfl (fun h => by cases h) (fun h => by cases h))
    · intro L v w3 f hL hdep hF hR K hK
      simp [Region.binds] at hdep
      have e10 : f.eval (.tmp 21) = _ := ((hF.2 10 21 rfl hdep).trans (cnR_plain hR 10 hdep rfl)).trans (show cnC q g off n c i A2 10 = .pointer (some ⟨q, 0, none⟩) from rfl)
      have g10 : f.tmps[21]?.getD undef = .pointer (some ⟨q, 0, none⟩) := by have := e10; simpa [Act.eval] using this
      clear e10
      unfold Oper.wp
      go_simp
      exact hK _ _ (cnR_step hR rfl rfl (fun h => by cases h) (fun h => by cases h))
    · intro L v w3 f hL hdep hF hR K hK
      simp [Region.binds] at hdep
      have hold := cnD_old hR.2.2.1 (.inr hL)
      have hcq : w3.cell? ⟨q, 0, none⟩ = some (.slice (some ⟨g, off, none⟩) n c) := ((hR.2.2.2.2.2.2.1 hold).cell 0).trans rfl
      have e11 : f.eval (.tmp 22) = _ := ((hF.2 11 22 rfl hdep).trans (cnR_plain hR 11 hdep rfl)).trans (show cnC q g off n c i A2 11 = .pointer (some ⟨q, 0, none⟩) from rfl)
      have g11 : f.tmps[22]?.getD undef = .pointer (some ⟨q, 0, none⟩) := by have := e11; simpa [Act.eval] using this
      clear e11
      unfold Oper.wp
      go_simp
      exact hK _ _ (cnR_step hR rfl rfl (fun h => by cases h) (fun h => by cases h))
    · intro L v w3 f hL hdep hF hR K hK
      have e0 : f.eval (.tmp 5) = .int .i64 (i : Int) := (hF.1 5 (by decide)).trans rfl
      unfold Oper.wp
      simp only [execOp, e0]
      exact hK _ _ (cnR_step hR rfl rfl (fun h => by cases h) (fun h => by cases h))
    · intro L v w3 f hL hdep hF hR K hK
      simp [Region.binds] at hdep
      have e13 : f.eval (.tmp 24) = _ := ((hF.2 13 24 rfl hdep).trans (cnR_plain hR 13 hdep rfl)).trans (show cnC q g off n c i A2 13 = .int .i64 (i : Int) from rfl)
      have g13 : f.tmps[24]?.getD undef = .int .i64 (i : Int) := by have := e13; simpa [Act.eval] using this
      clear e13
      unfold Oper.wp
      go_simp
      exact hK _ _ (cnR_step hR rfl (by rw [IntWalk.i64_in _ (by omega)]; rfl) (fun h => by cases h) (fun h => by cases h))
    · intro L v w3 f hL hdep hF hR K hK
      simp [Region.binds] at hdep
      obtain ⟨d12, d14⟩ := hdep
      have e12 : f.eval (.tmp 23) = _ := ((hF.2 12 23 rfl d12).trans (cnR_plain hR 12 d12 rfl)).trans (show cnC q g off n c i A2 12 = .slice (some ⟨g, off, none⟩) n c from rfl)
      have g12 : f.tmps[23]?.getD undef = .slice (some ⟨g, off, none⟩) n c := by have := e12; simpa [Act.eval] using this
      clear e12
      have e14 : f.eval (.tmp 25) = _ := ((hF.2 14 25 rfl d14).trans (cnR_plain hR 14 d14 rfl)).trans (show cnC q g off n c i A2 14 = .int .i64 ((i : Int) + 1) from rfl)
      have g14 : f.tmps[25]?.getD undef = .int .i64 ((i : Int) + 1) := by have := e14; simpa [Act.eval] using this
      clear e14
      have c15a : (0 : Int) ≤ (i : Int) + 1 := by omega
      have c15b : (i : Int) + 1 ≤ n := by omega
      unfold Oper.wp
      go_simp
      rw [HA2.out]
      exact hK _ _ (cnR_step hR rfl rfl (fun h => by cases h) (fun _ => d12))
    · intro L v w3 f hL hdep hF hR K hK
      simp [Region.binds] at hdep
      obtain ⟨d8, d15, _⟩ := hdep
      have e15 : f.eval (.tmp 26) = _ := ((hF.2 15 26 rfl d15).trans (cnR_plain hR 15 d15 rfl)).trans (show cnC q g off n c i A2 15 = .slice A2 (n - (i + 1)) (c - (i + 1)) from rfl)
      have e8 : f.eval (.tmp 19) = v 8 := hF.2 8 19 rfl d8
      obtain ⟨q1, q2, q3, q4, q5, q6, q7, q8⟩ := hR
      have hO := q5 d8 hL
      have hold : L 19 = false := by
        cases e : L 19 with
        | false => rfl
        | true => exact absurd (q3.1 e) (by rw [hL]; decide)
      obtain ⟨ti, i1, i2, i3, i4⟩ := info_rtm
      obtain ⟨u, w4, hrun, hO4, hG, _⟩ := run_append_own (P := Try.prog) (w := w3) w.heap.size 41 41 60 ti _ 2 16 Try.underlying41 i1 i2 i3 i4 rfl (by omega) (v 8) (i) _ hO a2 (n - (i + 1)) (c - (i + 1)) (tmsC (S.drop (i + 1))) (by rw [tmsC_len, List.length_drop]; omega) (hs16 _ q2) (tmsC_one _) (by unfold maxLen; omega) (by omega) q2.size
      have hne : some q ≠ (v 8).ownBlock := fun e => absurd (World.ownsRow.lt hO q e.symm).1 (by omega)
      unfold Oper.wp execOp
      simp only [resolve, invoke, builtin, Sem.run_bind, Sem.run_pure, Result.andThen_ok, List.map_toArray, List.map_cons, List.map_nil, e8, e15, ha2, hrun]
      refine hK _ _ ⟨fun y hy hpy => ?_, q2.trans (Chg.of_grown (F := fun b => (v 8).ownBlock = some b) hG (fun b e => e)) (fun x hx => .inr (World.ownsRow.lt hO x hx).1), cnD_step q3 (fun h => by cases h) (fun h => by first | exact d7 | cases h) (fun h => by cases h) (fun h => by first | exact ⟨d8, d15⟩ | cases h) (fun h => by cases h), ?_, ?_, ?_, ?_, ?_⟩
      · have ny : y ≠ 16 := by rintro rfl; cases hpy
        rw [upd_ne _ _ ny]; rw [upd_ne _ _ ny] at hy; exact q1 y hy hpy
      · exact fun _ h => by have h9 : L 8 = false := h; rw [d8] at h9; cases h9
      · exact fun _ h => by rw [upd_same] at h; cases h
      · exact fun _ => by rw [upd_same]; exact hO4
      · exact fun _ => (q7 hold).grown hG hne
      · exact fun h => by have h9 : L 19 = true := h; rw [hold] at h9; cases h9
    · intro L v w3 f hL hdep hF hR K hK
      simp [Region.binds] at hdep
      have e0 : f.eval (.tmp 11) = _ := ((hF.2 0 11 rfl hdep.1).trans (cnR_plain hR 0 hdep.1 rfl)).trans (show cnC q g off n c i A2 0 = .pointer (some ⟨q, 0, none⟩) from rfl)
      have g0 : f.tmps[11]?.getD undef = .pointer (some ⟨q, 0, none⟩) := by have := e0; simpa [Act.eval] using this
      clear e0
      unfold Oper.wp
      go_simp
      exact hK _ _ (cnR_step hR rfl rfl (fun h => by cases h) (fun h => by cases h))
    · intro L v w3 f hL hdep hF hR K hK
      simp [Region.binds] at hdep
      have e17 : f.eval (.tmp 28) = _ := ((hF.2 17 28 rfl hdep.1).trans (cnR_plain hR 17 hdep.1 rfl)).trans (show cnC q g off n c i A2 17 = .pointer (some ⟨q, 0, none⟩) from rfl)
      have g17 : f.tmps[28]?.getD undef = .pointer (some ⟨q, 0, none⟩) := by have := e17; simpa [Act.eval] using this
      clear e17
      unfold Oper.wp
      go_simp
      exact hK _ _ (cnR_step hR rfl rfl (fun h => by cases h) (fun h => by cases h))
    · intro L v w3 f hL hdep hF hR K hK
      simp [Region.binds] at hdep
      obtain ⟨d18, d16, _⟩ := hdep
      have e18 : f.eval (.tmp 29) = _ := ((hF.2 18 29 rfl d18).trans (cnR_plain hR 18 d18 rfl)).trans (show cnC q g off n c i A2 18 = .pointer (some ⟨q, 0, none⟩) from rfl)
      have g18 : f.tmps[29]?.getD undef = .pointer (some ⟨q, 0, none⟩) := by have := e18; simpa [Act.eval] using this
      clear e18
      obtain ⟨q1, q2, q3, q4, q5, q6, q7, q8⟩ := hR
      have e16 : f.eval (.tmp 27) = v 16 := hF.2 16 27 rfl d16
      have hO := q6 d16
      have hB := q7 hL
      have hne : (v 16).ownBlock = none ∨ (v 16).ownBlock ≠ some q := .inr fun e => absurd (World.ownsRow.lt hO q e).1 (by omega)
      have hcq : w3.cell? ⟨q, 0, none⟩ = some (.slice (some ⟨g, off, none⟩) n c) := (hB.cell 0).trans rfl
      have hfq : w3.frozen? ⟨q, 0, none⟩ = false := hB.frozen 0
      have h16 : ∃ A c, v 16 = .slice A (i + (n - (i + 1))) c := by
        rcases hO.2 with ⟨h, h'⟩ | ⟨_, cap, _, h, _⟩
        · exact ⟨none, 0, by rw [h, h']⟩
        · exact ⟨_, cap, h⟩
      obtain ⟨A9, c9, h16⟩ := h16
      have g16 : f.tmps[27]?.getD undef = .slice A9 (i + (n - (i + 1))) c9 := by have := e16.trans h16; simpa [Act.eval] using this
      clear e16
      have hG : ∀ u, w3.grownBy (w3.setCell ⟨q, 0, none⟩ u) (some q) := fun u => grownBy_setCell (World.grownBy.refl w3 (some q)) (.inl rfl) u
      unfold Oper.wp
      go_simp
      refine hK undef _ ⟨fun y hy hpy => ?_, q2.setCell (.inl rfl) _, cnD_step q3 (fun h => by cases h) (fun h => by cases h) (fun h => by cases h) (fun h => by cases h) (fun _ => d16), ?_, ?_, ?_, ?_, ?_⟩
      · have ny : y ≠ 19 := by rintro rfl; cases hpy
        rw [upd_ne _ _ ny]; rw [upd_ne _ _ ny] at hy; exact q1 y hy hpy
      · exact fun _ h => by have h9 : L 8 = false := h; rw [(q3.2.1 d16).1] at h9; cases h9
      · exact fun _ h => by have h9 : L 16 = false := h; rw [d16] at h9; cases h9
      · exact fun _ => World.ownsRow.kept hO (hG _) hne
      · exact fun h => by rw [upd_same] at h; cases h
      · exact fun _ => by
          show Bk _ q 43 #[v 16]
          rw [h16]
          exact hB.set 0 _
  · intro v w3 L hall hR
    obtain ⟨q1, q2, q3, q4, q5, q6, q7, q8⟩ := hR
    have hO := q6 (hall 16 (by decide))
    have hB := q8 (hall 19 (by decide))
    have h16 : ∃ A c, v 16 = .slice A (i + (n - (i + 1))) c ∧ (∀ b, blk A = some b → w.heap.size ≤ b) ∧ i + (n - (i + 1)) ≤ c ∧ Rw w3 w3.heap.size A (tmsC (S.take i) ++ tmsC (S.drop (i + 1))) := by
      have hlen' := hO.1
      rcases hO.2 with ⟨h, h'⟩ | ⟨g9, cap, cur, h, hb9, hh9, hc9, _, _, ht9⟩
      · refine ⟨none, 0, by rw [h, h'], (fun b hb => by cases hb), by omega, fun hn => absurd hn (by rw [hlen', h']; simp)⟩
      · refine ⟨_, cap, h, (fun b hb => by simp [blk] at hb; omega), hc9, fun hn => ⟨g9, 0, rfl, (Array.getElem?_eq_some_iff.1 hh9).1, fun j u hu => ?_⟩⟩
        rw [Nat.zero_add, cell_of_row w3 g9 j cur 60 (0, 0) hh9]
        rw [← ht9, List.getElem?_take] at hu
        split at hu
        · simpa using hu
        · cases hu
    obtain ⟨A9, c9, e16, hA9, hc9, hr9⟩ := h16
    rw [e16] at hB
    have HFI : Hid (∃ A' n' c', RfAt w3 q A' n' c' (S.take i ++ S.drop (i + 1)) ∧ Chg (fun b => b = q) w w3 ∧ ∀ b, blk A' = some b → w.heap.size ≤ b) :=
      Lib.hid ⟨A9, _, c9, ⟨hB, by rw [tmsC_append]; exact hr9, by rw [List.length_append, List.length_take, List.length_drop]; omega, hc9, fun e => by have := hA9 q e; omega⟩, q2, hA9⟩
    clear q1 q2 q3 q4 q5 q6 q7 q8 hO hB hr9
    simp only [frL, if_true, Act.put, List.setIfInBounds_toArray, List.set_cons_zero, List.set_cons_succ]
    go_wp2
    go_ret
    exact ⟨rfl, HFI.out⟩
end Go.Proofs.Ytnnblakjaiccfaa
