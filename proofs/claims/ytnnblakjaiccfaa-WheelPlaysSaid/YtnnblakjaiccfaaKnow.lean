/- Proved: the laws' helpers ints and known of package wharflaw3; a wheel as the laws see it. Conditions: as each says. -/
import Derived.Test.YtnnblakjaiccfaaSort
set_option linter.unusedVariables false
set_option linter.unusedSimpArgs false
namespace Go.Proofs.Ytnnblakjaiccfaa
open Go.RowKit

theorem eq_false_bool {p : Prop} [Decidable p] (h : ¬ p) : Ending.returned (.bool false) = .returned (.bool (decide p)) := by rw [decide_eq_false h]
theorem eq_true_bool {p : Prop} [Decidable p] (h : p) : Ending.returned (.bool true) = .returned (.bool (decide p)) := by rw [decide_eq_true h]
theorem int64s_get (K : List Int) (k : Nat) (h : k < K.length) : (int64s K)[k]? = some (.int .i64 (K[k]?.getD 0)) := by simp [int64s, h]
theorem take_succ_getD (l : List Int) (k : Nat) (h : k < l.length) : l.take (k + 1) = l.take k ++ [l[k]?.getD 0] := by
  rw [List.take_add_one, List.getElem?_eq_getElem h]; rfl
theorem ints_any (A A2 : Option Addr) (n c m c2 B B2 : Nat) (l l2 : List Int) (hn : l.length = n) (hm : l2.length = m) (hmax : n ≤ 1000000) (hmax2 : m ≤ 1000000) (w : World) (hr : Rw w B A (int64s l)) (hr2 : Rw w B2 A2 (int64s l2)) :
    Calls Try.prog 14 #[.slice A n c, .slice A2 m c2] w fun e w' => e = .returned (.bool (decide (l = l2))) ∧ ∃ k, w' = w.drewN k := by
  have Hn := Lib.hid hn
  have Hm := Lib.hid hm
  clear hn hm
  rcases (by omega : n < m ∨ m < n ∨ n = m) with h1 | h1 | h1
  · go_enter Try.func14, Try.ntmps14
    go_wp2
    go_ret
    exact ⟨eq_false_bool (fun e => by have := congrArg List.length e; rw [Hn.out, Hm.out] at this; omega), 0, rfl⟩
  · go_enter Try.func14, Try.ntmps14
    go_wp2
    go_ret
    exact ⟨eq_false_bool (fun e => by have := congrArg List.length e; rw [Hn.out, Hm.out] at this; omega), 0, rfl⟩
  subst h1
  go_enter Try.func14, Try.ntmps14
  go_wp2
  go_loopw [5] (fun i wr => ∃ k : Nat, k ≤ n ∧ i = .int .i64 k ∧ Hid (l.take k = l2.take k) ∧ ∃ j, wr = w.drewN j) (fun i _ => n - (intOf i).toNat)
  case atStart => exact ⟨0, Nat.zero_le _, rfl, by show l.take 0 = _; simp, 0, rfl⟩
  case round =>
    obtain ⟨k, hk, rfl, HE, j, rfl⟩ := hrel
    rcases Nat.lt_or_ge k n with c1 | c1
    · obtain ⟨b, off, rfl, _, hc⟩ := hr.at_ (int64s_get l k (by rw [Hn.out]; exact c1))
      obtain ⟨b', off', rfl, _, hc'⟩ := hr2.at_ (int64s_get l2 k (by rw [Hm.out]; exact c1))
      have g1 := take_succ_getD l k (by rw [Hn.out]; exact c1)
      have g2 := take_succ_getD l2 k (by rw [Hm.out]; exact c1)
      by_cases h : l[k]?.getD 0 = l2[k]?.getD 0
      · have HE' : Hid (l.take (k + 1) = l2.take (k + 1)) := by show _ = _; rw [g1, g2, HE.out, h]
        have hx : (l[k]?.getD 0 != l2[k]?.getD 0) = false := by rw [h]; simp
        clear g1 g2 h
        go_wp2
        go_quiet (fail)
        go_wp2
        go_roundw
        case rel => exact ⟨k + 1, by omega, by go_num, HE', j + nq, rfl⟩
        case measure => simp [intOf]; omega
      · have hx : (l[k]?.getD 0 != l2[k]?.getD 0) = true := by simpa using h
        have HF : Hid (¬ l = l2) := fun e => h (by rw [e])
        clear g1 g2 h
        go_wp2
        go_quiet (fail)
        go_wp2
        go_ret
        exact ⟨eq_false_bool HF.out, j + nq, World.drewN_drewN w j nq⟩
    · have HF : Hid (l = l2) := by
        show _ = _
        have := HE.out
        rwa [List.take_of_length_le (by rw [Hn.out]; omega), List.take_of_length_le (by rw [Hm.out]; omega)] at this
      go_wp2
      go_ret
      exact ⟨eq_true_bool HF.out, j, rfl⟩

/-! ### a wheel as the laws see it -/
def Wh (w : World) (B p : Nat) (M : Mt) : Prop := ∃ F L mv, WhAt w F p L mv M ∧ (∀ b, F b → B ≤ b) ∧ B ≤ w.heap.size
theorem Wh.below {w w' : World} {B p : Nat} {M : Mt} (h : Wh w B p M) (hb : Below w.heap.size w w') : Wh w' B p M := by
  obtain ⟨F, L, mv, h1, h2, h3⟩ := h
  exact ⟨F, L, mv, h1.below hb, h2, Nat.le_trans h3 hb.size⟩
theorem Wh.drewN {w : World} {B p : Nat} {M : Mt} (h : Wh w B p M) (k : Nat) : Wh (w.drewN k) B p M := by
  obtain ⟨F, L, mv, h1, h2, h3⟩ := h
  exact ⟨F, L, mv, h1.drewN k, h2, h3⟩
theorem Wh.size {w : World} {B p : Nat} {M : Mt} (h : Wh w B p M) : B ≤ w.heap.size := by obtain ⟨F, L, mv, h1, h2, h3⟩ := h; exact h3
theorem Wh.keys {w : World} {B p : Nat} {M : Mt} (h : Wh w B p M) : (M.map (·.1)).Nodup := by obtain ⟨F, L, mv, h1, h2, h3⟩ := h; exact h1.ok.keys
theorem Wh.bd {w : World} {B p : Nat} {M : Mt} (h : Wh w B p M) : ∀ t ∈ M, okI t.1 ∧ 0 ≤ t.2 ∧ t.2 ≤ 1099511627776 := by obtain ⟨F, L, mv, h1, h2, h3⟩ := h; exact h1.ok.bd
theorem Wh.room {w : World} {B p : Nat} {M : Mt} (h : Wh w B p M) : M.length ≤ 256 := by obtain ⟨F, L, mv, h1, h2, h3⟩ := h; exact h1.ok.room
theorem set_wh (p B : Nat) (M : Mt) (k a : Int) (hk : okI k) (ha : okI a) (w : World) (h : Wh w B p M) :
    Calls Try.prog 9 #[.pointer (some ⟨p, 0, none⟩), .int .i64 k, .int .i64 a] w fun e w' => e = .returned (.int .i64 (setM M k a).1) ∧ Wh w' B p (setM M k a).2 ∧ Below B w w' := by
  obtain ⟨F, L, mv, h1, h2, h3⟩ := h
  refine (set_any p L mv M F k a hk ha w h1).mono ?_
  rintro e w' ⟨he, F', L', mv', q1, q2, q3⟩
  exact ⟨he, ⟨F', L', mv', q1, fun b hb => (q3 b hb).elim (h2 b) (fun h => Nat.le_trans h3 h), Nat.le_trans h3 q2.size⟩, q2.below h2 h3⟩
theorem cancel_wh (p B : Nat) (M : Mt) (k : Int) (hk : okI k) (w : World) (h : Wh w B p M) :
    Calls Try.prog 17 #[.pointer (some ⟨p, 0, none⟩), .int .i64 k] w fun e w' => e = .returned (.bool (getM M k).isSome) ∧ Wh w' B p (delM M k) ∧ Below B w w' := by
  obtain ⟨F, L, mv, h1, h2, h3⟩ := h
  refine (cancel_any p L mv M F k hk w h1).mono ?_
  rintro e w' ⟨he, L', q1, q2⟩
  exact ⟨he, ⟨F, L', mv, q1, h2, Nat.le_trans h3 q2.size⟩, q2.below h2 h3⟩
theorem at_wh (p B : Nat) (M : Mt) (k : Int) (hk : okI k) (w : World) (h : Wh w B p M) :
    Calls Try.prog 12 #[.pointer (some ⟨p, 0, none⟩), .int .i64 k] w fun e w' => e = .returned (.tuple #[.int .i64 ((getM M k).getD 0), .bool (getM M k).isSome]) ∧ w = w' := by
  obtain ⟨F, L, mv, h1, h2, h3⟩ := h
  exact at_any p L mv M F k hk w h1
theorem len_wh (p B : Nat) (M : Mt) (w : World) (h : Wh w B p M) :
    Calls Try.prog 10 #[.pointer (some ⟨p, 0, none⟩)] w fun e w' => e = .returned (.int .i64 M.length) ∧ w = w' := by
  obtain ⟨F, L, mv, h1, h2, h3⟩ := h
  exact len_any p L mv M F w h1
theorem due_wh (p B : Nat) (M : Mt) (now : Int) (w : World) (h : Wh w B p M) :
    Calls Try.prog 13 #[.pointer (some ⟨p, 0, none⟩), .int .i64 now] w fun e w' => ∃ (D : Mt) (A : Option Addr) (n c : Nat), e = .returned (.slice A n c) ∧ D.Perm (dueS now M) ∧ D.Pairwise (fun x y => cmpT x y ≤ 0) ∧
      Ow 3 w' w.heap.size A n c (int64s (D.map (·.1))) ∧ Wh w' B p (M.filter fun t => decide (now < t.2)) ∧ Below B w w' := by
  obtain ⟨F, L, mv, h1, h2, h3⟩ := h
  refine (due_any sorts_tm p L mv M F now w h1).mono ?_
  rintro e w' ⟨D, A, n, c, L', he, q1, q2, q3, q4, q5⟩
  exact ⟨D, A, n, c, he, q1, q2, q3, ⟨F, L', mv, q4, h2, Nat.le_trans h3 q5.size⟩, q5.below h2 h3⟩
def whZ : Array Value := (List.replicate 64 (Value.slice none 0 0) ++ [Value.map none]).toArray
theorem Wh.new (w : World) : Wh (w.alloc (.cells whZ 27)) w.heap.size w.heap.size [] :=
  ⟨fun b => b = w.heap.size, _, none, WhAt.new (Bk.new w 27 whZ), fun b hb => Nat.le_of_eq hb.symm, by rw [World.size_alloc]; exact Nat.le_succ _⟩
theorem zero_wh (w : World) : (zeroValue 27).run Try.prog w = .ok (.agg whZ) w := by kernel_rfl
theorem sorted_two {D : Mt} (hp : D.Perm [(5, 10), (3, 10)]) (hs : D.Pairwise (fun x y => cmpT x y ≤ 0)) : D.map (·.1) = [3, 5] := by
  match D, hp.length_eq with
  | [x, y], _ =>
    have hx : x ∈ [((5 : Int), (10 : Int)), (3, 10)] := hp.mem_iff.1 (by simp)
    have hy : y ∈ [((5 : Int), (10 : Int)), (3, 10)] := hp.mem_iff.1 (by simp)
    have h1 : cmpT x y ≤ 0 := by simpa using hs
    have hnd : [x, y].Nodup := hp.nodup_iff.2 (by decide)
    have hne : x ≠ y := by simpa using hnd
    simp at hx hy
    rcases hx with rfl | rfl <;> rcases hy with rfl | rfl
    · exact absurd rfl hne
    · exact absurd h1 (by decide)
    · rfl
    · exact absurd rfl hne
set_option maxRecDepth 100000 in
set_option maxHeartbeats 2000000 in
theorem known_any (w : World) : Calls Try.prog 11 #[] w fun e w' => e = .returned (.bool true) ∧ Below w.heap.size w w' := by
  obtain ⟨p, hp⟩ : ∃ p, w.heap.size = p := ⟨_, rfl⟩
  obtain ⟨W, hW⟩ : ∃ W, w.alloc (.cells whZ 27) = W := ⟨_, rfl⟩
  have h0 : Wh W p p [] := by rw [← hW, ← hp]; exact Wh.new w
  have hB : Below p w W := by rw [← hW, ← hp]; exact (Below.refl _ _).alloc (Nat.le_refl _) _
  have HS := Lib.hid (set_wh p p [] 5 10 (by unfold okI; omega) (by unfold okI; omega) W h0)
  rw [show setM [] 5 10 = (0, [(5, 10)]) by decide +kernel] at HS
  have HW := Lib.hid hW
  have HP := Lib.hid hp
  have HB := Lib.hid hB
  have hzv := zero_wh
  clear hW hp hB h0
  go_enter Try.func11, Try.ntmps11
  go_wp2_with fail
  rw [HW.out, HP.out]
  refine HS.out.mono ?_
  rintro e W1 ⟨rfl, h1, hB1⟩
  have HB1 := Lib.hid hB1
  have HS1 := Lib.hid (set_wh p p [(5, 10)] 3 10 (by unfold okI; omega) (by unfold okI; omega) W1 h1)
  rw [show setM [(5, 10)] 3 10 = (0, [(5, 10), (3, 10)]) by decide +kernel] at HS1
  clear h1 hB1
  go_wp2_with fail
  refine HS1.out.mono ?_
  rintro e W2 ⟨rfl, h2, hB2⟩
  have HB2 := Lib.hid hB2
  have HD := Lib.hid (due_wh p p _ 10 W2 h2)
  clear h2 hB2
  go_wp2_with fail
  refine HD.out.mono ?_
  rintro e W3 ⟨D, A, n, c, rfl, hp, hs, hO, hW3, hB3⟩
  rw [show dueS 10 [(5, 10), (3, 10)] = [(5, 10), (3, 10)] by decide +kernel] at hp
  have hD := sorted_two hp hs
  rw [hD] at hO
  have hn : n = 2 := by have := hO.length; simpa [int64s] using this.symm
  subst hn
  have hz3 := hW3.size
  have hB4 : Below p w (W3.alloc (.cells #[.int .i64 3, .int .i64 5] 3)) := (((HB.out.trans HB1.out).trans HB2.out).trans hB3).alloc hz3 _
  have HI := Lib.hid (ints_any A (some ⟨W3.heap.size, 0, none⟩) 2 c 2 2 W3.heap.size (W3.heap.size + 1) [3, 5] [3, 5] rfl rfl (by omega) (by omega) (W3.alloc (.cells #[.int .i64 3, .int .i64 5] 3)) (Rw.alloc (Ow.rw hO) (Nat.le_refl _) _) (rw_lit W3 3 [.int .i64 3, .int .i64 5]))
  have HB4 := Lib.hid hB4
  clear hp hs hO hW3 hB3 hD hB4
  go_wp2_with fail
  refine HI.out.mono ?_
  rintro e W5 ⟨rfl, k, rfl⟩
  go_wp2
  go_ret
  exact ⟨rfl, by rw [HP.out]; exact bel_drewN HB4.out k⟩
end Go.Proofs.Ytnnblakjaiccfaa
