/- Proved: which timers are due: the first part of Due, by its walk; a list of numbers that grows. Conditions: the wheel lies in memory. -/
import Derived.Test.YtnnblakjaiccfaaSet
import Derived.Test.YtnnblakjaiccfaaSrt
set_option linter.unusedVariables false
set_option linter.unusedSimpArgs false
namespace Go.Proofs.Ytnnblakjaiccfaa
open Go.RowKit

def int64s (K : List Int) : List Value := K.map (Value.int .i64)
theorem info_int : (Try.prog.info? 3).map (fun i => (i.zero, i.size, i.bytes)) = some (some (.int .i64 0), 1, 8) := by kernel_rfl
section
variable {ops : Array Oper} {rest : List Oper} {o : Oper} {a : Act} {w : World} {Q : Exit → Act → World → Prop}
/-- One number more. -/
theorem ap_int (hgd : o.guard = none) (s x : Operand)
    (ho : o.op = .call { callee := .builtin .append, args := #[s, x], argTypes := #[35, 35] })
    (base : Nat) {A : Option Addr} {n c : Nat} {K : List Int} (hs : a.eval s = .slice A n c) (hown : Ow 3 w base A n c (int64s K))
    (y : Int) {c2 : Nat} (hx : a.eval x = .slice (some ⟨w.heap.size, 0, none⟩) 1 c2) (hsz : n ≤ 100000) (hbase : base ≤ w.heap.size)
    (h : ∀ A' c' w', Ow 3 w' base A' (n + 1) c' (int64s (K ++ [y])) → w.grownBy w' (blk A) → (blk A' = blk A ∨ blk A' = some (w.heap.size + 1)) → wpList Try.prog ops Q rest (a.put o.dst (.slice A' (n + 1) c')) w') :
    wpList Try.prog ops Q (o :: rest) a (w.alloc (.cells #[.int .i64 y] 3)) := by
  refine wpList_append_rw (P := Try.prog) (w := w.alloc (.cells #[.int .i64 y] 3)) hgd s x 35 ho base 3 (.int .i64 0) 8 Try.underlying35 info_int rfl hs (Ow.alloc hown _) hx (rw_lit w 3 [.int .i64 y]) rfl (fun u hu => by simp at hu; subst hu; rfl) (by unfold maxLen; omega) (by omega) (by rw [World.size_alloc]; omega) fun A' c' w' h1 h2 h3 => ?_
  refine h A' c' w' ?_ ((World.grownBy_alloc w _ _).trans h2) (by rw [World.size_alloc] at h3; exact h3)
  unfold int64s at *
  rw [List.map_append]
  exact h1
end
theorem WhAt.norm {w : World} {F : Nat → Prop} {p : Nat} {L : List Sl} {mv : Option Nat} {M : Mt} (h : WhAt w F p L mv M) : WhAt w (fun b => F b ∧ b < w.heap.size) p L mv M where
  bk := h.bk
  len := h.len
  own := ⟨h.own, h.bk.lt⟩
  nomap := h.nomap
  map := fun b hb => ⟨⟨(h.map b hb).1, (h.map b hb).2.lt⟩, (h.map b hb).2⟩
  sl := fun s hs => ⟨(h.sl s hs).1, fun b hb => ⟨(h.sl s hs).2 b hb, ((h.sl s hs).1.lt b hb).2⟩⟩
  sep := h.sep
  ok := h.ok
/-- What is due, slot by slot. -/
def dueS (now : Int) (S : Mt) : Mt := S.filter fun t => decide (t.2 ≤ now)
def dueL (now : Int) (L : List Sl) : Mt := L.flatMap fun s => dueS now s.S
theorem dueL_snoc (now : Int) {L : List Sl} {i : Nat} {s : Sl} (hi : L[i]? = some s) : dueL now (L.take (i + 1)) = dueL now (L.take i) ++ dueS now s.S := by
  rw [List.take_add_one, hi]
  unfold dueL
  simp
theorem dueS_snoc (now : Int) {S : Mt} {j : Nat} {t : Int × Int} (hj : S[j]? = some t) : dueS now (S.take (j + 1)) = dueS now (S.take j) ++ if t.2 ≤ now then [t] else [] := by
  rw [List.take_add_one, hj]
  unfold dueS
  rw [List.filter_append]
  split
  · rename_i h; simp [h]
  · rename_i h; simp [h]
theorem dueS_len (now : Int) (S : Mt) : (dueS now S).length ≤ S.length := List.length_filter_le _ _
theorem dueL_len (now : Int) {L : List Sl} (h : ∀ s ∈ L, s.S.length ≤ 256) : ∀ i, (dueL now (L.take i)).length ≤ i * 256
  | 0 => Nat.zero_le _
  | i + 1 => by
    have ih := dueL_len now h i
    rw [Nat.succ_mul]
    cases hi : L[i]? with
    | none =>
      rw [List.take_add_one, hi]
      simp only [Option.toList_none, List.append_nil]
      exact Nat.le_trans ih (Nat.le_add_right _ _)
    | some s =>
      rw [dueL_snoc now hi, List.length_append]
      exact Nat.add_le_add ih (Nat.le_trans (dueS_len now s.S) (h s (List.mem_of_getElem? hi)))
theorem nodup_of_map {S : Mt} (h : (S.map (·.1)).Nodup) : S.Nodup := (List.pairwise_map.1 h).imp fun hne e => hne (by rw [e])
theorem dueL_perm {L : List Sl} {M : Mt} (h : WhOk L M) (now : Int) : (dueL now L).Perm (dueS now M) := by
  have e : dueL now L = (L.flatMap (·.S)).filter fun t => decide (t.2 ≤ now) := by
    unfold dueL dueS
    rw [List.filter_flatMap]
  rw [e]
  unfold dueS
  refine List.Perm.filter _ ?_
  refine (List.perm_ext_iff_of_nodup ?_ (nodup_of_map h.keys)).2 fun t => ?_
  · unfold List.Nodup
    rw [List.pairwise_flatMap]
    refine ⟨fun s hs => nodup_of_map (h.nd s hs), ?_⟩
    rw [List.pairwise_iff_getElem]
    intro i j hi hj hij x hx y hy e
    subst e
    have h1 := (h.inM i _ (List.getElem?_eq_getElem hi) x hx).2
    have h2 := (h.inM j _ (List.getElem?_eq_getElem hj) x hy).2
    omega
  · rw [List.mem_flatMap]
    constructor
    · rintro ⟨s, hs, ht⟩
      obtain ⟨i, hi⟩ := List.getElem?_of_mem hs
      exact (h.inM i s hi t ht).1
    · intro ht
      obtain ⟨s, hs, hts⟩ := h.inL t ht
      exact ⟨s, List.mem_of_getElem? hs, hts⟩
def notIn (D : Mt) (M : Mt) : Mt := M.filter fun t => decide (t.1 ∉ D.map (·.1))
theorem notIn_nil (M : Mt) : notIn [] M = M := by unfold notIn; simp
theorem notIn_snoc (D M : Mt) (t : Int × Int) : delM (notIn D M) t.1 = notIn (D ++ [t]) M := by
  unfold delM notIn
  rw [List.filter_filter]
  congr 1
  funext x
  simp only [List.map_append, List.map_cons, List.map_nil, List.mem_append, List.mem_singleton, not_or]
  by_cases h1 : x.1 = t.1 <;> by_cases h2 : x.1 ∈ D.map (·.1) <;> simp [h1, h2]
theorem notIn_due {D M : Mt} {now : Int} (hk : (M.map (·.1)).Nodup) (hp : D.Perm (dueS now M)) : notIn D M = M.filter fun t => decide (now < t.2) := by
  unfold notIn
  refine List.filter_congr fun t ht => ?_
  rw [decide_eq_decide]
  constructor
  · intro h
    rcases Int.lt_or_le now t.2 with h1 | h1
    · exact h1
    · exact absurd (List.mem_map.2 ⟨t, hp.mem_iff.2 (by unfold dueS; simp [ht, h1]), rfl⟩) h
  · intro h h2
    obtain ⟨x, hx, he⟩ := List.mem_map.1 h2
    have hx2 := hp.mem_iff.1 hx
    unfold dueS at hx2
    rw [List.mem_filter] at hx2
    obtain ⟨hxM, hxn⟩ := hx2
    have h3 := getM_of hk (show (t.1, x.2) ∈ M by rw [← he]; exact hxM)
    have h4 := getM_of hk (show (t.1, t.2) ∈ M from ht)
    rw [h3] at h4
    injection h4 with h4
    simp at hxn
    omega
def CanRel (F : Nat → Prop) (p : Nat) (mv : Option Nat) (M S' : Mt) (A : Option Addr) (n c : Nat) (w : World) (v9 : Value) (q : Nat) (wr : World) : Prop :=
  ∃ (A9 : Option Addr) (c9 : Nat) (Lq : List Sl), v9 = .slice A9 q c9 ∧ Ow 3 wr w.heap.size A9 q c9 (int64s ((S'.take q).map (·.1))) ∧ WhAt wr F p Lq mv (notIn (S'.take q) M) ∧ Tm 54 wr w.heap.size A n c S' ∧ Chg F w wr
def DueRel (w : World) (v5 : Value) (D : Mt) (wr : World) : Prop := ∃ (A : Option Addr) (n c : Nat), v5 = .slice A n c ∧ Tm 54 wr w.heap.size A n c D ∧ (A = none → n = 0) ∧ Below w.heap.size w wr
def SortsTm : Prop := ∀ (A : Option Addr) (n c base : Nat) (S : Mt) (w : World), Tm 54 w base A n c S → n ≤ 100000 → Calls Try.prog 19 #[.slice A n c, .func (.func 20) #[] #[]] w fun e w' =>
  e = .returned (.tuple #[]) ∧ ∃ S', S'.Perm S ∧ S'.Pairwise (fun x y => cmpT x y ≤ 0) ∧ Tm 54 w' base A n c S' ∧ w.grownBy w' (blk A)
theorem due_nil (now : Int) (w : World) : Calls Try.prog 13 #[.pointer none, .int .i64 now] w fun e w' => e = .returned (.slice none 0 0) ∧ w' = w := by
  go_enter Try.func13, Try.ntmps13
  go_wp2
  go_ret
  exact ⟨rfl, rfl⟩
def DuePost (F : Nat → Prop) (p : Nat) (mv : Option Nat) (M : Mt) (now : Int) (w : World) (e : Ending) (w' : World) : Prop :=
  ∃ (D : Mt) (A : Option Addr) (n c : Nat) (L' : List Sl), e = .returned (.slice A n c) ∧ D.Perm (dueS now M) ∧ D.Pairwise (fun x y => cmpT x y ≤ 0) ∧ Ow 3 w' w.heap.size A n c (int64s (D.map (·.1))) ∧
    WhAt w' F p L' mv (M.filter fun t => decide (now < t.2)) ∧ Chg F w w'
set_option maxHeartbeats 4000000 in
set_option maxRecDepth 100000 in
theorem due_any (hsort : SortsTm) (p : Nat) (L : List Sl) (mv : Option Nat) (M : Mt) (F : Nat → Prop) (now : Int) (w : World) (h : WhAt w F p L mv M) :
    Calls Try.prog 13 #[.pointer (some ⟨p, 0, none⟩), .int .i64 now] w (DuePost F p mv M now w) := by
  have HH := Lib.hid h
  have hpl := h.bk.lt
  have HS := Lib.hid hsort
  have HLE : Hid (∀ s ∈ L, s.S.length ≤ 256) := Lib.hid (fun s hs => by
    obtain ⟨i, hi⟩ := List.getElem?_of_mem hs
    rw [(h.sl s hs).1.len]
    exact h.row_le hi)
  clear h hsort
  have HD0 : Hid (DueRel w (.slice none 0 0) (dueL now (L.take 0)) w) := Lib.hid ⟨none, 0, 0, rfl, Tm.none_ _ _ _, fun _ => rfl, Below.refl _ _⟩
  go_enter Try.func13, Try.ntmps13
  go_wp2
  go_loopw [5, 14] (fun v5 v14 wr => ∃ i : Nat, i ≤ 64 ∧ v14 = .int .i64 i ∧ Hid (DueRel w v5 (dueL now (L.take i)) wr)) (fun _ v14 _ => 64 - (intOf v14).toNat)
  case atStart => exact ⟨0, Nat.zero_le _, rfl, HD0⟩
  case round =>
    obtain ⟨i, hi, rfl, HD⟩ := hrel
    rcases Nat.lt_or_ge i 64 with hi64 | hi64
    · obtain ⟨A5, n5, c5, rfl, hT5, hA5, hB5⟩ := HD.out
      have hW := HH.out.below hB5
      obtain ⟨s, hs, hsm⟩ := hW.get hi64
      have hci := hW.cell hs
      obtain ⟨hTs, _⟩ := hW.sl s hsm
      have hsn : s.n ≤ 256 := hW.row_le hs
      have HTS := Lib.hid ((HH.out.sl s hsm).1)
      have HSI := Lib.hid hs
      have hi64' : (i : Int) < 64 := by omega
      have HIN : Hid (DueRel w (.slice A5 n5 c5) (dueL now (L.take i) ++ dueS now (s.S.take 0)) wr) := Lib.hid ⟨A5, n5, c5, rfl, by simpa [dueS] using hT5, hA5, hB5⟩
      clear hT5 hA5 hB5 hW hTs hsm HD hs
      go_wp2
      go_loopw [5, 24] (fun v5 v24 wr => ∃ j : Nat, j ≤ s.n ∧ v24 = .int .i64 j ∧ Hid (DueRel w v5 (dueL now (L.take i) ++ dueS now (s.S.take j)) wr)) (fun _ v24 _ => s.n - (intOf v24).toNat)
      case atStart => exact ⟨0, Nat.zero_le _, rfl, HIN⟩
      case round =>
        obtain ⟨j, hj, rfl, HD⟩ := hrel
        obtain ⟨A5, n5, c5, rfl, hT5, hA5, hB5⟩ := HD.out
        rcases Nat.lt_or_ge j s.n with hjn | hjn
        · obtain ⟨t, ht⟩ : ∃ t, s.S[j]? = some t := ⟨_, List.getElem?_eq_getElem (by rw [HTS.out.len]; exact hjn)⟩
          obtain ⟨g, hAs, _, hgl, d0, d1, _, _⟩ := HTS.out.cell ht
          have e0 : wr.cell? ⟨g, j * 2, none⟩ = some (.int .i64 t.1) := (hB5.cell (p := ⟨g, j * 2, none⟩) hgl).trans d0
          have e1 : wr.cell? ⟨g, j * 2 + 1, none⟩ = some (.int .i64 t.2) := (hB5.cell (p := ⟨g, j * 2 + 1, none⟩) hgl).trans d1
          obtain ⟨Y, hY⟩ : ∃ Y, wr.alloc (.cells #[.int .i64 t.1, .int .i64 t.2] 54) = Y := ⟨_, rfl⟩
          have hBY : Below w.heap.size w Y := by rw [← hY]; exact hB5.alloc hB5.size _
          have hTY : Tm 54 Y w.heap.size A5 n5 c5 (dueL now (L.take i) ++ dueS now (s.S.take j)) := by rw [← hY]; exact hT5.alloc _
          have hzY : wr.heap.size + 1 = Y.heap.size := by rw [← hY, World.size_alloc]
          have hn5 : n5 ≤ 100000 := by
            have h1 := hT5.len
            have h2 := dueL_len now HLE.out i
            have h3 := dueS_len now (s.S.take j)
            rw [List.length_append] at h1
            rw [List.length_take] at h3
            omega
          have HY := Lib.hid hY
          have HQ : Hid (wr.heap.size + 1 = Y.heap.size) := Lib.hid hzY
          have HBY := Lib.hid hBY
          have HTY := Lib.hid hTY
          have HT := Lib.hid ht
          have HAS := Lib.hid hAs
          have hbY : w.heap.size ≤ Y.heap.size := hBY.size
          have hjn' : (j : Int) < s.n := by omega
          have hA5' := Lib.hid hA5
          clear hY hBY hTY hzY d0 d1 hT5 hA5 hB5 ht
          rw [hAs]
          rcases Decidable.em (t.2 ≤ now) with hle | hle
          · go_wp2_with (at_builtin; rw [HY.out]; refine ap_tm rfl (.tmp 32) (.tmp 34) rfl w.heap.size rfl HTY.out t rfl (congrArg (fun n => Value.slice (some ⟨n, 0, none⟩) 1 1) HQ.out) hn5 hbY ?_; intro g' c' w4 hT4 hg4 hn4)
            have HNX : Hid (DueRel w (.slice (some ⟨g', 0, none⟩) (n5 + 1) c') (dueL now (L.take i) ++ dueS now (s.S.take (j + 1))) w4) := Lib.hid ⟨_, _, _, rfl, by rw [dueS_snoc now HT.out, if_pos hle, ← List.append_assoc]; exact hT4, (fun e => by cases e), HBY.out.grown hg4 hbY (fun b e => (HTY.out.lt b e).1)⟩
            clear hT4 hg4 hn4
            go_roundw
            case rel => exact ⟨j + 1, by omega, by go_num, HNX⟩
            case measure => simp [intOf]; omega
          · have HNX : Hid (DueRel w (.slice A5 n5 c5) (dueL now (L.take i) ++ dueS now (s.S.take (j + 1))) Y) := Lib.hid ⟨_, _, _, rfl, by rw [dueS_snoc now HT.out, if_neg hle, List.append_nil]; exact HTY.out, hA5'.out, HBY.out⟩
            go_wp2
            go_roundw
            case rel => exact ⟨j + 1, by omega, by go_num, by rw [HY.out]; exact HNX⟩
            case measure => simp [intOf]; omega
        · have HNX : Hid (DueRel w (.slice A5 n5 c5) (dueL now (L.take (i + 1))) wr) := Lib.hid ⟨_, _, _, rfl, by
            rw [dueL_snoc now HSI.out]
            rw [List.take_of_length_le (l := s.S) (by rw [HTS.out.len]; exact hjn)] at hT5
            exact hT5, hA5, hB5⟩
          have hjn' : ¬ (j : Int) < s.n := by omega
          clear hT5 hA5 hB5
          go_wp2
          go_roundw
          case rel => exact ⟨i + 1, by omega, by go_num, HNX⟩
          case measure => simp [intOf]; omega
    · obtain rfl : i = 64 := by omega
      obtain ⟨A5, n5, c5, rfl, hT5, hA5, hB5⟩ := HD.out
      rw [List.take_of_length_le (by rw [HH.out.len]; exact Nat.le_refl _)] at hT5
      have hn5 : n5 ≤ 100000 := by
        have h1 := hT5.len
        have h2 := dueL_len now HLE.out 64
        rw [List.take_of_length_le (by rw [HH.out.len]; exact Nat.le_refl _)] at h2
        omega
      have HSO := Lib.hid (HS.out A5 n5 c5 w.heap.size _ wr hT5 hn5)
      have HT5 := Lib.hid hT5
      have HB5 := Lib.hid hB5
      clear hT5 hA5 hB5 HD
      go_wp2_with fail
      refine HSO.out.mono ?_
      rintro e W2 ⟨rfl, S', hperm, hsorted, hT2, hg2⟩
      have hB2 : Below w.heap.size w W2 := HB5.out.grown hg2 HB5.out.size (fun b e => (HT5.out.lt b e).1)
      have HPERM := Lib.hid (hperm.trans (dueL_perm HH.out.ok now))
      have HSORT := Lib.hid hsorted
      have hln := hT2.len
      have HLN := Lib.hid hln
      have HC0 : Hid (CanRel (fun b => F b ∧ b < w.heap.size) p mv M S' A5 n5 c5 w (.slice none 0 0) 0 W2) := Lib.hid ⟨none, 0, L, rfl, Ow.none_ _ _ _, by
        rw [List.take_zero, notIn_nil]
        exact HH.out.norm.below hB2, hT2, Chg.of_below hB2⟩
      clear hperm hsorted hT2 hg2 hB2 hln
      go_wp2
      go_loopw [9, 42] (fun v9 v42 wr => ∃ q : Nat, q ≤ n5 ∧ v42 = .int .i64 q ∧ Hid (CanRel (fun b => F b ∧ b < w.heap.size) p mv M S' A5 n5 c5 w v9 q wr)) (fun _ v42 _ => n5 - (intOf v42).toNat)
      case atStart => exact ⟨0, Nat.zero_le _, rfl, HC0⟩
      case round =>
        obtain ⟨q, hq, rfl, HC⟩ := hrel
        obtain ⟨A9, c9, Lq, rfl, hO9, hW9, hT9, hC9⟩ := HC.out
        rcases Nat.lt_or_ge q n5 with hqn | hqn
        · obtain ⟨t, ht⟩ : ∃ t, S'[q]? = some t := ⟨_, List.getElem?_eq_getElem (by rw [HLN.out]; exact hqn)⟩
          obtain ⟨g, hAs, hgb, hgl, d0, d1, _, _⟩ := hT9.cell ht
          have htM : t ∈ M := by
            have := HPERM.out.mem_iff.1 (List.mem_of_getElem? ht)
            unfold dueS at this
            exact (List.mem_filter.1 this).1
          obtain ⟨Y, hY⟩ : ∃ Y, wr.alloc (.cells #[.int .i64 t.1, .int .i64 t.2] 54) = Y := ⟨_, rfl⟩
          obtain ⟨gt, hgt⟩ : ∃ gt, wr.heap.size = gt := ⟨_, rfl⟩
          have hBY : Below wr.heap.size wr Y := by rw [← hY]; exact (Below.refl _ _).alloc (Nat.le_refl _) _
          have hYb : Bk Y gt 54 #[.int .i64 t.1, .int .i64 t.2] := by rw [← hY, ← hgt]; exact Bk.new wr _ _
          have hzr := hC9.size
          have HCAN := Lib.hid (cancel_any p Lq mv _ _ t.1 (HH.out.ok.bd t htM).1 Y (hW9.below hBY))
          have HY := Lib.hid hY
          have HGT := Lib.hid hgt
          have HBY := Lib.hid hBY
          have HYB := Lib.hid hYb
          have HT := Lib.hid ht
          have HAS := Lib.hid hAs
          have HO9 := Lib.hid hO9
          have HT9 := Lib.hid hT9
          have HC9 := Lib.hid hC9
          have hqn' : (q : Int) < n5 := by omega
          have hyl := hYb.lt
          clear hY hgt hBY hYb hO9 hT9 hC9 hW9 ht htM HC
          rw [hAs]
          go_wp2_with fail
          rw [HY.out, HGT.out]
          refine HCAN.out.mono ?_
          rintro e W3 ⟨rfl, L3, hW3, hC3⟩
          have hnF : ∀ b, w.heap.size ≤ b → ¬ (F b ∧ b < w.heap.size) := fun b hb h => by omega
          have hY3 := HYB.out.chg hC3 (hnF gt (by have := HGT.out; omega))
          have y0 : W3.cell? ⟨gt, 0, none⟩ = some (.int .i64 t.1) := hY3.cell 0
          have hO3 : Ow 3 W3 w.heap.size A9 q c9 (int64s ((S'.take q).map (·.1))) := by
            have h1 := Ow.stays HO9.out HBY.out
            refine ⟨h1.1, ?_⟩
            rcases h1.2 with h2 | ⟨g', cap, cur, h2, h3, h4, h5⟩
            · exact .inl h2
            · exact .inr ⟨g', cap, cur, h2, h3, (hC3.block g' (Array.getElem?_eq_some_iff.1 h4).1 (hnF g' h3)).trans h4, h5⟩
          have hT3 : Tm 54 W3 w.heap.size A5 n5 c5 S' := (HT9.out.stays HBY.out).chg hC3 (fun b hb => hnF b (HT9.out.lt b hb).1)
          have hzY : Y.heap.size ≤ W3.heap.size := hC3.size
          have hz3 : w.heap.size ≤ W3.heap.size := by have := HBY.out.size; omega
          have HT3 := Lib.hid hT3
          have HO3 := Lib.hid hO3
          have HW3 := Lib.hid hW3
          have HC3 := Lib.hid hC3
          have HNF := Lib.hid hnF
          have hq1 : q ≤ 100000 := by omega
          clear hY3 hT3 hW3 hC3 hnF hO3
          go_wp2_with (at_builtin; refine ap_int rfl (.tmp 50) (.tmp 53) rfl w.heap.size rfl HO3.out t.1 rfl hq1 hz3 ?_; intro A' c' W4 hO4 hg4 hn4)
          have hB4 : Below w.heap.size W3 W4 := (Below.refl _ _).grown hg4 hz3 (fun b e => (Ow.lt HO3.out b e).1)
          have HNX : Hid (CanRel (fun b => F b ∧ b < w.heap.size) p mv M S' A5 n5 c5 w (.slice A' (q + 1) c') (q + 1) W4) := Lib.hid ⟨A', c', L3, rfl, by
              rw [List.take_add_one, HT.out, List.map_append]
              exact hO4, by
              rw [List.take_add_one, HT.out]
              show WhAt W4 _ p L3 mv (notIn (S'.take q ++ [t]) M)
              rw [← notIn_snoc]
              exact HW3.out.keep (fun b hb _ => hB4.block b hb.2) (fun _ h => h), by
              refine HT3.out.of_block fun b hb => hg4.block b (HT3.out.lt b hb).2 (fun e => ?_)
              obtain ⟨cur, h1⟩ := HT3.out.blk_cells hb
              rcases Ow.cases_ HO3.out with ⟨h2, _⟩ | ⟨g', cur', h2, _, h3, _⟩
              · rw [h2] at e; cases e
              · rw [h2] at e
                have e2 : b = g' := by simpa [blk] using e
                subst e2
                rw [h1] at h3
                injection h3 with h3
                injection h3 with _ h3
                exact absurd h3 (by decide), by
              refine ((HC9.out.trans (Chg.of_below (F := fun _ => False) HBY.out) (fun _ h => h.elim)).trans HC3.out (fun x h => .inl h)).trans (G := fun b => w.heap.size ≤ b) ⟨hB4.os, hB4.tape, hB4.output, hB4.size, fun b _ hb => hB4.block b (by omega)⟩ (fun x h => .inr h)⟩
          clear hO4 hg4 hn4 hB4 y0
          go_roundw
          case rel => exact ⟨q + 1, by omega, by go_num, by rw [← HAS.out]; exact HNX⟩
          case measure => simp [intOf]; omega
        · have hqn' : ¬ (q : Int) < n5 := by omega
          obtain rfl : q = n5 := by omega
          have hqe : S'.take q = S' := List.take_of_length_le (by rw [HLN.out]; exact Nat.le_refl _)
          rw [hqe] at hO9 hW9
          rw [notIn_due HH.out.ok.keys HPERM.out] at hW9
          have HO9 := Lib.hid hO9
          have HW9 := Lib.hid hW9
          have HC9 := Lib.hid hC9
          clear hO9 hW9 hC9 hT9 hqe HC
          go_wp2
          go_ret
          exact ⟨S', A9, q, c9, Lq, rfl, HPERM.out, HSORT.out, HO9.out, HW9.out.keep (fun _ _ _ => rfl) (fun _ h => h.1), HC9.out.mono (fun x _ h => h.1)⟩
end Go.Proofs.Ytnnblakjaiccfaa
