/- Proved: a key's timer is set: Set of a wheel, by its walk. Conditions: the wheel lies in memory. -/
import Derived.Test.YtnnblakjaiccfaaCan
set_option linter.unusedVariables false
set_option linter.unusedSimpArgs false
namespace Go.Proofs.Ytnnblakjaiccfaa
open Go.RowKit

theorem WhAt.row_le {w : World} {F : Nat → Prop} {p : Nat} {L : List Sl} {mv : Option Nat} {M : Mt} (h : WhAt w F p L mv M) {i : Nat} {s : Sl} (hs : L[i]? = some s) : s.n ≤ 256 := by
  have hm := List.mem_of_getElem? hs
  have h1 := (h.sl s hm).1.len
  have h3 := h.ok.nd s hm
  have h5 : (s.S.map (·.1)) ⊆ (M.map (·.1)) := fun x hx => by
    obtain ⟨t, ht, rfl⟩ := List.mem_map.1 hx
    exact List.mem_map.2 ⟨t, (h.ok.inM i _ hs t ht).1, rfl⟩
  have := List.Nodup.length_le_of_subset h3 h5
  simp at this
  have := h.ok.room
  omega
theorem getM_del (M : Mt) (k : Int) : getM (delM M k) k = none := by
  unfold getM
  rw [Option.map_eq_none_iff, List.find?_eq_none]
  intro t ht
  simpa using (mem_delM.1 ht).2
theorem delM_lt : ∀ {M : Mt} {k : Int}, (getM M k).isSome = true → (delM M k).length < M.length
  | M, k, h => by
    obtain ⟨a, ha⟩ := Option.isSome_iff_exists.1 h
    have hm := getM_some ha
    have hle := List.length_filter_le (fun t : Int × Int => decide (t.1 ≠ k)) M
    rcases Nat.lt_or_ge (delM M k).length M.length with h1 | h1
    · exact h1
    · have he : (delM M k).length = M.length := by unfold delM at h1 ⊢; omega
      unfold delM at he
      rw [List.length_filter_eq_length_iff] at he
      have := he _ hm
      simp at this
def setM (M : Mt) (k a : Int) : Int × Mt := if a < 0 ∨ 1099511627776 < a then (1, M) else if getM M k = none ∧ 256 ≤ M.length then (6, M) else (0, delM M k ++ [(k, a)])
def SetPost (F : Nat → Prop) (p : Nat) (M : Mt) (k a : Int) (w : World) (e : Ending) (w' : World) : Prop :=
  e = .returned (.int .i64 (setM M k a).1) ∧ ∃ F' L' mv', WhAt w' F' p L' mv' (setM M k a).2 ∧ Chg F w w' ∧ ∀ x, F' x → F x ∨ w.heap.size ≤ x
set_option maxHeartbeats 4000000 in
set_option maxRecDepth 100000 in
theorem set_any (p : Nat) (L : List Sl) (mv : Option Nat) (M : Mt) (F : Nat → Prop) (k a : Int) (hk : okI k) (ha : okI a) (w : World) (h : WhAt w F p L mv M) :
    Calls Try.prog 9 #[.pointer (some ⟨p, 0, none⟩), .int .i64 k, .int .i64 a] w (SetPost F p M k a w) := by
  have HH := Lib.hid h
  have HK := Lib.hid hk
  have HOWN := Lib.hid h.own
  rcases (by omega : a < 0 ∨ (0 ≤ a ∧ 1099511627776 < a) ∨ (0 ≤ a ∧ a ≤ 1099511627776)) with d | ⟨d, d2⟩ | ⟨ha0, ha1⟩
  · have HSM : Hid (setM M k a = (1, M)) := Lib.hid (by unfold setM; rw [if_pos (.inl d)])
    clear h hk ha
    go_enter Try.func9, Try.ntmps9
    go_wp2
    go_ret
    unfold SetPost
    rw [HSM.out]
    exact ⟨rfl, F, L, mv, HH.out, Chg.refl _ _, fun _ h => .inl h⟩
  · have HSM : Hid (setM M k a = (1, M)) := Lib.hid (by unfold setM; rw [if_pos (.inr d2)])
    clear h hk ha
    go_enter Try.func9, Try.ntmps9
    go_wp2
    go_ret
    unfold SetPost
    rw [HSM.out]
    exact ⟨rfl, F, L, mv, HH.out, Chg.refl _ _, fun _ h => .inl h⟩
  obtain ⟨i, hi⟩ : ∃ i : Nat, a % 64 = i := ⟨(a % 64).toNat, by omega⟩
  have hi64 : i < 64 := by omega
  have HI := Lib.hid hi
  have HCAN := Lib.hid (cancel_any p L mv M F k hk w h)
  clear h hi hk ha
  have hd1 : decide (a < 0) = false := decide_eq_false (by omega)
  have hd2 : decide (1099511627776 < a) = false := decide_eq_false (by omega)
  have qm : ∀ (w : World) (r : Option Nat), (binOp .eql mapT (.map r) (.map none)).run Try.prog w = .ok (.bool r.isNone) w := fun w r => run_eql_map_nil w _ _ _ r mapU
  go_enter Try.func9, Try.ntmps9
  unfold SetPost
  rcases (by by_cases h1 : getM M k = none <;> rcases Nat.lt_or_ge M.length 256 with h2 | h2 <;> simp [h1] <;> omega : (getM M k = none ∧ 256 ≤ M.length) ∨ (getM M k = none ∧ M.length < 256) ∨ (¬ getM M k = none)) with ⟨g1, g2⟩ | ⟨g1, g2⟩ | g1
  · have HSM : Hid (setM M k a = (6, M)) := Lib.hid (by unfold setM; rw [if_neg (by omega), if_pos ⟨g1, g2⟩])
    have HG1 := Lib.hid g1
    unfold CanPost at HCAN
    rw [g1] at HCAN
    clear g1
    go_wp2_with fail
    refine HCAN.out.mono ?_
    rintro e W1 ⟨rfl, L1, h1, hC⟩
    rw [delM_none HG1.out] at h1
    have HC := Lib.hid hC
    have HH1 := Lib.hid h1
    have c64 := h1.cellM
    have g2' : (256 : Int) ≤ M.length := by omega
    have g3' : decide ((256 : Int) ≤ (M.length : Int)) = true := decide_eq_true g2'
    have g4' : decide (256 ≤ M.length) = true := decide_eq_true g2
    have hmp := h1.map
    have hno := h1.nomap
    clear h1 hC
    rcases mv with _ | b
    · have := hno rfl
      subst this
      simp at g2
    · have hI := (hmp b rfl).2
      have HLM := Lib.hid (show (M.map mEnt).length = M.length from List.length_map _)
      clear hmp hno
      have hlen : ∀ ty, (Builtin.len_ #[25] ty #[.map (some b)]).run Try.prog W1 = .ok (.int .i64 M.length) W1 := fun ty => by have := hI.len mapU ty; rwa [HLM.out] at this
      go_wp2
      go_ret
      rw [HSM.out]
      exact ⟨rfl, F, L1, _, HH1.out, HC.out, fun _ h => .inl h⟩
  · have HSM : Hid (setM M k a = (0, delM M k ++ [(k, a)])) := Lib.hid (by unfold setM; rw [if_neg (by omega), if_neg (fun h => by have := h.2; omega)])
    unfold CanPost at HCAN
    have HG1 := Lib.hid g1
    rw [g1] at HCAN
    clear g1
    go_wp2_with fail
    refine HCAN.out.mono ?_
    rintro e W1 ⟨rfl, L1, h1, hC⟩
    obtain ⟨M1, hM1⟩ : ∃ M1, delM M k = M1 := ⟨_, rfl⟩
    have HGM : Hid (getM M1 k = none) := Lib.hid (by rw [← hM1]; exact getM_del M k)
    have hroom : M1.length < 256 := by rw [← hM1, delM_none HG1.out]; exact g2
    rw [hM1] at h1 HSM
    have HC1 := Lib.hid hC
    have HH1 := Lib.hid h1
    have c64 := h1.cellM
    have fz64 := h1.bk.frozen 64
    have hmp := h1.map
    have hno := h1.nomap
    have hplw := h1.bk.lt
    clear h1 hC hM1
    rcases mv with _ | b
    · have hM0 := hno rfl
      have HM0 := Lib.hid hM0
      have hmm := @run_makeMap Try.prog
      obtain ⟨b, hb⟩ : ∃ b, W1.heap.size = b := ⟨_, rfl⟩
      obtain ⟨X, hX⟩ : ∃ X, (W1.setCell ⟨p, 64, none⟩ (.map (some b))).alloc (.map #[] 0) = X := ⟨_, rfl⟩
      have hzs : (W1.setCell ⟨p, 64, none⟩ (.map (some b))).heap.size = b := by rw [size_setCell]; exact hb
      have hIX : IM mkI okI X b (M1.map mEnt) := by
        rw [hM0, ← hX]
        have := IM.made (mk := mkI) (ok := okI) (W1.setCell ⟨p, 64, none⟩ (.map (some b)))
        rwa [hzs] at this
      have hbkX : Bk X p 27 (L1.map slV ++ [Value.map (some b)]).toArray := by
        rw [← hX]
        have h := (HH1.out.bk.set 64 (.map (some b))).alloc (.map #[] 0)
        have e : (L1.map slV ++ [Value.map none]).toArray.setIfInBounds 64 (.map (some b)) = (L1.map slV ++ [Value.map (some b)]).toArray := by
          have hl : (L1.map slV).length = 64 := by rw [List.length_map]; exact HH1.out.len
          rw [List.setIfInBounds_toArray, List.set_append_right _ _ (by omega), hl]
          rfl
        rw [e] at h
        exact h
      have hkX : ∀ b', b' ≠ p → b' < W1.heap.size → X.heap[b']? = W1.heap[b']? := fun b' n1 hl => by
        rw [← hX, heap_alloc_old _ _ _ (by rw [size_setCell]; exact hl)]
        exact Below.heap_setCell W1 ⟨p, 64, none⟩ _ b' n1
      have hXX : WhAt X (fun x => F x ∨ x = b) p L1 (some b) M1 := by
        refine ⟨hbkX, HH1.out.len, .inl HOWN.out, (fun e => by cases e), fun b' e => ?_, fun s hs => ?_, HH1.out.sep, HH1.out.ok⟩
        · injection e with e
          subst e
          exact ⟨.inr rfl, hIX⟩
        · obtain ⟨j, hj⟩ := List.getElem?_of_mem hs
          obtain ⟨q1, q2⟩ := HH1.out.sl s hs
          exact ⟨q1.of_block fun g hg => hkX g (HH1.out.row_ne hj hg).1 (q1.lt g hg).2, fun x hx => .inl (q2 x hx)⟩
      have HX := Lib.hid hXX
      have HC : Hid (Chg F w X) := Lib.hid (by rw [← hX]; exact (HC1.out.setCell (p := ⟨p, 64, none⟩) (.inl HOWN.out) _).alloc _)
      obtain ⟨F2, hF2⟩ : ∃ F2, (fun x => F x ∨ x = b) = F2 := ⟨_, rfl⟩
      have HF2 : Hid (∀ x, F2 x → F x ∨ w.heap.size ≤ x) := Lib.hid (fun x hx => by
        rw [← hF2] at hx
        rcases hx with hx | rfl
        · exact .inl hx
        · exact .inr (by rw [← hb]; exact HC1.out.size))
      rw [hF2] at HX
      have HXE := Lib.hid hX
      have HBE := Lib.hid hb
      clear hM0 hX hzs hIX hbkX hkX hXX hF2 hb hmp hno
      go_wp2_with fail
      rw [HBE.out, HXE.out]
      have HX' := HX.out
      obtain ⟨hFb, hI⟩ := HX'.map b rfl
      have hIc : X.cell? ⟨p, 64, none⟩ = some (.map (some b)) := HX'.cellM
      have hbp := HX'.map_ne rfl
      obtain ⟨s, hs, hsm⟩ := HX'.get hi64
      have hrn : ∀ x, blk s.A = some x → x ≠ p ∧ some b ≠ some x := fun x hx => HX'.row_ne hs hx
      obtain ⟨hT, hF⟩ := HX'.sl s hsm
      have hsn : s.n ≤ 100000 := by have := HX'.row_le hs; omega
      have hpl := HX'.bk.lt
      have HT := Lib.hid hT
      have HF := Lib.hid hF
      have HRN := Lib.hid hrn
      have HS := Lib.hid hs
      have HBP := Lib.hid hbp
      have HFB := Lib.hid hFb
      have HBK := Lib.hid HX'.bk
      have HSC := Lib.hid (HX'.cell hs)
      clear hT hF hrn hs hsm hbp hFb HX'
      obtain ⟨W3, hst, hI3, hg3, hs3⟩ := hI.store keyI mapU HK.out (.int .i64 a)
      have hst' : (Instr.mapUpdate 25 (.map (some b)) (.int .i64 k) (.int .i64 a)).run Try.prog X = .ok () W3 := hst
      have hp3 : Bk W3 p 27 (L1.map slV ++ [Value.map (some b)]).toArray := (hg3.block p hpl (fun e => HBP.out (by injection e with e; exact e.symm))).trans HBK.out
      have ci3 : W3.cell? ⟨p, i, none⟩ = some (.slice s.A s.n s.c) := (World.cell?_of_block (a := ⟨p, i, none⟩) (hg3.block p hpl (fun e => HBP.out (by injection e with e; exact e.symm)))).trans HSC.out
      have hT3 : Tm 54 W3 0 s.A s.n s.c s.S := HT.out.kept hg3 (by
        cases hA : blk s.A with
        | none => exact .inl rfl
        | some x => exact .inr (fun e => (HRN.out x hA).2 e.symm))
      have HP3 := Lib.hid hp3
      have HI3 := Lib.hid hI3
      have HG3 := Lib.hid hg3
      have hz3 := hg3.size
      have hp3l := hp3.lt
      clear hp3 hI3 hg3 hs3 hI hst
      go_simp
      go_wp2_with fail
      refine (slot_any p a ha0 ha1 i HI.out W3).mono ?_
      rintro e w' ⟨rfl, rfl⟩
      go_wp2_with (at_builtin; refine ap_tm rfl (.tmp 51) (.tmp 55) rfl 0 rfl hT3 (k, a) rfl rfl hsn (Nat.zero_le _) ?_; intro g' c' W4 hT4 hg4 hn4; have hp4 : Bk W4 p 27 (L1.map slV ++ [Value.map (some b)]).toArray := (hg4.block p hp3l (fun e => (HRN.out p e.symm).1 rfl)).trans HP3.out; have fz4 := hp4.frozen i; have ci4 : W4.cell? ⟨p, i, none⟩ = some (.slice s.A s.n s.c) := (World.cell?_of_block (a := ⟨p, i, none⟩) (hg4.block p hp3l (fun e => (HRN.out p e.symm).1 rfl))).trans ci3)
      have HT4 := Lib.hid hT4
      have HG4 := Lib.hid hg4
      have HN4 := Lib.hid hn4
      have HP4 := Lib.hid hp4
      go_ret
      have hI4 : IM mkI okI W4 b ((M1 ++ [(k, a)]).map mEnt) := by
        have h := HI3.out.kept HG4.out (fun e => (HRN.out b e.symm).2 rfl)
        rw [putL_new (fun q hq e => by
          obtain ⟨t, ht, rfl⟩ := List.mem_map.1 hq
          exact getM_none HGM.out t ht e)] at h
        rw [List.map_append]
        exact h
      have hkeep : ∀ b', b' ≠ p → blk s.A ≠ some b' → some b ≠ some b' → b' < X.heap.size → (W4.setCell ⟨p, i, none⟩ (.slice (some ⟨g', 0, none⟩) (s.n + 1) c')).heap[b']? = X.heap[b']? := fun b' n1 n2 n3 hl => by
        rw [Below.heap_setCell W4 ⟨p, i, none⟩ _ b' n1, HG4.out.block b' (by omega) (fun e => n2 e.symm)]
        exact HG3.out.block b' hl (fun e => n3 e.symm)
      have hgp : g' ≠ p := fun e => by
        rcases HN4.out with h | h
        · exact (HRN.out g' h).1 e
        · omega
      have hfin : WhAt (W4.setCell ⟨p, i, none⟩ (.slice (some ⟨g', 0, none⟩) (s.n + 1) c')) (fun x => F2 x ∨ x = g') p (L1.set i ⟨some ⟨g', 0, none⟩, s.n + 1, c', s.S ++ [(k, a)]⟩) (some b) (M1 ++ [(k, a)]) := by
        refine HX.out.upd HS.out (fun b' _ n1 n2 n3 hl => hkeep b' n1 n2 n3 hl) (whBk_set HP4.out (by rw [HX.out.len]; exact hi64) ⟨some ⟨g', 0, none⟩, s.n + 1, c', s.S ++ [(k, a)]⟩) ⟨?_, fun x hx => .inr (by simpa [blk] using hx.symm)⟩ ?_ (fun b' hb' => ?_) (fun e => by cases e) (fun x hx => .inl hx) (WhOk.add HX.out.ok HK.out ⟨ha0, ha1⟩ HGM.out hroom HS.out HI.out)
        · refine HT4.out.of_block fun x hx => Below.heap_setCell W4 ⟨p, i, none⟩ _ x ?_
          have : g' = x := by simpa [blk] using hx
          rw [← this]; exact hgp
        · rcases HN4.out with h | h
          · exact .inl h.symm
          · refine .inr (fun x hx => ?_)
            have : g' = x := by simpa [blk] using hx
            omega
        · injection hb' with hb'
          subst hb'
          exact ⟨.inl HFB.out, hI4.setCell HBP.out _⟩
      have hc : Chg F w (W4.setCell ⟨p, i, none⟩ (.slice (some ⟨g', 0, none⟩) (s.n + 1) c')) := by
        have c3 : Chg F w W3 := HC.out.trans (Chg.of_grown (F := fun x => x = b) HG3.out (fun x e => by injection e with e; exact e.symm)) (fun x e => by rw [e]; exact HF2.out b HFB.out)
        have c4 : Chg F w W4 := c3.trans (Chg.of_grown (F := fun x => blk s.A = some x) HG4.out (fun x e => e)) (fun x e => HF2.out x (HF.out x e))
        exact c4.setCell (.inl HOWN.out) _
      rw [HSM.out]
      exact ⟨rfl, _, _, _, hfin, hc, fun x hx => by
        rcases hx with hx | rfl
        · exact HF2.out x hx
        · rcases HN4.out with h | h
          · exact HF2.out x (HF.out x h)
          · exact .inr (by have := HC.out.size; omega)⟩
    · obtain ⟨F2, hF2⟩ : ∃ F2, F = F2 := ⟨_, rfl⟩
      obtain ⟨X, hX⟩ : ∃ X, W1 = X := ⟨_, rfl⟩
      have HX : Hid (WhAt X F2 p L1 (some b) M1) := by rw [← hX, ← hF2]; exact HH1
      have HC : Hid (Chg F w X) := by rw [← hX]; exact HC1
      have HF2 : Hid (∀ x, F2 x → F x ∨ w.heap.size ≤ x) := Lib.hid (fun x hx => by rw [hF2]; exact .inl hx)
      subst hX
      have hIl := (hmp b rfl).2
      clear hmp hno
      have HLM := Lib.hid (show (M1.map mEnt).length = M1.length from List.length_map _)
      have hr256 : ¬ (256 : Int) ≤ M1.length := by omega
      have hr257 : decide ((256 : Int) ≤ M1.length) = false := decide_eq_false hr256
      have hr258 : decide (256 ≤ M1.length) = false := decide_eq_false (by omega)
      have hlen : ∀ ty, (Builtin.len_ #[25] ty #[.map (some b)]).run Try.prog W1 = .ok (.int .i64 M1.length) W1 := fun ty => by have := hIl.len mapU ty; rwa [HLM.out] at this
      have HX' := HX.out
      obtain ⟨hFb, hI⟩ := HX'.map b rfl
      have hIc : W1.cell? ⟨p, 64, none⟩ = some (.map (some b)) := HX'.cellM
      have hbp := HX'.map_ne rfl
      obtain ⟨s, hs, hsm⟩ := HX'.get hi64
      have hrn : ∀ x, blk s.A = some x → x ≠ p ∧ some b ≠ some x := fun x hx => HX'.row_ne hs hx
      obtain ⟨hT, hF⟩ := HX'.sl s hsm
      have hsn : s.n ≤ 100000 := by have := HX'.row_le hs; omega
      have hpl := HX'.bk.lt
      have HT := Lib.hid hT
      have HF := Lib.hid hF
      have HRN := Lib.hid hrn
      have HS := Lib.hid hs
      have HBP := Lib.hid hbp
      have HFB := Lib.hid hFb
      have HBK := Lib.hid HX'.bk
      have HSC := Lib.hid (HX'.cell hs)
      clear hT hF hrn hs hsm hbp hFb HX'
      obtain ⟨W3, hst, hI3, hg3, hs3⟩ := hI.store keyI mapU HK.out (.int .i64 a)
      have hst' : (Instr.mapUpdate 25 (.map (some b)) (.int .i64 k) (.int .i64 a)).run Try.prog W1 = .ok () W3 := hst
      have hp3 : Bk W3 p 27 (L1.map slV ++ [Value.map (some b)]).toArray := (hg3.block p hpl (fun e => HBP.out (by injection e with e; exact e.symm))).trans HBK.out
      have ci3 : W3.cell? ⟨p, i, none⟩ = some (.slice s.A s.n s.c) := (World.cell?_of_block (a := ⟨p, i, none⟩) (hg3.block p hpl (fun e => HBP.out (by injection e with e; exact e.symm)))).trans HSC.out
      have hT3 : Tm 54 W3 0 s.A s.n s.c s.S := HT.out.kept hg3 (by
        cases hA : blk s.A with
        | none => exact .inl rfl
        | some x => exact .inr (fun e => (HRN.out x hA).2 e.symm))
      have HP3 := Lib.hid hp3
      have HI3 := Lib.hid hI3
      have HG3 := Lib.hid hg3
      have hz3 := hg3.size
      have hp3l := hp3.lt
      clear hp3 hI3 hg3 hs3 hI hst
      go_wp2_with fail
      refine (slot_any p a ha0 ha1 i HI.out W3).mono ?_
      rintro e w' ⟨rfl, rfl⟩
      go_wp2_with (at_builtin; refine ap_tm rfl (.tmp 51) (.tmp 55) rfl 0 rfl hT3 (k, a) rfl rfl hsn (Nat.zero_le _) ?_; intro g' c' W4 hT4 hg4 hn4; have hp4 : Bk W4 p 27 (L1.map slV ++ [Value.map (some b)]).toArray := (hg4.block p hp3l (fun e => (HRN.out p e.symm).1 rfl)).trans HP3.out; have fz4 := hp4.frozen i; have ci4 : W4.cell? ⟨p, i, none⟩ = some (.slice s.A s.n s.c) := (World.cell?_of_block (a := ⟨p, i, none⟩) (hg4.block p hp3l (fun e => (HRN.out p e.symm).1 rfl))).trans ci3)
      have HT4 := Lib.hid hT4
      have HG4 := Lib.hid hg4
      have HN4 := Lib.hid hn4
      have HP4 := Lib.hid hp4
      go_ret
      have hI4 : IM mkI okI W4 b ((M1 ++ [(k, a)]).map mEnt) := by
        have h := HI3.out.kept HG4.out (fun e => (HRN.out b e.symm).2 rfl)
        rw [putL_new (fun q hq e => by
          obtain ⟨t, ht, rfl⟩ := List.mem_map.1 hq
          exact getM_none HGM.out t ht e)] at h
        rw [List.map_append]
        exact h
      have hkeep : ∀ b', b' ≠ p → blk s.A ≠ some b' → some b ≠ some b' → b' < W1.heap.size → (W4.setCell ⟨p, i, none⟩ (.slice (some ⟨g', 0, none⟩) (s.n + 1) c')).heap[b']? = W1.heap[b']? := fun b' n1 n2 n3 hl => by
        rw [Below.heap_setCell W4 ⟨p, i, none⟩ _ b' n1, HG4.out.block b' (by omega) (fun e => n2 e.symm)]
        exact HG3.out.block b' hl (fun e => n3 e.symm)
      have hgp : g' ≠ p := fun e => by
        rcases HN4.out with h | h
        · exact (HRN.out g' h).1 e
        · omega
      have hfin : WhAt (W4.setCell ⟨p, i, none⟩ (.slice (some ⟨g', 0, none⟩) (s.n + 1) c')) (fun x => F2 x ∨ x = g') p (L1.set i ⟨some ⟨g', 0, none⟩, s.n + 1, c', s.S ++ [(k, a)]⟩) (some b) (M1 ++ [(k, a)]) := by
        refine HX.out.upd HS.out (fun b' _ n1 n2 n3 hl => hkeep b' n1 n2 n3 hl) (whBk_set HP4.out (by rw [HX.out.len]; exact hi64) ⟨some ⟨g', 0, none⟩, s.n + 1, c', s.S ++ [(k, a)]⟩) ⟨?_, fun x hx => .inr (by simpa [blk] using hx.symm)⟩ ?_ (fun b' hb' => ?_) (fun e => by cases e) (fun x hx => .inl hx) (WhOk.add HX.out.ok HK.out ⟨ha0, ha1⟩ HGM.out hroom HS.out HI.out)
        · refine HT4.out.of_block fun x hx => Below.heap_setCell W4 ⟨p, i, none⟩ _ x ?_
          have : g' = x := by simpa [blk] using hx
          rw [← this]; exact hgp
        · rcases HN4.out with h | h
          · exact .inl h.symm
          · refine .inr (fun x hx => ?_)
            have : g' = x := by simpa [blk] using hx
            omega
        · injection hb' with hb'
          subst hb'
          exact ⟨.inl HFB.out, hI4.setCell HBP.out _⟩
      have hc : Chg F w (W4.setCell ⟨p, i, none⟩ (.slice (some ⟨g', 0, none⟩) (s.n + 1) c')) := by
        have c3 : Chg F w W3 := HC.out.trans (Chg.of_grown (F := fun x => x = b) HG3.out (fun x e => by injection e with e; exact e.symm)) (fun x e => by rw [e]; exact HF2.out b HFB.out)
        have c4 : Chg F w W4 := c3.trans (Chg.of_grown (F := fun x => blk s.A = some x) HG4.out (fun x e => e)) (fun x e => HF2.out x (HF.out x e))
        exact c4.setCell (.inl HOWN.out) _
      rw [HSM.out]
      exact ⟨rfl, _, _, _, hfin, hc, fun x hx => by
        rcases hx with hx | rfl
        · exact HF2.out x hx
        · rcases HN4.out with h | h
          · exact HF2.out x (HF.out x h)
          · exact .inr (by have := HC.out.size; omega)⟩
  · have HSM : Hid (setM M k a = (0, delM M k ++ [(k, a)])) := Lib.hid (by unfold setM; rw [if_neg (by omega), if_neg (fun h => by exact g1 h.1)])
    unfold CanPost at HCAN
    have hsome : (getM M k).isSome = true := by cases hq : getM M k with | none => exact absurd hq g1 | some _ => rfl
    have hroom0 : (delM M k).length < 256 := by have h1 := delM_lt hsome; have h2 := HH.out.ok.room; omega
    rw [hsome] at HCAN
    clear g1 hsome
    go_wp2_with fail
    refine HCAN.out.mono ?_
    rintro e W1 ⟨rfl, L1, h1, hC⟩
    obtain ⟨M1, hM1⟩ : ∃ M1, delM M k = M1 := ⟨_, rfl⟩
    have HGM : Hid (getM M1 k = none) := Lib.hid (by rw [← hM1]; exact getM_del M k)
    have hroom : M1.length < 256 := by rw [← hM1]; exact hroom0
    rw [hM1] at h1 HSM
    have HC1 := Lib.hid hC
    have HH1 := Lib.hid h1
    have c64 := h1.cellM
    have fz64 := h1.bk.frozen 64
    have hmp := h1.map
    have hno := h1.nomap
    have hplw := h1.bk.lt
    clear h1 hC hM1
    rcases mv with _ | b
    · have hM0 := hno rfl
      have HM0 := Lib.hid hM0
      have hmm := @run_makeMap Try.prog
      obtain ⟨b, hb⟩ : ∃ b, W1.heap.size = b := ⟨_, rfl⟩
      obtain ⟨X, hX⟩ : ∃ X, (W1.setCell ⟨p, 64, none⟩ (.map (some b))).alloc (.map #[] 0) = X := ⟨_, rfl⟩
      have hzs : (W1.setCell ⟨p, 64, none⟩ (.map (some b))).heap.size = b := by rw [size_setCell]; exact hb
      have hIX : IM mkI okI X b (M1.map mEnt) := by
        rw [hM0, ← hX]
        have := IM.made (mk := mkI) (ok := okI) (W1.setCell ⟨p, 64, none⟩ (.map (some b)))
        rwa [hzs] at this
      have hbkX : Bk X p 27 (L1.map slV ++ [Value.map (some b)]).toArray := by
        rw [← hX]
        have h := (HH1.out.bk.set 64 (.map (some b))).alloc (.map #[] 0)
        have e : (L1.map slV ++ [Value.map none]).toArray.setIfInBounds 64 (.map (some b)) = (L1.map slV ++ [Value.map (some b)]).toArray := by
          have hl : (L1.map slV).length = 64 := by rw [List.length_map]; exact HH1.out.len
          rw [List.setIfInBounds_toArray, List.set_append_right _ _ (by omega), hl]
          rfl
        rw [e] at h
        exact h
      have hkX : ∀ b', b' ≠ p → b' < W1.heap.size → X.heap[b']? = W1.heap[b']? := fun b' n1 hl => by
        rw [← hX, heap_alloc_old _ _ _ (by rw [size_setCell]; exact hl)]
        exact Below.heap_setCell W1 ⟨p, 64, none⟩ _ b' n1
      have hXX : WhAt X (fun x => F x ∨ x = b) p L1 (some b) M1 := by
        refine ⟨hbkX, HH1.out.len, .inl HOWN.out, (fun e => by cases e), fun b' e => ?_, fun s hs => ?_, HH1.out.sep, HH1.out.ok⟩
        · injection e with e
          subst e
          exact ⟨.inr rfl, hIX⟩
        · obtain ⟨j, hj⟩ := List.getElem?_of_mem hs
          obtain ⟨q1, q2⟩ := HH1.out.sl s hs
          exact ⟨q1.of_block fun g hg => hkX g (HH1.out.row_ne hj hg).1 (q1.lt g hg).2, fun x hx => .inl (q2 x hx)⟩
      have HX := Lib.hid hXX
      have HC : Hid (Chg F w X) := Lib.hid (by rw [← hX]; exact (HC1.out.setCell (p := ⟨p, 64, none⟩) (.inl HOWN.out) _).alloc _)
      obtain ⟨F2, hF2⟩ : ∃ F2, (fun x => F x ∨ x = b) = F2 := ⟨_, rfl⟩
      have HF2 : Hid (∀ x, F2 x → F x ∨ w.heap.size ≤ x) := Lib.hid (fun x hx => by
        rw [← hF2] at hx
        rcases hx with hx | rfl
        · exact .inl hx
        · exact .inr (by rw [← hb]; exact HC1.out.size))
      rw [hF2] at HX
      have HXE := Lib.hid hX
      have HBE := Lib.hid hb
      clear hM0 hX hzs hIX hbkX hkX hXX hF2 hb hmp hno
      go_wp2_with fail
      rw [HBE.out, HXE.out]
      have HX' := HX.out
      obtain ⟨hFb, hI⟩ := HX'.map b rfl
      have hIc : X.cell? ⟨p, 64, none⟩ = some (.map (some b)) := HX'.cellM
      have hbp := HX'.map_ne rfl
      obtain ⟨s, hs, hsm⟩ := HX'.get hi64
      have hrn : ∀ x, blk s.A = some x → x ≠ p ∧ some b ≠ some x := fun x hx => HX'.row_ne hs hx
      obtain ⟨hT, hF⟩ := HX'.sl s hsm
      have hsn : s.n ≤ 100000 := by have := HX'.row_le hs; omega
      have hpl := HX'.bk.lt
      have HT := Lib.hid hT
      have HF := Lib.hid hF
      have HRN := Lib.hid hrn
      have HS := Lib.hid hs
      have HBP := Lib.hid hbp
      have HFB := Lib.hid hFb
      have HBK := Lib.hid HX'.bk
      have HSC := Lib.hid (HX'.cell hs)
      clear hT hF hrn hs hsm hbp hFb HX'
      obtain ⟨W3, hst, hI3, hg3, hs3⟩ := hI.store keyI mapU HK.out (.int .i64 a)
      have hst' : (Instr.mapUpdate 25 (.map (some b)) (.int .i64 k) (.int .i64 a)).run Try.prog X = .ok () W3 := hst
      have hp3 : Bk W3 p 27 (L1.map slV ++ [Value.map (some b)]).toArray := (hg3.block p hpl (fun e => HBP.out (by injection e with e; exact e.symm))).trans HBK.out
      have ci3 : W3.cell? ⟨p, i, none⟩ = some (.slice s.A s.n s.c) := (World.cell?_of_block (a := ⟨p, i, none⟩) (hg3.block p hpl (fun e => HBP.out (by injection e with e; exact e.symm)))).trans HSC.out
      have hT3 : Tm 54 W3 0 s.A s.n s.c s.S := HT.out.kept hg3 (by
        cases hA : blk s.A with
        | none => exact .inl rfl
        | some x => exact .inr (fun e => (HRN.out x hA).2 e.symm))
      have HP3 := Lib.hid hp3
      have HI3 := Lib.hid hI3
      have HG3 := Lib.hid hg3
      have hz3 := hg3.size
      have hp3l := hp3.lt
      clear hp3 hI3 hg3 hs3 hI hst
      go_simp
      go_wp2_with fail
      refine (slot_any p a ha0 ha1 i HI.out W3).mono ?_
      rintro e w' ⟨rfl, rfl⟩
      go_wp2_with (at_builtin; refine ap_tm rfl (.tmp 51) (.tmp 55) rfl 0 rfl hT3 (k, a) rfl rfl hsn (Nat.zero_le _) ?_; intro g' c' W4 hT4 hg4 hn4; have hp4 : Bk W4 p 27 (L1.map slV ++ [Value.map (some b)]).toArray := (hg4.block p hp3l (fun e => (HRN.out p e.symm).1 rfl)).trans HP3.out; have fz4 := hp4.frozen i; have ci4 : W4.cell? ⟨p, i, none⟩ = some (.slice s.A s.n s.c) := (World.cell?_of_block (a := ⟨p, i, none⟩) (hg4.block p hp3l (fun e => (HRN.out p e.symm).1 rfl))).trans ci3)
      have HT4 := Lib.hid hT4
      have HG4 := Lib.hid hg4
      have HN4 := Lib.hid hn4
      have HP4 := Lib.hid hp4
      go_ret
      have hI4 : IM mkI okI W4 b ((M1 ++ [(k, a)]).map mEnt) := by
        have h := HI3.out.kept HG4.out (fun e => (HRN.out b e.symm).2 rfl)
        rw [putL_new (fun q hq e => by
          obtain ⟨t, ht, rfl⟩ := List.mem_map.1 hq
          exact getM_none HGM.out t ht e)] at h
        rw [List.map_append]
        exact h
      have hkeep : ∀ b', b' ≠ p → blk s.A ≠ some b' → some b ≠ some b' → b' < X.heap.size → (W4.setCell ⟨p, i, none⟩ (.slice (some ⟨g', 0, none⟩) (s.n + 1) c')).heap[b']? = X.heap[b']? := fun b' n1 n2 n3 hl => by
        rw [Below.heap_setCell W4 ⟨p, i, none⟩ _ b' n1, HG4.out.block b' (by omega) (fun e => n2 e.symm)]
        exact HG3.out.block b' hl (fun e => n3 e.symm)
      have hgp : g' ≠ p := fun e => by
        rcases HN4.out with h | h
        · exact (HRN.out g' h).1 e
        · omega
      have hfin : WhAt (W4.setCell ⟨p, i, none⟩ (.slice (some ⟨g', 0, none⟩) (s.n + 1) c')) (fun x => F2 x ∨ x = g') p (L1.set i ⟨some ⟨g', 0, none⟩, s.n + 1, c', s.S ++ [(k, a)]⟩) (some b) (M1 ++ [(k, a)]) := by
        refine HX.out.upd HS.out (fun b' _ n1 n2 n3 hl => hkeep b' n1 n2 n3 hl) (whBk_set HP4.out (by rw [HX.out.len]; exact hi64) ⟨some ⟨g', 0, none⟩, s.n + 1, c', s.S ++ [(k, a)]⟩) ⟨?_, fun x hx => .inr (by simpa [blk] using hx.symm)⟩ ?_ (fun b' hb' => ?_) (fun e => by cases e) (fun x hx => .inl hx) (WhOk.add HX.out.ok HK.out ⟨ha0, ha1⟩ HGM.out hroom HS.out HI.out)
        · refine HT4.out.of_block fun x hx => Below.heap_setCell W4 ⟨p, i, none⟩ _ x ?_
          have : g' = x := by simpa [blk] using hx
          rw [← this]; exact hgp
        · rcases HN4.out with h | h
          · exact .inl h.symm
          · refine .inr (fun x hx => ?_)
            have : g' = x := by simpa [blk] using hx
            omega
        · injection hb' with hb'
          subst hb'
          exact ⟨.inl HFB.out, hI4.setCell HBP.out _⟩
      have hc : Chg F w (W4.setCell ⟨p, i, none⟩ (.slice (some ⟨g', 0, none⟩) (s.n + 1) c')) := by
        have c3 : Chg F w W3 := HC.out.trans (Chg.of_grown (F := fun x => x = b) HG3.out (fun x e => by injection e with e; exact e.symm)) (fun x e => by rw [e]; exact HF2.out b HFB.out)
        have c4 : Chg F w W4 := c3.trans (Chg.of_grown (F := fun x => blk s.A = some x) HG4.out (fun x e => e)) (fun x e => HF2.out x (HF.out x e))
        exact c4.setCell (.inl HOWN.out) _
      rw [HSM.out]
      exact ⟨rfl, _, _, _, hfin, hc, fun x hx => by
        rcases hx with hx | rfl
        · exact HF2.out x hx
        · rcases HN4.out with h | h
          · exact HF2.out x (HF.out x h)
          · exact .inr (by have := HC.out.size; omega)⟩
    · obtain ⟨F2, hF2⟩ : ∃ F2, F = F2 := ⟨_, rfl⟩
      obtain ⟨X, hX⟩ : ∃ X, W1 = X := ⟨_, rfl⟩
      have HX : Hid (WhAt X F2 p L1 (some b) M1) := by rw [← hX, ← hF2]; exact HH1
      have HC : Hid (Chg F w X) := by rw [← hX]; exact HC1
      have HF2 : Hid (∀ x, F2 x → F x ∨ w.heap.size ≤ x) := Lib.hid (fun x hx => by rw [hF2]; exact .inl hx)
      subst hX
      have hIl := (hmp b rfl).2
      clear hmp hno
      skip
      have HX' := HX.out
      obtain ⟨hFb, hI⟩ := HX'.map b rfl
      have hIc : W1.cell? ⟨p, 64, none⟩ = some (.map (some b)) := HX'.cellM
      have hbp := HX'.map_ne rfl
      obtain ⟨s, hs, hsm⟩ := HX'.get hi64
      have hrn : ∀ x, blk s.A = some x → x ≠ p ∧ some b ≠ some x := fun x hx => HX'.row_ne hs hx
      obtain ⟨hT, hF⟩ := HX'.sl s hsm
      have hsn : s.n ≤ 100000 := by have := HX'.row_le hs; omega
      have hpl := HX'.bk.lt
      have HT := Lib.hid hT
      have HF := Lib.hid hF
      have HRN := Lib.hid hrn
      have HS := Lib.hid hs
      have HBP := Lib.hid hbp
      have HFB := Lib.hid hFb
      have HBK := Lib.hid HX'.bk
      have HSC := Lib.hid (HX'.cell hs)
      clear hT hF hrn hs hsm hbp hFb HX'
      obtain ⟨W3, hst, hI3, hg3, hs3⟩ := hI.store keyI mapU HK.out (.int .i64 a)
      have hst' : (Instr.mapUpdate 25 (.map (some b)) (.int .i64 k) (.int .i64 a)).run Try.prog W1 = .ok () W3 := hst
      have hp3 : Bk W3 p 27 (L1.map slV ++ [Value.map (some b)]).toArray := (hg3.block p hpl (fun e => HBP.out (by injection e with e; exact e.symm))).trans HBK.out
      have ci3 : W3.cell? ⟨p, i, none⟩ = some (.slice s.A s.n s.c) := (World.cell?_of_block (a := ⟨p, i, none⟩) (hg3.block p hpl (fun e => HBP.out (by injection e with e; exact e.symm)))).trans HSC.out
      have hT3 : Tm 54 W3 0 s.A s.n s.c s.S := HT.out.kept hg3 (by
        cases hA : blk s.A with
        | none => exact .inl rfl
        | some x => exact .inr (fun e => (HRN.out x hA).2 e.symm))
      have HP3 := Lib.hid hp3
      have HI3 := Lib.hid hI3
      have HG3 := Lib.hid hg3
      have hz3 := hg3.size
      have hp3l := hp3.lt
      clear hp3 hI3 hg3 hs3 hI hst
      go_wp2_with fail
      refine (slot_any p a ha0 ha1 i HI.out W3).mono ?_
      rintro e w' ⟨rfl, rfl⟩
      go_wp2_with (at_builtin; refine ap_tm rfl (.tmp 51) (.tmp 55) rfl 0 rfl hT3 (k, a) rfl rfl hsn (Nat.zero_le _) ?_; intro g' c' W4 hT4 hg4 hn4; have hp4 : Bk W4 p 27 (L1.map slV ++ [Value.map (some b)]).toArray := (hg4.block p hp3l (fun e => (HRN.out p e.symm).1 rfl)).trans HP3.out; have fz4 := hp4.frozen i; have ci4 : W4.cell? ⟨p, i, none⟩ = some (.slice s.A s.n s.c) := (World.cell?_of_block (a := ⟨p, i, none⟩) (hg4.block p hp3l (fun e => (HRN.out p e.symm).1 rfl))).trans ci3)
      have HT4 := Lib.hid hT4
      have HG4 := Lib.hid hg4
      have HN4 := Lib.hid hn4
      have HP4 := Lib.hid hp4
      go_ret
      have hI4 : IM mkI okI W4 b ((M1 ++ [(k, a)]).map mEnt) := by
        have h := HI3.out.kept HG4.out (fun e => (HRN.out b e.symm).2 rfl)
        rw [putL_new (fun q hq e => by
          obtain ⟨t, ht, rfl⟩ := List.mem_map.1 hq
          exact getM_none HGM.out t ht e)] at h
        rw [List.map_append]
        exact h
      have hkeep : ∀ b', b' ≠ p → blk s.A ≠ some b' → some b ≠ some b' → b' < W1.heap.size → (W4.setCell ⟨p, i, none⟩ (.slice (some ⟨g', 0, none⟩) (s.n + 1) c')).heap[b']? = W1.heap[b']? := fun b' n1 n2 n3 hl => by
        rw [Below.heap_setCell W4 ⟨p, i, none⟩ _ b' n1, HG4.out.block b' (by omega) (fun e => n2 e.symm)]
        exact HG3.out.block b' hl (fun e => n3 e.symm)
      have hgp : g' ≠ p := fun e => by
        rcases HN4.out with h | h
        · exact (HRN.out g' h).1 e
        · omega
      have hfin : WhAt (W4.setCell ⟨p, i, none⟩ (.slice (some ⟨g', 0, none⟩) (s.n + 1) c')) (fun x => F2 x ∨ x = g') p (L1.set i ⟨some ⟨g', 0, none⟩, s.n + 1, c', s.S ++ [(k, a)]⟩) (some b) (M1 ++ [(k, a)]) := by
        refine HX.out.upd HS.out (fun b' _ n1 n2 n3 hl => hkeep b' n1 n2 n3 hl) (whBk_set HP4.out (by rw [HX.out.len]; exact hi64) ⟨some ⟨g', 0, none⟩, s.n + 1, c', s.S ++ [(k, a)]⟩) ⟨?_, fun x hx => .inr (by simpa [blk] using hx.symm)⟩ ?_ (fun b' hb' => ?_) (fun e => by cases e) (fun x hx => .inl hx) (WhOk.add HX.out.ok HK.out ⟨ha0, ha1⟩ HGM.out hroom HS.out HI.out)
        · refine HT4.out.of_block fun x hx => Below.heap_setCell W4 ⟨p, i, none⟩ _ x ?_
          have : g' = x := by simpa [blk] using hx
          rw [← this]; exact hgp
        · rcases HN4.out with h | h
          · exact .inl h.symm
          · refine .inr (fun x hx => ?_)
            have : g' = x := by simpa [blk] using hx
            omega
        · injection hb' with hb'
          subst hb'
          exact ⟨.inl HFB.out, hI4.setCell HBP.out _⟩
      have hc : Chg F w (W4.setCell ⟨p, i, none⟩ (.slice (some ⟨g', 0, none⟩) (s.n + 1) c')) := by
        have c3 : Chg F w W3 := HC.out.trans (Chg.of_grown (F := fun x => x = b) HG3.out (fun x e => by injection e with e; exact e.symm)) (fun x e => by rw [e]; exact HF2.out b HFB.out)
        have c4 : Chg F w W4 := c3.trans (Chg.of_grown (F := fun x => blk s.A = some x) HG4.out (fun x e => e)) (fun x e => HF2.out x (HF.out x e))
        exact c4.setCell (.inl HOWN.out) _
      rw [HSM.out]
      exact ⟨rfl, _, _, _, hfin, hc, fun x hx => by
        rcases hx with hx | rfl
        · exact HF2.out x hx
        · rcases HN4.out with h | h
          · exact HF2.out x (HF.out x h)
          · exact .inr (by have := HC.out.size; omega)⟩
end Go.Proofs.Ytnnblakjaiccfaa
