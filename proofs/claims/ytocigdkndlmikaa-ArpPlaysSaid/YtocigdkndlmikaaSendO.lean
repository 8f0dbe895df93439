/- Proved: what Send does where a neighbour is to be forgotten, is asked for already, or has no room. Conditions: as each law says. -/
import Derived.Test.YtocigdkndlmikaaSend
import Derived.Test.YtocigdkndlmikaaCacheU
set_option linter.unusedVariables false
set_option linter.unusedSimpArgs false
namespace Go.Proofs.Ytocigdkndlmikaa
open Go.RowKit

def dropT (T : List (Int × Nb)) (a : Int) : List (Int × Nb) := T.filter fun p => decide (p.1 ≠ a)
theorem absT_filter (S : List En) (a : Int) : absT (S.filter fun e => decide (e.a ≠ a)) = dropT (absT S) a := by
  unfold absT dropT
  rw [List.filter_map]; rfl
theorem filter_lt {S : List En} {e : En} (he : e ∈ S) : (S.filter fun x => decide (x.a ≠ e.a)).length < S.length := by
  rw [← List.countP_eq_length_filter]
  rcases Nat.lt_or_ge (S.countP fun x => decide (x.a ≠ e.a)) S.length with h | h
  · exact h
  · have := List.countP_eq_length.1 (Nat.le_antisymm List.countP_le_length h) e he
    simp at this
set_option maxHeartbeats 4000000 in
set_option maxRecDepth 100000 in
theorem send_old (a : Int) (ha : okA a) (A : Option Addr) (n c B : Nat) (l : List Int) (hn : l.length = n) (hmax : n ≤ 140737488355328) (hb : Bs l) (now : Int) (hnow : -9223372036854775808 ≤ now ∧ now ≤ 9223372036854775807) (w : World) (hr : RB w B A l) (hB : B ≤ w.heap.size)
    (F : Nat → Prop) (g : Nat) (S : List En) (h : CacheAt w F g S) (e : En) (he : e ∈ S) (hea : e.a = a) (hk : e.n.kn = true) (ht : e.n.tk ≤ now) :
    Calls Try.prog 13 #[.pointer (some ⟨g, 0, none⟩), .int .u32 a, .slice A n c, .int .i64 now] w (SendPost w F g (toldC false noMac true false) (dropT (absT S) a ++ [(a, newNb now l)])) := by
  subst hea
  have HN := Lib.hid hn
  have hnd := h.nodup
  have h := h.cap
  have HCA := Lib.hid h
  obtain ⟨mv0, h1, h2, h3, h4, h5, h6⟩ := h
  have HF := Lib.hid h2
  have HFM := Lib.hid h3
  have HEN := Lib.hid h4
  have HAP := Lib.hid h5
  have HND := Lib.hid hnd
  obtain ⟨w0, hw0⟩ : ∃ w0, w.alloc (.cells #[.bool false, .int .u8 0, .int .u8 0, .int .u8 0, .int .u8 0, .int .u8 0, .int .u8 0, .bool false, .bool false] 34) = w0 := ⟨_, rfl⟩
  have hB0 : Below w.heap.size w w0 := by rw [← hw0]; exact (Below.refl _ _).alloc (Nat.le_refl _) _
  have ht0 : Bk w0 w.heap.size 34 #[.bool false, .int .u8 0, .int .u8 0, .int .u8 0, .int .u8 0, .int .u8 0, .int .u8 0, .bool false, .bool false] := by rw [← hw0]; exact Bk.new w _ _
  have hr0 : RB w0 B A l := Rw.below hr (hB0.mono hB)
  have HW0 := Lib.hid hw0
  have HM := Lib.hid h1
  have hg : g < w.heap.size := h1.1.lt
  have hz0 : w0.heap.size = w.heap.size + 1 := by rw [← hw0]; simp
  have HZ0 := Lib.hid hz0
  have hlen := h6
  clear hw0 h1 h2 h3 h4 h5 hn hnd h6 hz0
  obtain ⟨b, rfl⟩ : ∃ b, mv0 = some b := by
    rcases mv0 with _ | b
    · have := HM.out.2.1 rfl
      have h8 : enE e ∈ S.map enE := List.mem_map.2 ⟨e, he, rfl⟩
      rw [this] at h8; cases h8
    · exact ⟨b, rfl⟩
  have hkt : decide (now < e.n.tk) = false := by simpa using ht
  have HK := Lib.hid hk
  have hbF : F b ∧ b < w.heap.size := HFM.out b rfl
  clear ht hk
  go_enter Try.func13, Try.ntmps13
  go_wp2_with fail
  rw [HW0.out]
  refine (clone_any A n c B l HN.out hmax _ hr0 (by have := HZ0.out; omega)).mono ?_
  rintro e0 w1 ⟨Ao, no, co, rfl, hO1, hB1⟩
  have hz1 := hB1.size
  have hBw1 : Below w.heap.size w w1 := hB0.trans (hB1.mono hB0.size)
  have HBW1 := Lib.hid hBw1
  have ht1 := ht0.below hB1 ht0.lt
  have hm1 := HM.out.kept (hBw1.block g hg) (fun b hb => hBw1.block b (HM.out.2.2 b hb).lt)
  have HM1 := Lib.hid hm1
  have HT1 := Lib.hid ht1
  have HO1 := Lib.hid hO1
  have c1 : w1.cell? ⟨g, 0, none⟩ = some (.map (some b)) := hm1.1.cell 0
  have hI1 := hm1.2.2 b rfl
  have hbe := (HEN.out e he).1
  have hbe1 := hbe.below hBw1 hbe.lt
  unfold nbC at hbe1
  rw [HK.out] at hbe1
  have k0 := hbe1.cell 0
  have k1 := hbe1.cell 1
  have k2 := hbe1.cell 2
  have k3 := hbe1.cell 3
  have k4 := hbe1.cell 4
  have k5 := hbe1.cell 5
  have k6 := hbe1.cell 6
  have k7 := hbe1.cell 7
  have k8 := hbe1.cell 8
  have k9 := hbe1.cell 9
  simp only [toldC, nbC, List.setIfInBounds_toArray, List.set_cons_succ, List.set_cons_zero, List.getElem?_toArray, List.getElem?_cons_zero, List.getElem?_cons_succ] at k0 k1 k2 k3 k4 k5 k6 k7 k8 k9
  have hlook : (Instr.lookup mapT (.map (some b)) (.int .u32 e.a) false).run Try.prog w1 = .ok (.pointer (some ⟨e.p, 0, none⟩)) w1 := by
    have := hm1.look ha
    rw [getL_enE HND.out he] at this
    exact this
  clear hm1 hBw1 hbe hbe1 ht0 ht1 hr0 hO1
  go_wp2_with (at_delete; refine wpList_delete_im rfl (.tmp 76) (.tmp 77) mapT rfl keyA mapU rfl hI1 (y := e.a) rfl ha ?_; intro w1d hId hgd hsd)
  have hmd : MapAt w1d g (some b) (delL (S.map enE) e.a) := ⟨HM1.out.1.grown hgd (by intro q; injection q with q; exact hI1.ne_bk HM1.out.1 q.symm), (fun q => by cases q), fun b' q => by injection q with q; subst q; exact hId⟩
  have hcmd : CacheMv w1d (fun x => F x ∧ x < w.heap.size) g (some b) (S.filter fun x => decide (x.a ≠ e.a)) := by
    have h0 : CacheMv w (fun x => F x ∧ x < w.heap.size) g (some b) S := ⟨HM.out, HF.out, HFM.out, HEN.out, HAP.out, hlen⟩
    have h1 : CacheMv w1 (fun x => F x ∧ x < w.heap.size) g (some b) S := h0.keep (fun b _ hl => HBW1.out.block b hl) (fun b h => h)
    exact CacheAt.remove h1.1 h1.2.1 h1.2.2.1 h1.2.2.2.1 h1.2.2.2.2.1 h1.2.2.2.2.2 HND.out hmd (Chg.of_grown hgd (fun _ q => q))
  have hlen2 : (S.filter fun x => decide (x.a ≠ e.a)).length ≤ 15 := by have := filter_lt he; omega
  have hC1d : Chg F w w1d := (Chg.of_below HBW1.out).trans (Chg.of_grown (F := fun x => x = b) hgd (fun x q => by injection q with q; exact q.symm)) (fun x q => .inl (by rw [q]; exact hbF.1))
  have hblk : ∀ x, blk Ao = some x → w0.heap.size ≤ x := fun x hx => (Ow.lt HO1.out x hx).1
  have hzw := HZ0.out
  have hOd := Ow.kept HO1.out hgd (.inr (fun q => by have := hblk b q; omega))
  have htd := HT1.out.grown hgd (by intro q; injection q with q; omega)
  have HCD := Lib.hid hcmd
  have HC1D := Lib.hid hC1d
  have HOD := Lib.hid hOd
  have HTD := Lib.hid htd
  clear hlook hmd hC1d hI1 hcmd hOd htd hId hgd
  go_wp2_with fail
  refine (room_small g (some b) _ _ HCD.out.1 (by omega)).mono ?_
  intro e1 w2 hR
  have hR2 : e1 = .returned (.bool true) ∧ Chg (fun _ => False) w1d w2 := by
    rcases hR with ⟨h1, h2, h3, h4⟩ | ⟨h1, h2, _⟩ | ⟨h1, h2, _⟩
    · exact ⟨h1, h4⟩
    · omega
    · omega
  obtain ⟨rfl, hC2⟩ := hR2
  have hB2 := hC2.no
  have hrow2 : RowAt w2 (fun b => (F b ∧ b < w.heap.size) ∨ some b = blk Ao) (.slice Ao no co) l :=
    ⟨Ao, no, co, rfl, Ow.mono (Ow.stays HOD.out hB2) (Nat.zero_le _), fun b hb => .inr hb.symm, hb, by rw [← Ow.length HO1.out, by8_length, HN.out]; exact hmax⟩
  have hcm2 : CacheMv w2 (fun b => (F b ∧ b < w.heap.size) ∨ some b = blk Ao) g (some b) (S.filter fun x => decide (x.a ≠ e.a)) := HCD.out.keep (fun b _ hl => hB2.block b hl) (fun b h => .inl h)
  have HFT : Hid (¬ ((F w.heap.size ∧ w.heap.size < w.heap.size) ∨ some w.heap.size = blk Ao)) := Lib.hid (by
    rintro (⟨_, q⟩ | q)
    · omega
    · have := hblk _ q.symm
      omega)
  have ht2 := HTD.out.below hB2 (by omega)
  have hna : ∀ x ∈ (S.filter fun x => decide (x.a ≠ e.a)), x.a ≠ e.a := fun x hx => by simpa using (List.mem_filter.1 hx).2
  have HBW2 : Hid (Chg F w w2) := Lib.hid (HC1D.out.trans (Chg.of_below (F := fun _ => False) hB2) (fun _ q => q.elim))
  have HBLK := Lib.hid hblk
  clear hC2 hB2 hR hblk
  have hm2 := hcm2.1
  have z2 : w.heap.size < w2.heap.size := ht2.lt
  have hg2 : g < w2.heap.size := hm2.1.lt
  have HCM2 := Lib.hid hcm2
  have HNA := Lib.hid hna
  have HROW := Lib.hid hrow2
  have HLN2 := Lib.hid hlen2
  obtain ⟨w3, hw3⟩ : ∃ w3, (w2.alloc (.cells #[.slice Ao no co] 27)).alloc (.cells (nbC (newNb now l) (some ⟨w2.heap.size, 0, none⟩) 1 1) 74) = w3 := ⟨_, rfl⟩
  have hB3 : Below w2.heap.size w2 w3 := by rw [← hw3]; exact ((Below.refl _ _).alloc (Nat.le_refl _) _).alloc (by simp) _
  have hm3 := hm2.kept (hB3.block g hm2.1.lt) (fun b hb => hB3.block b (hm2.2.2 b hb).lt)
  have ht3 := ht2.below hB3 z2
  have HW3 : Hid ((w2.alloc (.cells #[.slice Ao no co] 27)).alloc (.cells #[.bool false, .int .u8 0, .int .u8 0, .int .u8 0, .int .u8 0, .int .u8 0, .int .u8 0, .int .i64 (laterP now 10), .int .i64 1, .slice (some ⟨w2.heap.size, 0, none⟩) 1 1] 74) = w3) := Lib.hid (by rw [← hw3]; rfl)
  have HWW := Lib.hid hw3
  have HM3 := Lib.hid hm3
  clear hw3 hcm2 hna hrow2 hlen2
  go_wp2_with fail
  refine (plus_any now 10 hnow (by omega) _).mono ?_
  rintro e2 w2' ⟨rfl, rfl⟩
  go_wp2_with fail
  rw [HW3.out]
  refine (alay_any e.a (w2.heap.size + 1) g (some b) _ _ ha HM3.out).mono ?_
  intro e3 w4 hL
  have HL4 := Lib.hid hL
  obtain ⟨rfl, b4, _, _, hC4⟩ := hL
  have hnt : ¬ (w.heap.size = g ∨ (some b) = some w.heap.size) := by
    rintro (e | e)
    · omega
    · exact HFT.out (HCM2.out.2.2.1 _ e)
  have ht4 := ht3.chg hC4 hnt
  have y0 := ht4.cell 0
  have y1 := ht4.cell 1
  have y2 := ht4.cell 2
  have y3 := ht4.cell 3
  have y4 := ht4.cell 4
  have y5 := ht4.cell 5
  have y6 := ht4.cell 6
  have y7 := ht4.cell 7
  have y8 := ht4.cell 8
  simp only [toldC, nbC, List.setIfInBounds_toArray, List.set_cons_succ, List.set_cons_zero, List.getElem?_toArray, List.getElem?_cons_zero, List.getElem?_cons_succ] at y0 y1 y2 y3 y4 y5 y6 y7 y8
  have x0 := ht4.frozen 0
  have x1 := ht4.frozen 1
  have x2 := ht4.frozen 2
  have x3 := ht4.frozen 3
  have x4 := ht4.frozen 4
  have x5 := ht4.frozen 5
  have x6 := ht4.frozen 6
  have x7 := ht4.frozen 7
  have x8 := ht4.frozen 8
  have hne9 : w.heap.size ≠ g := by omega
  clear hB3 hm3 ht3 ht4 hC4 hnt ht2 hm2
  go_wp2_with fail
  have fin : ∀ w5, Chg (fun b => b = w.heap.size) w4 w5 → ∃ S', CacheAt w5 (fun b => F b ∨ w.heap.size ≤ b) g S' ∧ absT S' = (dropT (absT S) e.a ++ [(e.a, newNb now l)]) ∧ Chg F w w5 := fun w5 h5 => by
    have hfin := HCM2.out.send (t := w.heap.size) (e := .returned (.tuple #[])) HLN2.out HNA.out ha HROW.out (by rw [HWW.out]; exact HL4.out) z2 HFT.out h5
    refine ⟨_, hfin.1.mono ?_, by rw [← absT_filter]; simp [absT], HBW2.out.trans hfin.2 ?_⟩
    · rintro b ((hb | hb) | hb)
      · exact .inl hb.1
      · exact .inr (by have := (Ow.lt HO1.out b hb.symm).1; have := HZ0.out; omega)
      · exact .inr (by omega)
    · rintro b ((hb | hb) | hb)
      · exact .inl hb.1
      · exact .inr (by have := (Ow.lt HO1.out b hb.symm).1; have := HZ0.out; omega)
      · exact .inr (by omega)
  have HFIN := Lib.hid fin
  clear fin
  refine bodyPost_ret (v := .agg #[.bool false, .int .u8 0, .int .u8 0, .int .u8 0, .int .u8 0, .int .u8 0, .int .u8 0, .bool true, .bool false]) (by simp [results, Try.results13, go_sem, *]) rfl ⟨rfl, ?_⟩
  refine HFIN.out _ ?_
  refine Chg.set1 ?_ _
  refine Chg.set1 ?_ _
  refine Chg.set1 ?_ _
  refine Chg.set1 ?_ _
  refine Chg.set1 ?_ _
  refine Chg.set1 ?_ _
  refine Chg.set1 ?_ _
  refine Chg.set1 ?_ _
  refine Chg.set1 ?_ _
  exact Chg.refl _ _
end Go.Proofs.Ytocigdkndlmikaa
