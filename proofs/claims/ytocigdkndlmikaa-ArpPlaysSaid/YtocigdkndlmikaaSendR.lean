/- Proved: what Send does where a neighbour has to go first. Conditions: as each law says. -/
import Derived.Test.YtocigdkndlmikaaSendO
set_option linter.unusedVariables false
set_option linter.unusedSimpArgs false
namespace Go.Proofs.Ytocigdkndlmikaa
open Go.RowKit

/-- What room leaves. -/
def RoomOK (S S2 : List En) : Prop := (S.length ≤ 15 ∧ S2 = S) ∨ (16 ≤ S.length ∧ ∃ x, isLeast S x ∧ S2 = S.filter fun e => decide (e.a ≠ x.a))
theorem RoomOK.mem {S S2 : List En} (h : RoomOK S S2) {x : En} (hx : x ∈ S2) : x ∈ S := by
  rcases h with ⟨_, rfl⟩ | ⟨_, y, _, rfl⟩
  · exact hx
  · exact (List.mem_filter.1 hx).1
theorem RoomOK.len {S S2 : List En} (h : RoomOK S S2) (hl : S.length ≤ 16) : S2.length ≤ 15 := by
  rcases h with ⟨h, rfl⟩ | ⟨_, y, hy, rfl⟩
  · exact h
  · have := filter_lt hy.1; omega
def RoomAny (w : World) (F : Nat → Prop) (g : Nat) (mv : Option Nat) (S : List En) (e : Ending) (w' : World) : Prop :=
  e = .returned (.bool true) ∧ ∃ S2, RoomOK S S2 ∧ CacheMv w' F g mv S2 ∧ Chg (fun x => mv = some x) w w'
theorem room_any (g : Nat) (mv : Option Nat) (S : List En) (w : World) (F : Nat → Prop) (h : CacheMv w F g mv S) (hn : NoDup (S.map enE)) (hroom : S.length ≤ 15 ∨ ∃ x ∈ S, x.n.kn = true) :
    Calls Try.prog 28 #[.pointer (some ⟨g, 0, none⟩)] w (RoomAny w F g mv S) := by
  have hh := h
  obtain ⟨h1, h2, h3, h4, h5, h6⟩ := h
  have key : ∀ e w', RoomPost w g mv S e w' → RoomAny w F g mv S e w' := by
    rintro e w' (⟨rfl, r2, r3, r4⟩ | ⟨rfl, r2, ⟨x, r3, r4⟩, r5⟩ | ⟨rfl, r2, r3, _⟩)
    · exact ⟨rfl, S, .inl ⟨by omega, rfl⟩, hh.keep (fun b _ hl => r4.no.block b hl) (fun _ h => h), r4.mono (fun _ _ h => h.elim)⟩
    · exact ⟨rfl, _, .inr ⟨r2, x, r3, rfl⟩, CacheAt.remove h1 h2 h3 h4 h5 h6 hn r4 r5, r5⟩
    · exfalso
      rcases hroom with h | ⟨x, hx, hk⟩
      · omega
      · rw [r3 x hx] at hk; cases hk
  rcases Nat.lt_or_ge S.length 16 with h | h
  · exact (room_small g mv S w h1 h).mono key
  · exact (room_big g mv S w h1 (fun e he => (h4 e he).1) h).mono key
def SendRPost (w : World) (F : Nat → Prop) (g : Nat) (S : List En) (a now : Int) (l : List Int) (e : Ending) (w' : World) : Prop :=
  ∃ S2, RoomOK S S2 ∧ SendPost w F g (toldC false noMac true false) (absT S2 ++ [(a, newNb now l)]) e w'
set_option maxHeartbeats 4000000 in
set_option maxRecDepth 100000 in
theorem send_room (a : Int) (ha : okA a) (A : Option Addr) (n c B : Nat) (l : List Int) (hn : l.length = n) (hmax : n ≤ 140737488355328) (hb : Bs l) (now : Int) (hnow : -9223372036854775808 ≤ now ∧ now ≤ 9223372036854775807) (w : World) (hr : RB w B A l) (hB : B ≤ w.heap.size)
    (F : Nat → Prop) (g : Nat) (S : List En) (h : CacheAt w F g S) (hna0 : ∀ e ∈ S, e.a ≠ a) (hroom : S.length ≤ 15 ∨ ∃ x ∈ S, x.n.kn = true) :
    Calls Try.prog 13 #[.pointer (some ⟨g, 0, none⟩), .int .u32 a, .slice A n c, .int .i64 now] w (SendRPost w F g S a now l) := by
  have HN := Lib.hid hn
  have hnd := h.nodup
  have h := h.cap
  have HCA := Lib.hid h
  obtain ⟨mv0, h1, h2, h3, h4, h5, h6⟩ := h
  have HF := Lib.hid h2
  have HFM := Lib.hid h3
  have HEN := Lib.hid h4
  have HAP := Lib.hid h5
  have HND := Lib.hid hnd
  have HL6 := Lib.hid h6
  obtain ⟨w0, hw0⟩ : ∃ w0, w.alloc (.cells #[.bool false, .int .u8 0, .int .u8 0, .int .u8 0, .int .u8 0, .int .u8 0, .int .u8 0, .bool false, .bool false] 34) = w0 := ⟨_, rfl⟩
  have hB0 : Below w.heap.size w w0 := by rw [← hw0]; exact (Below.refl _ _).alloc (Nat.le_refl _) _
  have ht0 : Bk w0 w.heap.size 34 #[.bool false, .int .u8 0, .int .u8 0, .int .u8 0, .int .u8 0, .int .u8 0, .int .u8 0, .bool false, .bool false] := by rw [← hw0]; exact Bk.new w _ _
  have hr0 : RB w0 B A l := Rw.below hr (hB0.mono hB)
  have HW0 := Lib.hid hw0
  have HM := Lib.hid h1
  have hg : g < w.heap.size := h1.1.lt
  have hz0 : w0.heap.size = w.heap.size + 1 := by rw [← hw0]; simp
  have HZ0 := Lib.hid hz0
  clear hw0 h1 h2 h3 h4 h5 hn hnd h6 hz0
  have HNA0 := Lib.hid hna0
  clear hna0
  go_enter Try.func13, Try.ntmps13
  go_wp2_with fail
  rw [HW0.out]
  refine (clone_any A n c B l HN.out hmax _ hr0 (by have := HZ0.out; omega)).mono ?_
  rintro e0 w1 ⟨Ao, no, co, rfl, hO1, hB1⟩
  have hz1 := hB1.size
  have hBw1 : Below w.heap.size w w1 := hB0.trans (hB1.mono hB0.size)
  have HBW1 := Lib.hid hBw1
  have ht1 := ht0.below hB1 ht0.lt
  have hm1 := HM.out.kept (hBw1.block g hg) (fun b hb => hBw1.block b (HM.out.2.2 b hb).lt)
  have HM1 := Lib.hid hm1
  have HT1 := Lib.hid ht1
  have HO1 := Lib.hid hO1
  have c1 : w1.cell? ⟨g, 0, none⟩ = some (.map mv0) := hm1.1.cell 0
  have hlook : (Instr.lookup mapT (.map mv0) (.int .u32 a) false).run Try.prog w1 = .ok (.pointer none) w1 := by
    have := hm1.look ha
    rw [getL_enE_none HNA0.out] at this
    exact this
  clear hm1 hBw1 ht0 ht1 hr0 hO1
  go_wp2_with fail
  have hcm1 : CacheMv w1 (fun b => F b ∧ b < w.heap.size) g mv0 S :=
    (show CacheMv w (fun b => F b ∧ b < w.heap.size) g mv0 S from ⟨HM.out, HF.out, HFM.out, HEN.out, HAP.out, HL6.out⟩).keep (fun b _ hl => HBW1.out.block b hl) (fun b h => h)
  refine (room_any g mv0 S _ _ hcm1 HND.out hroom).mono ?_
  rintro e1 w2 ⟨rfl, S2, hR, hcm2', hC2⟩
  have hmvF : ∀ x, mv0 = some x → F x ∧ x < w.heap.size := HFM.out
  have hrow2 : RowAt w2 (fun b => (F b ∧ b < w.heap.size) ∨ some b = blk Ao) (.slice Ao no co) l :=
    (show RowAt w1 (fun b => some b = blk Ao) (.slice Ao no co) l from ⟨Ao, no, co, rfl, Ow.mono HO1.out (Nat.zero_le _), fun b hb => hb.symm, hb, by rw [← Ow.length HO1.out, by8_length, HN.out]; exact hmax⟩).keep
      (fun b hb hl => hC2.block b hl (fun e => by have h1 := (hmvF b e).2; have h2 := (Ow.lt HO1.out b hb.symm).1; have := HZ0.out; omega)) (fun b h => .inr h)
  have hcm2 : CacheMv w2 (fun b => (F b ∧ b < w.heap.size) ∨ some b = blk Ao) g mv0 S2 := hcm2'.keep (fun _ _ _ => rfl) (fun b h => .inl h)
  have HFT : Hid (¬ ((F w.heap.size ∧ w.heap.size < w.heap.size) ∨ some w.heap.size = blk Ao)) := Lib.hid (by
    rintro (⟨_, e⟩ | e)
    · omega
    · have := (Ow.lt HO1.out _ e.symm).1
      have := HZ0.out
      omega)
  have ht2 := HT1.out.chg hC2 (fun e => by have := (hmvF _ e).2; omega)
  have hna : ∀ x ∈ S2, x.a ≠ a := fun x hx => HNA0.out x (hR.mem hx)
  have hlen2 : S2.length ≤ 15 := hR.len HL6.out
  have HBW2 : Hid (Chg F w w2) := Lib.hid ((Chg.of_below HBW1.out).trans hC2 (fun x e => .inl (hmvF x e).1))
  have HRO := Lib.hid hR
  clear hcm2' hC2 hlook hR hmvF hcm1
  have hm2 := hcm2.1
  have z2 : w.heap.size < w2.heap.size := ht2.lt
  have hg2 : g < w2.heap.size := hm2.1.lt
  have HCM2 := Lib.hid hcm2
  have HNA := Lib.hid hna
  have HROW := Lib.hid hrow2
  have HLN2 := Lib.hid hlen2
  obtain ⟨w3, hw3⟩ : ∃ w3, (w2.alloc (.cells #[.slice Ao no co] 27)).alloc (.cells (nbC (newNb now l) (some ⟨w2.heap.size, 0, none⟩) 1 1) 74) = w3 := ⟨_, rfl⟩
  have hB3 : Below w2.heap.size w2 w3 := by rw [← hw3]; exact ((Below.refl _ _).alloc (Nat.le_refl _) _).alloc (by simp) _
  have hm3 := hm2.kept (hB3.block g hm2.1.lt) (fun b hb => hB3.block b (hm2.2.2 b hb).lt)
  have ht3 := ht2.below hB3 z2
  have HW3 : Hid ((w2.alloc (.cells #[.slice Ao no co] 27)).alloc (.cells #[.bool false, .int .u8 0, .int .u8 0, .int .u8 0, .int .u8 0, .int .u8 0, .int .u8 0, .int .i64 (laterP now 10), .int .i64 1, .slice (some ⟨w2.heap.size, 0, none⟩) 1 1] 74) = w3) := Lib.hid (by rw [← hw3]; rfl)
  have HWW := Lib.hid hw3
  have HM3 := Lib.hid hm3
  clear hw3 hcm2 hna hrow2 hlen2
  go_wp2_with fail
  refine (plus_any now 10 hnow (by omega) _).mono ?_
  rintro e2 w2' ⟨rfl, rfl⟩
  go_wp2_with fail
  rw [HW3.out]
  refine (alay_any a (w2.heap.size + 1) g mv0 _ _ ha HM3.out).mono ?_
  intro e3 w4 hL
  have HL4 := Lib.hid hL
  obtain ⟨rfl, b4, _, _, hC4⟩ := hL
  have hnt : ¬ (w.heap.size = g ∨ mv0 = some w.heap.size) := by
    rintro (e | e)
    · omega
    · exact HFT.out (HCM2.out.2.2.1 _ e)
  have ht4 := ht3.chg hC4 hnt
  have y0 := ht4.cell 0
  have y1 := ht4.cell 1
  have y2 := ht4.cell 2
  have y3 := ht4.cell 3
  have y4 := ht4.cell 4
  have y5 := ht4.cell 5
  have y6 := ht4.cell 6
  have y7 := ht4.cell 7
  have y8 := ht4.cell 8
  simp only [toldC, nbC, List.setIfInBounds_toArray, List.set_cons_succ, List.set_cons_zero, List.getElem?_toArray, List.getElem?_cons_zero, List.getElem?_cons_succ] at y0 y1 y2 y3 y4 y5 y6 y7 y8
  have x0 := ht4.frozen 0
  have x1 := ht4.frozen 1
  have x2 := ht4.frozen 2
  have x3 := ht4.frozen 3
  have x4 := ht4.frozen 4
  have x5 := ht4.frozen 5
  have x6 := ht4.frozen 6
  have x7 := ht4.frozen 7
  have x8 := ht4.frozen 8
  have hne9 : w.heap.size ≠ g := by omega
  clear hB3 hm3 ht3 ht4 hC4 hnt ht2 hm2
  go_wp2_with fail
  have fin : ∀ w5, Chg (fun b => b = w.heap.size) w4 w5 → ∃ S', CacheAt w5 (fun b => F b ∨ w.heap.size ≤ b) g S' ∧ absT S' = (absT S2 ++ [(a, newNb now l)]) ∧ Chg F w w5 := fun w5 h5 => by
    have hfin := HCM2.out.send (t := w.heap.size) (e := .returned (.tuple #[])) HLN2.out HNA.out ha HROW.out (by rw [HWW.out]; exact HL4.out) z2 HFT.out h5
    refine ⟨_, hfin.1.mono ?_, by simp [absT], HBW2.out.trans hfin.2 ?_⟩
    · rintro b ((hb | hb) | hb)
      · exact .inl hb.1
      · exact .inr (by have := (Ow.lt HO1.out b hb.symm).1; have := HZ0.out; omega)
      · exact .inr (by omega)
    · rintro b ((hb | hb) | hb)
      · exact .inl hb.1
      · exact .inr (by have := (Ow.lt HO1.out b hb.symm).1; have := HZ0.out; omega)
      · exact .inr (by omega)
  have HFIN := Lib.hid fin
  clear fin
  refine bodyPost_ret (v := .agg #[.bool false, .int .u8 0, .int .u8 0, .int .u8 0, .int .u8 0, .int .u8 0, .int .u8 0, .bool true, .bool false]) (by simp [results, Try.results13, go_sem, *]) rfl ⟨S2, HRO.out, rfl, ?_⟩
  refine HFIN.out _ ?_
  refine Chg.set1 ?_ _
  refine Chg.set1 ?_ _
  refine Chg.set1 ?_ _
  refine Chg.set1 ?_ _
  refine Chg.set1 ?_ _
  refine Chg.set1 ?_ _
  refine Chg.set1 ?_ _
  refine Chg.set1 ?_ _
  refine Chg.set1 ?_ _
  exact Chg.refl _ _
end Go.Proofs.Ytocigdkndlmikaa
