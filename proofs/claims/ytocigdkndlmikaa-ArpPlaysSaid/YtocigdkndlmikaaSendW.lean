/- Proved: what Send does where a neighbour is asked for already: the packet waits. Conditions: as each law says. -/
import Derived.Test.YtocigdkndlmikaaSendO
import Derived.Test.YtocigdkndlmikaaLearn
import Derived.Test.YtocigdkndlmikaaOffW
set_option linter.unusedVariables false
set_option linter.unusedSimpArgs false
namespace Go.Proofs.Ytocigdkndlmikaa
open Go.RowKit

theorem info_row : (Try.prog.info? 27).map (fun i => (i.zero, i.size, i.bytes)) = some (some (.slice none 0 0), 1, 24) := by kernel_rfl
def lastW (ws : List (List Int)) : List (List Int) := if 3 < ws.length then ws.drop 1 else ws
def waiting (n : Nb) (l : List Int) : Nb := { n with ws := lastW (n.ws ++ [l]) }
theorem RowsAt.tl {w : World} {F : Nat → Prop} {vs : List Value} {ls : List (List Int)} (h : RowsAt w F vs ls) : RowsAt w F (vs.drop 1) (ls.drop 1) := by
  match vs, ls, h with
  | [], [], _ => trivial
  | v :: vs, l :: ls, h => exact h.2
/-- Rows of bytes stay where no row of bytes is written. -/
theorem RowsAt.chg8 {w w' : World} {F F' G : Nat → Prop} (hG : ∀ b cs, w.heap[b]? = some (.cells cs 5 (0, 0)) → ¬ G b) (hc : Chg G w w') (hFG : ∀ b, F b → F' b) : ∀ {vs : List Value} {ls : List (List Int)}, RowsAt w F vs ls → RowsAt w' F' vs ls := by
  intro vs
  induction vs with
  | nil => intro ls h; cases ls; exact trivial; exact h.elim
  | cons v vs ih =>
    intro ls h
    cases ls with
    | nil => exact h.elim
    | cons l ls =>
      refine ⟨?_, ih h.2⟩
      obtain ⟨A, n, c, rfl, r1, r2, r3⟩ := h.1
      refine ⟨A, n, c, rfl, ⟨r1.1, ?_⟩, fun b hb => hFG b (r2 b hb), r3⟩
      rcases r1.2 with h4 | ⟨g', cap, cur, h4, h5, h6, h7⟩
      · exact .inl h4
      · exact .inr ⟨g', cap, cur, h4, h5, (hc.block g' (Array.getElem?_eq_some_iff.1 h6).1 (hG g' cur h6)).trans h6, h7⟩
theorem Of.ty {E : TypeId} {w : World} {base : Nat} {A : Option Addr} {n c : Nat} {xs : List Value} (h : Of E w base A n c xs) {b : Nat} (hb : blk A = some b) : ∃ cs, w.heap[b]? = some (.cells cs E (0, 0)) := by
  rcases h.2 with ⟨hA, _⟩ | ⟨g', off, cur, hA, _, hh, _⟩
  · rw [hA] at hb; cases hb
  · rw [hA] at hb
    have e2 : g' = b := by simpa [blk] using hb
    subst e2; exact ⟨_, hh⟩
theorem lastW_len (ws : List (List Int)) (l : List Int) (h : ws.length ≤ 3) : (lastW (ws ++ [l])).length ≤ 3 := by
  unfold lastW
  split
  · rw [List.length_drop, List.length_append]; simp; omega
  · rename_i h2; omega
/-- What Send does where the packet waits: w1: the copy was made, w2: it was put behind the others, w4: the neighbour's slice was written, w5: the answer (block t). -/
theorem CacheMv.waits {w1 w2 w4 w5 : World} {F : Nat → Prop} {g t : Nat} {S : List En} {mv : Option Nat} {e : En} {l : List Int} {vs vs3 : List Value} {own : Value} {A3 : Option Addr} {k3 c3 : Nat} (h : CacheMv w1 F g mv S) (he : e ∈ S)
    (v1 : Of 27 w1 0 e.A e.k e.c vs) (hG2 : (w1.alloc (.cells #[own] 27)).grownBy w2 (blk e.A)) (hb2 : Bk w2 e.p 74 (nbC e.n e.A e.k e.c))
    (hO3 : Of 27 w2 0 A3 k3 c3 vs3) (hR3 : RowsAt w1 F vs3 (waiting e.n l).ws) (hA3 : ∀ b, blk A3 = some b → blk e.A = some b ∨ w1.heap.size ≤ b)
    (hC4 : Chg (fun b => b = e.p) w2 w4) (hb4 : Bk w4 e.p 74 (nbC (waiting e.n l) A3 k3 c3)) (ht : t < w1.heap.size) (hFt : ¬ F t) (hC5 : Chg (fun b => b = t) w4 w5) :
    CacheAt w5 (fun b => F b ∨ w1.heap.size ≤ b) g (putS S ⟨e.a, e.p, A3, k3, c3, waiting e.n l⟩) ∧ Chg (fun b => F b ∨ b = t) w1 w5 := by
  obtain ⟨e1, e2, _, e5, e6, e7, e8⟩ := h.2.2.2.1 e he
  have hC14 : Chg (fun b => b = e.p ∨ some b = blk e.A) w1 w4 :=
    (((Chg.refl _ w1).alloc (.cells #[own] 27)).trans (Chg.of_grown (F := fun b => some b = blk e.A) hG2 (fun b q => q.symm)) (fun b q => .inl (.inr q))).trans hC4 (fun b q => .inl (.inl q))
  have h8 : ∀ b cs, w1.heap[b]? = some (.cells cs 5 (0, 0)) → ¬ (b = e.p ∨ some b = blk e.A) := by
    rintro b cs hb (rfl | q)
    · exact Bk.ne_ e1 (show Bk w1 e.p 5 cs from hb) (by decide) rfl
    · obtain ⟨cs', hq⟩ := v1.ty q.symm
      rw [hb] at hq; injection hq with hq; injection hq with _ hq; exact absurd hq (by decide)
  have hup := h.update he hC14 hb4 ⟨vs3, hO3.stays_ hb2 (by decide) hC4, hR3.chg8 h8 hC14 (fun _ q => .inl q)⟩ hA3 (lastW_len _ _ e6) e8
  refine ⟨CacheAt.chg ⟨mv, hup⟩ hC5 ?_, (hC14.mono ?_).trans hC5 (fun x hx => .inl (.inr hx))⟩
  · rintro b (hb | hb) q
    · exact hFt (by rw [← q]; exact hb)
    · omega
  · rintro b _ (rfl | q)
    · exact .inl e2
    · exact .inl (e5 b q.symm)
set_option maxHeartbeats 4000000 in
set_option maxRecDepth 100000 in
theorem send_waits (a : Int) (ha : okA a) (A : Option Addr) (n c B : Nat) (l : List Int) (hn : l.length = n) (hmax : n ≤ 140737488355328) (hb : Bs l) (now : Int) (hnow : -9223372036854775808 ≤ now ∧ now ≤ 9223372036854775807) (w : World) (hr : RB w B A l) (hB : B ≤ w.heap.size)
    (F : Nat → Prop) (g : Nat) (S : List En) (h : CacheAt w F g S) (e : En) (he : e ∈ S) (hea : e.a = a) (hk : e.n.kn = false) (hk3 : e.n.ws.length < 3) :
    Calls Try.prog 13 #[.pointer (some ⟨g, 0, none⟩), .int .u32 a, .slice A n c, .int .i64 now] w (SendPost w F g (toldC false noMac false false) (updT (absT S) a (waiting e.n l))) := by
  subst hea
  have HN := Lib.hid hn
  have hnd := h.nodup
  have h := h.cap
  have HCA := Lib.hid h
  obtain ⟨mv0, h1, h2, h3, h4, h5, h6⟩ := h
  have HF := Lib.hid h2
  have HFM := Lib.hid h3
  have HEN := Lib.hid h4
  have HAP := Lib.hid h5
  have HND := Lib.hid hnd
  obtain ⟨w0, hw0⟩ : ∃ w0, w.alloc (.cells #[.bool false, .int .u8 0, .int .u8 0, .int .u8 0, .int .u8 0, .int .u8 0, .int .u8 0, .bool false, .bool false] 34) = w0 := ⟨_, rfl⟩
  have hB0 : Below w.heap.size w w0 := by rw [← hw0]; exact (Below.refl _ _).alloc (Nat.le_refl _) _
  have ht0 : Bk w0 w.heap.size 34 #[.bool false, .int .u8 0, .int .u8 0, .int .u8 0, .int .u8 0, .int .u8 0, .int .u8 0, .bool false, .bool false] := by rw [← hw0]; exact Bk.new w _ _
  have hr0 : RB w0 B A l := Rw.below hr (hB0.mono hB)
  have HW0 := Lib.hid hw0
  have HM := Lib.hid h1
  have hg : g < w.heap.size := h1.1.lt
  have hz0 : w0.heap.size = w.heap.size + 1 := by rw [← hw0]; simp
  have HZ0 := Lib.hid hz0
  have HCM : Hid (CacheMv w (fun b => F b ∧ b < w.heap.size) g mv0 S) := Lib.hid ⟨h1, h2, h3, h4, h5, h6⟩
  clear hw0 h1 h2 h3 h4 h5 hn hnd h6 hz0
  obtain ⟨b, rfl⟩ : ∃ b, mv0 = some b := by
    rcases mv0 with _ | b
    · have := HM.out.2.1 rfl
      have h8 : enE e ∈ S.map enE := List.mem_map.2 ⟨e, he, rfl⟩
      rw [this] at h8; cases h8
    · exact ⟨b, rfl⟩
  have HK := Lib.hid hk
  clear hk
  go_enter Try.func13, Try.ntmps13
  go_wp2_with fail
  rw [HW0.out]
  refine (clone_any A n c B l HN.out hmax _ hr0 (by have := HZ0.out; omega)).mono ?_
  rintro e0 w1 ⟨Ao, no, co, rfl, hO1, hB1⟩
  have hz1 := hB1.size
  have hBw1 : Below w.heap.size w w1 := hB0.trans (hB1.mono hB0.size)
  have HBW1 := Lib.hid hBw1
  have ht1 := ht0.below hB1 ht0.lt
  have hm1 := HM.out.kept (hBw1.block g hg) (fun b hb => hBw1.block b (HM.out.2.2 b hb).lt)
  have HM1 := Lib.hid hm1
  have HT1 := Lib.hid ht1
  have HO1 := Lib.hid hO1
  have c1 : w1.cell? ⟨g, 0, none⟩ = some (.map (some b)) := hm1.1.cell 0
  obtain ⟨_, hFp, ⟨vs, hv1, hv2⟩, hFA, _, _, htr⟩ := HEN.out e he
  have hbe := (HEN.out e he).1
  have hbe1 := hbe.below hBw1 hbe.lt
  have hpw : e.p < w.heap.size := hbe.lt
  have hkw : e.k = e.n.ws.length := by rw [← hv2.length]; exact hv1.length.symm
  have hkb : e.k < 3 := by omega
  have HKW := Lib.hid hkw
  have HK3 := Lib.hid hk3
  have HHH := Lib.hid h
  clear hk3 hkw h
  have hv1w : Of 27 w1 0 e.A e.k e.c vs := hv1.of_block (fun b hb => hBw1.block b (hv1.lt b hb).2)
  have hv1a := hv1w.alloc (.cells #[.slice Ao no co] 27)
  have hbeA := hbe1.alloc (.cells #[.slice Ao no co] 27)
  have htA := ht1.alloc (.cells #[.slice Ao no co] 27)
  have hneA : some e.p ≠ blk e.A := Bk.of_ne (t := 74) hbeA hv1a (by decide)
  have htne : some w.heap.size ≠ blk e.A := Bk.of_ne (t := 34) htA hv1a (by decide)
  have hrA : Rw (w1.alloc (.cells #[.slice Ao no co] 27)) (w1.heap.size + 1) (some ⟨w1.heap.size, 0, none⟩) [.slice Ao no co] := rw_lit w1 27 [.slice Ao no co]
  have hone : ∀ u ∈ [Value.slice Ao no co], u.oneCell' = true := by intro u hu; simp at hu; subst hu; rfl
  have k0 : w1.cell? ⟨e.p, 0, none⟩ = some (.bool false) := by rw [hbe1.cell 0, ← HK.out]; rfl
  have k9 : (w1.alloc (.cells #[.slice Ao no co] 27)).cell? ⟨e.p, 9, none⟩ = some (.slice e.A e.k e.c) := by rw [hbeA.cell 9]; rfl
  have k9' : w1.cell? ⟨e.p, 9, none⟩ = some (.slice e.A e.k e.c) := by rw [hbe1.cell 9]; rfl
  have hne1 : w.heap.size ≠ e.p := by omega
  have hne2 : e.p ≠ w.heap.size := by omega
  have hlook : (Instr.lookup mapT (.map (some b)) (.int .u32 e.a) false).run Try.prog w1 = .ok (.pointer (some ⟨e.p, 0, none⟩)) w1 := by
    have := hm1.look ha
    rw [getL_enE HND.out he] at this
    exact this
  have h63 : e.k + 1 ≤ maxLen := by unfold maxLen; omega
  have h47 : (e.k + 1) * 24 ≤ 140737488355328 := by omega
  have HB1' := Lib.hid hB1
  clear hm1 hBw1 hbe hbe1 ht0 ht1 hr0 hO1 hB1
  have hkI : (e.k : Int) + 1 ≤ 3 := by omega
  go_wp2_with (at_builtin; refine wpList_append_of rfl (.tmp 26) (.tmp 28) 24 rfl 0 27 (.slice none 0 0) 24 Try.underlying24 info_row rfl rfl hv1a rfl hrA rfl (Nat.succ_pos 0) hone h63 h47 (Nat.zero_le _) ?_; intro g2 o2 c2 w2 hO2 hG2 hA2; have hb2 := hbeA.grown hG2 hneA; have k92 := hb2.cell 9; have f92 := hb2.frozen 9; simp only [nbC, List.getElem?_toArray, List.getElem?_cons_zero, List.getElem?_cons_succ] at k92; have ht2 := htA.grown hG2 htne; have y0 := ht2.cell 0; have y1 := ht2.cell 1; have y2 := ht2.cell 2; have y3 := ht2.cell 3; have y4 := ht2.cell 4; have y5 := ht2.cell 5; have y6 := ht2.cell 6; have y7 := ht2.cell 7; have y8 := ht2.cell 8; simp only [List.getElem?_toArray, List.getElem?_cons_zero, List.getElem?_cons_succ] at y0 y1 y2 y3 y4 y5 y6 y7 y8; have x0 := ht2.frozen 0; have x1 := ht2.frozen 1; have x2 := ht2.frozen 2; have x3 := ht2.frozen 3; have x4 := ht2.frozen 4; have x5 := ht2.frozen 5; have x6 := ht2.frozen 6; have x7 := ht2.frozen 7; have x8 := ht2.frozen 8)
  have hcm1 : CacheMv w1 (fun b => (F b ∧ b < w.heap.size) ∨ some b = blk Ao) g (some b) S := HCM.out.keep (fun b _ hl => HBW1.out.block b hl) (fun b h => .inl h)
  have hzw := HZ0.out
  have hblk : ∀ x, blk Ao = some x → w0.heap.size ≤ x := fun x hx => (Ow.lt HO1.out x hx).1
  have hrow1 : RowAt w1 (fun b => (F b ∧ b < w.heap.size) ∨ some b = blk Ao) (.slice Ao no co) l :=
    ⟨Ao, no, co, rfl, Ow.mono HO1.out (Nat.zero_le _), fun b hb => .inr hb.symm, hb, by rw [← Ow.length HO1.out, by8_length, HN.out]; exact hmax⟩
  have hrows1 : RowsAt w1 (fun b => (F b ∧ b < w.heap.size) ∨ some b = blk Ao) vs e.n.ws := hv2.keep (fun b _ hl => HBW1.out.block b hl) (fun b h => .inl h)
  have hwait : (waiting e.n l).ws = e.n.ws ++ [l] := by unfold waiting lastW; rw [if_neg (by rw [List.length_append]; have := HK3.out; simp; omega)]
  have hFT : ¬ ((F w.heap.size ∧ w.heap.size < w.heap.size) ∨ some w.heap.size = blk Ao) := by
    rintro (⟨_, q⟩ | q)
    · omega
    · have := hblk _ q.symm
      omega
  have hbk4 : Bk (w2.setCell ⟨e.p, 9, none⟩ (.slice (some ⟨g2, o2, none⟩) (e.k + 1) c2)) e.p 74 (nbC (waiting e.n l) (some ⟨g2, o2, none⟩) (e.k + 1) c2) := by
    have := hb2.set 9 (.slice (some ⟨g2, o2, none⟩) (e.k + 1) c2)
    simp only [nbC, List.setIfInBounds_toArray, List.set_cons_zero, List.set_cons_succ] at this
    exact this
  have hA3 : ∀ b, blk (some (⟨g2, o2, none⟩ : Addr)) = some b → blk e.A = some b ∨ w1.heap.size ≤ b := by
    intro b' hb'
    have h9 : g2 = b' := by simpa [blk] using hb'
    subst h9
    rcases hA2 with q | q
    · exact .inl q.symm
    · exact .inr (by rw [q, World.size_alloc]; omega)
  have fin : ∀ w5, Chg (fun b => b = w.heap.size) (w2.setCell ⟨e.p, 9, none⟩ (.slice (some ⟨g2, o2, none⟩) (e.k + 1) c2)) w5 → ∃ S', CacheAt w5 (fun b => F b ∨ w.heap.size ≤ b) g S' ∧ absT S' = updT (absT S) e.a (waiting e.n l) ∧ Chg F w w5 := fun w5 h5 => by
    have hfin := hcm1.waits (t := w.heap.size) he hv1w hG2 hb2 hO2 (by rw [hwait]; exact hrows1.snoc hrow1) hA3 (Chg.set1 (Chg.refl _ w2) _) hbk4 (by omega) hFT h5
    refine ⟨_, hfin.1.mono ?_, absT_putS _ _, (Chg.of_below HBW1.out).trans hfin.2 ?_⟩
    · rintro b' ((hb | hb) | hb)
      · exact .inl hb.1
      · exact .inr (by have := hblk b' hb.symm; omega)
      · exact .inr (by omega)
    · rintro b' ((hb | hb) | hb)
      · exact .inl hb.1
      · exact .inr (by have := hblk b' hb.symm; omega)
      · exact .inr (by omega)
  have HFIN := Lib.hid fin
  clear fin hcm1 hrow1 hrows1 hwait hbk4 hA3 hblk hv1 hv2 hv1w hv1a hrA hone hFA
  refine bodyPost_ret (v := .agg #[.bool false, .int .u8 0, .int .u8 0, .int .u8 0, .int .u8 0, .int .u8 0, .int .u8 0, .bool false, .bool false]) (by simp [results, Try.results13, go_sem, *]) rfl ⟨rfl, ?_⟩
  refine HFIN.out _ ?_
  refine Chg.set1 ?_ _
  refine Chg.set1 ?_ _
  refine Chg.set1 ?_ _
  refine Chg.set1 ?_ _
  refine Chg.set1 ?_ _
  refine Chg.set1 ?_ _
  refine Chg.set1 ?_ _
  refine Chg.set1 ?_ _
  refine Chg.set1 ?_ _
  exact Chg.refl _ _

theorem ne_one_of {k c : Nat} (h : k + 1 ≤ c) (hk : 3 ≤ k) : ¬ c = 1 := by omega
set_option maxHeartbeats 4000000 in
set_option maxRecDepth 100000 in
theorem send_waits3 (a : Int) (ha : okA a) (A : Option Addr) (n c B : Nat) (l : List Int) (hn : l.length = n) (hmax : n ≤ 140737488355328) (hb : Bs l) (now : Int) (hnow : -9223372036854775808 ≤ now ∧ now ≤ 9223372036854775807) (w : World) (hr : RB w B A l) (hB : B ≤ w.heap.size)
    (F : Nat → Prop) (g : Nat) (S : List En) (h : CacheAt w F g S) (e : En) (he : e ∈ S) (hea : e.a = a) (hk : e.n.kn = false) (hk3 : e.n.ws.length = 3) :
    Calls Try.prog 13 #[.pointer (some ⟨g, 0, none⟩), .int .u32 a, .slice A n c, .int .i64 now] w (SendPost w F g (toldC false noMac false false) (updT (absT S) a (waiting e.n l))) := by
  subst hea
  have HN := Lib.hid hn
  have hnd := h.nodup
  have h := h.cap
  have HCA := Lib.hid h
  obtain ⟨mv0, h1, h2, h3, h4, h5, h6⟩ := h
  have HF := Lib.hid h2
  have HFM := Lib.hid h3
  have HEN := Lib.hid h4
  have HAP := Lib.hid h5
  have HND := Lib.hid hnd
  obtain ⟨w0, hw0⟩ : ∃ w0, w.alloc (.cells #[.bool false, .int .u8 0, .int .u8 0, .int .u8 0, .int .u8 0, .int .u8 0, .int .u8 0, .bool false, .bool false] 34) = w0 := ⟨_, rfl⟩
  have hB0 : Below w.heap.size w w0 := by rw [← hw0]; exact (Below.refl _ _).alloc (Nat.le_refl _) _
  have ht0 : Bk w0 w.heap.size 34 #[.bool false, .int .u8 0, .int .u8 0, .int .u8 0, .int .u8 0, .int .u8 0, .int .u8 0, .bool false, .bool false] := by rw [← hw0]; exact Bk.new w _ _
  have hr0 : RB w0 B A l := Rw.below hr (hB0.mono hB)
  have HW0 := Lib.hid hw0
  have HM := Lib.hid h1
  have hg : g < w.heap.size := h1.1.lt
  have hz0 : w0.heap.size = w.heap.size + 1 := by rw [← hw0]; simp
  have HZ0 := Lib.hid hz0
  have HCM : Hid (CacheMv w (fun b => F b ∧ b < w.heap.size) g mv0 S) := Lib.hid ⟨h1, h2, h3, h4, h5, h6⟩
  clear hw0 h1 h2 h3 h4 h5 hn hnd h6 hz0
  obtain ⟨b, rfl⟩ : ∃ b, mv0 = some b := by
    rcases mv0 with _ | b
    · have := HM.out.2.1 rfl
      have h8 : enE e ∈ S.map enE := List.mem_map.2 ⟨e, he, rfl⟩
      rw [this] at h8; cases h8
    · exact ⟨b, rfl⟩
  have HK := Lib.hid hk
  clear hk
  go_enter Try.func13, Try.ntmps13
  go_wp2_with fail
  rw [HW0.out]
  refine (clone_any A n c B l HN.out hmax _ hr0 (by have := HZ0.out; omega)).mono ?_
  rintro e0 w1 ⟨Ao, no, co, rfl, hO1, hB1⟩
  have hz1 := hB1.size
  have hBw1 : Below w.heap.size w w1 := hB0.trans (hB1.mono hB0.size)
  have HBW1 := Lib.hid hBw1
  have ht1 := ht0.below hB1 ht0.lt
  have hm1 := HM.out.kept (hBw1.block g hg) (fun b hb => hBw1.block b (HM.out.2.2 b hb).lt)
  have HM1 := Lib.hid hm1
  have HT1 := Lib.hid ht1
  have HO1 := Lib.hid hO1
  have c1 : w1.cell? ⟨g, 0, none⟩ = some (.map (some b)) := hm1.1.cell 0
  obtain ⟨_, hFp, ⟨vs, hv1, hv2⟩, hFA, _, _, htr⟩ := HEN.out e he
  have hbe := (HEN.out e he).1
  have hbe1 := hbe.below hBw1 hbe.lt
  have hpw : e.p < w.heap.size := hbe.lt
  have hkw : e.k = e.n.ws.length := by rw [← hv2.length]; exact hv1.length.symm
  have hkb : e.k = 3 := by omega
  have hkb3 : 3 ≤ e.k := by omega
  have hkb4 : e.k ≤ 3 := by omega
  have HKB := Lib.hid hkb
  clear hkb
  have HKW := Lib.hid hkw
  have HK3 := Lib.hid hk3
  have HHH := Lib.hid h
  clear hk3 hkw h
  have hv1w : Of 27 w1 0 e.A e.k e.c vs := hv1.of_block (fun b hb => hBw1.block b (hv1.lt b hb).2)
  have hv1a := hv1w.alloc (.cells #[.slice Ao no co] 27)
  have hbeA := hbe1.alloc (.cells #[.slice Ao no co] 27)
  have htA := ht1.alloc (.cells #[.slice Ao no co] 27)
  have hneA : some e.p ≠ blk e.A := Bk.of_ne (t := 74) hbeA hv1a (by decide)
  have htne : some w.heap.size ≠ blk e.A := Bk.of_ne (t := 34) htA hv1a (by decide)
  have hrA : Rw (w1.alloc (.cells #[.slice Ao no co] 27)) (w1.heap.size + 1) (some ⟨w1.heap.size, 0, none⟩) [.slice Ao no co] := rw_lit w1 27 [.slice Ao no co]
  have hone : ∀ u ∈ [Value.slice Ao no co], u.oneCell' = true := by intro u hu; simp at hu; subst hu; rfl
  have k0 : w1.cell? ⟨e.p, 0, none⟩ = some (.bool false) := by rw [hbe1.cell 0, ← HK.out]; rfl
  have k9 : (w1.alloc (.cells #[.slice Ao no co] 27)).cell? ⟨e.p, 9, none⟩ = some (.slice e.A e.k e.c) := by rw [hbeA.cell 9]; rfl
  have k9' : w1.cell? ⟨e.p, 9, none⟩ = some (.slice e.A e.k e.c) := by rw [hbe1.cell 9]; rfl
  have hne1 : w.heap.size ≠ e.p := by omega
  have hne2 : e.p ≠ w.heap.size := by omega
  have hlook : (Instr.lookup mapT (.map (some b)) (.int .u32 e.a) false).run Try.prog w1 = .ok (.pointer (some ⟨e.p, 0, none⟩)) w1 := by
    have := hm1.look ha
    rw [getL_enE HND.out he] at this
    exact this
  have h63 : e.k + 1 ≤ maxLen := by unfold maxLen; omega
  have h47 : (e.k + 1) * 24 ≤ 140737488355328 := by omega
  have HB1' := Lib.hid hB1
  clear hm1 hBw1 hbe hbe1 ht0 ht1 hr0 hO1 hB1
  have hkI : (3 : Int) < (e.k : Int) + 1 := by omega
  go_wp2_with (at_builtin; refine wpList_append_of rfl (.tmp 26) (.tmp 28) 24 rfl 0 27 (.slice none 0 0) 24 Try.underlying24 info_row rfl rfl hv1a rfl hrA rfl (Nat.succ_pos 0) hone h63 h47 (Nat.zero_le _) ?_; intro g2 o2 c2 w2 hO2 hG2 hA2; have hb2 := hbeA.grown hG2 hneA; have k92 := hb2.cell 9; have f92 := hb2.frozen 9; simp only [nbC, List.getElem?_toArray, List.getElem?_cons_zero, List.getElem?_cons_succ] at k92; have hc2 := ne_one_of hO2.cap hkb3; have ht2 := htA.grown hG2 htne; have y0 := ht2.cell 0; have y1 := ht2.cell 1; have y2 := ht2.cell 2; have y3 := ht2.cell 3; have y4 := ht2.cell 4; have y5 := ht2.cell 5; have y6 := ht2.cell 6; have y7 := ht2.cell 7; have y8 := ht2.cell 8; simp only [List.getElem?_toArray, List.getElem?_cons_zero, List.getElem?_cons_succ] at y0 y1 y2 y3 y4 y5 y6 y7 y8; have x0 := ht2.frozen 0; have x1 := ht2.frozen 1; have x2 := ht2.frozen 2; have x3 := ht2.frozen 3; have x4 := ht2.frozen 4; have x5 := ht2.frozen 5; have x6 := ht2.frozen 6; have x7 := ht2.frozen 7; have x8 := ht2.frozen 8)
  have hcm1 : CacheMv w1 (fun b => (F b ∧ b < w.heap.size) ∨ some b = blk Ao) g (some b) S := HCM.out.keep (fun b _ hl => HBW1.out.block b hl) (fun b h => .inl h)
  have hzw := HZ0.out
  have hblk : ∀ x, blk Ao = some x → w0.heap.size ≤ x := fun x hx => (Ow.lt HO1.out x hx).1
  have hrow1 : RowAt w1 (fun b => (F b ∧ b < w.heap.size) ∨ some b = blk Ao) (.slice Ao no co) l :=
    ⟨Ao, no, co, rfl, Ow.mono HO1.out (Nat.zero_le _), fun b hb => .inr hb.symm, hb, by rw [← Ow.length HO1.out, by8_length, HN.out]; exact hmax⟩
  have hrows1 : RowsAt w1 (fun b => (F b ∧ b < w.heap.size) ∨ some b = blk Ao) vs e.n.ws := hv2.keep (fun b _ hl => HBW1.out.block b hl) (fun b h => .inl h)
  have hwait : (waiting e.n l).ws = (e.n.ws ++ [l]).drop 1 := by unfold waiting lastW; rw [if_pos (by rw [List.length_append]; have := HK3.out; simp; omega)]
  have hFT : ¬ ((F w.heap.size ∧ w.heap.size < w.heap.size) ∨ some w.heap.size = blk Ao) := by
    rintro (⟨_, q⟩ | q)
    · omega
    · have := hblk _ q.symm
      omega
  have hbk4 : Bk ((w2.setCell ⟨e.p, 9, none⟩ (.slice (some ⟨g2, o2, none⟩) (e.k + 1) c2)).setCell ⟨e.p, 9, none⟩ (.slice (some ⟨g2, o2 + 1, none⟩) e.k (c2 - 1))) e.p 74 (nbC (waiting e.n l) (some ⟨g2, o2 + 1, none⟩) e.k (c2 - 1)) := by
    have := (hb2.set 9 (.slice (some ⟨g2, o2, none⟩) (e.k + 1) c2)).set 9 (.slice (some ⟨g2, o2 + 1, none⟩) e.k (c2 - 1))
    simp only [nbC, List.setIfInBounds_toArray, List.set_cons_zero, List.set_cons_succ] at this
    exact this
  have hO3 : Of 27 w2 0 (some ⟨g2, o2 + 1, none⟩) e.k (c2 - 1) ((vs ++ [Value.slice Ao no co]).drop 1) := by
    have hl := hv1.length
    match vs, hl with
    | [], hl => simp at hl; omega
    | x :: xs, hl =>
      obtain ⟨g9, o9, q, h9⟩ := Of.tail (x := x) (xs := xs ++ [Value.slice Ao no co]) hO2 (by have := hO2.cap; omega)
      injection q with q
      injection q with q1 q2
      subst q1; subst q2
      exact h9
  have hA3 : ∀ b, blk (some (⟨g2, o2 + 1, none⟩ : Addr)) = some b → blk e.A = some b ∨ w1.heap.size ≤ b := by
    intro b' hb'
    have h9 : g2 = b' := by simpa [blk] using hb'
    subst h9
    rcases hA2 with q | q
    · exact .inl q.symm
    · exact .inr (by rw [q, World.size_alloc]; omega)
  have fin : ∀ w5, Chg (fun b => b = w.heap.size) ((w2.setCell ⟨e.p, 9, none⟩ (.slice (some ⟨g2, o2, none⟩) (e.k + 1) c2)).setCell ⟨e.p, 9, none⟩ (.slice (some ⟨g2, o2 + 1, none⟩) e.k (c2 - 1))) w5 → ∃ S', CacheAt w5 (fun b => F b ∨ w.heap.size ≤ b) g S' ∧ absT S' = updT (absT S) e.a (waiting e.n l) ∧ Chg F w w5 := fun w5 h5 => by
    have hfin := hcm1.waits (t := w.heap.size) he hv1w hG2 hb2 hO3 (by rw [hwait]; exact (hrows1.snoc hrow1).tl) hA3 (Chg.set1 (Chg.set1 (Chg.refl _ w2) _) _) hbk4 (by omega) hFT h5
    refine ⟨_, hfin.1.mono ?_, absT_putS _ _, (Chg.of_below HBW1.out).trans hfin.2 ?_⟩
    · rintro b' ((hb | hb) | hb)
      · exact .inl hb.1
      · exact .inr (by have := hblk b' hb.symm; omega)
      · exact .inr (by omega)
    · rintro b' ((hb | hb) | hb)
      · exact .inl hb.1
      · exact .inr (by have := hblk b' hb.symm; omega)
      · exact .inr (by omega)
  have HFIN := Lib.hid fin
  clear fin hcm1 hrow1 hrows1 hwait hbk4 hA3 hblk hv1 hv2 hv1w hv1a hrA hone hFA hO3
  refine bodyPost_ret (v := .agg #[.bool false, .int .u8 0, .int .u8 0, .int .u8 0, .int .u8 0, .int .u8 0, .int .u8 0, .bool false, .bool false]) (by simp [results, Try.results13, go_sem, *]) rfl ⟨rfl, ?_⟩
  refine HFIN.out _ ?_
  refine Chg.set1 ?_ _
  refine Chg.set1 ?_ _
  refine Chg.set1 ?_ _
  refine Chg.set1 ?_ _
  refine Chg.set1 ?_ _
  refine Chg.set1 ?_ _
  refine Chg.set1 ?_ _
  refine Chg.set1 ?_ _
  refine Chg.set1 ?_ _
  exact Chg.refl _ _

end Go.Proofs.Ytocigdkndlmikaa
