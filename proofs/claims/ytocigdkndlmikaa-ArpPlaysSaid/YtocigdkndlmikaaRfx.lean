/- Proved: what Send of the reference's does where a neighbour is asked for already; Send as a whole. Conditions: as the laws say. -/
import Derived.Test.YtocigdkndlmikaaRfw
import Derived.Deep.DeepCutAuto
set_option linter.unusedVariables false
set_option linter.unusedSimpArgs false
namespace Go.Proofs.Ytocigdkndlmikaa
open Go.RowKit
theorem Below.gr {w w' w2 : World} {row : Option Nat} (h : Below w.heap.size w w') (hG : w'.grownBy w2 row) (hr : ∀ b, row = some b → w.heap.size ≤ b) : Below w.heap.size w w2 :=
  ⟨hG.os.trans h.os, hG.tape.trans h.tape, hG.output.trans h.output, Nat.le_trans h.size hG.size, fun b hb => (hG.block b (Nat.lt_of_lt_of_le hb h.size) (fun e => by have := hr b e.symm; omega)).trans (h.block b hb)⟩
theorem sz_al (W : World) (o : Obj) : W.heap.size ≤ (W.alloc o).heap.size := by rw [World.size_alloc]; omega
/-- One neighbour's row of packets is another one. -/
theorem RcK.put {W : World} {q : Nat} {G : Nat → Prop} {g n c i : Nat} {S : List En} {x y : En} {v : Value} (h : RcK W q G (some ⟨g, 0, none⟩) n c S) (hx : S[i]? = some x) (hy : nrC y = (nrC x).set 10 v) (hok : NrOk W G y) (ha : y.a = x.a) :
    RcK (W.setCell ⟨g, i * 11 + 10, none⟩ v) q G (some ⟨g, 0, none⟩) n c (S.set i y) := by
  have hc : Chg (fun b => b = g) W (W.setCell ⟨g, i * 11 + 10, none⟩ v) := (Chg.refl (fun b => b = g) W).setCell (p := ⟨g, i * 11 + 10, none⟩) (.inl rfl) v
  have hgG : ∀ b, G b → ¬ b = g := fun b hb e => h.na g rfl (e ▸ hb)
  have hgq : q ≠ g := fun e => h.st.2.2 (by rw [e]; rfl)
  refine ⟨⟨h.st.1.chg hc hgq, h.st.2.1.set1 hx (by omega) hy, h.st.2.2⟩, fun z hz => ?_, h.nq, h.na, fun b hb => Nat.lt_of_lt_of_le (h.lt b hb) hc.size, ?_⟩
  · rcases List.mem_or_eq_of_mem_set hz with e | e
    · exact (h.ok z e).chg hc hgG
    · rw [e]; exact hok.chg hc hgG
  · have e : (S.set i y).map (·.a) = S.map (·.a) := by
      rw [List.map_set]
      refine List.ext_getElem? fun j => ?_
      rw [List.getElem?_set]
      split
      · rename_i e
        subst e
        rw [List.getElem?_map, hx]
        split
        · show some y.a = some x.a
          rw [ha]
        · rename_i hl
          exact absurd (by rw [List.length_map]; exact (List.getElem?_eq_some_iff.1 hx).1) hl
      · rfl
    rw [e]; exact h.so
theorem upd_set {S : List En} (hs : (S.map (·.a)).Pairwise (· < ·)) {i : Nat} {x y : En} (hx : S[i]? = some x) (hy : y.a = x.a) : absT (S.set i y) = updT (absT S) x.a y.n := by
  have hi := (List.getElem?_eq_some_iff.1 hx).1
  have hs' := hs
  have e := split_at hx
  rw [e, List.map_append, List.map_cons, List.pairwise_append, List.pairwise_cons] at hs'
  have e2 : S.set i y = S.take i ++ y :: S.drop (i + 1) := by rw [List.set_eq_take_append_cons_drop, if_pos hi]
  have k1 : updT (absT (S.take i)) x.a y.n = absT (S.take i) := by
    unfold updT
    conv => rhs; rw [← List.map_id (absT (S.take i))]
    refine List.map_congr_left fun p hp => ?_
    obtain ⟨z, hz, rfl⟩ := List.mem_map.1 hp
    have := hs'.2.2 z.a (List.mem_map_of_mem hz) x.a (by simp)
    rw [if_neg (show ¬ z.a = x.a by omega)]; rfl
  have k2 : updT (absT (S.drop (i + 1))) x.a y.n = absT (S.drop (i + 1)) := by
    unfold updT
    conv => rhs; rw [← List.map_id (absT (S.drop (i + 1)))]
    refine List.map_congr_left fun p hp => ?_
    obtain ⟨z, hz, rfl⟩ := List.mem_map.1 hp
    have := hs'.2.1.1 z.a (List.mem_map_of_mem hz)
    rw [if_neg (show ¬ z.a = x.a by omega)]; rfl
  have k3 : absT S = absT (S.take i) ++ (x.a, x.n) :: absT (S.drop (i + 1)) := by
    conv => lhs; rw [e]
    simp [absT]
  have k4 : updT (absT S) x.a y.n = updT (absT (S.take i)) x.a y.n ++ (x.a, y.n) :: updT (absT (S.drop (i + 1))) x.a y.n := by
    rw [k3]; simp [updT]
  rw [k4, k1, k2, e2, ← hy]
  simp [absT]
theorem own_some {E : TypeId} {w : World} {base n c : Nat} {A : Option Addr} {xs : List Value} (h : Ow E w base A n c xs) (hn : 0 < n) : ∃ g, A = some ⟨g, 0, none⟩ ∧ n ≤ c := by
  rcases h.cases_ with ⟨_, h0, _⟩ | ⟨g, _, h1, _, _, h2, _⟩
  · omega
  · exact ⟨g, h1, h2⟩
theorem wait_less {W : World} {G : Nat → Prop} {x : En} {vs : List Value} {v : Value} {l : List Int} {base b5 c5 kk : Nat} (hO : Ow 27 W base (some ⟨b5, 0, none⟩) (kk + 1) c5 (vs ++ [v])) (hr : RowsAt W G vs x.n.ws) (hp : RowAt W G v l) (hb : G b5) (hx : okA x.a ∧ 0 ≤ x.n.tr ∧ x.n.tr ≤ 3) (hk : x.n.ws.length < 3) :
    NrOk W G ⟨x.a, x.p, some ⟨b5, 0, none⟩, kk + 1, c5, waiting x.n l⟩ := by
  have hws : (waiting x.n l).ws = x.n.ws ++ [l] := by unfold waiting lastW; rw [if_neg (by rw [List.length_append]; simp; omega)]
  refine ⟨⟨vs ++ [v], (Ow.mono hO (Nat.zero_le _)).of, ?_⟩, fun b e => ?_, ?_, hx⟩
  · show RowsAt W G (vs ++ [v]) (waiting x.n l).ws
    rw [hws]; exact hr.snoc hp
  · have e2 : b5 = b := by simpa [blk] using e
    exact e2 ▸ hb
  · show (waiting x.n l).ws.length ≤ 3
    rw [hws, List.length_append]; simp; omega
theorem wait_full {W : World} {G : Nat → Prop} {x : En} {vs : List Value} {v : Value} {l : List Int} {base b5 c5 kk : Nat} (hO : Ow 27 W base (some ⟨b5, 0, none⟩) (kk + 1) c5 (vs ++ [v])) (hr : RowsAt W G vs x.n.ws) (hp : RowAt W G v l) (hb : G b5) (hx : okA x.a ∧ 0 ≤ x.n.tr ∧ x.n.tr ≤ 3) (hk : x.n.ws.length = 3) (hc : 1 < c5) :
    NrOk W G ⟨x.a, x.p, some ⟨b5, 1, none⟩, kk, c5 - 1, waiting x.n l⟩ := by
  have hws : (waiting x.n l).ws = (x.n.ws ++ [l]).drop 1 := by unfold waiting lastW; rw [if_pos (by rw [List.length_append]; simp; omega)]
  obtain ⟨u, r, rfl⟩ : ∃ u r, vs = u :: r := by
    cases vs with
    | nil => have := hr.length; rw [hk] at this; simp at this
    | cons u r => exact ⟨u, r, rfl⟩
  obtain ⟨m, s, hms⟩ : ∃ m s, x.n.ws = m :: s := by
    cases hw : x.n.ws with
    | nil => rw [hw] at hk; simp at hk
    | cons m s => exact ⟨m, s, rfl⟩
  have hO' : Of 27 W 0 (some ⟨b5, 0, none⟩) (kk + 1) c5 (u :: (r ++ [v])) := (Ow.mono hO (Nat.zero_le _)).of
  obtain ⟨g', o', e, h1⟩ := hO'.tail hc
  injection e with e
  injection e with e1 e2
  subst e1; subst e2
  rw [hms] at hr
  refine ⟨⟨r ++ [v], h1, ?_⟩, fun b e => ?_, ?_, hx⟩
  · show RowsAt W G (r ++ [v]) (waiting x.n l).ws
    rw [hws, hms]; exact (hr.2).snoc hp
  · have e2 : b5 = b := by simpa [blk] using e
    exact e2 ▸ hb
  · show (waiting x.n l).ws.length ≤ 3
    rw [hws, List.length_drop, List.length_append]; simp; omega
/-- The blocks behind one that waits longer. -/
def waitG (G : Nat → Prop) (A3 : Option Addr) (b5 : Nat) (b : Nat) : Prop := G b ∨ blk A3 = some b ∨ b = b5
set_option maxHeartbeats 4000000 in
set_option maxRecDepth 1000000 in
theorem rsend_less3 (q : Nat) (G : Nat → Prop) (A : Option Addr) (n c : Nat) (S : List En) (a : Int) (ha : okA a) (Ap : Option Addr) (np cp B : Nat) (l : List Int) (hnp : l.length = np) (hmax : np ≤ 140737488355328) (hbs : Bs l) (now : Int) (hnow : 0 ≤ now ∧ now ≤ 1099511627776) (w : World) (hr : RB w B Ap l) (hB : B ≤ q) (hBA : ∀ b, blk A = some b → B ≤ b) (h : RcK w q G A n c S) (hn : n ≤ 16)
    (x : En) (hx : x ∈ S) (hxa : x.a = a) (hk : x.n.kn = false) (hk3 : x.n.ws.length < 3) :
    Calls Try.prog 43 #[.pointer (some ⟨q, 0, none⟩), .int .u32 a, .slice Ap np cp, .int .i64 now] w (RSend w q G A S a now l) := by
  have HX := Lib.hid (And.intro hx (And.intro hxa (And.intro hk hk3)))
  clear hx hxa hk hk3
  have hlen := h.len
  have HS := Lib.hid h
  have HLEN := Lib.hid hlen
  have hql := h.st.1.lt
  have HNP := Lib.hid hnp
  have HBS := Lib.hid hbs
  have HR := Lib.hid hr
  have HBA := Lib.hid hBA
  have HA := Lib.hid ha
  obtain ⟨t, ht⟩ : ∃ t, w.heap.size = t := ⟨_, rfl⟩
  have HT := Lib.hid ht
  obtain ⟨W0, hW0⟩ : ∃ W0, w.alloc (.cells told0 34) = W0 := ⟨_, rfl⟩
  have hS0 : SdS w W0 q A := by rw [← hW0]; exact ⟨(Chg.refl _ w).alloc _, Bk.new w _ _⟩
  have HD0 := Lib.hid hS0
  have hB0 : Below w.heap.size w W0 := by rw [← hW0]; exact (Below.refl _ _).alloc (Nat.le_refl _) _
  have HK0 := Lib.hid (h.below hB0)
  have HW0 : Hid (w.alloc (.cells #[.bool false, .int .u8 0, .int .u8 0, .int .u8 0, .int .u8 0, .int .u8 0, .int .u8 0, .bool false, .bool false] 34) = W0) := Lib.hid (by rw [← hW0]; rfl)
  clear h hlen hW0 hS0 hB0 hnp hbs hr hBA ha ht
  go_enter Try.func43, Try.ntmps43
  go_wp2_with fail
  rw [HW0.out, HT.out]
  refine (spot_any q A n c S a _ HK0.out.st (by omega)).mono ?_
  rintro e1 w1 ⟨i, v, rfl, hsp, k, rfl⟩
  have HSP := Lib.hid hsp
  generalize hW1 : World.drewN W0 k = W1
  have HK1 : Hid (RcK W1 q G A n c S) := Lib.hid (by rw [← hW1]; exact HK0.out.drewN k)
  have HD1 : Hid (SdS w W1 q A) := Lib.hid (by rw [← hW1]; exact ⟨HD0.out.ch.drewN k, HD0.out.tb.drewN k⟩)
  clear hW1 hsp
  obtain ⟨rfl, hxi⟩ : v = true ∧ S[i]? = some x := spot_is HSP.out HS.out.so HX.out.1 HX.out.2.1
  have hin : i < n := by have := (List.getElem?_eq_some_iff.1 hxi).1; have := HLEN.out; omega
  obtain ⟨g, rfl, _, hg, hcl⟩ := HK1.out.st.2.1.cell hxi
  have hnc := HK1.out.st.2.1.cap
  have c0 : W1.cell? ⟨q, 0, none⟩ = some (.slice (some ⟨g, 0, none⟩) n c) := HK1.out.st.1.cell 0
  have hki : (0 : Int) ≤ (i : Int) ∧ (i : Int) < (n : Int) := by omega
  have hx1 : W1.cell? ⟨g, i * 11 + 1, none⟩ = some (.bool false) := by rw [← HX.out.2.2.1]; exact (hcl 1 _ rfl).1
  obtain ⟨⟨vs, hv1, hv2⟩, hvG, _⟩ := HK1.out.ok x HX.out.1
  obtain ⟨xA, hxA⟩ : ∃ z, x.A = z := ⟨_, rfl⟩
  obtain ⟨kk, hkk⟩ : ∃ z, x.k = z := ⟨_, rfl⟩
  obtain ⟨xc, hxc⟩ : ∃ z, x.c = z := ⟨_, rfl⟩
  rw [hxA, hkk, hxc] at hv1
  rw [hxA] at hvG
  have hkw : kk = x.n.ws.length := by rw [← hv2.length]; exact hv1.length.symm
  have hk3 : kk < 3 ∧ kk < 3 := by have := HX.out.2.2.2; omega
  have hq1 : q ≠ g := fun e => HK1.out.st.2.2 (by rw [e]; rfl)
  have HPRE : Hid (∀ W3, Below W1.heap.size W1 W3 → (W3.alloc (.cells #[] 27)).cell? ⟨q, 0, none⟩ = some (.slice (some ⟨g, 0, none⟩) n c) ∧ (W3.alloc (.cells #[] 27)).cell? ⟨g, i * 11 + 10, none⟩ = some (.slice xA kk xc) ∧ Rw (W3.alloc (.cells #[] 27)) (W3.alloc (.cells #[] 27)).heap.size xA vs ∧ Below W1.heap.size W1 (W3.alloc (.cells #[] 27)) ∧ W3.heap.size ≤ (W3.alloc (.cells #[] 27)).heap.size) := Lib.hid (fun W3 h3 => by
    have h4 : Below W1.heap.size W1 (W3.alloc (.cells #[] 27)) := h3.alloc h3.size _
    have hkx := HK1.out.below h4
    obtain ⟨g', e, _, _, hc4⟩ := hkx.st.2.1.cell hxi
    injection e with e
    injection e with e
    subst e
    refine ⟨hkx.st.1.cell 0, by rw [← hxA, ← hkk, ← hxc]; exact (hc4 10 _ rfl).1, (hv1.of_block (fun b hb => h4.block b (hv1.lt b hb).2)).rw, h4, by rw [World.size_alloc]; omega⟩)
  have HPOST : Hid (∀ W5, Below W1.heap.size W1 W5 → W5.cell? ⟨q, 0, none⟩ = some (.slice (some ⟨g, 0, none⟩) n c) ∧ W5.cell? ⟨g, i * 11 + 10, none⟩ = some (.slice xA kk xc) ∧ W5.frozen? ⟨g, i * 11 + 10, none⟩ = false) := Lib.hid (fun W5 h4 => by
    have hkx := HK1.out.below h4
    obtain ⟨g', e, _, _, hc4⟩ := hkx.st.2.1.cell hxi
    injection e with e
    injection e with e
    subst e
    exact ⟨hkx.st.1.cell 0, by rw [← hxA, ← hkk, ← hxc]; exact (hc4 10 _ rfl).1, (hc4 10 _ rfl).2⟩)
  have hone : ∀ u ∈ vs, u.oneCell' = true := hv2.one
  have HV := Lib.hid (And.intro hv1 (And.intro hv2 hvG))
  have hmv : vs.length = kk := hv1.length
  have HMV := Lib.hid hmv
  have HKW := Lib.hid hkw
  have HXI := Lib.hid hxi
  have HXF := Lib.hid (And.intro hxA (And.intro hkk hxc))
  have h63a : 0 + kk ≤ maxLen := by unfold maxLen; omega
  have h47a : (0 + kk) * 24 ≤ 140737488355328 := by omega
  have h63b : kk + 1 ≤ maxLen := by unfold maxLen; omega
  have h47b : (kk + 1) * 24 ≤ 140737488355328 := by omega
  have HRB := Lib.hid (HD1.out.rb HR.out (Nat.le_trans hB (Nat.le_of_lt hql)) hB HBA.out)
  have hr2 := HRB.out
  have hBz : B ≤ W1.heap.size := by have := HD1.out.size; omega
  clear hcl hxi hxA hkk hxc hv1 hv2 hvG hmv hkw
  go_upto_region 13 with (first
    | (at_builtin; refine ap8_new rfl (.tmp 52) (.tmp 53) rfl rfl rfl hr2 hBz HNP.out hmax ?_; intro A3 c3 W3 hO3 hB3 hz3 hc3; have HO3 := Lib.hid hO3; have HB3 := Lib.hid hB3; obtain ⟨cq3, c10, hrs3, hB3a, hs3⟩ := HPRE.out W3 hB3; have HRS3 := Lib.hid hrs3; have HB3A := Lib.hid hB3a; have HON : Hid (Ow 27 (W3.alloc (.cells #[] 27)) W3.heap.size (some ⟨W3.heap.size, 0, none⟩) 0 0 []) := Lib.hid (ow_lit W3 27 W3.heap.size [] (Nat.le_refl _) (by decide)); clear hO3 hB3 hc3 hrs3 hB3a)
    | (at_builtin; refine wpList_append_rw rfl (.tmp 56) (.tmp 64) 24 rfl W3.heap.size 27 (.slice none 0 0) 24 Try.underlying24 info_row rfl rfl HON.out rfl HRS3.out HMV.out hone h63a h47a hs3 ?_; intro A4 c4 W4 hO4 hG4 hA4; rw [Nat.zero_add, List.nil_append] at hO4; have HO4 := Lib.hid hO4; have HB34 : Hid (Below W3.heap.size W3 W4) := Lib.hid (Below.gr ((Below.refl _ _).alloc (Nat.le_refl _) _) hG4 (fun b hb => Nat.le_of_eq (Option.some.inj hb))); have hs4 : W3.heap.size ≤ (W4.alloc (.cells #[.slice A3 np c3] 27)).heap.size := Nat.le_trans hs3 (Nat.le_trans hG4.size (sz_al _ _)); have HL4 := Lib.hid (rw_lit W4 27 [.slice A3 np c3]); clear hO4 hG4 hA4)
    | (at_builtin; refine wpList_append_rw rfl (.tmp 65) (.tmp 67) 24 rfl W3.heap.size 27 (.slice none 0 0) 24 Try.underlying24 info_row rfl rfl (HO4.out.alloc _) rfl HL4.out rfl (fun u hu => by (simp at hu; subst hu; rfl)) h63b h47b hs4 ?_; intro A5 c5 W5 hO5 hG5 hA5; obtain ⟨b5, hb5, hcap5⟩ := own_some hO5 (Nat.succ_pos _); subst hb5; have HO5 := Lib.hid hO5; have HB35 : Hid (Below W3.heap.size W3 W5) := Lib.hid (Below.gr (HB34.out.alloc HB34.out.size _) hG5 (fun b hb => (Ow.lt HO4.out b hb).1)); have HB5 := Lib.hid (HB3.out.trans (HB35.out.mono HB3.out.size)); obtain ⟨cq5, c15, f15⟩ := HPOST.out W5 HB5.out; clear hO5 hG5 hA5))
  generalize hW6 : World.setCell W5 ⟨g, i * 11 + 10, none⟩ _ = w6
  have HRK5 : Hid (RcK W5 q (waitG G A3 b5) (some ⟨g, 0, none⟩) n c S) := Lib.hid (by
    obtain ⟨z1, z2⟩ := Ow.lt HO5.out b5 rfl
    have z3 := HB3.out.size
    have z4 := HD1.out.size
    have z5 : ∀ b, blk A3 = some b → W1.heap.size ≤ b ∧ b < W3.heap.size := fun b hb => Ow.lt HO3.out b hb
    refine (HK1.out.below HB5.out).mono (fun b hb => .inl hb) ?_ (fun b hb => ?_) (fun b hb => ?_)
    · rintro (e | e | e)
      · exact HK1.out.nq e
      · have := z5 q e; omega
      · omega
    · have e9 : g = b := by simpa [blk] using hb
      subst e9
      rintro (e | e | e)
      · exact HK1.out.na g rfl e
      · have := z5 g e; omega
      · omega
    · rcases hb with e | e | e
      · have := HK1.out.lt b e; omega
      · have := z5 b e; omega
      · omega)
  have HY : Hid (NrOk W5 (waitG G A3 b5) ⟨x.a, x.p, (some ⟨b5, 0, none⟩), (kk + 1), c5, waiting x.n l⟩) := Lib.hid (by
    have hrs : RowsAt W5 (waitG G A3 b5) vs x.n.ws := HV.out.2.1.keep (fun b _ hl => HB5.out.block b hl) (fun b hb => .inl hb)
    have hrp : RowAt W5 (waitG G A3 b5) (.slice A3 np c3) l := by
      have h0 : RowAt W3 (fun b => blk A3 = some b) (.slice A3 np c3) l := ⟨A3, np, c3, rfl, Ow.mono HO3.out (Nat.zero_le _), fun b hb => hb, HBS.out, hmax⟩
      exact h0.keep (fun b _ hl => HB35.out.block b hl) (fun b hb => .inr (.inl hb))
    exact wait_less HO5.out hrs hrp (.inr (.inr rfl)) (HK1.out.ok x HX.out.1).2.2.2 HX.out.2.2.2)
  have HK6 : Hid (RcK w6 q (waitG G A3 b5) (some ⟨g, 0, none⟩) n c (S.set i ⟨x.a, x.p, (some ⟨b5, 0, none⟩), (kk + 1), c5, waiting x.n l⟩)) := Lib.hid (by rw [← hW6]; exact HRK5.out.put HXI.out rfl HY.out rfl)
  have htg : t ≠ g := by have h1 := HS.out.olt g (.inr rfl); have h2 := HT.out; omega
  have hgt : blk (some ⟨g, 0, none⟩ : Option Addr) ≠ some t := fun e => by
    have e2 : g = t := by simpa [blk] using e
    exact htg e2.symm
  have HDz : Hid (SdS w w6 q (some ⟨g, 0, none⟩)) := Lib.hid (by
    have h5 := HD1.out.below HB5.out
    have hc : Chg (fun b => b = g) W5 w6 := by rw [← hW6]; exact (Chg.refl (fun b => b = g) W5).setCell (p := ⟨g, i * 11 + 10, none⟩) (.inl rfl) _
    exact ⟨h5.ch.trans hc (fun z hz => .inl (.inr (by have e : z = g := hz; rw [e]; rfl))), h5.tb.chg hc (fun e => htg (by have := HT.out; omega))⟩)
  have htb : Bk w6 t 34 told0 := by have := HDz.out.tb; rw [HT.out] at this; exact this
  have hql' : q < w6.heap.size := by have := HDz.out.size; omega
  have y0 := htb.cell 0
  have y1 := htb.cell 1
  have y2 := htb.cell 2
  have y3 := htb.cell 3
  have y4 := htb.cell 4
  have y5 := htb.cell 5
  have y6 := htb.cell 6
  have y7 := htb.cell 7
  have y8 := htb.cell 8
  simp only [told0, List.getElem?_toArray, List.getElem?_cons_zero, List.getElem?_cons_succ] at y0 y1 y2 y3 y4 y5 y6 y7 y8
  have x0 := htb.frozen 0
  have x1 := htb.frozen 1
  have x2 := htb.frozen 2
  have x3 := htb.frozen 3
  have x4 := htb.frozen 4
  have x5 := htb.frozen 5
  have x6 := htb.frozen 6
  have x7 := htb.frozen 7
  have x8 := htb.frozen 8
  clear htb
  have HFIN : Hid (∀ w7, Chg (fun b => b = t) w6 w7 → RSend w q G (some ⟨g, 0, none⟩) S a now l (.returned (.agg (toldC false noMac false false))) w7) := Lib.hid fun w7 h7 =>
    ⟨_, _, S.set i (⟨x.a, x.p, (some ⟨b5, 0, none⟩), (kk + 1), c5, waiting x.n l⟩ : En), rfl, .inr (.inr (.inl ⟨x.n, by rw [← HX.out.2.1]; exact List.mem_map.2 ⟨x, HX.out.1, rfl⟩, HX.out.2.2.1, rfl, rfl⟩)), List.Perm.of_eq (by rw [← HX.out.2.1]; exact upd_set HS.out.so HXI.out rfl),
      RcTo.tail HK6.out (fun b hb => by
        have h1 := HD1.out.size
        have h2 := HB3.out.size
        rcases hb with e | e | e
        · exact .inl e
        · have := (Ow.lt HO3.out b e).1; exact .inr (by omega)
        · have := (Ow.lt HO5.out b5 rfl).1; exact .inr (by omega)) (fun b hb => .inl hb) HDz.out.ch HT.out (fun hb => by
        have h1 := HD1.out.size
        have h2 := HB3.out.size
        have h3 := HT.out
        rcases hb with e | e | e
        · have := HS.out.lt t e; omega
        · have := (Ow.lt HO3.out t e).1; omega
        · have := (Ow.lt HO5.out b5 rfl).1; omega) hgt (by have := HT.out; omega) h7⟩
  clear hW6 cq5 c15 f15 cq3 c10 hx1 c0
  go_wp2_with fail
  refine bodyPost_ret (v := .agg #[.bool false, .int .u8 0, .int .u8 0, .int .u8 0, .int .u8 0, .int .u8 0, .int .u8 0, .bool false, .bool false]) (by simp [results, Try.results43, go_sem, *]) rfl ?_
  refine HFIN.out _ ?_
  refine Chg.set1 ?_ _
  refine Chg.set1 ?_ _
  refine Chg.set1 ?_ _
  refine Chg.set1 ?_ _
  refine Chg.set1 ?_ _
  refine Chg.set1 ?_ _
  refine Chg.set1 ?_ _
  refine Chg.set1 ?_ _
  refine Chg.set1 ?_ _
  exact Chg.refl _ _
set_option maxHeartbeats 4000000 in
set_option maxRecDepth 1000000 in
theorem rsend_full3 (q : Nat) (G : Nat → Prop) (A : Option Addr) (n c : Nat) (S : List En) (a : Int) (ha : okA a) (Ap : Option Addr) (np cp B : Nat) (l : List Int) (hnp : l.length = np) (hmax : np ≤ 140737488355328) (hbs : Bs l) (now : Int) (hnow : 0 ≤ now ∧ now ≤ 1099511627776) (w : World) (hr : RB w B Ap l) (hB : B ≤ q) (hBA : ∀ b, blk A = some b → B ≤ b) (h : RcK w q G A n c S) (hn : n ≤ 16)
    (x : En) (hx : x ∈ S) (hxa : x.a = a) (hk : x.n.kn = false) (hk3 : x.n.ws.length = 3) :
    Calls Try.prog 43 #[.pointer (some ⟨q, 0, none⟩), .int .u32 a, .slice Ap np cp, .int .i64 now] w (RSend w q G A S a now l) := by
  have HX := Lib.hid (And.intro hx (And.intro hxa (And.intro hk hk3)))
  clear hx hxa hk hk3
  have hlen := h.len
  have HS := Lib.hid h
  have HLEN := Lib.hid hlen
  have hql := h.st.1.lt
  have HNP := Lib.hid hnp
  have HBS := Lib.hid hbs
  have HR := Lib.hid hr
  have HBA := Lib.hid hBA
  have HA := Lib.hid ha
  obtain ⟨t, ht⟩ : ∃ t, w.heap.size = t := ⟨_, rfl⟩
  have HT := Lib.hid ht
  obtain ⟨W0, hW0⟩ : ∃ W0, w.alloc (.cells told0 34) = W0 := ⟨_, rfl⟩
  have hS0 : SdS w W0 q A := by rw [← hW0]; exact ⟨(Chg.refl _ w).alloc _, Bk.new w _ _⟩
  have HD0 := Lib.hid hS0
  have hB0 : Below w.heap.size w W0 := by rw [← hW0]; exact (Below.refl _ _).alloc (Nat.le_refl _) _
  have HK0 := Lib.hid (h.below hB0)
  have HW0 : Hid (w.alloc (.cells #[.bool false, .int .u8 0, .int .u8 0, .int .u8 0, .int .u8 0, .int .u8 0, .int .u8 0, .bool false, .bool false] 34) = W0) := Lib.hid (by rw [← hW0]; rfl)
  clear h hlen hW0 hS0 hB0 hnp hbs hr hBA ha ht
  go_enter Try.func43, Try.ntmps43
  go_wp2_with fail
  rw [HW0.out, HT.out]
  refine (spot_any q A n c S a _ HK0.out.st (by omega)).mono ?_
  rintro e1 w1 ⟨i, v, rfl, hsp, k, rfl⟩
  have HSP := Lib.hid hsp
  generalize hW1 : World.drewN W0 k = W1
  have HK1 : Hid (RcK W1 q G A n c S) := Lib.hid (by rw [← hW1]; exact HK0.out.drewN k)
  have HD1 : Hid (SdS w W1 q A) := Lib.hid (by rw [← hW1]; exact ⟨HD0.out.ch.drewN k, HD0.out.tb.drewN k⟩)
  clear hW1 hsp
  obtain ⟨rfl, hxi⟩ : v = true ∧ S[i]? = some x := spot_is HSP.out HS.out.so HX.out.1 HX.out.2.1
  have hin : i < n := by have := (List.getElem?_eq_some_iff.1 hxi).1; have := HLEN.out; omega
  obtain ⟨g, rfl, _, hg, hcl⟩ := HK1.out.st.2.1.cell hxi
  have hnc := HK1.out.st.2.1.cap
  have c0 : W1.cell? ⟨q, 0, none⟩ = some (.slice (some ⟨g, 0, none⟩) n c) := HK1.out.st.1.cell 0
  have hki : (0 : Int) ≤ (i : Int) ∧ (i : Int) < (n : Int) := by omega
  have hx1 : W1.cell? ⟨g, i * 11 + 1, none⟩ = some (.bool false) := by rw [← HX.out.2.2.1]; exact (hcl 1 _ rfl).1
  obtain ⟨⟨vs, hv1, hv2⟩, hvG, _⟩ := HK1.out.ok x HX.out.1
  obtain ⟨xA, hxA⟩ : ∃ z, x.A = z := ⟨_, rfl⟩
  obtain ⟨kk, hkk⟩ : ∃ z, x.k = z := ⟨_, rfl⟩
  obtain ⟨xc, hxc⟩ : ∃ z, x.c = z := ⟨_, rfl⟩
  rw [hxA, hkk, hxc] at hv1
  rw [hxA] at hvG
  have hkw : kk = x.n.ws.length := by rw [← hv2.length]; exact hv1.length.symm
  have hk3 : 3 ≤ kk ∧ kk ≤ 3 := by have := HX.out.2.2.2; omega
  have hq1 : q ≠ g := fun e => HK1.out.st.2.2 (by rw [e]; rfl)
  have HPRE : Hid (∀ W3, Below W1.heap.size W1 W3 → (W3.alloc (.cells #[] 27)).cell? ⟨q, 0, none⟩ = some (.slice (some ⟨g, 0, none⟩) n c) ∧ (W3.alloc (.cells #[] 27)).cell? ⟨g, i * 11 + 10, none⟩ = some (.slice xA kk xc) ∧ Rw (W3.alloc (.cells #[] 27)) (W3.alloc (.cells #[] 27)).heap.size xA vs ∧ Below W1.heap.size W1 (W3.alloc (.cells #[] 27)) ∧ W3.heap.size ≤ (W3.alloc (.cells #[] 27)).heap.size) := Lib.hid (fun W3 h3 => by
    have h4 : Below W1.heap.size W1 (W3.alloc (.cells #[] 27)) := h3.alloc h3.size _
    have hkx := HK1.out.below h4
    obtain ⟨g', e, _, _, hc4⟩ := hkx.st.2.1.cell hxi
    injection e with e
    injection e with e
    subst e
    refine ⟨hkx.st.1.cell 0, by rw [← hxA, ← hkk, ← hxc]; exact (hc4 10 _ rfl).1, (hv1.of_block (fun b hb => h4.block b (hv1.lt b hb).2)).rw, h4, by rw [World.size_alloc]; omega⟩)
  have HPOST : Hid (∀ W5, Below W1.heap.size W1 W5 → W5.cell? ⟨q, 0, none⟩ = some (.slice (some ⟨g, 0, none⟩) n c) ∧ W5.cell? ⟨g, i * 11 + 10, none⟩ = some (.slice xA kk xc) ∧ W5.frozen? ⟨g, i * 11 + 10, none⟩ = false) := Lib.hid (fun W5 h4 => by
    have hkx := HK1.out.below h4
    obtain ⟨g', e, _, _, hc4⟩ := hkx.st.2.1.cell hxi
    injection e with e
    injection e with e
    subst e
    exact ⟨hkx.st.1.cell 0, by rw [← hxA, ← hkk, ← hxc]; exact (hc4 10 _ rfl).1, (hc4 10 _ rfl).2⟩)
  have hone : ∀ u ∈ vs, u.oneCell' = true := hv2.one
  have HV := Lib.hid (And.intro hv1 (And.intro hv2 hvG))
  have hmv : vs.length = kk := hv1.length
  have HMV := Lib.hid hmv
  have HKW := Lib.hid hkw
  have HXI := Lib.hid hxi
  have HXF := Lib.hid (And.intro hxA (And.intro hkk hxc))
  have h63a : 0 + kk ≤ maxLen := by unfold maxLen; omega
  have h47a : (0 + kk) * 24 ≤ 140737488355328 := by omega
  have h63b : kk + 1 ≤ maxLen := by unfold maxLen; omega
  have h47b : (kk + 1) * 24 ≤ 140737488355328 := by omega
  have HRB := Lib.hid (HD1.out.rb HR.out (Nat.le_trans hB (Nat.le_of_lt hql)) hB HBA.out)
  have hr2 := HRB.out
  have hBz : B ≤ W1.heap.size := by have := HD1.out.size; omega
  clear hcl hxi hxA hkk hxc hv1 hv2 hvG hmv hkw
  go_upto_region 13 with (first
    | (at_builtin; refine ap8_new rfl (.tmp 52) (.tmp 53) rfl rfl rfl hr2 hBz HNP.out hmax ?_; intro A3 c3 W3 hO3 hB3 hz3 hc3; have HO3 := Lib.hid hO3; have HB3 := Lib.hid hB3; obtain ⟨cq3, c10, hrs3, hB3a, hs3⟩ := HPRE.out W3 hB3; have HRS3 := Lib.hid hrs3; have HB3A := Lib.hid hB3a; have HON : Hid (Ow 27 (W3.alloc (.cells #[] 27)) W3.heap.size (some ⟨W3.heap.size, 0, none⟩) 0 0 []) := Lib.hid (ow_lit W3 27 W3.heap.size [] (Nat.le_refl _) (by decide)); clear hO3 hB3 hc3 hrs3 hB3a)
    | (at_builtin; refine wpList_append_rw rfl (.tmp 56) (.tmp 64) 24 rfl W3.heap.size 27 (.slice none 0 0) 24 Try.underlying24 info_row rfl rfl HON.out rfl HRS3.out HMV.out hone h63a h47a hs3 ?_; intro A4 c4 W4 hO4 hG4 hA4; rw [Nat.zero_add, List.nil_append] at hO4; have HO4 := Lib.hid hO4; have HB34 : Hid (Below W3.heap.size W3 W4) := Lib.hid (Below.gr ((Below.refl _ _).alloc (Nat.le_refl _) _) hG4 (fun b hb => Nat.le_of_eq (Option.some.inj hb))); have hs4 : W3.heap.size ≤ (W4.alloc (.cells #[.slice A3 np c3] 27)).heap.size := Nat.le_trans hs3 (Nat.le_trans hG4.size (sz_al _ _)); have HL4 := Lib.hid (rw_lit W4 27 [.slice A3 np c3]); clear hO4 hG4 hA4)
    | (at_builtin; refine wpList_append_rw rfl (.tmp 65) (.tmp 67) 24 rfl W3.heap.size 27 (.slice none 0 0) 24 Try.underlying24 info_row rfl rfl (HO4.out.alloc _) rfl HL4.out rfl (fun u hu => by (simp at hu; subst hu; rfl)) h63b h47b hs4 ?_; intro A5 c5 W5 hO5 hG5 hA5; obtain ⟨b5, hb5, hcap5⟩ := own_some hO5 (Nat.succ_pos _); subst hb5; have HO5 := Lib.hid hO5; have HB35 : Hid (Below W3.heap.size W3 W5) := Lib.hid (Below.gr (HB34.out.alloc HB34.out.size _) hG5 (fun b hb => (Ow.lt HO4.out b hb).1)); have HB5 := Lib.hid (HB3.out.trans (HB35.out.mono HB3.out.size)); obtain ⟨cq5, c15, f15⟩ := HPOST.out W5 HB5.out; clear hO5 hG5 hA5))
  generalize hW6 : World.setCell W5 ⟨g, i * 11 + 10, none⟩ _ = w6
  have HRK5 : Hid (RcK W5 q (waitG G A3 b5) (some ⟨g, 0, none⟩) n c S) := Lib.hid (by
    obtain ⟨z1, z2⟩ := Ow.lt HO5.out b5 rfl
    have z3 := HB3.out.size
    have z4 := HD1.out.size
    have z5 : ∀ b, blk A3 = some b → W1.heap.size ≤ b ∧ b < W3.heap.size := fun b hb => Ow.lt HO3.out b hb
    refine (HK1.out.below HB5.out).mono (fun b hb => .inl hb) ?_ (fun b hb => ?_) (fun b hb => ?_)
    · rintro (e | e | e)
      · exact HK1.out.nq e
      · have := z5 q e; omega
      · omega
    · have e9 : g = b := by simpa [blk] using hb
      subst e9
      rintro (e | e | e)
      · exact HK1.out.na g rfl e
      · have := z5 g e; omega
      · omega
    · rcases hb with e | e | e
      · have := HK1.out.lt b e; omega
      · have := z5 b e; omega
      · omega)
  have HY : Hid (NrOk W5 (waitG G A3 b5) ⟨x.a, x.p, (some ⟨b5, 1, none⟩), kk, (c5 - 1), waiting x.n l⟩) := Lib.hid (by
    have hrs : RowsAt W5 (waitG G A3 b5) vs x.n.ws := HV.out.2.1.keep (fun b _ hl => HB5.out.block b hl) (fun b hb => .inl hb)
    have hrp : RowAt W5 (waitG G A3 b5) (.slice A3 np c3) l := by
      have h0 : RowAt W3 (fun b => blk A3 = some b) (.slice A3 np c3) l := ⟨A3, np, c3, rfl, Ow.mono HO3.out (Nat.zero_le _), fun b hb => hb, HBS.out, hmax⟩
      exact h0.keep (fun b _ hl => HB35.out.block b hl) (fun b hb => .inr (.inl hb))
    exact wait_full HO5.out hrs hrp (.inr (.inr rfl)) (HK1.out.ok x HX.out.1).2.2.2 HX.out.2.2.2 (by omega))
  have HK6 : Hid (RcK w6 q (waitG G A3 b5) (some ⟨g, 0, none⟩) n c (S.set i ⟨x.a, x.p, (some ⟨b5, 1, none⟩), kk, (c5 - 1), waiting x.n l⟩)) := Lib.hid (by rw [← hW6]; exact HRK5.out.put HXI.out rfl HY.out rfl)
  have htg : t ≠ g := by have h1 := HS.out.olt g (.inr rfl); have h2 := HT.out; omega
  have hgt : blk (some ⟨g, 0, none⟩ : Option Addr) ≠ some t := fun e => by
    have e2 : g = t := by simpa [blk] using e
    exact htg e2.symm
  have HDz : Hid (SdS w w6 q (some ⟨g, 0, none⟩)) := Lib.hid (by
    have h5 := HD1.out.below HB5.out
    have hc : Chg (fun b => b = g) W5 w6 := by rw [← hW6]; exact (Chg.refl (fun b => b = g) W5).setCell (p := ⟨g, i * 11 + 10, none⟩) (.inl rfl) _
    exact ⟨h5.ch.trans hc (fun z hz => .inl (.inr (by have e : z = g := hz; rw [e]; rfl))), h5.tb.chg hc (fun e => htg (by have := HT.out; omega))⟩)
  have htb : Bk w6 t 34 told0 := by have := HDz.out.tb; rw [HT.out] at this; exact this
  have hql' : q < w6.heap.size := by have := HDz.out.size; omega
  have y0 := htb.cell 0
  have y1 := htb.cell 1
  have y2 := htb.cell 2
  have y3 := htb.cell 3
  have y4 := htb.cell 4
  have y5 := htb.cell 5
  have y6 := htb.cell 6
  have y7 := htb.cell 7
  have y8 := htb.cell 8
  simp only [told0, List.getElem?_toArray, List.getElem?_cons_zero, List.getElem?_cons_succ] at y0 y1 y2 y3 y4 y5 y6 y7 y8
  have x0 := htb.frozen 0
  have x1 := htb.frozen 1
  have x2 := htb.frozen 2
  have x3 := htb.frozen 3
  have x4 := htb.frozen 4
  have x5 := htb.frozen 5
  have x6 := htb.frozen 6
  have x7 := htb.frozen 7
  have x8 := htb.frozen 8
  clear htb
  have HFIN : Hid (∀ w7, Chg (fun b => b = t) w6 w7 → RSend w q G (some ⟨g, 0, none⟩) S a now l (.returned (.agg (toldC false noMac false false))) w7) := Lib.hid fun w7 h7 =>
    ⟨_, _, S.set i (⟨x.a, x.p, (some ⟨b5, 1, none⟩), kk, (c5 - 1), waiting x.n l⟩ : En), rfl, .inr (.inr (.inl ⟨x.n, by rw [← HX.out.2.1]; exact List.mem_map.2 ⟨x, HX.out.1, rfl⟩, HX.out.2.2.1, rfl, rfl⟩)), List.Perm.of_eq (by rw [← HX.out.2.1]; exact upd_set HS.out.so HXI.out rfl),
      RcTo.tail HK6.out (fun b hb => by
        have h1 := HD1.out.size
        have h2 := HB3.out.size
        rcases hb with e | e | e
        · exact .inl e
        · have := (Ow.lt HO3.out b e).1; exact .inr (by omega)
        · have := (Ow.lt HO5.out b5 rfl).1; exact .inr (by omega)) (fun b hb => .inl hb) HDz.out.ch HT.out (fun hb => by
        have h1 := HD1.out.size
        have h2 := HB3.out.size
        have h3 := HT.out
        rcases hb with e | e | e
        · have := HS.out.lt t e; omega
        · have := (Ow.lt HO3.out t e).1; omega
        · have := (Ow.lt HO5.out b5 rfl).1; omega) hgt (by have := HT.out; omega) h7⟩
  clear hW6 cq5 c15 f15 cq3 c10 hx1 c0
  go_wp2_with fail
  refine bodyPost_ret (v := .agg #[.bool false, .int .u8 0, .int .u8 0, .int .u8 0, .int .u8 0, .int .u8 0, .int .u8 0, .bool false, .bool false]) (by simp [results, Try.results43, go_sem, *]) rfl ?_
  refine HFIN.out _ ?_
  refine Chg.set1 ?_ _
  refine Chg.set1 ?_ _
  refine Chg.set1 ?_ _
  refine Chg.set1 ?_ _
  refine Chg.set1 ?_ _
  refine Chg.set1 ?_ _
  refine Chg.set1 ?_ _
  refine Chg.set1 ?_ _
  refine Chg.set1 ?_ _
  exact Chg.refl _ _
/-- Send of the reference's, whatever its cache. -/
theorem rsend_any (q : Nat) (G : Nat → Prop) (A : Option Addr) (n c : Nat) (S : List En) (a : Int) (ha : okA a) (Ap : Option Addr) (np cp B : Nat) (l : List Int) (hnp : l.length = np) (hmax : np ≤ 140737488355328) (hbs : Bs l) (now : Int) (hnow : 0 ≤ now ∧ now ≤ 1099511627776) (w : World) (hr : RB w B Ap l) (hB : B ≤ q) (hBA : ∀ b, blk A = some b → B ≤ b) (h : RcK w q G A n c S) (hn : n ≤ 16) :
    Calls Try.prog 43 #[.pointer (some ⟨q, 0, none⟩), .int .u32 a, .slice Ap np cp, .int .i64 now] w (RSend w q G A S a now l) := by
  by_cases hex : ∃ x ∈ S, x.a = a
  · obtain ⟨x, hx, hxa⟩ := hex
    cases hk : x.n.kn with
    | true =>
      rcases Int.lt_or_le now x.n.tk with r | r
      · exact rsend_known q G A n c S a ha Ap np cp B l hnp hmax hbs now hnow w hr hB hBA h hn x hx hxa hk r
      · exact rsend_old q G A n c S a ha Ap np cp B l hnp hmax hbs now hnow w hr hB hBA h hn x hx hxa hk r
    | false =>
      have h3 := (h.ok x hx).2.2.1
      rcases Nat.lt_or_ge x.n.ws.length 3 with r | r
      · exact rsend_less3 q G A n c S a ha Ap np cp B l hnp hmax hbs now hnow w hr hB hBA h hn x hx hxa hk r
      · exact rsend_full3 q G A n c S a ha Ap np cp B l hnp hmax hbs now hnow w hr hB hBA h hn x hx hxa hk (by omega)
  · exact rsend_new q G A n c S a ha Ap np cp B l hnp hmax hbs now hnow w hr hB hBA h hn (fun x hx e => hex ⟨x, hx, e⟩)
end Go.Proofs.Ytocigdkndlmikaa
