/- Proved: Send and Learn of a cache that is full of those that are asked for; Tick of a cache that never had a neighbour. Conditions: as the laws say. -/
import Derived.Test.YtocigdkndlmikaaPqs
import Derived.Test.YtocigdkndlmikaaTick
import Derived.Test.YtocigdkndlmikaaLearnR
import Derived.Test.YtocigdkndlmikaaApl
import Derived.Test.YtocigdkndlmikaaRft
set_option linter.unusedVariables false
set_option linter.unusedSimpArgs false
namespace Go.Proofs.Ytocigdkndlmikaa
open Go.RowKit
theorem CacheMv.done {w w2 w5 : World} {F : Nat → Prop} {g : Nat} {mv : Option Nat} {S : List En} {t : Nat} (h : CacheMv w (fun b => F b ∧ b < w.heap.size) g mv S) (hc : Chg F w w2) (hk : ∀ b, F b → b < w.heap.size → w2.heap[b]? = w.heap[b]?) (ht : t = w.heap.size) (h5 : Chg (fun b => b = t) w2 w5) :
    ∃ S', CacheAt w5 (fun b => F b ∨ w.heap.size ≤ b) g S' ∧ absT S' = absT S ∧ Chg F w w5 :=
  ⟨S, ⟨mv, h.keep (fun b hb hl => by
    have h1 := hk b hb.1 hl
    have h2 := h5.block b (Nat.lt_of_lt_of_le hl hc.size) (by have := hb.2; omega)
    exact h2.trans h1) (fun b hb => .inl hb.1)⟩, rfl, hc.trans h5 (fun x hx => .inr (by have e : x = t := hx; omega))⟩
set_option maxHeartbeats 4000000 in
set_option maxRecDepth 100000 in
theorem send_full (a : Int) (ha : okA a) (A : Option Addr) (n c B : Nat) (l : List Int) (hn : l.length = n) (hmax : n ≤ 140737488355328) (hb : Bs l) (now : Int) (hnow : -9223372036854775808 ≤ now ∧ now ≤ 9223372036854775807) (w : World) (hr : RB w B A l) (hB : B ≤ w.heap.size)
    (F : Nat → Prop) (g : Nat) (S : List En) (h : CacheAt w F g S) (hna0 : ∀ e ∈ S, e.a ≠ a) (h16 : 16 ≤ S.length) (hfull : ∀ x ∈ S, x.n.kn = false) :
    Calls Try.prog 13 #[.pointer (some ⟨g, 0, none⟩), .int .u32 a, .slice A n c, .int .i64 now] w (SendPost w F g (toldC false noMac false true) (absT S)) := by
  have HN := Lib.hid hn
  have hnd := h.nodup
  have h := h.cap
  obtain ⟨mv0, h1, h2, h3, h4, h5, h6⟩ := h
  have HCM : Hid (CacheMv w (fun b => F b ∧ b < w.heap.size) g mv0 S) := Lib.hid ⟨h1, h2, h3, h4, h5, h6⟩
  have HND := Lib.hid hnd
  obtain ⟨w0, hw0⟩ : ∃ w0, w.alloc (.cells #[.bool false, .int .u8 0, .int .u8 0, .int .u8 0, .int .u8 0, .int .u8 0, .int .u8 0, .bool false, .bool false] 34) = w0 := ⟨_, rfl⟩
  have hB0 : Below w.heap.size w w0 := by rw [← hw0]; exact (Below.refl _ _).alloc (Nat.le_refl _) _
  have ht0 : Bk w0 w.heap.size 34 #[.bool false, .int .u8 0, .int .u8 0, .int .u8 0, .int .u8 0, .int .u8 0, .int .u8 0, .bool false, .bool false] := by rw [← hw0]; exact Bk.new w _ _
  have hr0 : RB w0 B A l := Rw.below hr (hB0.mono hB)
  have HW0 := Lib.hid hw0
  have HM := Lib.hid h1
  have hg : g < w.heap.size := h1.1.lt
  have hz0 : w0.heap.size = w.heap.size + 1 := by rw [← hw0]; simp
  have HZ0 := Lib.hid hz0
  have HNA0 := Lib.hid hna0
  have HFU := Lib.hid (And.intro h16 hfull)
  clear hw0 h1 h2 h3 h4 h5 hn hnd h6 hz0 hna0 h16 hfull
  go_enter Try.func13, Try.ntmps13
  go_wp2_with fail
  rw [HW0.out]
  refine (clone_any A n c B l HN.out hmax _ hr0 (by have := HZ0.out; omega)).mono ?_
  rintro e0 w1 ⟨Ao, no, co, rfl, hO1, hB1⟩
  have hz1 := hB1.size
  have hBw1 : Below w.heap.size w w1 := hB0.trans (hB1.mono hB0.size)
  have HBW1 := Lib.hid hBw1
  have ht1 := ht0.below hB1 ht0.lt
  have hm1 := HM.out.kept (hBw1.block g hg) (fun b hb => hBw1.block b (HM.out.2.2 b hb).lt)
  have HM1 := Lib.hid hm1
  have HT1 := Lib.hid ht1
  have c1 : w1.cell? ⟨g, 0, none⟩ = some (.map mv0) := hm1.1.cell 0
  have hlook : (Instr.lookup mapT (.map mv0) (.int .u32 a) false).run Try.prog w1 = .ok (.pointer none) w1 := by
    have := hm1.look ha
    rw [getL_enE_none HNA0.out] at this
    exact this
  clear hm1 hBw1 ht0 ht1 hr0 hO1 hB1
  go_wp2_with fail
  refine (room_big g mv0 S _ HM1.out (fun e he => ((HCM.out.2.2.2.1 e he).keep (fun b _ hl => HBW1.out.block b hl) (fun b h => h)).1) HFU.out.1).mono ?_
  rintro e1 w2 (⟨rfl, r2, _⟩ | ⟨rfl, r2, ⟨x, r3, r4⟩, r5⟩ | ⟨rfl, r2, r3, r4, r5⟩)
  · exfalso; have := HFU.out.1; omega
  · exfalso
    have := HFU.out.2 x r3.1
    rw [r3.2.1] at this
    cases this
  · have ht2 := HT1.out.chg r5 (fun e => e)
    have y0 := ht2.cell 0
    have y1 := ht2.cell 1
    have y2 := ht2.cell 2
    have y3 := ht2.cell 3
    have y4 := ht2.cell 4
    have y5 := ht2.cell 5
    have y6 := ht2.cell 6
    have y7 := ht2.cell 7
    have y8 := ht2.cell 8
    simp only [List.getElem?_toArray, List.getElem?_cons_zero, List.getElem?_cons_succ] at y0 y1 y2 y3 y4 y5 y6 y7 y8
    have x0 := ht2.frozen 0
    have x1 := ht2.frozen 1
    have x2 := ht2.frozen 2
    have x3 := ht2.frozen 3
    have x4 := ht2.frozen 4
    have x5 := ht2.frozen 5
    have x6 := ht2.frozen 6
    have x7 := ht2.frozen 7
    have x8 := ht2.frozen 8
    have fin : ∀ w5, Chg (fun b => b = w.heap.size) w2 w5 → ∃ S', CacheAt w5 (fun b => F b ∨ w.heap.size ≤ b) g S' ∧ absT S' = absT S ∧ Chg F w w5 := fun w5 h5 =>
      HCM.out.done ((Chg.of_below (F := F) HBW1.out).trans r5 (fun x e => e.elim)) (fun b hb hl => (r5.block b (Nat.lt_of_lt_of_le hl HBW1.out.size) (fun e => e)).trans (HBW1.out.block b hl)) rfl h5
    have HFIN := Lib.hid fin
    clear fin r2 r3 r4 r5 ht2
    go_wp2_with fail
    refine bodyPost_ret (v := .agg #[.bool false, .int .u8 0, .int .u8 0, .int .u8 0, .int .u8 0, .int .u8 0, .int .u8 0, .bool false, .bool true]) (by simp [results, Try.results13, go_sem, *]) rfl ⟨rfl, ?_⟩
    refine HFIN.out _ ?_
    refine Chg.set1 ?_ _
    refine Chg.set1 ?_ _
    refine Chg.set1 ?_ _
    refine Chg.set1 ?_ _
    refine Chg.set1 ?_ _
    refine Chg.set1 ?_ _
    refine Chg.set1 ?_ _
    refine Chg.set1 ?_ _
    refine Chg.set1 ?_ _
    exact Chg.refl _ _
set_option maxHeartbeats 4000000 in
set_option maxRecDepth 100000 in
theorem learn_full (a : Int) (ha : okA a) (m0 m1 m2 m3 m4 m5 now : Int) (fresh : Bool) (w : World)
    (F : Nat → Prop) (g : Nat) (S : List En) (h : CacheAt w F g S) (hna0 : ∀ e ∈ S, e.a ≠ a) (h16 : 16 ≤ S.length) (hfull : ∀ x ∈ S, x.n.kn = false) (hfr : fresh = true) :
    Calls Try.prog 14 #[.pointer (some ⟨g, 0, none⟩), .int .u32 a, .agg #[.int .u8 m0, .int .u8 m1, .int .u8 m2, .int .u8 m3, .int .u8 m4, .int .u8 m5], .int .i64 now, .bool fresh] w (LearnPost w F g [] (absT S)) := by
  subst hfr
  have hnd := h.nodup
  have HCA := Lib.hid h
  obtain ⟨mv0, h1, h2, h3, h4, h5, h6⟩ := h
  have HCM : Hid (CacheMv w F g mv0 S) := Lib.hid ⟨h1, h2, h3, h4, h5, h6⟩
  obtain ⟨w0, hw0⟩ : ∃ w0, w.alloc (.cells #[.int .u8 m0, .int .u8 m1, .int .u8 m2, .int .u8 m3, .int .u8 m4, .int .u8 m5] 26) = w0 := ⟨_, rfl⟩
  have hB0 : Below w.heap.size w w0 := by rw [← hw0]; exact (Below.refl _ _).alloc (Nat.le_refl _) _
  have HW0 := Lib.hid hw0
  have hg : g < w.heap.size := h1.1.lt
  have HB0 := Lib.hid hB0
  have hm0 := h1.kept (hB0.block g hg) (fun b hb => hB0.block b (h1.2.2 b hb).lt)
  have HM0 := Lib.hid hm0
  have c0 := (World.cell?_alloc_lt w (.cells #[.int .u8 m0, .int .u8 m1, .int .u8 m2, .int .u8 m3, .int .u8 m4, .int .u8 m5] 26) ⟨g, 0, none⟩ hg).trans (h1.1.cell 0)
  simp only [List.getElem?_toArray, List.getElem?_cons_zero] at c0
  have HNA0 := Lib.hid hna0
  have HFU := Lib.hid (And.intro h16 hfull)
  have hlook : (Instr.lookup mapT (.map mv0) (.int .u32 a) false).run Try.prog (w.alloc (.cells #[.int .u8 m0, .int .u8 m1, .int .u8 m2, .int .u8 m3, .int .u8 m4, .int .u8 m5] 26)) = .ok (.pointer none) (w.alloc (.cells #[.int .u8 m0, .int .u8 m1, .int .u8 m2, .int .u8 m3, .int .u8 m4, .int .u8 m5] 26)) := by
    have := hm0.look ha
    rw [getL_enE_none HNA0.out] at this
    rw [← HW0.out] at this
    exact this
  clear hna0 hw0 h1 h2 h3 h4 h5 h6 hnd hB0 hm0 h16 hfull
  go_enter Try.func14, Try.ntmps14
  go_wp2_with fail
  rw [HW0.out]
  refine (room_big g mv0 S _ HM0.out (fun e he => ((HCM.out.2.2.2.1 e he).keep (fun b _ hl => HB0.out.block b hl) (fun b h => h)).1) HFU.out.1).mono ?_
  rintro e1 w2 (⟨rfl, r2, _⟩ | ⟨rfl, r2, ⟨x, r3, r4⟩, r5⟩ | ⟨rfl, r2, r3, r4, r5⟩)
  · exfalso; have := HFU.out.1; omega
  · exfalso
    have := HFU.out.2 x r3.1
    rw [r3.2.1] at this
    cases this
  · have hfin : LearnPost w F g [] (absT S) (.returned (.slice none 0 0)) w2 := by
      have hc : Chg F w w2 := (Chg.of_below (F := F) HB0.out).trans r5 (fun x e => e.elim)
      have hk : ∀ b, F b → b < w.heap.size → w2.heap[b]? = w.heap[b]? := fun b _ hl => (r5.block b (Nat.lt_of_lt_of_le hl HB0.out.size) (fun e => e)).trans (HB0.out.block b hl)
      exact ⟨none, 0, 0, rfl, ⟨[], Of.none_ _ _ _, trivial⟩, S, ⟨mv0, HCM.out.keep hk (fun b hb => .inl hb)⟩, rfl, hc⟩
    have HFIN := Lib.hid hfin
    clear r2 r3 r4 r5 hfin
    go_wp2_with fail
    go_ret
    exact HFIN.out
set_option maxHeartbeats 4000000 in
set_option maxRecDepth 100000 in
theorem tick_none (now : Int) (w : World) (F : Nat → Prop) (g : Nat) (S0 : List En) (h : CacheMv w F g none S0) :
    Calls Try.prog 26 #[.pointer (some ⟨g, 0, none⟩), .int .i64 now] w (TickPost w F g now S0) := by
  have c0 : w.cell? ⟨g, 0, none⟩ = some (.map none) := h.1.1.cell 0
  have hS : S0 = [] := by
    have := h.1.2.1 rfl
    simpa using this
  have HC := Lib.hid h
  have HS0 := Lib.hid hS
  clear h hS
  go_enter Try.func26, Try.ntmps26
  have hrg := run_range_nilMap (P := Try.prog) w mapT _ _ mapU
  have hnx : ∀ ty, (Instr.next (.pointer (some ⟨w.heap.size, 0, none⟩)) false ty).run Try.prog (w.alloc (.mapIter none 0 #[] 0)) = _ := fun ty => run_next_nilMap w ty 0 0 #[]
  have HSO : Hid (∀ W, Calls Try.prog 48 #[.slice none 0 0] W (SortPost 0 none 0 0 [] W)) := Lib.hid (fun W => sort1 none 0 0 0 [] W (by omega) (Ow.none_ _ _ _) (Nat.zero_le _) (fun x hx => by cases hx) List.nodup_nil)
  go_wp2_with fail
  go_loopw [4, 5, 6, 7] (fun v4 v5 _ _ wr => v4 = .slice none 0 0 ∧ v5 = .slice none 0 0 ∧ wr = w.alloc (.mapIter none 0 #[] 0)) (fun _ _ _ _ _ => 0)
  case atStart => exact ⟨rfl, rfl, rfl⟩
  case round =>
    obtain ⟨rfl, rfl, rfl⟩ := hrel
    go_wp2_with fail
    refine (HSO.out _).mono ?_
    rintro e1 w1 ⟨rfl, l1, p1, _, _, g1⟩
    have G1 := Lib.hid g1
    clear g1
    go_wp2_with fail
    refine (HSO.out _).mono ?_
    rintro e2 w2 ⟨rfl, l2, p2, _, _, g2⟩
    have G2 := Lib.hid g2
    clear g2
    go_wp2
    go_ret2
    have hb : Below w.heap.size w w2 := by
      have h0 : Below w.heap.size w (w.alloc (.mapIter none 0 #[] 0)) := (Below.refl _ _).alloc (Nat.le_refl _) _
      exact Below.gr (Below.gr h0 G1.out (fun b e => by cases e)) G2.out (fun b e => by cases e)
    refine ⟨none, 0, 0, none, 0, 0, [], [], rfl, Ow.none_ _ _ _, Ow.none_ _ _ _, ⟨List.Pairwise.nil, fun a => ?_⟩, ⟨List.Pairwise.nil, fun a => ?_⟩, S0, ⟨none, HC.out.keep (fun b _ hl => hb.block b hl) (fun b hb => .inl hb)⟩, ?_, (Chg.of_below (F := F) hb)⟩
    · rw [HS0.out]; simp
    · rw [HS0.out]; simp
    · rw [HS0.out]; rfl
theorem room_T {S S2 : List En} (h : RoomOK S S2) : RoomT (absT S) (absT S2) := by
  rcases h with ⟨h1, rfl⟩ | ⟨h1, x, ⟨hx, hk, hall⟩, rfl⟩
  · exact .inl ⟨by unfold absT; rw [List.length_map]; exact h1, rfl⟩
  · refine .inr ⟨by unfold absT; rw [List.length_map]; exact h1, (x.a, x.n), ⟨List.mem_map.2 ⟨x, hx, rfl⟩, hk, fun y hy hky => ?_⟩, absT_filter S x.a⟩
    obtain ⟨z, hz, rfl⟩ := List.mem_map.1 hy
    exact hall z hz hky
/-- Send, whatever the cache. -/
def PSend (w : World) (F : Nat → Prop) (g : Nat) (S : List En) (a now : Int) (l : List Int) (e : Ending) (w' : World) : Prop := ∃ told T', SendT (absT S) a now l told T' ∧ SendPost w F g told T' e w'
theorem psend_any (a : Int) (ha : okA a) (A : Option Addr) (n c B : Nat) (l : List Int) (hn : l.length = n) (hmax : n ≤ 140737488355328) (hb : Bs l) (now : Int) (hnow : -9223372036854775808 ≤ now ∧ now ≤ 9223372036854775807) (w : World) (hr : RB w B A l) (hB : B ≤ w.heap.size)
    (F : Nat → Prop) (g : Nat) (S : List En) (h : CacheAt w F g S) :
    Calls Try.prog 13 #[.pointer (some ⟨g, 0, none⟩), .int .u32 a, .slice A n c, .int .i64 now] w (PSend w F g S a now l) := by
  obtain ⟨mv, hmv⟩ := h
  have h : CacheAt w F g S := ⟨mv, hmv⟩
  by_cases hex : ∃ x ∈ S, x.a = a
  · obtain ⟨x, hx, hxa⟩ := hex
    have hm : (a, x.n) ∈ absT S := by rw [← hxa]; exact List.mem_map.2 ⟨x, hx, rfl⟩
    cases hk : x.n.kn with
    | true =>
      rcases Int.lt_or_le now x.n.tk with r | r
      · exact (send_known a ha A n c B l hn hmax hb now hnow w hr hB F g S h x hx hxa hk r).mono fun e w' hp => ⟨_, _, .inl ⟨x.n, hm, hk, r, rfl, rfl⟩, hp⟩
      · exact (send_old a ha A n c B l hn hmax hb now hnow w hr hB F g S h x hx hxa hk r).mono fun e w' hp => ⟨_, _, .inr (.inl ⟨x.n, hm, hk, r, rfl, rfl⟩), hp⟩
    | false =>
      have h3 := (hmv.2.2.2.1 x hx).2.2.2.2.1
      rcases Nat.lt_or_ge x.n.ws.length 3 with r | r
      · exact (send_waits a ha A n c B l hn hmax hb now hnow w hr hB F g S h x hx hxa hk r).mono fun e w' hp => ⟨_, _, .inr (.inr (.inl ⟨x.n, hm, hk, rfl, rfl⟩)), hp⟩
      · exact (send_waits3 a ha A n c B l hn hmax hb now hnow w hr hB F g S h x hx hxa hk (by omega)).mono fun e w' hp => ⟨_, _, .inr (.inr (.inl ⟨x.n, hm, hk, rfl, rfl⟩)), hp⟩
  · have hno : ∀ x ∈ S, x.a ≠ a := fun x hx e => hex ⟨x, hx, e⟩
    by_cases hroom : S.length ≤ 15 ∨ ∃ x ∈ S, x.n.kn = true
    · exact (send_room a ha A n c B l hn hmax hb now hnow w hr hB F g S h hno hroom).mono fun e w' ⟨S2, hS2, hp⟩ => ⟨_, _, .inr (.inr (.inr (.inl ⟨none_abs hno, _, room_T hS2, rfl, rfl⟩))), hp⟩
    · have h16 : 16 ≤ S.length := Nat.lt_of_not_le fun e => hroom (.inl e)
      have hf : ∀ x ∈ S, x.n.kn = false := fun x hx => by
        cases hk : x.n.kn with
        | false => rfl
        | true => exact absurd (.inr ⟨x, hx, hk⟩) hroom
      refine (send_full a ha A n c B l hn hmax hb now hnow w hr hB F g S h hno h16 hf).mono fun e w' hp => ⟨_, _, .inr (.inr (.inr (.inr ⟨none_abs hno, ⟨by unfold absT; rw [List.length_map]; exact h16, fun y hy => ?_⟩, rfl, rfl⟩))), hp⟩
      obtain ⟨z, hz, rfl⟩ := List.mem_map.1 hy
      exact hf z hz
/-- Learn, whatever the cache. -/
def PLearn (w : World) (F : Nat → Prop) (g : Nat) (S : List En) (a : Int) (n' : Nb) (fresh : Bool) (e : Ending) (w' : World) : Prop := ∃ ws T', LearnT (absT S) a n' fresh ws T' ∧ ws.length ≤ 3 ∧ LearnPost w F g ws T' e w'
theorem plearn_any (a : Int) (ha : okA a) (m0 m1 m2 m3 m4 m5 now : Int) (hnow : -9223372036854775808 ≤ now ∧ now ≤ 9223372036854775807) (fresh : Bool) (w : World) (F : Nat → Prop) (g : Nat) (S : List En) (h : CacheAt w F g S) :
    Calls Try.prog 14 #[.pointer (some ⟨g, 0, none⟩), .int .u32 a, .agg #[.int .u8 m0, .int .u8 m1, .int .u8 m2, .int .u8 m3, .int .u8 m4, .int .u8 m5], .int .i64 now, .bool fresh] w (PLearn w F g S a (learnt m0 m1 m2 m3 m4 m5 now) fresh) := by
  obtain ⟨mv, hmv⟩ := h
  have h : CacheAt w F g S := ⟨mv, hmv⟩
  by_cases hex : ∃ x ∈ S, x.a = a
  · obtain ⟨x, hx, hxa⟩ := hex
    have hm : (a, x.n) ∈ absT S := by rw [← hxa]; exact List.mem_map.2 ⟨x, hx, rfl⟩
    have h3 := (hmv.2.2.2.1 x hx).2.2.2.2.1
    exact (learn_found a ha m0 m1 m2 m3 m4 m5 now hnow fresh w F g S h x hx hxa).mono fun e w' hp => ⟨_, _, .inl ⟨x.n, hm, rfl, rfl⟩, h3, hp⟩
  · have hno : ∀ x ∈ S, x.a ≠ a := fun x hx e => hex ⟨x, hx, e⟩
    cases hfr : fresh with
    | false => exact (learn_not a ha m0 m1 m2 m3 m4 m5 now hnow false w F g S h hno rfl).mono fun e w' hp => ⟨_, _, .inr (.inl ⟨none_abs hno, rfl, rfl, rfl⟩), Nat.zero_le _, hp⟩
    | true =>
      by_cases hroom : S.length ≤ 15 ∨ ∃ x ∈ S, x.n.kn = true
      · exact (learn_room a ha m0 m1 m2 m3 m4 m5 now hnow true w F g S h hno hroom rfl).mono fun e w' ⟨S2, hS2, hp⟩ => ⟨_, _, .inr (.inr (.inl ⟨none_abs hno, rfl, ⟨_, room_T hS2, rfl⟩, rfl⟩)), Nat.zero_le _, hp⟩
      · have h16 : 16 ≤ S.length := Nat.lt_of_not_le fun e => hroom (.inl e)
        have hf : ∀ x ∈ S, x.n.kn = false := fun x hx => by
          cases hk : x.n.kn with
          | false => rfl
          | true => exact absurd (.inr ⟨x, hx, hk⟩) hroom
        refine (learn_full a ha m0 m1 m2 m3 m4 m5 now true w F g S h hno h16 hf rfl).mono fun e w' hp => ⟨_, _, .inr (.inr (.inr ⟨none_abs hno, rfl, ⟨by unfold absT; rw [List.length_map]; exact h16, fun y hy => ?_⟩, rfl, rfl⟩)), Nat.zero_le _, hp⟩
        obtain ⟨z, hz, rfl⟩ := List.mem_map.1 hy
        exact hf z hz
/-- Tick, whatever the cache. -/
def PTick (w : World) (F : Nat → Prop) (g : Nat) (S : List En) (now : Int) (e : Ending) (w' : World) : Prop :=
  ∃ A1 n1 c1 A2 n2 c2 asks losts S', e = .returned (.tuple #[.slice A1 n1 c1, .slice A2 n2 c2]) ∧ OA w' 0 A1 n1 c1 asks ∧ OA w' 0 A2 n2 c2 losts ∧ CacheAt w' (fun b => F b ∨ w.heap.size ≤ b) g S' ∧ TickT (absT S) now asks losts (absT S') ∧ Chg F w w'
theorem ptick_any (now : Int) (hnow : -9223372036854775808 ≤ now ∧ now ≤ 9223372036854775807) (w : World) (F : Nat → Prop) (g : Nat) (S : List En) (h : CacheAt w F g S) :
    Calls Try.prog 26 #[.pointer (some ⟨g, 0, none⟩), .int .i64 now] w (PTick w F g S now) := by
  obtain ⟨mv, hmv⟩ := h.cap
  have hh : Calls Try.prog 26 #[.pointer (some ⟨g, 0, none⟩), .int .i64 now] w (TickPost w (fun b => F b ∧ b < w.heap.size) g now S) := by
    rcases mv with _ | b
    · exact tick_none now w _ g S hmv
    · exact tick_some 16 sorts16 now hnow w _ g b S (fun x hx => hx.2) hmv hmv.2.2.2.2.2
  refine hh.mono fun e w' hp => ?_
  obtain ⟨A1, n1, c1, A2, n2, c2, asks, losts, rfl, o1, o2, ⟨a1, a2⟩, ⟨b1, b2⟩, S', hc, rfl, hch⟩ := hp
  refine ⟨A1, n1, c1, A2, n2, c2, asks, losts, _, rfl, o1, o2, hc.mono (fun b hb => hb.imp (fun k => k.1) id), ⟨abs_step now S, ⟨a1, fun a => (a2 a).trans ⟨?_, ?_⟩⟩, ⟨b1, fun a => (b2 a).trans ⟨?_, ?_⟩⟩⟩, hch.mono (fun x _ k => k.1)⟩
  · rintro ⟨x, hx, rfl, hp⟩; exact ⟨(x.a, x.n), List.mem_map.2 ⟨x, hx, rfl⟩, rfl, hp⟩
  · rintro ⟨y, hy, rfl, hp⟩
    obtain ⟨x, hx, rfl⟩ := List.mem_map.1 hy
    exact ⟨x, hx, rfl, hp⟩
  · rintro ⟨x, hx, rfl, hp⟩; exact ⟨(x.a, x.n), List.mem_map.2 ⟨x, hx, rfl⟩, rfl, hp⟩
  · rintro ⟨y, hy, rfl, hp⟩
    obtain ⟨x, hx, rfl⟩ := List.mem_map.1 hy
    exact ⟨x, hx, rfl, hp⟩
end Go.Proofs.Ytocigdkndlmikaa
