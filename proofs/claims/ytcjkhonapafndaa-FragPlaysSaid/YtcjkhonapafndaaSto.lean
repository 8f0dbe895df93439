/- Proved: a new Store; what holds of those that are put together stays so behind each piece; a Store in memory with what it holds: new, told a piece, ticked, counted. Conditions: as each law says. -/
import Derived.Test.YtcjkhonapafndaaAdn
import Derived.Test.YtcjkhonapafndaaTk
set_option linter.unusedVariables false
set_option linter.unusedSimpArgs false
namespace Go.Proofs.Ytcjkhonapafndaa
open Go.RowKit
theorem st_new (w : World) (ps : Nat) (h : Bk w ps 46 #[.map none, .slice none 0 0]) : StW w ps none none 0 [] :=
  ⟨h, .inl ⟨rfl, rfl, rfl, rfl⟩, Ow.none_ _ _ _, (fun x hx => by cases hx), List.Pairwise.nil, (fun x hx => by cases hx), (fun x hx => by cases hx), ⟨(fun b hb => by cases hb), (by simp [blk])⟩⟩
theorem foot_new {ps b : Nat} (h : foot ps none none [] b) : b = ps := by
  rcases h with (h | h | h) | ⟨y, hy, _⟩
  · exact h
  · cases h
  · simp [blk] at h
  · cases hy
theorem rb_lt {w : World} {B b : Nat} {A : Option Addr} {l : List Int} (h : RB w B A l) (hl : 0 < l.length) (hb : blk A = some b) : b < B := by
  obtain ⟨b', o', e', hb', _⟩ := h (by rw [by8_length]; exact hl)
  rw [e'] at hb
  have : b' = b := by simpa [blk] using hb
  omega
theorem pok1 : PkV.Ok ⟨0, 1, false, true, 0, 0, 0, 0, 0⟩ := ⟨by decide, by decide, by decide, by decide, by decide, by decide, by decide⟩
/-- What holds of the row of those that are put together. -/
def RecsOk (L : List Rec) : Prop := (∀ x ∈ L, RecOk x) ∧ L.length ≤ 8
theorem RecsOk.nil : RecsOk [] := ⟨(fun x hx => by cases hx), Nat.zero_le _⟩
theorem OfR.oks {L : List Rec} {k : K4} {now : Int} {K1 K2 : List Rec} {r : Rec} (h : OfR L k now K1 r K2) (hL : RecsOk L) : RecOk r ∧ r.k = k ∧ (∀ x ∈ K1 ++ K2, x ∈ L) ∧ (K1 ++ K2).length ≤ 7 := by
  obtain ⟨h1, h2⟩ := h.ok hL.1
  have hl := hL.2
  refine ⟨h1, h2, ?_⟩
  rcases h with ⟨e, _⟩ | ⟨_, e2, _, ⟨e3, e4⟩ | ⟨e3, A, x, B, e4, _, e5⟩⟩
  · subst e
    refine ⟨fun x hx => ?_, ?_⟩
    · rcases List.mem_append.1 hx with hx | hx
      · exact List.mem_append_left _ hx
      · exact List.mem_append_right _ (List.mem_cons_of_mem _ hx)
    · simp only [List.length_append, List.length_cons] at hl ⊢; omega
  · subst e2; subst e4
    exact ⟨fun x hx => by simpa using hx, by simp only [List.append_nil]; omega⟩
  · subst e2; subst e4; subst e5
    refine ⟨fun y hy => ?_, ?_⟩
    · rw [List.append_nil] at hy
      rcases List.mem_append.1 hy with hy | hy
      · exact List.mem_append_left _ hy
      · exact List.mem_append_right _ (List.mem_cons_of_mem _ hy)
    · simp only [List.length_append, List.length_cons, List.length_nil] at e3 ⊢
      omega
theorem GoodR.oks {L L' : List Rec} {p : PkV} {ol dl : List Int} {now er : Int} {out : Pk3} {is : Bool} (h : GoodR L p ol dl now L' out is er) (hL : RecsOk L) (hg : Good p dl.length) (hp : p.Ok) (hol : ol.length ≤ 1000000) : RecsOk L' := by
  obtain ⟨K1, r, K2, hO, hc⟩ := h
  obtain ⟨h1, h2, h3, h4⟩ := hO.oks hL
  have mk : ∀ r', RecOk r' → RecsOk (K1 ++ r' :: K2) := fun r' hr => ⟨fun x hx => by
    rcases List.mem_append.1 hx with hx | hx
    · exact hL.1 x (h3 x (List.mem_append_left _ hx))
    · rcases List.mem_cons.1 hx with rfl | hx
      · exact hr
      · exact hL.1 x (h3 x (List.mem_append_right _ hx)), by simp only [List.length_append, List.length_cons] at h4 ⊢; omega⟩
  rcases hc with ⟨_, rfl, _⟩ | ⟨_, _, S', hl, ⟨_, rfl, _⟩ | ⟨_, rfl, _⟩⟩
  · exact mk r h1
  · exact ⟨fun x hx => hL.1 x (h3 x hx), by omega⟩
  · exact mk _ (h1.lay hg hp hol h2 hl)
theorem AddR.oks {L L' : List Rec} {p : PkV} {ol dl : List Int} {now er : Int} {out : Pk3} {is : Bool} (h : AddR L p ol dl now L' out is er) (hL : RecsOk L) (hp : p.Ok) (hol : ol.length ≤ 1000000) : RecsOk L' := by
  rcases h with ⟨_, rfl, _⟩ | ⟨_, _, rfl, _⟩ | ⟨_, _, _, rfl, _⟩ | ⟨_, _, hg, h⟩
  · exact hL
  · exact hL
  · exact hL
  · exact h.oks hL hg hp hol
end Go.Proofs.Ytcjkhonapafndaa
namespace Go.Proofs.Ytcjkhonapafndaa
open Go.RowKit
/-- The Store at ps; its blocks are F, what it holds is L. -/
def Sto (w : World) (ps : Nat) (F : Nat → Prop) (L : List Rec) : Prop :=
  ∃ mv aA ac Ws, StW w ps mv aA ac Ws ∧ Ws.map (·.r) = L ∧ RecsOk L ∧ ∀ b, foot ps mv aA Ws b ↔ F b
theorem Sto.lt {w : World} {ps : Nat} {F : Nat → Prop} {L : List Rec} (h : Sto w ps F L) {b : Nat} (hb : F b) : b < w.heap.size := by
  obtain ⟨mv, aA, ac, Ws, h1, _, _, h4⟩ := h
  exact h1.foot_lt ((h4 b).2 hb)
theorem Sto.oks {w : World} {ps : Nat} {F : Nat → Prop} {L : List Rec} (h : Sto w ps F L) : RecsOk L := by
  obtain ⟨mv, aA, ac, Ws, h1, _, h3, h4⟩ := h
  exact h3
theorem Sto.chg {w w' : World} {ps : Nat} {F G : Nat → Prop} {L : List Rec} (h : Sto w ps F L) (hc : Chg G w w') (hG : ∀ b, F b → ¬ G b) : Sto w' ps F L := by
  obtain ⟨mv, aA, ac, Ws, h1, h2, h3, h4⟩ := h
  exact ⟨mv, aA, ac, Ws, h1.chg hc (fun b hb => hG b ((h4 b).1 hb)), h2, h3, h4⟩
theorem Sto.below {w w' : World} {ps : Nat} {F : Nat → Prop} {L : List Rec} (h : Sto w ps F L) (hb : Below w.heap.size w w') : Sto w' ps F L :=
  h.chg (Chg.of_below (F := fun _ => False) hb) (fun _ _ e => e)
theorem Sto.alloc {w : World} {ps : Nat} {F : Nat → Prop} {L : List Rec} (h : Sto w ps F L) (o : Obj) : Sto (w.alloc o) ps F L := h.below ((Below.refl _ _).alloc (Nat.le_refl _) _)
theorem sto_new (w : World) (ps : Nat) (h : Bk w ps 46 #[.map none, .slice none 0 0]) : Sto w ps (fun b => b = ps) [] :=
  ⟨none, none, 0, [], st_new w ps h, rfl, RecsOk.nil, fun b => ⟨foot_new, fun e => .inl (.inl e)⟩⟩
/-- What Add brings about. -/
def StoAdd (w : World) (ps : Nat) (F : Nat → Prop) (R : List Rec → Pk3 → Bool → Int → Prop) (e : Ending) (w' : World) : Prop :=
  ∃ (F' : Nat → Prop) (L' : List Rec) (out : Pk3) (is : Bool) (er : Int) (A1 A2 : Option Addr) (n1 c1 n2 c2 : Nat),
    e = .returned (.tuple #[.agg (pkC out.1 (.slice A1 n1 c1) (.slice A2 n2 c2)), .bool is, .int .i64 er]) ∧ Sto w' ps F' L' ∧ OwnAt w' w.heap.size A1 n1 c1 out.2.1 A2 n2 c2 out.2.2 ∧
    (∀ b, blk A1 = some b ∨ blk A2 = some b → ¬ F' b) ∧ (∀ b, F' b → F b ∨ w.heap.size ≤ b) ∧ Chg F w w' ∧ R L' out is er
theorem sto_add (ps : Nat) (F : Nat → Prop) (L : List Rec) (p : PkV) (hp : p.Ok) (oA dA : Option Addr) (on oc dn dc B : Nat) (ol dl : List Int) (hn : ol.length = on) (hmo : on ≤ 1000000) (hdn : dl.length = dn) (hdc : dn ≤ dc) (hmd : dn ≤ 140737488355328) (now : Int) (w : World)
    (hr : RB w B oA ol) (hrd : RB w B dA dl) (hB : B ≤ w.heap.size) (h : Sto w ps F L) (hno : ∀ b, (0 < ol.length ∧ blk oA = some b) ∨ blk dA = some b → b < w.heap.size ∧ ¬ F b) :
    Calls Try.prog 21 #[.pointer (some ⟨ps, 0, none⟩), .agg (pkC p (.slice oA on oc) (.slice dA dn dc)), .int .i64 now] w (StoAdd w ps F (AddR L p ol dl now)) := by
  obtain ⟨mv, aA, ac, Ws, h1, h2, h3, h4⟩ := h
  subst h2
  have hlen : Ws.length ≤ 8 := by have := h3.2; rwa [List.length_map] at this
  refine (add_any ps mv aA ac Ws p hp oA dA on oc dn dc B ol dl hn hmo hdn hdc hmd now w hr hrd hB h1 hlen (fun x hx => h3.1 _ (List.mem_map_of_mem hx)) (fun b hb => ⟨(hno b hb).1, fun hf => (hno b hb).2 ((h4 b).1 hf)⟩)).mono ?_
  rintro e w' ⟨mv', aA', ac', Ws', out, is, er, A1, A2, n1, c1, n2, c2, he, q1, q2, q3, q4, q5, q6⟩
  exact ⟨_, _, out, is, er, A1, A2, n1, c1, n2, c2, he, ⟨mv', aA', ac', Ws', q1, rfl, AddR.oks q6 h3 hp (by omega), fun b => Iff.rfl⟩, q2, q3, fun b hb => (q4 b hb).imp (fun q => (h4 b).1 q) id, q5.mono (fun b _ hb => (h4 b).1 hb), q6⟩
/-- A good piece's answer. -/
theorem addR_good {L L' : List Rec} {p : PkV} {ol dl : List Int} {now er : Int} {out : Pk3} {is : Bool} (h : AddR L p ol dl now L' out is er) (hg : Good p dl.length) : GoodR L p ol dl now L' out is er := by
  rcases h with ⟨⟨h1, h2⟩, _⟩ | ⟨_, h1, _⟩ | ⟨_, _, h1, _⟩ | ⟨_, _, _, h⟩
  · exfalso
    rcases hg.mo with q | q
    · rw [h1] at q; cases q
    · omega
  · exfalso
    have := hg.pos
    rcases h1 with q | ⟨q, q2⟩ | q | q
    · omega
    · exact q2 (hg.d8 q)
    · have := hg.off; omega
    · exact q hg.o8
  · exfalso
    have := hg.lng; omega
  · exact h
/-- What Tick brings about. -/
def StoTick (w : World) (ps : Nat) (F : Nat → Prop) (L : List Rec) (now : Int) (e : Ending) (w' : World) : Prop :=
  ∃ (F' : Nat → Prop) (A : Option Addr) (n c : Nat) (Lp : List Pm), e = .returned (.slice A n c) ∧ Lp.map Pm.plain = tickO (untilF now) L ∧ Sto w' ps F' (tickL (untilF now) L) ∧ (∀ b, F' b → F b) ∧ PsAt w' w.heap.size (.slice A n c) n Lp ∧ PmsOk w' w.heap.size Lp ∧ Chg F w w'
theorem sto_tick (ps : Nat) (F : Nat → Prop) (L : List Rec) (now : Int) (hnow : okI now) (w : World) (h : Sto w ps F L) :
    Calls Try.prog 24 #[.pointer (some ⟨ps, 0, none⟩), .int .i64 now] w (StoTick w ps F L now) := by
  obtain ⟨mv, aA, ac, Ws, h1, h2, h3, h4⟩ := h
  subst h2
  have hlen : Ws.length ≤ 8 := by have := h3.2; rwa [List.length_map] at this
  refine (tick_st ps mv aA ac Ws now hnow w h1 hlen (fun x hx => h3.1 _ (List.mem_map_of_mem hx))).mono ?_
  rintro e w' ⟨A, n, c, Lp, Ws', he, q1, q2, q3, q4, q5, q6, q7⟩
  refine ⟨_, A, n, c, Lp, he, q2, ⟨mv, aA, ac, Ws', q3, q1, ⟨fun x hx => h3.1 x (List.mem_filter.1 hx).1, ?_⟩, fun b => Iff.rfl⟩, fun b hb => (h4 b).1 ?_, q5, q6, q7.mono (fun b _ hb => (h4 b).1 (.inl hb))⟩
  · exact Nat.le_trans (List.length_filter_le _ _) h3.2
  · rcases hb with hb | ⟨x, hx, hb⟩
    · exact .inl hb
    · exact .inr ⟨x, q4 x hx, hb⟩
theorem sto_len (ps : Nat) (F : Nat → Prop) (L : List Rec) (w : World) (h : Sto w ps F L) :
    Calls Try.prog 22 #[.pointer (some ⟨ps, 0, none⟩)] w fun e w' => e = .returned (.int .i64 L.length) ∧ w' = w := by
  obtain ⟨mv, aA, ac, Ws, h1, h2, h3, h4⟩ := h
  subst h2
  obtain ⟨n, hn⟩ : ∃ n, Ws.length = n := ⟨_, rfl⟩
  have c1 : w.cell? ⟨ps, 1, none⟩ = some (.slice aA n ac) := by rw [← hn]; exact h1.bk.cell 1
  rw [List.length_map, hn]
  clear h1 h3 h4
  go_enter Try.func22, Try.ntmps22
  go_wp2
  go_ret
  exact ⟨rfl, rfl⟩
end Go.Proofs.Ytcjkhonapafndaa
