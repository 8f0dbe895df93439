/- Proved: what the methods of octet.Writer do, each by its walk. Conditions: the writer is a block of the caller's own; sizes as each says. -/
import Derived.Test.YtocigdkndlmikaaAp
set_option linter.unusedVariables false
namespace Go.Proofs.Ytocigdkndlmikaa
open Go.RowKit

/-- A writer at block g that has written l, on blocks from base on. -/
def WrAt (w : World) (base g : Nat) (l : List Int) : Prop := base ≤ g ∧ ∃ A n c, Bk w g 78 #[.slice A n c] ∧ OB 5 w base A n c l
/-- A writer's own blocks: its own and its row's. -/
def WF (g : Nat) (w : World) (h : Nat) : Prop := h = g ∨ ∃ A n c, Bk w g 78 #[.slice A n c] ∧ blk A = some h

theorem WrAt.lt {w : World} {base g : Nat} {l : List Int} (h : WrAt w base g l) : g < w.heap.size := by
  obtain ⟨_, A, n, c, h1, _⟩ := h
  exact h1.lt
theorem WrAt.wf {w : World} {base g : Nat} {l : List Int} (h : WrAt w base g l) : ∀ i, WF g w i → base ≤ i := by
  obtain ⟨hb, A, n, c, h1, h2⟩ := h
  rintro i (rfl | ⟨A', n', c', h3, h4⟩)
  · exact hb
  · unfold Bk at h1 h3
    rw [h1] at h3
    injection h3 with h3
    injection h3 with h3
    have e : #[Value.slice A n c] = #[Value.slice A' n' c'] := h3
    injection e with e
    injection e with e
    injection e with e
    subst e
    exact (Ow.lt h2 i h4).1
theorem WF.of {w : World} {g i : Nat} {A : Option Addr} {n c : Nat} (h1 : Bk w g 78 #[.slice A n c]) (h : WF g w i) : i = g ∨ blk A = some i := by
  rcases h with h | ⟨A', n', c', h3, h4⟩
  · exact .inl h
  · unfold Bk at h1 h3
    rw [h1] at h3
    injection h3 with h3
    injection h3 with h3
    have e : #[Value.slice A n c] = #[Value.slice A' n' c'] := h3
    injection e with e
    injection e with e
    injection e with e
    subst e
    exact .inr h4
theorem WrAt.below {w w' : World} {base g : Nat} {l : List Int} (h : WrAt w base g l) (hb : Below w.heap.size w w') : WrAt w' base g l := by
  obtain ⟨h0, A, n, c, h1, h2⟩ := h
  exact ⟨h0, A, n, c, h1.below hb h1.lt, Ow.stays h2 hb⟩
theorem WrAt.wf_lt {w : World} {base g : Nat} {l : List Int} (h : WrAt w base g l) {i : Nat} (hi : WF g w i) : i < w.heap.size := by
  obtain ⟨h0, A, n, c, h1, h2⟩ := h
  rcases hi.of h1 with rfl | e
  · exact h1.lt
  · exact (Ow.lt h2 i e).2
theorem WrAt.wf_below {w w' : World} {base g : Nat} {l : List Int} (h : WrAt w base g l) (hb : Below w.heap.size w w') {i : Nat} (hi : WF g w' i) : i < w.heap.size := by
  obtain ⟨h0, A, n, c, h1, h2⟩ := h
  rcases hi.of (h1.below hb h1.lt) with rfl | e
  · exact h1.lt
  · exact (Ow.lt h2 i e).2
theorem WrAt.grown {w w' : World} {base g : Nat} {l : List Int} {row : Option Nat} (h : WrAt w base g l) (hb : w.grownBy w' row) (hn : ∀ i, row = some i → ¬ WF g w i) : WrAt w' base g l := by
  obtain ⟨h0, A, n, c, h1, h2⟩ := h
  refine ⟨h0, A, n, c, h1.grown hb (fun e => hn g e.symm (.inl rfl)), Ow.kept h2 hb ?_⟩
  rcases hA : blk A with _ | i
  · exact .inl rfl
  · exact .inr fun e => hn i e.symm (.inr ⟨A, n, c, h1, hA⟩)
theorem WrAt.drewN {w : World} {base g : Nat} {l : List Int} (h : WrAt w base g l) (k : Nat) : WrAt (w.drewN k) base g l := h
theorem wr_new (w : World) : WrAt (w.alloc (.cells #[.slice none 0 0] 78)) w.heap.size w.heap.size [] :=
  ⟨Nat.le_refl _, none, 0, 0, Bk.new w _ _, Ow.none_ _ _ _⟩
theorem wr_step {w w1 : World} {base g n c n1 c1 : Nat} {A A1 : Option Addr} {l l1 : List Int} (hb : base ≤ g) (hW : Bk w g 78 #[.slice A n c]) (hO : OB 5 w base A n c l)
    (hO1 : OB 5 w1 base A1 n1 c1 l1) (hg1 : w.grownBy w1 (blk A)) (hA1 : NewOr A A1 w.heap.size) :
    WrAt (w1.setCell ⟨g, 0, none⟩ (.slice A1 n1 c1)) base g l1 ∧ Kp (WF g) w (w1.setCell ⟨g, 0, none⟩ (.slice A1 n1 c1)) := by
  have hW1 := hW.grown hg1 (hW.ow_ne hO (by decide))
  have hW2 : Bk (w1.setCell ⟨g, 0, none⟩ (.slice A1 n1 c1)) g 78 #[.slice A1 n1 c1] := hW1.set 0 _
  refine ⟨⟨hb, A1, n1, c1, hW2, Ow.setCell hO1 (fun e => hW1.ow_ne hO1 (by decide) e.symm) _⟩, ⟨hg1.os, hg1.tape, hg1.output, by simpa [World.setCell] using hg1.size, fun h hh hn => ?_, fun h hh hf => ?_⟩⟩
  · rw [Below.heap_setCell _ _ _ _ (fun e => hn (.inl e))]
    exact hg1.block h hh (fun e => hn (.inr ⟨A, n, c, hW, e.symm⟩))
  · rcases hf.of hW2 with e | e
    · exact .inl e
    · rcases hA1 with h1 | h1
      · exact .inr ⟨A, n, c, hW, by rw [← h1]; exact e⟩
      · have := h1 h e; omega

/-- The lowest k bytes of a number, the highest of them first. -/
def be : Nat → Int → List Int
  | 0, _ => []
  | k + 1, v => v / 256 ^ k % 256 :: be k v
theorem be_length (k : Nat) (v : Int) : (be k v).length = k := by induction k with | zero => rfl | succ k ih => simp [be, ih]
theorem be_bs (k : Nat) (v : Int) : Bs (be k v) := by
  induction k with
  | zero => exact Bs.nil
  | succ k ih =>
    intro x hx
    simp only [be, List.mem_cons] at hx
    rcases hx with rfl | hx
    · omega
    · exact ih x hx

theorem be_1 (v : Int) : be 1 v = v % 256 :: be 0 v := by simp [be]
theorem be_2 (v : Int) : be 2 v = v / 256 % 256 :: be 1 v := by simp [be]
theorem be_3 (v : Int) : be 3 v = v / 65536 % 256 :: be 2 v := by simp [be]
theorem be_4 (v : Int) : be 4 v = v / 16777216 % 256 :: be 3 v := by simp [be]

theorem be_4' (v : Int) (h0 : 0 ≤ v) (h1 : v ≤ 4294967295) : be 4 v = v / 16777216 :: be 3 v := by rw [be_4, show v / 16777216 % 256 = v / 16777216 from by omega]
theorem be_mod1 (v : Int) : be 1 (v % 4294967296) = be 1 v := by rw [be_1, be_1, show v % 4294967296 % 256 = v % 256 from by omega]; rfl
theorem be_mod2 (v : Int) : be 2 (v % 4294967296) = be 2 v := by rw [be_2, be_2, be_mod1, show v % 4294967296 / 256 % 256 = v / 256 % 256 from by omega]

theorem lay_any (v : Int) (k : Nat) (hk : k ≤ 4) (hv0 : 0 ≤ v) (hv1 : v ≤ 4294967295) (base g : Nat) (l : List Int) (hl : l.length ≤ 1000000) (w : World) (hw : WrAt w base g l) (hbase : base ≤ w.heap.size) :
    Calls Try.prog 49 #[.pointer (some ⟨g, 0, none⟩), .int .u32 v, .int .u64 k] w fun e w' => e = .returned (.tuple #[]) ∧ WrAt w' base g (l ++ be k v) ∧ Kp (WF g) w w' := by
  go_enter Try.func49, Try.ntmps49
  go_wp2
  go_loopw [6] (fun i wr => ∃ (j : Nat) (X : List Int), j ≤ k ∧ i = .int .u64 (8 * (j : Int)) ∧ X.length + j = k ∧ Hid (X ++ be j v = be k v) ∧ WrAt wr base g (l ++ X) ∧ Kp (WF g) w wr) (fun i _ => (intOf i).toNat)
  case atStart => exact ⟨k, [], Nat.le_refl _, by go_num, by simp, rfl, by simpa using hw, Kp.refl _ _⟩
  case round =>
    obtain ⟨j, X, hj, rfl, hX, HX, hW, hK⟩ := hrel
    rcases (by omega : j = 0 ∨ j = 1 ∨ j = 2 ∨ j = 3 ∨ j = 4) with rfl | rfl | rfl | rfl | rfl
    · go_wp2
      go_end0
      refine ⟨rfl, ?_, hK⟩
      have e := HX.out
      simp only [be, List.append_nil] at e
      rw [← e]; exact hW
    · obtain ⟨hb, A, n, c, hbk, hO⟩ := hW
      have hn := hO.length
      rw [List.length_append] at hn
      have hn2 : n ≤ 1000004 := by omega
      have hcell := hbk.cell 0
      have hfr := hbk.frozen 0
      have hz := hK.size
      simp only [List.getElem?_toArray, List.getElem?_cons_zero] at hcell
      have hkX := hX
      clear hX hn
      go_wp2_with (first
        | (at_builtin; refine ap8_one rfl (.tmp 17) (.tmp 22) rfl base rfl hO rfl (by omega) (by omega) ?_; intro A1 c1 w1 hO1 hB1 hg1 hA1 hz1 hc1; have hbk1 := hbk.grown hg1 (hbk.ow_ne hO (by decide)); have hcell1 := hbk1.cell 0; have hfr1 := hbk1.frozen 0; simp only [List.getElem?_toArray, List.getElem?_cons_zero] at hcell1))
      go_roundw
      case rel =>
        have st := wr_step hb hbk hO hO1 hg1 hA1
        have e := HX.out
        rw [be_1] at e
        exact ⟨0, X ++ [_], by omega, by go_num, by simp; omega, by show _ = _; rw [List.append_assoc]; exact e, by rw [← List.append_assoc]; exact st.1, hK.trans st.2⟩
      case measure => simp [intOf]
    · obtain ⟨hb, A, n, c, hbk, hO⟩ := hW
      have hn := hO.length
      rw [List.length_append] at hn
      have hn2 : n ≤ 1000004 := by omega
      have hcell := hbk.cell 0
      have hfr := hbk.frozen 0
      have hz := hK.size
      simp only [List.getElem?_toArray, List.getElem?_cons_zero] at hcell
      have hkX := hX
      clear hX hn
      go_wp2_with (first
        | (at_builtin; refine ap8_one rfl (.tmp 17) (.tmp 22) rfl base rfl hO rfl (by omega) (by omega) ?_; intro A1 c1 w1 hO1 hB1 hg1 hA1 hz1 hc1; have hbk1 := hbk.grown hg1 (hbk.ow_ne hO (by decide)); have hcell1 := hbk1.cell 0; have hfr1 := hbk1.frozen 0; simp only [List.getElem?_toArray, List.getElem?_cons_zero] at hcell1))
      go_roundw
      case rel =>
        have st := wr_step hb hbk hO hO1 hg1 hA1
        have e := HX.out
        rw [be_2] at e
        exact ⟨1, X ++ [_], by omega, by go_num, by simp; omega, by show _ = _; rw [List.append_assoc]; exact e, by rw [← List.append_assoc]; exact st.1, hK.trans st.2⟩
      case measure => simp [intOf]
    · obtain ⟨hb, A, n, c, hbk, hO⟩ := hW
      have hn := hO.length
      rw [List.length_append] at hn
      have hn2 : n ≤ 1000004 := by omega
      have hcell := hbk.cell 0
      have hfr := hbk.frozen 0
      have hz := hK.size
      simp only [List.getElem?_toArray, List.getElem?_cons_zero] at hcell
      have hkX := hX
      clear hX hn
      go_wp2_with (first
        | (at_builtin; refine ap8_one rfl (.tmp 17) (.tmp 22) rfl base rfl hO rfl (by omega) (by omega) ?_; intro A1 c1 w1 hO1 hB1 hg1 hA1 hz1 hc1; have hbk1 := hbk.grown hg1 (hbk.ow_ne hO (by decide)); have hcell1 := hbk1.cell 0; have hfr1 := hbk1.frozen 0; simp only [List.getElem?_toArray, List.getElem?_cons_zero] at hcell1))
      go_roundw
      case rel =>
        have st := wr_step hb hbk hO hO1 hg1 hA1
        have e := HX.out
        rw [be_3] at e
        exact ⟨2, X ++ [_], by omega, by go_num, by simp; omega, by show _ = _; rw [List.append_assoc]; exact e, by rw [← List.append_assoc]; exact st.1, hK.trans st.2⟩
      case measure => simp [intOf]
    · obtain ⟨hb, A, n, c, hbk, hO⟩ := hW
      have hn := hO.length
      rw [List.length_append] at hn
      have hn2 : n ≤ 1000004 := by omega
      have hcell := hbk.cell 0
      have hfr := hbk.frozen 0
      have hz := hK.size
      simp only [List.getElem?_toArray, List.getElem?_cons_zero] at hcell
      have hkX := hX
      clear hX hn
      go_wp2_with (first
        | (at_builtin; refine ap8_one rfl (.tmp 17) (.tmp 22) rfl base rfl hO rfl (by omega) (by omega) ?_; intro A1 c1 w1 hO1 hB1 hg1 hA1 hz1 hc1; have hbk1 := hbk.grown hg1 (hbk.ow_ne hO (by decide)); have hcell1 := hbk1.cell 0; have hfr1 := hbk1.frozen 0; simp only [List.getElem?_toArray, List.getElem?_cons_zero] at hcell1))
      go_roundw
      case rel =>
        have st := wr_step hb hbk hO hO1 hg1 hA1
        have e := HX.out
        rw [be_4' v hv0 hv1] at e
        exact ⟨3, X ++ [_], by omega, by go_num, by simp; omega, by show _ = _; rw [List.append_assoc]; exact e, by rw [← List.append_assoc]; exact st.1, hK.trans st.2⟩
      case measure => simp [intOf]

theorem two_any (v : Int) (base g : Nat) (l : List Int) (hl : l.length ≤ 1000000) (w : World) (hw : WrAt w base g l) (hbase : base ≤ w.heap.size) :
    Calls Try.prog 33 #[.pointer (some ⟨g, 0, none⟩), .int .i64 v] w fun e w' => e = .returned (.tuple #[]) ∧ WrAt w' base g (l ++ be 2 v) ∧ Kp (WF g) w w' := by
  rw [← be_mod2 v]
  go_enter Try.func33, Try.ntmps33
  go_wp2_with (go_at_call 49; refine (lay_any (v % 4294967296) 2 (by omega) (by omega) (by omega) base g l hl _ hw hbase).mono ?_; rintro e w1 ⟨rfl, h1, h2⟩)
  go_end0
  exact ⟨rfl, h1, h2⟩
theorem four_any (v : Int) (hv0 : 0 ≤ v) (hv1 : v ≤ 4294967295) (base g : Nat) (l : List Int) (hl : l.length ≤ 1000000) (w : World) (hw : WrAt w base g l) (hbase : base ≤ w.heap.size) :
    Calls Try.prog 34 #[.pointer (some ⟨g, 0, none⟩), .int .u32 v] w fun e w' => e = .returned (.tuple #[]) ∧ WrAt w' base g (l ++ be 4 v) ∧ Kp (WF g) w w' := by
  go_enter Try.func34, Try.ntmps34
  go_wp2_with (go_at_call 49; refine (lay_any v 4 (by omega) hv0 hv1 base g l hl _ hw hbase).mono ?_; rintro e w1 ⟨rfl, h1, h2⟩)
  go_end0
  exact ⟨rfl, h1, h2⟩
theorem raw_any (A2 : Option Addr) (m c2 B : Nat) (l2 : List Int) (hm : l2.length = m) (hm2 : m ≤ 1000000) (base g : Nat) (l : List Int) (hl : l.length ≤ 1000000) (w : World) (hr : RB w B A2 l2) (hw : WrAt w base g l) (hbase : base ≤ w.heap.size) :
    Calls Try.prog 32 #[.pointer (some ⟨g, 0, none⟩), .slice A2 m c2] w fun e w' => e = .returned (.tuple #[]) ∧ WrAt w' base g (l ++ l2) ∧ Kp (WF g) w w' := by
  have Hm := Lib.hid hm
  clear hm
  obtain ⟨hb, A, n, c, hbk, hO⟩ := hw
  have hn := hO.length
  have hn2 : n ≤ 1000000 := by omega
  have hcell := hbk.cell 0
  have hfr := hbk.frozen 0
  simp only [List.getElem?_toArray, List.getElem?_cons_zero] at hcell
  clear hn
  go_enter Try.func32, Try.ntmps32
  go_wp2_with (first
    | (at_builtin; refine ap8 rfl (.tmp 8) (.tmp 9) rfl base rfl hO rfl hr Hm.out (by omega) hbase ?_; intro A1 c1 w1 hO1 hB1 hg1 hA1 hz1 hc1; have hbk1 := hbk.grown hg1 (hbk.ow_ne hO (by decide)); have hcell1 := hbk1.cell 0; have hfr1 := hbk1.frozen 0; simp only [List.getElem?_toArray, List.getElem?_cons_zero] at hcell1))
  go_end0
  have st := wr_step hb hbk hO hO1 hg1 hA1
  exact ⟨rfl, st.1, st.2⟩
/-- Bytes: a row anew, of the caller's own. -/
theorem bytes_any (base g : Nat) (l : List Int) (hl : l.length ≤ 1000000) (w : World) (hw : WrAt w base g l) :
    Calls Try.prog 35 #[.pointer (some ⟨g, 0, none⟩)] w fun e w' => ∃ A n c, e = .returned (.slice A n c) ∧ OB 5 w' w.heap.size A n c l ∧ Below w.heap.size w w' := by
  obtain ⟨hb, A, n, c, hbk, hO⟩ := hw
  have hn := hO.length
  have hn2 : n ≤ 1000000 := by omega
  have hcell := hbk.cell 0
  simp only [List.getElem?_toArray, List.getElem?_cons_zero] at hcell
  clear hn
  go_enter Try.func35, Try.ntmps35
  go_wp2_with (first
    | (at_builtin; refine ap8_nil rfl (.const (.slice none 0 0)) (.tmp 6) rfl rfl rfl hO.rb hO.length (by omega) ?_; intro A1 c1 w1 hO1 hB1 hz1 hc1))
  go_ret
  exact ⟨A1, n, c1, rfl, hO1, hB1⟩
end Go.Proofs.Ytocigdkndlmikaa
