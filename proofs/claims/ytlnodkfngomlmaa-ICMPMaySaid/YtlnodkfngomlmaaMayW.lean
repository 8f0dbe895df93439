/- Proved: whether an error may be told about a packet, by icmp.May and by its reference, each by its walk. Conditions: none. -/
import Derived.Test.YtlnodkfngomlmaaMay
import Derived.Test.YtlnodkfngomlmaaRef
set_option linter.unusedVariables false
namespace Go.Proofs.Ytlnodkfngomlmaa
open Go.RowKit
def ErrP (d : Int) : Prop := d = 3 ∨ d = 4 ∨ d = 5 ∨ d = 11 ∨ d = 12
instance (d : Int) : Decidable (ErrP d) := inferInstanceAs (Decidable (_ ∨ _))
def MayP (proto : Int) (n : Nat) (d0 off dst src : Int) : Prop := ¬ (proto = 1 ∧ (n = 0 ∨ ErrP d0)) ∧ off ≤ 0 ∧ dst < 3758096384 ∧ src ≠ 0 ∧ src < 3758096384 ∧ src / 16777216 ≠ 127
instance (proto : Int) (n : Nat) (d0 off dst src : Int) : Decidable (MayP proto n d0 off dst src) := inferInstanceAs (Decidable (_ ∧ _))
theorem iserr_yes (d : Int) (h : ErrP d) (w : World) : Calls Try.prog 41 #[.int .u8 d] w fun e w' => e = .returned (.bool true) ∧ w = w' := by
  rcases h with rfl | rfl | rfl | rfl | rfl
  all_goals
    go_enter Try.func41, Try.ntmps41
    go_wp2
    go_ret
    exact ⟨rfl, rfl⟩
theorem riserr_yes (d : Int) (h : ErrP d) (w : World) : Calls Try.prog 42 #[.int .u8 d] w fun e w' => e = .returned (.bool true) ∧ w = w' := by
  rcases h with rfl | rfl | rfl | rfl | rfl
  all_goals
    go_enter Try.func42, Try.ntmps42
    go_wp2
    go_ret
    exact ⟨rfl, rfl⟩
theorem iserr_no (d : Int) (h : ¬ ErrP d) (w : World) : Calls Try.prog 41 #[.int .u8 d] w fun e w' => e = .returned (.bool false) ∧ w = w' := by
  unfold ErrP at h
  have h0 : (d == 3) = false := by simp; omega
  have h1 : (d == 4) = false := by simp; omega
  have h2 : (d == 5) = false := by simp; omega
  have h3 : (d == 11) = false := by simp; omega
  have h4 : (d == 12) = false := by simp; omega
  clear h
  go_enter Try.func41, Try.ntmps41
  go_wp2
  go_ret
  exact ⟨rfl, rfl⟩
theorem riserr_no (d : Int) (h : ¬ ErrP d) (w : World) : Calls Try.prog 42 #[.int .u8 d] w fun e w' => e = .returned (.bool false) ∧ w = w' := by
  unfold ErrP at h
  have h0 : (d == 3) = false := by simp; omega
  have h1 : (d == 4) = false := by simp; omega
  have h2 : (d == 5) = false := by simp; omega
  have h3 : (d == 11) = false := by simp; omega
  have h4 : (d == 12) = false := by simp; omega
  clear h
  go_enter Try.func42, Try.ntmps42
  go_wp2
  go_ret
  exact ⟨rfl, rfl⟩

/-- The ways through, ahead of the tests on numbers. -/
theorem may_ways (proto : Int) (n : Nat) (d0 : Int) : (proto = 1 ∧ n = 0) ∨ (proto = 1 ∧ 0 < n ∧ ErrP d0) ∨ (proto = 1 ∧ 0 < n ∧ ¬ ErrP d0) ∨ proto ≠ 1 := by
  by_cases h : ErrP d0
  · rcases Nat.eq_zero_or_pos n with h0 | h0
    · by_cases hp : proto = 1
      · exact .inl ⟨hp, h0⟩
      · exact .inr (.inr (.inr hp))
    · by_cases hp : proto = 1
      · exact .inr (.inl ⟨hp, h0, h⟩)
      · exact .inr (.inr (.inr hp))
  · rcases Nat.eq_zero_or_pos n with h0 | h0
    · by_cases hp : proto = 1
      · exact .inl ⟨hp, h0⟩
      · exact .inr (.inr (.inr hp))
    · by_cases hp : proto = 1
      · exact .inr (.inr (.inl ⟨hp, h0, h⟩))
      · exact .inr (.inr (.inr hp))
def NumW (off dst src : Int) : Prop := 0 < off ∨ (off ≤ 0 ∧ 3758096384 ≤ dst) ∨ (off ≤ 0 ∧ dst < 3758096384 ∧ src = 0) ∨ (off ≤ 0 ∧ dst < 3758096384 ∧ (src == 0) = false ∧ 3758096384 ≤ src) ∨
  (off ≤ 0 ∧ dst < 3758096384 ∧ (src == 0) = false ∧ src < 3758096384 ∧ (src / 16777216 == 127) = true) ∨ (off ≤ 0 ∧ dst < 3758096384 ∧ (src == 0) = false ∧ src < 3758096384 ∧ (src / 16777216 == 127) = false)
theorem num_ways (off dst src : Int) : NumW off dst src := by
  unfold NumW
  simp only [beq_eq_false_iff_ne, beq_iff_eq]
  omega

set_option maxRecDepth 100000 in
set_option maxHeartbeats 2000000 in
theorem may_any (p : PkV) (o : Value) (A : Option Addr) (n c : Nat) (l : List Int) (hp : p.Ok) (hn : l.length = n) (hc : n ≤ c) (hmax : c ≤ 140737488351232) (w : World) (hd : RB w w.heap.size A l) :
    Calls Try.prog 19 #[.agg (pkC p o (.slice A n c))] w fun e w' => e = .returned (.bool (decide (MayP p.proto n (l[0]?.getD 0) p.off p.dst p.src))) ∧ Below w.heap.size w w' := by
  obtain ⟨svc, id, whole, more, off, life, proto, src, dst⟩ := p
  have ⟨_, _, ho, _, hpr, hs, ht⟩ := hp
  simp only at ho hpr hs ht
  have hcell : 0 < n → ∃ b o, A = some ⟨b, o, none⟩ ∧ b < w.heap.size ∧ w.cell? ⟨b, o, none⟩ = some (.int .u8 (l[0]?.getD 0)) := fun h0 => by
    obtain ⟨b, o, e, hb, hc⟩ := hd.at_ (k := 0) (by omega)
    exact ⟨b, o, e, hb, hc⟩
  obtain ⟨d0, hd0⟩ : ∃ d0, l[0]?.getD 0 = d0 := ⟨_, rfl⟩
  rw [hd0] at hcell
  simp only [pkC]
  rw [hd0]
  have HC := Lib.hid hcell
  have hB : Below w.heap.size w (w.alloc (.cells (pkC ⟨svc, id, whole, more, off, life, proto, src, dst⟩ o (.slice A n c)) 42)) := (Below.refl _ _).alloc (Nat.le_refl _) _
  simp only [pkC] at hB
  clear hcell hd0 hn
  rcases may_ways proto n d0 with ⟨rfl, rfl⟩ | ⟨rfl, h0, hE⟩ | ⟨rfl, h0, hE⟩ | hpx
  · go_enter Try.func19, Try.ntmps19
    go_wp2
    go_ret
    exact ⟨eq_false_bool (fun h => h.1 ⟨rfl, .inl rfl⟩), hB⟩
  · obtain ⟨b, of, rfl, hbl, hc0⟩ := HC.out h0
    have hz : b < w.heap.size := hbl
    have hc1 := bel_cell hB hbl hc0
    have q0 : (0 : Int) < n := by omega
    have q1 : ((n : Int) == 0) = false := by simp; omega
    go_enter Try.func19, Try.ntmps19
    go_wp2_with (go_at_call 41; refine (iserr_yes d0 hE _).mono ?_; rintro e w' ⟨rfl, rfl⟩)
    go_ret
    exact ⟨eq_false_bool (fun h => h.1 ⟨rfl, .inr hE⟩), hB⟩
  · obtain ⟨b, of, rfl, hbl, hc0⟩ := HC.out h0
    have hz : b < w.heap.size := hbl
    have hc1 := bel_cell hB hbl hc0
    have q0 : (0 : Int) < n := by omega
    have q1 : ((n : Int) == 0) = false := by simp; omega
    have hx : ¬ (n = 0 ∨ ErrP d0) := fun h => h.elim (by omega) hE
    have HX := Lib.hid hx
    have HEX := Lib.hid hE
    clear hx hE
    rcases num_ways off dst src with a | ⟨a, b⟩ | ⟨a, b, rfl⟩ | ⟨a, b, c, d⟩ | ⟨a, b, c, d, f⟩ | ⟨a, b, c, d, f⟩
    all_goals
      go_enter Try.func19, Try.ntmps19
      go_wp2_with (go_at_call 41; refine (iserr_no d0 HEX.out _).mono ?_; rintro e w' ⟨rfl, rfl⟩)
      go_ret
    · exact ⟨eq_false_bool (fun h => by have := h.2.1; omega), hB⟩
    · exact ⟨eq_false_bool (fun h => by have := h.2.2.1; omega), hB⟩
    · exact ⟨eq_false_bool (fun h => h.2.2.2.1 rfl), hB⟩
    · exact ⟨eq_false_bool (fun h => by have := h.2.2.2.2.1; omega), hB⟩
    · exact ⟨eq_false_bool (fun h => h.2.2.2.2.2 (by simpa using f)), hB⟩
    · exact ⟨eq_true_bool ⟨fun h => HX.out h.2, a, b, by simpa using c, d, by simpa using f⟩, hB⟩
  · have hq : (proto == 1) = false := by simpa using hpx
    have hx : ¬ (proto = 1 ∧ (n = 0 ∨ ErrP d0)) := fun h => hpx h.1
    have HX := Lib.hid hx
    clear hx hpx
    rcases num_ways off dst src with a | ⟨a, b⟩ | ⟨a, b, rfl⟩ | ⟨a, b, c, d⟩ | ⟨a, b, c, d, f⟩ | ⟨a, b, c, d, f⟩
    all_goals
      go_enter Try.func19, Try.ntmps19
      go_wp2
      go_ret
    · exact ⟨eq_false_bool (fun h => by have := h.2.1; omega), hB⟩
    · exact ⟨eq_false_bool (fun h => by have := h.2.2.1; omega), hB⟩
    · exact ⟨eq_false_bool (fun h => h.2.2.2.1 rfl), hB⟩
    · exact ⟨eq_false_bool (fun h => by have := h.2.2.2.2.1; omega), hB⟩
    · exact ⟨eq_false_bool (fun h => h.2.2.2.2.2 (by simpa using f)), hB⟩
    · exact ⟨eq_true_bool ⟨HX.out, a, b, by simpa using c, d, by simpa using f⟩, hB⟩

set_option maxRecDepth 100000 in
set_option maxHeartbeats 2000000 in
theorem rmay_any (p : PkV) (o : Value) (A : Option Addr) (n c : Nat) (l : List Int) (hp : p.Ok) (hn : l.length = n) (hc : n ≤ c) (hmax : c ≤ 140737488351232) (w : World) (hd : RB w w.heap.size A l) :
    Calls Try.prog 20 #[.agg (pkC p o (.slice A n c))] w fun e w' => e = .returned (.bool (decide (MayP p.proto n (l[0]?.getD 0) p.off p.dst p.src))) ∧ Below w.heap.size w w' := by
  obtain ⟨svc, id, whole, more, off, life, proto, src, dst⟩ := p
  have ⟨_, _, ho, _, hpr, hs, ht⟩ := hp
  simp only at ho hpr hs ht
  have hcell : 0 < n → ∃ b o, A = some ⟨b, o, none⟩ ∧ b < w.heap.size ∧ w.cell? ⟨b, o, none⟩ = some (.int .u8 (l[0]?.getD 0)) := fun h0 => by
    obtain ⟨b, o, e, hb, hc⟩ := hd.at_ (k := 0) (by omega)
    exact ⟨b, o, e, hb, hc⟩
  obtain ⟨d0, hd0⟩ : ∃ d0, l[0]?.getD 0 = d0 := ⟨_, rfl⟩
  rw [hd0] at hcell
  simp only [pkC]
  rw [hd0]
  have HC := Lib.hid hcell
  have hB : Below w.heap.size w (w.alloc (.cells (pkC ⟨svc, id, whole, more, off, life, proto, src, dst⟩ o (.slice A n c)) 42)) := (Below.refl _ _).alloc (Nat.le_refl _) _
  simp only [pkC] at hB
  clear hcell hd0 hn
  rcases may_ways proto n d0 with ⟨rfl, rfl⟩ | ⟨rfl, h0, hE⟩ | ⟨rfl, h0, hE⟩ | hpx
  · go_enter Try.func20, Try.ntmps20
    go_wp2
    go_ret
    exact ⟨eq_false_bool (fun h => h.1 ⟨rfl, .inl rfl⟩), hB⟩
  · obtain ⟨b, of, rfl, hbl, hc0⟩ := HC.out h0
    have hz : b < w.heap.size := hbl
    have hc1 := bel_cell hB hbl hc0
    have q0 : (0 : Int) < n := by omega
    have q1 : ((n : Int) == 0) = false := by simp; omega
    go_enter Try.func20, Try.ntmps20
    go_wp2_with (go_at_call 42; refine (riserr_yes d0 hE _).mono ?_; rintro e w' ⟨rfl, rfl⟩)
    go_ret
    exact ⟨eq_false_bool (fun h => h.1 ⟨rfl, .inr hE⟩), hB⟩
  · obtain ⟨b, of, rfl, hbl, hc0⟩ := HC.out h0
    have hz : b < w.heap.size := hbl
    have hc1 := bel_cell hB hbl hc0
    have q0 : (0 : Int) < n := by omega
    have q1 : ((n : Int) == 0) = false := by simp; omega
    have hx : ¬ (n = 0 ∨ ErrP d0) := fun h => h.elim (by omega) hE
    have HX := Lib.hid hx
    have HEX := Lib.hid hE
    clear hx hE
    rcases num_ways off dst src with a | ⟨a, b⟩ | ⟨a, b, rfl⟩ | ⟨a, b, c, d⟩ | ⟨a, b, c, d, f⟩ | ⟨a, b, c, d, f⟩
    all_goals
      go_enter Try.func20, Try.ntmps20
      go_wp2_with (go_at_call 42; refine (riserr_no d0 HEX.out _).mono ?_; rintro e w' ⟨rfl, rfl⟩)
      go_ret
    · exact ⟨eq_false_bool (fun h => by have := h.2.1; omega), hB⟩
    · exact ⟨eq_false_bool (fun h => by have := h.2.2.1; omega), hB⟩
    · exact ⟨eq_false_bool (fun h => h.2.2.2.1 rfl), hB⟩
    · exact ⟨eq_false_bool (fun h => by have := h.2.2.2.2.1; omega), hB⟩
    · exact ⟨eq_false_bool (fun h => h.2.2.2.2.2 (by simpa using f)), hB⟩
    · exact ⟨eq_true_bool ⟨fun h => HX.out h.2, a, b, by simpa using c, d, by simpa using f⟩, hB⟩
  · have hq : (proto == 1) = false := by simpa using hpx
    have hx : ¬ (proto = 1 ∧ (n = 0 ∨ ErrP d0)) := fun h => hpx h.1
    have HX := Lib.hid hx
    clear hx hpx
    rcases num_ways off dst src with a | ⟨a, b⟩ | ⟨a, b, rfl⟩ | ⟨a, b, c, d⟩ | ⟨a, b, c, d, f⟩ | ⟨a, b, c, d, f⟩
    all_goals
      go_enter Try.func20, Try.ntmps20
      go_wp2
      go_ret
    · exact ⟨eq_false_bool (fun h => by have := h.2.1; omega), hB⟩
    · exact ⟨eq_false_bool (fun h => by have := h.2.2.1; omega), hB⟩
    · exact ⟨eq_false_bool (fun h => h.2.2.2.1 rfl), hB⟩
    · exact ⟨eq_false_bool (fun h => by have := h.2.2.2.2.1; omega), hB⟩
    · exact ⟨eq_false_bool (fun h => h.2.2.2.2.2 (by simpa using f)), hB⟩
    · exact ⟨eq_true_bool ⟨HX.out, a, b, by simpa using c, d, by simpa using f⟩, hB⟩
end Go.Proofs.Ytlnodkfngomlmaa
