/- Proved: where an address stands in the reference's Cache, or would stand; room for one more there, by their walks; append to a row of the reference's neighbours, of whatever source; a neighbour is put at its place, by the walk of insert. Conditions: as each law says. -/
import Derived.Test.YtocigdkndlmikaaRfc
import Derived.LoopTactic
import Derived.BigQuiet
import Derived.Deep.QuietTactic
set_option linter.unusedVariables false
set_option linter.unusedSimpArgs false
namespace Go.Proofs.Ytocigdkndlmikaa
open Go.RowKit

/-- Where an address stands, or would. -/
structure SpotR (S : List En) (a : Int) (i : Nat) (v : Bool) : Prop where
  lo : ∀ j y, j < i → S[j]? = some y → y.a < a
  hi : ∀ y, S[i]? = some y → a ≤ y.a
  le : i ≤ S.length
  yes : v = true → ∃ x, S[i]? = some x ∧ x.a = a
  no : v = false → ∀ y, S[i]? = some y → y.a ≠ a
set_option maxHeartbeats 4000000 in
set_option maxRecDepth 1000000 in
theorem spot_any (q : Nat) (A : Option Addr) (n c : Nat) (S : List En) (a : Int) (w : World) (h : RcS w q A n c S) (hn : n ≤ 1000) :
    Calls Try.prog 52 #[.pointer (some ⟨q, 0, none⟩), .int .u32 a] w fun e w' => ∃ i v, e = .returned (.tuple #[.int .i64 (i : Nat), .bool v]) ∧ SpotR S a i v ∧ ∃ k, w' = w.drewN k := by
  have hlen := h.2.1.len
  have HS := Lib.hid h
  have HLEN := Lib.hid hlen
  have hn0 : (0 : Int) ≤ (n : Int) := by omega
  have c0 : w.cell? ⟨q, 0, none⟩ = some (.slice A n c) := h.1.cell 0
  clear hlen h
  go_enter Try.func52, Try.ntmps52
  go_wp2_with fail
  go_loopw [6] (fun v6 wr => wr = w ∧ ∃ k : Nat, k ≤ n ∧ v6 = .int .i64 k ∧ Hid (∀ j y, j < k → S[j]? = some y → y.a < a)) (fun v6 _ => n - (intOf v6).toNat)
  case atStart => exact ⟨rfl, 0, Nat.zero_le _, rfl, Lib.hid (fun j y hj => by omega)⟩
  case round =>
    obtain ⟨rfl, k, hk, rfl, HR⟩ := hrel
    rcases Nat.lt_or_ge k n with r | r
    · have t1 : decide ((k : Int) < (n : Int)) = true := decide_eq_true (by omega)
      have t0 : decide (k < n) = true := decide_eq_true r
      have hki : (0 : Int) ≤ (k : Int) ∧ (k : Int) < (n : Int) := by omega
      obtain ⟨x, hx⟩ : ∃ x, S[k]? = some x := ⟨_, List.getElem?_eq_getElem (by have := HLEN.out; omega)⟩
      obtain ⟨g, rfl, _, hg, hcl⟩ := HS.out.2.1.cell hx
      obtain ⟨xa, hxa⟩ : ∃ b, x.a = b := ⟨_, rfl⟩
      have hx0 : wr.cell? ⟨g, k * 11 + 0, none⟩ = some (.int .u32 xa) := by rw [← hxa]; exact (hcl 0 _ rfl).1
      rw [Nat.add_zero] at hx0
      have HX := Lib.hid (And.intro hx hxa)
      clear hcl hx hxa
      by_cases l : xa < a
      · have hl : decide (xa < a) = true := decide_eq_true l
        have HL := Lib.hid l
        clear l
        go_wp2_with fail
        go_roundw
        case rel =>
          refine ⟨by trivial, k + 1, by omega, by rw [Int.natCast_succ], Lib.hid (fun j y hj hy => ?_)⟩
          rcases Nat.lt_or_ge j k with h5 | h5
          · exact HR.out j y h5 hy
          · obtain rfl : j = k := by omega
            rw [HX.out.1] at hy
            injection hy with hy
            rw [← hy, HX.out.2]; exact HL.out
        case measure => simp only [intOf]; omega
      · have hl : decide (xa < a) = false := decide_eq_false l
        have HL := Lib.hid l
        clear l
        by_cases e : xa = a
        · have he : (xa == a) = true := beq_iff_eq.2 e
          have HE := Lib.hid e
          clear e
          go_wp2_with fail
          go_quiet (fail)
          go_wp2_with fail
          go_ret2
          exact ⟨k, true, rfl, ⟨HR.out, fun y hy => by rw [HX.out.1] at hy; injection hy with hy; rw [← hy, HX.out.2, HE.out]; exact Int.le_refl _, by have := HLEN.out; omega, fun _ => ⟨x, HX.out.1, HX.out.2.trans HE.out⟩, (fun h => by cases h)⟩, _, rfl⟩
        · have he : (xa == a) = false := beq_eq_false_iff_ne.2 e
          have HE := Lib.hid e
          clear e
          go_wp2_with fail
          go_quiet (fail)
          go_wp2_with fail
          go_ret2
          exact ⟨k, false, rfl, ⟨HR.out, (fun y hy => by rw [HX.out.1] at hy; injection hy with hy; rw [← hy, HX.out.2]; have := HL.out; omega), by have := HLEN.out; omega, (fun h => by cases h), fun _ y hy => by rw [HX.out.1] at hy; injection hy with hy; rw [← hy, HX.out.2]; exact HE.out⟩, _, rfl⟩
    · obtain rfl : k = n := by omega
      have t1 : decide ((k : Int) < (k : Int)) = false := decide_eq_false (by omega)
      have t0 : decide (k < k) = false := decide_eq_false (by omega)
      have HNO : Hid (∀ y, S[k]? = some y → False) := Lib.hid (fun y hy => by have := (List.getElem?_eq_some_iff.1 hy).1; have := HLEN.out; omega)
      go_wp2_with fail
      go_quiet (fail)
      go_wp2_with fail
      go_ret2
      exact ⟨k, false, rfl, ⟨HR.out, fun y hy => (HNO.out y hy).elim, by have := HLEN.out; omega, (fun h => by cases h), fun _ y hy => (HNO.out y hy).elim⟩, _, rfl⟩
/-- The known one that goes first, of the first i. -/
def BestR (S : List En) (i m : Nat) : Prop := ∃ x, S[m]? = some x ∧ x.n.kn = true ∧ m < i ∧ ∀ j y, j < i → S[j]? = some y → y.n.kn = true → (x.n.tk < y.n.tk ∨ (x.n.tk = y.n.tk ∧ m ≤ j))
def NoneR (S : List En) (i : Nat) : Prop := ∀ j y, j < i → S[j]? = some y → y.n.kn = false
theorem NoneR.step {S : List En} {i : Nat} (h : NoneR S i) {x : En} (hx : S[i]? = some x) (hk : x.n.kn = false) : NoneR S (i + 1) := fun j y hj hy => by
  rcases Nat.lt_or_ge j i with h5 | h5
  · exact h j y h5 hy
  · obtain rfl : j = i := by omega
    rw [hx] at hy; injection hy with hy; rw [← hy]; exact hk
theorem BestR.one {S : List En} {i : Nat} (h : NoneR S i) {x : En} (hx : S[i]? = some x) (hk : x.n.kn = true) : BestR S (i + 1) i := ⟨x, hx, hk, Nat.lt_succ_self _, fun j y hj hy hky => by
  rcases Nat.lt_or_ge j i with h5 | h5
  · have := h j y h5 hy; rw [this] at hky; cases hky
  · obtain rfl : j = i := by omega
    rw [hx] at hy; injection hy with hy; rw [hy]; exact .inr ⟨rfl, Nat.le_refl _⟩⟩
theorem BestR.skip {S : List En} {i m : Nat} (h : BestR S i m) {x : En} (hx : S[i]? = some x) (hk : x.n.kn = false) : BestR S (i + 1) m := by
  obtain ⟨b, h1, h2, h3, h4⟩ := h
  refine ⟨b, h1, h2, by omega, fun j y hj hy hky => ?_⟩
  rcases Nat.lt_or_ge j i with h5 | h5
  · exact h4 j y h5 hy hky
  · obtain rfl : j = i := by omega
    rw [hx] at hy; injection hy with hy; rw [← hy, hk] at hky; cases hky
theorem BestR.keep {S : List En} {i m : Nat} (h : BestR S i m) {x b : En} (hx : S[i]? = some x) (hb : S[m]? = some b) (ht : b.n.tk ≤ x.n.tk) : BestR S (i + 1) m := by
  obtain ⟨b', h1, h2, h3, h4⟩ := h
  rw [hb] at h1; injection h1 with h1; subst h1
  refine ⟨b, hb, h2, by omega, fun j y hj hy hky => ?_⟩
  rcases Nat.lt_or_ge j i with h5 | h5
  · exact h4 j y h5 hy hky
  · obtain rfl : j = i := by omega
    rw [hx] at hy; injection hy with hy; rw [← hy]; omega
theorem BestR.take {S : List En} {i m : Nat} (h : BestR S i m) {x b : En} (hx : S[i]? = some x) (hk : x.n.kn = true) (hb : S[m]? = some b) (ht : x.n.tk < b.n.tk) : BestR S (i + 1) i := by
  obtain ⟨b', h1, h2, h3, h4⟩ := h
  rw [hb] at h1; injection h1 with h1; subst h1
  refine ⟨x, hx, hk, Nat.lt_succ_self _, fun j y hj hy hky => ?_⟩
  rcases Nat.lt_or_ge j i with h5 | h5
  · have := h4 j y h5 hy hky; omega
  · obtain rfl : j = i := by omega
    rw [hx] at hy; injection hy with hy; rw [hy]; exact .inr ⟨rfl, Nat.le_refl _⟩
/-- What room leaves of the reference's. -/
def RoomR (w : World) (q : Nat) (G : Nat → Prop) (A : Option Addr) (n c : Nat) (S : List En) (e : Ending) (w' : World) : Prop :=
  (e = .returned (.bool true) ∧ n ≤ 15 ∧ ∃ k, w' = w.drewN k) ∨
  (e = .returned (.bool true) ∧ 16 ≤ n ∧ ∃ m A' n' c', BestR S n m ∧ RcK w' q G A' n' c' (S.take m ++ S.drop (m + 1)) ∧ Chg (fun b => b = q) w w' ∧ ∀ b, blk A' = some b → w.heap.size ≤ b) ∨
  (e = .returned (.bool false) ∧ 16 ≤ n ∧ NoneR S n ∧ ∃ k, w' = w.drewN k)
set_option maxHeartbeats 4000000 in
set_option maxRecDepth 1000000 in
theorem rroom_any (q : Nat) (G : Nat → Prop) (A : Option Addr) (n c : Nat) (S : List En) (w : World) (h : RcK w q G A n c S) (hn : n ≤ 1000) :
    Calls Try.prog 54 #[.pointer (some ⟨q, 0, none⟩)] w (RoomR w q G A n c S) := by
  have hlen := h.len
  have HS := Lib.hid h
  have HLEN := Lib.hid hlen
  have hn0 : (0 : Int) ≤ (n : Int) := by omega
  have c0 : w.cell? ⟨q, 0, none⟩ = some (.slice A n c) := h.st.1.cell 0
  clear hlen h
  rcases Nat.lt_or_ge n 16 with d | d
  · have t1 : (n : Int) < 16 := by omega
    go_enter Try.func54, Try.ntmps54
    go_wp2_with fail
    go_ret
    exact .inl ⟨rfl, by omega, 0, rfl⟩
  · have t1 : ¬ (n : Int) < 16 := by omega
    go_enter Try.func54, Try.ntmps54
    go_wp2_with fail
    go_loopw [3, 4] (fun v3 v4 wr => (∃ z, wr = w.drewN z) ∧ ∃ k : Nat, k ≤ n ∧ v4 = .int .i64 k ∧ ((v3 = .int .i64 (-1) ∧ Hid (NoneR S k)) ∨ ∃ m : Nat, m < k ∧ v3 = .int .i64 m ∧ Hid (BestR S k m))) (fun _ v4 _ => n - (intOf v4).toNat)
    case atStart => exact ⟨⟨0, rfl⟩, 0, Nat.zero_le _, rfl, .inl ⟨rfl, Lib.hid (fun j y hj => by omega)⟩⟩
    case round =>
      obtain ⟨⟨z, hz⟩, k, hk, rfl, HR⟩ := hrel
      have HZ := Lib.hid hz
      have c1 : wr.cell? ⟨q, 0, none⟩ = some (.slice A n c) := by rw [hz]; exact c0
      have HS1 : Hid (RcK wr q G A n c S) := Lib.hid (by rw [hz]; exact HS.out.drewN z)
      clear hz
      rcases Nat.lt_or_ge k n with r | r
      · have hki : (0 : Int) ≤ (k : Int) ∧ (k : Int) < (n : Int) := by omega
        obtain ⟨x, hx⟩ : ∃ x, S[k]? = some x := ⟨_, List.getElem?_eq_getElem (by have := HLEN.out; omega)⟩
        obtain ⟨g, hA, _, hg, hcl⟩ := HS1.out.st.2.1.cell hx
        have HA := Lib.hid hA
        rw [hA] at c1
        obtain ⟨kn, hkn⟩ : ∃ b, x.n.kn = b := ⟨_, rfl⟩
        obtain ⟨tk, htk⟩ : ∃ b, x.n.tk = b := ⟨_, rfl⟩
        have hx1 : wr.cell? ⟨g, k * 11 + 1, none⟩ = some (.bool kn) := by rw [← hkn]; exact (hcl 1 _ rfl).1
        have hx8 : wr.cell? ⟨g, k * 11 + 8, none⟩ = some (.int .i64 tk) := by rw [← htk]; exact (hcl 8 _ rfl).1
        have HX := Lib.hid (And.intro hx (And.intro hkn htk))
        clear hcl hx hkn htk hA
        rcases HR with ⟨rfl, HR⟩ | ⟨m, hm, rfl, HR⟩
        · cases kn with
          | false =>
            go_wp2_with fail
            go_quiet (fail)
            go_wp2_with fail
            go_roundw
            case rel => exact ⟨⟨z + _, by rw [HZ.out]; exact World.drewN_drewN _ _ _⟩, k + 1, by omega, by rw [Int.natCast_succ], .inl ⟨rfl, Lib.hid (HR.out.step HX.out.1 HX.out.2.1)⟩⟩
            case measure => simp only [intOf]; omega
          | true =>
            go_wp2_with fail
            go_quiet (fail)
            go_wp2_with fail
            go_roundw
            case rel => exact ⟨⟨z + _, by rw [HZ.out]; exact World.drewN_drewN _ _ _⟩, k + 1, by omega, by rw [Int.natCast_succ], .inr ⟨k, by omega, rfl, Lib.hid (BestR.one HR.out HX.out.1 HX.out.2.1)⟩⟩
            case measure => simp only [intOf]; omega
        · obtain ⟨y, hy⟩ : ∃ y, S[m]? = some y := ⟨_, List.getElem?_eq_getElem (by have := HLEN.out; omega)⟩
          obtain ⟨g2, hA2, _, hg2, hcl2⟩ := HS1.out.st.2.1.cell hy
          have hgg : g2 = g := by have h5 := HA.out.symm.trans hA2; injection h5 with h5; injection h5 with h5; exact h5.symm
          obtain ⟨ty, hty⟩ : ∃ b, y.n.tk = b := ⟨_, rfl⟩
          have hy8 : wr.cell? ⟨g, m * 11 + 8, none⟩ = some (.int .i64 ty) := by rw [← hty, ← hgg]; exact (hcl2 8 _ rfl).1
          have HY := Lib.hid (And.intro hy hty)
          have hmi : (0 : Int) ≤ (m : Int) ∧ (m : Int) < (n : Int) := by omega
          have hmneg : decide ((m : Int) < 0) = false := decide_eq_false (by omega)
          clear hcl2 hy hty hA2 hgg
          cases kn with
          | false =>
            go_wp2_with fail
            go_quiet (fail)
            go_wp2_with fail
            go_roundw
            case rel => exact ⟨⟨z + _, by rw [HZ.out]; exact World.drewN_drewN _ _ _⟩, k + 1, by omega, by rw [Int.natCast_succ], .inr ⟨m, by omega, rfl, Lib.hid (HR.out.skip HX.out.1 HX.out.2.1)⟩⟩
            case measure => simp only [intOf]; omega
          | true =>
            by_cases l : tk < ty
            · have hl : decide (tk < ty) = true := decide_eq_true l
              have HL := Lib.hid l
              clear l
              go_wp2_with fail
              go_quiet (fail)
              go_wp2_with fail
              go_roundw
              case rel => exact ⟨⟨z + _, by rw [HZ.out]; exact World.drewN_drewN _ _ _⟩, k + 1, by omega, by rw [Int.natCast_succ], .inr ⟨k, by omega, rfl, Lib.hid (HR.out.take HX.out.1 HX.out.2.1 HY.out.1 (by rw [HX.out.2.2, HY.out.2]; exact HL.out))⟩⟩
              case measure => simp only [intOf]; omega
            · have hl : decide (tk < ty) = false := decide_eq_false l
              have HL := Lib.hid l
              clear l
              go_wp2_with fail
              go_quiet (fail)
              go_wp2_with fail
              go_roundw
              case rel => exact ⟨⟨z + _, by rw [HZ.out]; exact World.drewN_drewN _ _ _⟩, k + 1, by omega, by rw [Int.natCast_succ], .inr ⟨m, by omega, rfl, Lib.hid (HR.out.keep HX.out.1 HY.out.1 (by rw [HX.out.2.2, HY.out.2]; have := HL.out; omega))⟩⟩
              case measure => simp only [intOf]; omega
      · obtain rfl : k = n := by omega
        rcases HR with ⟨rfl, HR⟩ | ⟨m, hm, rfl, HR⟩
        · go_wp2_with fail
          go_ret
          exact .inr (.inr ⟨rfl, d, HR.out, z, HZ.out⟩)
        · have hmneg : ¬ (m : Int) < 0 := by omega
          go_wp2_with fail
          refine (cdrop HS1.out hn m hm).mono ?_
          rintro e w' ⟨rfl, A', n', c', h1, h2, h3⟩
          have HH : Hid (RoomR w q G A k c S (.returned (.bool true)) w') := Lib.hid (.inr (.inl ⟨rfl, d, m, A', n', c', HR.out, h1, by have := HZ.out; subst this; exact ((Chg.refl _ w).drewN z).trans h2 (fun x hx => .inl hx), fun b hb => by have := h3 b hb; have := HZ.out; subst this; exact h3 b hb⟩))
          clear h1 h2 h3
          go_wp2_with fail
          go_ret
          exact HH.out
end Go.Proofs.Ytocigdkndlmikaa
namespace Go.Proofs.Ytocigdkndlmikaa
open Go.RowKit
theorem run_ap_ne (ty : TypeId) (w : World) (base : Nat) {A : Option Addr} {n c : Nat} {S : List En} (hown : Rs w base A n c S) {B : Nat} {A2 : Option Addr} {m c2 : Nat} {S2 : List En} (hr : Rw w B A2 (nrsC S2)) (hm : S2.length = m)
    (hn : n + m ≤ 100000) (hbase : base ≤ w.heap.size) :
    ∃ A' c' w', (Builtin.append_ #[61, 61] ty #[.slice A n c, .slice A2 m c2]).run Try.prog w = .ok (.slice A' (n + m) c') w' ∧ Rs w' base A' (n + m) c' (S ++ S2) ∧ w.grownBy w' (blk A) := by
  obtain ⟨ti, i1, i2, i3, i4⟩ := info_nr
  rcases Nat.eq_zero_or_pos m with h0 | h0
  · subst h0
    have hS2 : S2 = [] := List.eq_nil_of_length_eq_zero hm
    subst hS2
    rw [List.append_nil]
    have hrun : (Builtin.append_ #[61, 61] ty #[.slice A n c, .slice A2 0 c2]).run Try.prog w = .ok (.slice A n c) w := by
      rcases Rs.cases_ hown with ⟨rfl, rfl, rfl, _⟩ | ⟨g, cur, rfl, _, _, hnc, _⟩
      · cases A2 <;> simp [Builtin.append_, run_underlying Try.underlying61, sizeOf, typeInfo, i1, Builtin.lenOf, Builtin.firstCells, loadCells, loadCellsFrom, storeCells]
      · cases A2 <;> simp [Builtin.append_, run_underlying Try.underlying61, sizeOf, typeInfo, i1, Builtin.lenOf, Builtin.firstCells, hnc, loadCells, loadCellsFrom, storeCells]
    exact ⟨A, c, w, hrun, hown, World.grownBy.refl w _⟩
  · obtain ⟨b, off, rfl, hb, hcs⟩ := hr (by rw [nrsC_len]; omega)
    obtain ⟨u, w4, hrun, hO4, hG, _⟩ := run_append_own (P := Try.prog) (w := w) base 61 ty 101 ti _ 11 56 Try.underlying61 i1 i2 i3 i4 rfl (by omega) (.slice A n c) n _ hown ⟨b, off, none⟩ m c2 (nrsC S2) (by rw [nrsC_len, hm])
      (fun j u hu => by rw [add_eq]; exact hcs j u hu) (nrsC_one _) (by unfold maxLen; omega) (by omega) hbase
    rw [ownBlock_slice] at hG
    rcases hO4.2 with ⟨_, h⟩ | ⟨g, cap, cur, rfl, rest⟩
    · omega
    · exact ⟨_, cap, w4, hrun, by unfold Rs; rw [nrsC_append]; exact hO4, hG⟩
theorem Rs.rw_ {w : World} {base : Nat} {A : Option Addr} {n c : Nat} {S : List En} (h : Rs w base A n c S) : Rw w w.heap.size A (nrsC S) ∧ S.length = n ∧ n ≤ c ∧ ∀ b, blk A = some b → base ≤ b := by
  have hl : S.length = n := by have := h.1; rw [nrsC_len] at this; omega
  rcases h.2 with ⟨h1, h2⟩ | ⟨g, cap, cur, h1, hb, hh, hc, _, _, ht⟩
  · injection h1 with e1 e2 e3
    subst e1
    exact ⟨fun hn => absurd hn (by rw [nrsC_len]; omega), hl, by omega, fun b hb => by cases hb⟩
  · injection h1 with e1 e2 e3
    subst e1
    refine ⟨fun hn => ⟨g, 0, rfl, (Array.getElem?_eq_some_iff.1 hh).1, fun j u hu => ?_⟩, hl, by omega, fun b hb' => by simp [blk] at hb'; omega⟩
    rw [Nat.zero_add, cell_of_row w g j cur 101 (0, 0) hh]
    rw [← ht, List.getElem?_take] at hu
    split at hu
    · simpa using hu
    · cases hu
section
variable {ops : Array Oper} {rest : List Oper} {o : Oper} {a : Act} {w : World} {Q : Exit → Act → World → Prop}
theorem ap_ne (hgd : o.guard = none) (s x : Operand)
    (ho : o.op = .call { callee := .builtin .append, args := #[s, x], argTypes := #[61, 61] })
    (base : Nat) {A : Option Addr} {n c : Nat} {S : List En} (hs : a.eval s = .slice A n c) (hown : Rs w base A n c S)
    {B : Nat} {A2 : Option Addr} {m c2 : Nat} {S2 : List En} (hx : a.eval x = .slice A2 m c2) (hr : Rw w B A2 (nrsC S2)) (hm : S2.length = m) (hn : n + m ≤ 100000) (hbase : base ≤ w.heap.size)
    (h : ∀ A' c' w', Rs w' base A' (n + m) c' (S ++ S2) → w.grownBy w' (blk A) → wpList Try.prog ops Q rest (a.put o.dst (.slice A' (n + m) c')) w') :
    wpList Try.prog ops Q (o :: rest) a w := by
  refine wpList_plain hgd fun K hK => ?_
  obtain ⟨A', c', w', hrun, h1, h2⟩ := run_ap_ne o.type w base hown (c2 := c2) hr hm hn hbase
  unfold Oper.wp execOp
  simp only [ho, resolve, invoke, builtin, Sem.run_bind, Sem.run_pure, Result.andThen_ok, List.map_toArray, List.map_cons, List.map_nil, hs, hx, hrun]
  exact hK _ _ (h A' c' w' h1 h2)
end
/-- Inside insert. -/
structure IsS (w : World) (e : En) (W : World) : Prop where
  ch : Chg (fun b => w.heap.size ≤ b) w W
  bx : Bk W w.heap.size 101 (nrC e).toArray
section
variable {w W W' : World} {e : En} {q n c : Nat} {A : Option Addr} {S : List En}
theorem IsS.al (h : IsS w e W) (o : Obj) : IsS w e (W.alloc o) := ⟨h.ch.alloc o, h.bx.alloc o⟩
theorem IsS.gr (h : IsS w e W) {row : Option Nat} (hG : W.grownBy W' row) (hr : ∀ b, row = some b → w.heap.size < b) : IsS w e W' :=
  ⟨h.ch.trans (Chg.of_grown (F := fun b => row = some b) hG (fun b e => e)) (fun b hb => .inr (Nat.le_of_lt (hr b hb))), Bk.grown h.bx hG (fun e => by have := hr _ e.symm; omega)⟩
theorem IsS.rc (h : IsS w e W) (h0 : RcS w q A n c S) : RcS W q A n c S := h0.chg h.ch fun b hb => by
  have : b < w.heap.size := by
    rcases hb with rfl | hb
    · exact h0.1.lt
    · exact (h0.2.1.lt b hb).2
  omega
theorem IsS.qc (h : IsS w e W) (h0 : RcS w q A n c S) : W.cell? ⟨q, 0, none⟩ = some (.slice A n c) := (h.rc h0).1.cell 0
theorem IsS.size (h : IsS w e W) : w.heap.size < W.heap.size := h.bx.lt
end
theorem src_take {w : World} {g n c : Nat} {S : List En} (h : Rs w 0 (some ⟨g, 0, none⟩) n c S) (i : Nat) : Rw w w.heap.size (some ⟨g, 0, none⟩) (nrsC (S.take i)) := fun hn => by
  obtain ⟨_, hg, hc⟩ := h.rw
  refine ⟨g, 0, rfl, hg, fun j u hu => ?_⟩
  rw [nrsC_take, List.getElem?_take] at hu
  rw [Nat.zero_add]
  split at hu
  · exact hc j u hu
  · cases hu
theorem src_drop {w : World} {g n c : Nat} {S : List En} (h : Rs w 0 (some ⟨g, 0, none⟩) n c S) (i : Nat) {A2 : Option Addr} (hA2 : i < n → A2 = some ⟨g, i * 11, none⟩) : Rw w w.heap.size A2 (nrsC (S.drop i)) := fun hn => by
  obtain ⟨_, hg, hc⟩ := h.rw
  have hl := h.len
  rw [nrsC_len, List.length_drop] at hn
  refine ⟨g, i * 11, hA2 (by omega), hg, fun j u hu => ?_⟩
  rw [nrsC_drop, List.getElem?_drop] at hu
  exact hc _ u hu
/-- A row as it begins: of its own, empty. -/
theorem rs_new (W : World) : Rs (W.alloc (.cells #[] 101)) W.heap.size (some ⟨W.heap.size, 0, none⟩) 0 0 [] := ⟨rfl, .inr ⟨W.heap.size, 0, #[], rfl, Nat.le_refl _, heap_alloc_new W _, Nat.le_refl _, Nat.zero_le _, rfl, rfl⟩⟩
def InsPostR (w : World) (q : Nat) (S : List En) (e : En) (en : Ending) (w' : World) : Prop :=
  en = .returned (.tuple #[]) ∧ ∃ i v A' n' c', SpotR S e.a i v ∧ Bk w' q 63 #[.slice A' n' c'] ∧ Rs w' 0 A' n' c' (S.take i ++ e :: S.drop i) ∧ (∀ b, blk A' = some b → w.heap.size ≤ b) ∧ Chg (fun b => b = q) w w'
set_option maxHeartbeats 4000000 in
set_option maxRecDepth 1000000 in
theorem insert_some (q n c : Nat) (g : Nat) (S : List En) (e : En) (w : World) (h : RcS w q (some ⟨g, 0, none⟩) n c S) (hn : n ≤ 1000) :
    Calls Try.prog 55 #[.pointer (some ⟨q, 0, none⟩), .agg (nrC e).toArray] w (InsPostR w q S e) := by
  have hnc := h.2.1.cap
  have hlen := h.2.1.len
  have HS := Lib.hid h
  have HLEN := Lib.hid hlen
  have hql := h.1.lt
  obtain ⟨W0, hW0⟩ : ∃ W0, w.alloc (.cells (nrC e).toArray 101) = W0 := ⟨_, rfl⟩
  have hI0 : IsS w e W0 := by rw [← hW0]; exact ⟨(Chg.refl _ w).alloc _, Bk.new w _ _⟩
  have HI0' := Lib.hid hI0
  have HW0 := Lib.hid hW0
  have m0 : (w.alloc (.cells (nrC e).toArray 101)).cell? ⟨w.heap.size, 0, none⟩ = some (.int .u32 e.a) := by rw [hW0]; exact hI0.bx.cell 0
  clear h hlen hW0 hI0
  go_enter Try.func55, Try.ntmps55
  go_wp2_with fail
  rw [HW0.out]
  refine (spot_any q (some ⟨g, 0, none⟩) n c S e.a _ (HI0'.out.rc HS.out) (by omega)).mono ?_
  rintro e1 w1 ⟨i, v, rfl, hsp, k, rfl⟩
  have hile := hsp.le
  have HSP := Lib.hid hsp
  rw [HLEN.out] at hile
  clear hsp
  obtain ⟨A2, hA2⟩ : ∃ A2, (if c = i then some (⟨g, 0, none⟩ : Addr) else some ⟨g, i * 11, none⟩) = A2 := ⟨_, rfl⟩
  have HA2 := Lib.hid hA2
  have HS2 : Hid (i < n → A2 = some ⟨g, i * 11, none⟩) := Lib.hid (fun hi => by rw [← hA2, if_neg (by omega)])
  clear hA2
  have cc1 : (0 : Int) ≤ (i : Int) ∧ (i : Int) ≤ (n : Int) ∧ (i : Int) ≤ (c : Int) ∧ (n : Int) ≤ (c : Int) := by omega
  generalize hW1 : World.drewN W0 k = W1
  have HI1 : IsS w e W1 := by rw [← hW1]; exact ⟨HI0'.out.ch.drewN k, HI0'.out.bx.drewN k⟩
  have HI : IsS w e (W1.alloc (.cells #[] 101)) := HI1.al _
  have cq := HI.qc HS.out
  have hsr1 : Rw (W1.alloc (.cells #[] 101)) (W1.alloc (.cells #[] 101)).heap.size (some ⟨g, 0, none⟩) (nrsC (S.take i)) := src_take (HI.rc HS.out).2.1 i
  have hm1 : (S.take i).length = i := by rw [List.length_take, HLEN.out]; omega
  have hm2 : (S.drop i).length = n - i := by rw [List.length_drop, HLEN.out]
  have HRN := rs_new W1
  have hsz : w.heap.size < W1.heap.size := HI1.size
  have hs1 : W1.heap.size ≤ (W1.alloc (.cells #[] 101)).heap.size := by rw [World.size_alloc]; omega
  have hsr2 := fun W (hI : IsS w e W) => src_drop (hI.rc HS.out).2.1 i HS2.out
  have H1 := Lib.hid HI
  have HM1 := Lib.hid hm1
  have HM2 := Lib.hid hm2
  have HRW1 := Lib.hid hsr1
  have HRW2 := Lib.hid hsr2
  have HRNh := Lib.hid HRN
  have hb1 : 0 + i ≤ 100000 := by omega
  have hb2 : i ≤ 100000 := by omega
  have hb3 : i + 1 + (n - i) ≤ 100000 := by omega
  clear HI HI1 hW1 hm1 hm2 hsr1 hsr2 HRN m0
  go_wp2_with (first
    | (at_builtin; refine ap_ne rfl (.tmp 14) (.tmp 20) rfl W1.heap.size rfl HRNh.out rfl HRW1.out HM1.out hb1 hs1 ?_; intro A3 c3 W3 hO3 hG3; rw [Nat.zero_add, List.nil_append] at hO3; have hI3 := H1.out.gr hG3 (fun b hb => by have : W1.heap.size = b := Option.some.inj hb; omega); have HI3 := Lib.hid hI3; have hrg3 := Bk.range hI3.bx; have hs3 : W1.heap.size ≤ W3.heap.size := Nat.le_trans hs1 hG3.size; clear hI3 hG3)
    | (refine ld_nr rfl (.tmp 3) rfl rfl e hrg3 ?_)
    | (refine lit_nr rfl 23 rfl e rfl ?_)
    | (at_builtin; refine ap_nr rfl (.tmp 22) (.tmp 24) rfl W1.heap.size rfl hO3 e rfl hb2 hs3 ?_; intro A4 c4 W4 hO4 hG4; have hI4 := HI3.out.gr hG4 (fun b hb => by have := (hO3.lt b hb).1; omega); have HI4 := Lib.hid hI4; have cq4 := hI4.qc HS.out; have hs4 : W1.heap.size ≤ W4.heap.size := Nat.le_trans hs3 hG4.size; have hsr4 := HRW2.out W4 hI4; clear hI4 hG4)
    | (at_builtin; rw [HA2.out]; refine ap_ne rfl (.tmp 27) (.tmp 33) rfl W1.heap.size rfl hO4 rfl hsr4 HM2.out hb3 hs4 ?_; intro A5 c5 W5 hO5 hG5; have hI5 := HI4.out.gr hG5 (fun b hb => by have := (hO4.lt b hb).1; omega); have HI5 := Lib.hid hI5; have hq5 := (hI5.rc HS.out).1; have cq5 : W5.cell? ⟨q, 0, none⟩ = some (.slice (some ⟨g, 0, none⟩) n c) := hq5.cell 0; have fq5 := hq5.frozen 0; clear hI5 hG5))
  go_end0
  have hch : Chg (fun b => b = q) w W5 := ⟨HI5.out.ch.os, HI5.out.ch.tape, HI5.out.ch.output, HI5.out.ch.size, fun b hb _ => HI5.out.ch.block b hb (by omega)⟩
  have hA5 : ∀ b, blk A5 = some b → w.heap.size ≤ b := fun b hb => by have := (hO5.lt b hb).1; omega
  have hlist : S.take i ++ [e] ++ S.drop i = S.take i ++ e :: S.drop i := by rw [List.append_assoc]; rfl
  rw [hlist] at hO5
  exact ⟨rfl, i, v, A5, _, c5, HSP.out, hq5.set 0 _, (hO5.mono (Nat.zero_le _)).chg ((Chg.refl (fun b => b = q) W5).setCell (p := ⟨q, 0, none⟩) (.inl rfl) _) (fun b hb hbq => by have := hA5 b hb; have h2 : b = q := hbq; omega), hA5, hch.trans ((Chg.refl (fun b => b = q) W5).setCell (p := ⟨q, 0, none⟩) (.inl rfl) _) (fun x hx => .inl hx)⟩
set_option maxHeartbeats 4000000 in
set_option maxRecDepth 1000000 in
theorem insert_none (q n c : Nat) (S : List En) (e : En) (w : World) (h : RcS w q none n c S) (hn : n ≤ 1000) :
    Calls Try.prog 55 #[.pointer (some ⟨q, 0, none⟩), .agg (nrC e).toArray] w (InsPostR w q S e) := by
  have hn00 : n = 0 ∧ c = 0 := by
    rcases h.2.1.cases_ with ⟨_, h1, h2, _⟩ | ⟨_, _, h1, _⟩
    · exact ⟨h1, h2⟩
    · cases h1
  obtain ⟨rfl, rfl⟩ := hn00
  have hlen := h.2.1.len
  have HS := Lib.hid h
  have HLEN := Lib.hid hlen
  have hql := h.1.lt
  obtain ⟨W0, hW0⟩ : ∃ W0, w.alloc (.cells (nrC e).toArray 101) = W0 := ⟨_, rfl⟩
  have hI0 : IsS w e W0 := by rw [← hW0]; exact ⟨(Chg.refl _ w).alloc _, Bk.new w _ _⟩
  have HI0' := Lib.hid hI0
  have HW0 := Lib.hid hW0
  have m0 : (w.alloc (.cells (nrC e).toArray 101)).cell? ⟨w.heap.size, 0, none⟩ = some (.int .u32 e.a) := by rw [hW0]; exact hI0.bx.cell 0
  clear h hlen hW0 hI0
  go_enter Try.func55, Try.ntmps55
  go_wp2_with fail
  rw [HW0.out]
  refine (spot_any q none 0 0 S e.a _ (HI0'.out.rc HS.out) (by omega)).mono ?_
  rintro e1 w1 ⟨i, v, rfl, hsp, k, rfl⟩
  have hile := hsp.le
  have HSP := Lib.hid hsp
  rw [HLEN.out] at hile
  clear hsp
  have hi0 : i = 0 := by omega
  have HI0 := Lib.hid hi0
  have hS0 : S = [] := List.eq_nil_of_length_eq_zero HLEN.out
  have HSN := Lib.hid hS0
  subst hi0
  clear hS0
  generalize hW1 : World.drewN W0 k = W1
  have HI1 : IsS w e W1 := by rw [← hW1]; exact ⟨HI0'.out.ch.drewN k, HI0'.out.bx.drewN k⟩
  have HI : IsS w e (W1.alloc (.cells #[] 101)) := HI1.al _
  have cq := HI.qc HS.out
  have hsr1 : Rw (W1.alloc (.cells #[] 101)) (W1.alloc (.cells #[] 101)).heap.size none (nrsC (S.take 0)) := by rw [HSN.out]; exact Rw.nil _ _ _
  have hm1 : (S.take 0).length = 0 := by rw [List.length_take, HLEN.out]; omega
  have hm2 : (S.drop 0).length = 0 - 0 := by rw [List.length_drop, HLEN.out]
  have HRN := rs_new W1
  have hsz : w.heap.size < W1.heap.size := HI1.size
  have hs1 : W1.heap.size ≤ (W1.alloc (.cells #[] 101)).heap.size := by rw [World.size_alloc]; omega
  have hsr2 := fun W (_ : IsS w e W) => show Rw W W.heap.size none (nrsC (S.drop 0)) from by rw [HSN.out]; exact Rw.nil _ _ _
  have H1 := Lib.hid HI
  have HM1 := Lib.hid hm1
  have HM2 := Lib.hid hm2
  have HRW1 := Lib.hid hsr1
  have HRW2 := Lib.hid hsr2
  have HRNh := Lib.hid HRN
  have hb1 : 0 + 0 ≤ 100000 := by omega
  have hb2 : 0 ≤ 100000 := by omega
  have hb3 : 0 + 1 + (0 - 0) ≤ 100000 := by omega
  clear HI HI1 hW1 hm1 hm2 hsr1 hsr2 HRN m0
  go_wp2_with (first
    | (at_builtin; refine ap_ne rfl (.tmp 14) (.tmp 20) rfl W1.heap.size rfl HRNh.out rfl HRW1.out HM1.out hb1 hs1 ?_; intro A3 c3 W3 hO3 hG3; rw [Nat.zero_add, List.nil_append] at hO3; have hI3 := H1.out.gr hG3 (fun b hb => by have : W1.heap.size = b := Option.some.inj hb; omega); have HI3 := Lib.hid hI3; have hrg3 := Bk.range hI3.bx; have hs3 : W1.heap.size ≤ W3.heap.size := Nat.le_trans hs1 hG3.size; clear hI3 hG3)
    | (refine ld_nr rfl (.tmp 3) rfl rfl e hrg3 ?_)
    | (refine lit_nr rfl 23 rfl e rfl ?_)
    | (at_builtin; refine ap_nr rfl (.tmp 22) (.tmp 24) rfl W1.heap.size rfl hO3 e rfl hb2 hs3 ?_; intro A4 c4 W4 hO4 hG4; have hI4 := HI3.out.gr hG4 (fun b hb => by have := (hO3.lt b hb).1; omega); have HI4 := Lib.hid hI4; have cq4 := hI4.qc HS.out; have hs4 : W1.heap.size ≤ W4.heap.size := Nat.le_trans hs3 hG4.size; have hsr4 := HRW2.out W4 hI4; clear hI4 hG4)
    | (at_builtin; refine ap_ne rfl (.tmp 27) (.tmp 33) rfl W1.heap.size rfl hO4 rfl hsr4 HM2.out hb3 hs4 ?_; intro A5 c5 W5 hO5 hG5; have hI5 := HI4.out.gr hG5 (fun b hb => by have := (hO4.lt b hb).1; omega); have HI5 := Lib.hid hI5; have hq5 := (hI5.rc HS.out).1; have cq5 : W5.cell? ⟨q, 0, none⟩ = some (.slice none 0 0) := hq5.cell 0; have fq5 := hq5.frozen 0; clear hI5 hG5))
  go_end0
  have hch : Chg (fun b => b = q) w W5 := ⟨HI5.out.ch.os, HI5.out.ch.tape, HI5.out.ch.output, HI5.out.ch.size, fun b hb _ => HI5.out.ch.block b hb (by omega)⟩
  have hA5 : ∀ b, blk A5 = some b → w.heap.size ≤ b := fun b hb => by have := (hO5.lt b hb).1; omega
  have hlist : S.take 0 ++ [e] ++ S.drop 0 = S.take 0 ++ e :: S.drop 0 := by rw [List.append_assoc]; rfl
  rw [hlist] at hO5
  exact ⟨rfl, 0, v, A5, _, c5, HSP.out, hq5.set 0 _, (hO5.mono (Nat.zero_le _)).chg ((Chg.refl (fun b => b = q) W5).setCell (p := ⟨q, 0, none⟩) (.inl rfl) _) (fun b hb hbq => by have := hA5 b hb; have h2 : b = q := hbq; omega), hA5, hch.trans ((Chg.refl (fun b => b = q) W5).setCell (p := ⟨q, 0, none⟩) (.inl rfl) _) (fun x hx => .inl hx)⟩
theorem spot_lo {S : List En} {a : Int} {i : Nat} {v : Bool} (h : SpotR S a i v) : ∀ y ∈ S.take i, y.a < a := fun y hy => by
  obtain ⟨j, hj⟩ := List.getElem?_of_mem hy
  rw [List.getElem?_take] at hj
  split at hj
  · exact h.lo j y (by assumption) hj
  · cases hj
theorem spot_hi {S : List En} {a : Int} {i : Nat} {v : Bool} (h : SpotR S a i v) (hs : (S.map (·.a)).Pairwise (· < ·)) (hv : v = false) : ∀ y ∈ S.drop i, a < y.a := fun y hy => by
  obtain ⟨j, hj⟩ := List.getElem?_of_mem hy
  rw [List.getElem?_drop] at hj
  have hjl := (List.getElem?_eq_some_iff.1 hj).1
  obtain ⟨x, hx⟩ : ∃ x, S[i]? = some x := ⟨_, List.getElem?_eq_getElem (by omega)⟩
  have h1 := h.hi x hx
  have h2 := h.no hv x hx
  rcases Nat.eq_zero_or_pos j with q | q
  · subst q
    rw [Nat.add_zero, hx] at hj
    injection hj with hj
    subst hj
    omega
  · have hp := List.pairwise_iff_getElem.1 hs i (i + j) (by rw [List.length_map]; omega) (by rw [List.length_map]; omega) (by omega)
    rw [List.getElem_map, List.getElem_map] at hp
    have e1 : S[i] = x := by have := hx; rw [List.getElem?_eq_getElem (by omega)] at this; injection this
    have e2 : S[i + j] = y := by have := hj; rw [List.getElem?_eq_getElem (by omega)] at this; injection this
    rw [e1, e2] at hp
    omega
/-- Put at its place. -/
theorem rinsert_any {w : World} {q : Nat} {G : Nat → Prop} {A : Option Addr} {n c : Nat} {S : List En} (h : RcK w q G A n c S) (hn : n ≤ 1000) (e : En) (he : NrOk w G e) (hne : ∀ x ∈ S, x.a ≠ e.a) :
    Calls Try.prog 55 #[.pointer (some ⟨q, 0, none⟩), .agg (nrC e).toArray] w fun en w' => en = .returned (.tuple #[]) ∧ ∃ A' n' c' S', RcK w' q G A' n' c' S' ∧ (absT S').Perm (absT S ++ [(e.a, e.n)]) ∧ Chg (fun b => b = q) w w' ∧ ∀ b, blk A' = some b → w.heap.size ≤ b := by
  have hh : Calls Try.prog 55 #[.pointer (some ⟨q, 0, none⟩), .agg (nrC e).toArray] w (InsPostR w q S e) := by
    rcases h.st.2.1.cases_ with ⟨rfl, rfl, rfl, _⟩ | ⟨g, _, rfl, _⟩
    · exact insert_none q 0 0 S e w h.st (by omega)
    · exact insert_some q n c g S e w h.st hn
  refine hh.mono ?_
  rintro en w' ⟨rfl, i, v, A', n', c', hsp, hb, hr, hA, hc⟩
  have hv : v = false := by
    cases hv : v with
    | false => rfl
    | true =>
      obtain ⟨x, hx, hxa⟩ := hsp.yes hv
      exact absurd hxa (hne x (List.mem_of_getElem? hx))
  have hlo := spot_lo hsp
  have hhi := spot_hi hsp h.so hv
  have hmem : ∀ y, y ∈ S.take i ++ e :: S.drop i → y = e ∨ y ∈ S := fun y hy => by
    rcases List.mem_append.1 hy with q | q
    · exact .inr (List.mem_of_mem_take q)
    · rcases List.mem_cons.1 q with q | q
      · exact .inl q
      · exact .inr (List.mem_of_mem_drop q)
  have hnb : blk A' ≠ some q := fun e => by have := hA q e; have := h.st.1.lt; omega
  refine ⟨rfl, A', n', c', _, ⟨⟨hb, hr, hnb⟩, fun y hy => ?_, h.nq, fun b hb hg => by have := hA b hb; have := h.lt b hg; omega, fun b hb => Nat.lt_of_lt_of_le (h.lt b hb) hc.size, ?_⟩, ?_, hc, hA⟩
  · rcases hmem y hy with q | q
    · subst q; exact he.chg hc (fun b hb e => h.nq (e ▸ hb))
    · exact (h.ok y q).chg hc (fun b hb e => h.nq (e ▸ hb))
  · have hso := h.so
    rw [← List.take_append_drop i S, List.map_append, List.pairwise_append] at hso
    rw [List.map_append, List.map_cons, List.pairwise_append, List.pairwise_cons]
    refine ⟨hso.1, ⟨fun z hz => ?_, hso.2.1⟩, fun x hx y hy => ?_⟩
    · obtain ⟨y, hy, rfl⟩ := List.mem_map.1 hz
      exact hhi y hy
    · obtain ⟨x', hx', rfl⟩ := List.mem_map.1 hx
      rcases List.mem_cons.1 hy with q | q
      · rw [q]; exact hlo x' hx'
      · obtain ⟨y', hy', rfl⟩ := List.mem_map.1 q
        have h1 := hlo x' hx'
        have h2 := hhi y' hy'
        omega
  · have e1 : absT (S.take i ++ e :: S.drop i) = absT (S.take i) ++ (e.a, e.n) :: absT (S.drop i) := by simp [absT]
    have e2 : absT S = absT (S.take i) ++ absT (S.drop i) := by
      have : absT (S.take i ++ S.drop i) = absT (S.take i) ++ absT (S.drop i) := by simp [absT]
      rwa [List.take_append_drop] at this
    rw [e1, e2, List.append_assoc]
    refine List.Perm.append_left _ ?_
    exact (List.perm_append_singleton _ _).symm
end Go.Proofs.Ytocigdkndlmikaa
