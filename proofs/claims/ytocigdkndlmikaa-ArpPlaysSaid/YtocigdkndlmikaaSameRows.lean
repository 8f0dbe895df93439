/- Proved: two lists of rows that are alike are found alike. Conditions: the rows lie in memory. -/
import Derived.Test.YtocigdkndlmikaaSendW
import Derived.Test.YtocigdkndlmikaaSum
import Derived.LoopTactic
import Derived.Deep.QuietTactic
import Derived.BigQuiet
set_option linter.unusedVariables false
set_option linter.unusedSimpArgs false
namespace Go.Proofs.Ytocigdkndlmikaa
open Go.RowKit

/-- A row of bytes that may be read. -/
def RdRow (w : World) (v : Value) (l : List Int) : Prop := ∃ A n c, v = .slice A n c ∧ RB w w.heap.size A l ∧ Bs l ∧ l.length = n ∧ n ≤ 140737488355328
def RdRows (w : World) : List Value → List (List Int) → Prop
  | [], [] => True
  | v :: vs, l :: ls => RdRow w v l ∧ RdRows w vs ls
  | _, _ => False
theorem RdRows.length {w : World} : ∀ {vs : List Value} {ls : List (List Int)}, RdRows w vs ls → vs.length = ls.length
  | [], [], _ => rfl
  | v :: vs, l :: ls, h => by simp [RdRows.length h.2]
  | [], _ :: _, h => h.elim
  | _ :: _, [], h => h.elim
theorem RdRows.at_ {w : World} : ∀ {vs : List Value} {ls : List (List Int)}, RdRows w vs ls → ∀ {i : Nat} {v : Value} {l : List Int}, vs[i]? = some v → ls[i]? = some l → RdRow w v l
  | [], [], _, i, _, _, h, _ => by simp at h
  | v :: vs, l :: ls, h, 0, _, _, h1, h2 => by simp at h1 h2; subst h1; subst h2; exact h.1
  | v :: vs, l :: ls, h, i + 1, _, _, h1, h2 => by simp at h1 h2; exact RdRows.at_ h.2 h1 h2
  | [], _ :: _, h, _, _, _, _, _ => h.elim
  | _ :: _, [], h, _, _, _, _, _ => h.elim
theorem RowAt.rd {w : World} {F : Nat → Prop} {v : Value} {l : List Int} (h : RowAt w F v l) : RdRow w v l := by
  obtain ⟨A, n, c, rfl, h1, _, h3, h4⟩ := h
  exact ⟨A, n, c, rfl, OB.rb h1, h3, OB.length h1, h4⟩
theorem RowsAt.rd {w : World} {F : Nat → Prop} : ∀ {vs : List Value} {ls : List (List Int)}, RowsAt w F vs ls → RdRows w vs ls
  | [], [], _ => trivial
  | v :: vs, l :: ls, h => ⟨h.1.rd, RowsAt.rd h.2⟩
  | [], _ :: _, h => h.elim
  | _ :: _, [], h => h.elim

set_option maxHeartbeats 2000000 in
set_option maxRecDepth 100000 in
theorem rows_same (A A2 : Option Addr) (n c c2 : Nat) (vs vs2 : List Value) (ls : List (List Int)) (w : World) (hA : Rw w w.heap.size A vs) (hA2 : Rw w w.heap.size A2 vs2) (h1 : RdRows w vs ls) (h2 : RdRows w vs2 ls) (hn : ls.length = n) (hm : n ≤ 140737488355328) :
    Calls Try.prog 15 #[.slice A n c, .slice A2 n c2] w fun e w' => e = .returned (.bool true) ∧ ∃ k, w' = w.drewN k := by
  have HN := Lib.hid hn
  have HL1 := Lib.hid (h1.length.trans hn)
  have HL2 := Lib.hid (h2.length.trans hn)
  clear hn
  go_enter Try.func15, Try.ntmps15
  go_wp2
  go_loopw [5] (fun i wr => ∃ (k q : Nat), k ≤ n ∧ i = .int .i64 k ∧ Hid (wr = w.drewN q)) (fun i _ => n - (intOf i).toNat)
  case atStart => exact ⟨0, 0, Nat.zero_le _, rfl, Lib.hid rfl⟩
  case round =>
    obtain ⟨k, q, hk, rfl, HQ⟩ := hrel
    rcases Nat.lt_or_ge k n with c0 | c0
    · obtain ⟨v, hv⟩ : ∃ v, vs[k]? = some v := ⟨_, List.getElem?_eq_getElem (by rw [HL1.out]; exact c0)⟩
      obtain ⟨v2, hv2⟩ : ∃ v, vs2[k]? = some v := ⟨_, List.getElem?_eq_getElem (by rw [HL2.out]; exact c0)⟩
      obtain ⟨l, hl⟩ : ∃ l, ls[k]? = some l := ⟨_, List.getElem?_eq_getElem (by rw [HN.out]; exact c0)⟩
      obtain ⟨B1, n1, k1, rfl, r1, b1, l1, m1⟩ := h1.at_ hv hl
      obtain ⟨B2, n2, k2, rfl, r2, b2, l2, m2⟩ := h2.at_ hv2 hl
      obtain ⟨g1, o1, rfl, _, e1⟩ := hA.at_ hv
      obtain ⟨g2, o2, rfl, _, e2⟩ := hA2.at_ hv2
      have e1' : wr.cell? ⟨g1, o1 + k, none⟩ = some (.slice B1 n1 k1) := by rw [HQ.out]; exact e1
      have e2' : wr.cell? ⟨g2, o2 + k, none⟩ = some (.slice B2 n2 k2) := by rw [HQ.out]; exact e2
      clear e1 e2
      have L1 := Lib.hid l1
      have L2 := Lib.hid l2
      have hsame : ∀ m, Calls Try.prog 19 #[.slice B1 n1 k1, .slice B2 n2 k2] (wr.drewN m) fun e w' => e = .returned (.bool true) ∧ ∃ j, w' = (wr.drewN m).drewN j := fun m =>
        (same_any B1 B2 n1 k1 n2 k2 _ _ l l l1 l2 m1 m2 b1 b1 (wr.drewN m) (by rw [HQ.out]; exact Rw.drewN (Rw.drewN r1 q) m) (by rw [HQ.out]; exact Rw.drewN (Rw.drewN r2 q) m)).mono fun e w' h => ⟨by rw [h.1]; simp, h.2⟩
      have HS := Lib.hid hsame
      have c0' : (k : Int) < n := by omega
      clear hv hv2 hl l1 l2 hsame
      go_wp2
      go_quiet ((go_at_call 19; exact Calls.quiet_of (HS.out _)))
      go_wp2
      go_roundw
      case rel => exact ⟨k + 1, q + nq, by omega, by go_num, Lib.hid (by rw [HQ.out, World.drewN_drewN])⟩
      case measure => simp [intOf]; omega
    · have c0' : ¬ (k : Int) < n := by omega
      go_wp2
      go_ret
      exact ⟨rfl, q, HQ.out⟩
end Go.Proofs.Ytocigdkndlmikaa
