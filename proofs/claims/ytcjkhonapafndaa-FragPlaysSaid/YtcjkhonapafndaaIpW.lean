/- Proved: what is wrong with a packet, by ipv4.wrong and by the reference's May, each by its walk. Conditions: the packet lies in memory. -/
import Derived.Test.YtcjkhonapafndaaIpO
import Derived.Test.YtcjkhonapafndaaMay
import Derived.Test.YtcjkhonapafndaaMem
set_option linter.unusedVariables false
set_option linter.unusedSimpArgs false
namespace Go.Proofs.Ytcjkhonapafndaa
open Go.RowKit

/-- How many bytes a header has. -/
def hdN (n : Nat) : Nat := 20 + (n + 3) / 4 * 4
theorem hdN_int (n : Nat) : 20 + ((n : Int) + 3) / 4 * 4 = (hdN n : Int) := by unfold hdN; omega
theorem hdN_le (n : Nat) : hdN n ≤ n + 23 := by unfold hdN; omega
theorem size_any (A : Option Addr) (n c : Nat) (hmax : n ≤ 140737488355328) (w : World) :
    Calls Try.prog 35 #[.slice A n c] w fun e w' => e = .returned (.int .i64 (hdN n)) ∧ w = w' := by
  go_enter Try.func35, Try.ntmps35
  go_wp2
  go_ret
  exact ⟨by rw [← hdN_int]; rfl, rfl⟩
set_option maxRecDepth 100000 in
theorem head_any (p : PkV) (oA : Option Addr) (on oc : Nat) (d : Value) (hmax : on ≤ 140737488355328) (w : World) :
    Calls Try.prog 32 #[.agg (pkC p (.slice oA on oc) d)] w fun e w' => e = .returned (.int .i64 (hdN on)) ∧ Below w.heap.size w w' := by
  unfold pkC
  go_enter Try.func32, Try.ntmps32
  go_wp2
  go_ret
  exact ⟨by rw [← hdN_int]; rfl, (Below.refl _ _).alloc (Nat.le_refl _) _⟩
/-- Is there room for a packet's bytes? -/
def fitsP (off : Int) (on dn : Nat) : Prop := hdN on + dn ≤ 65535 ∧ off + dn ≤ 65535 - (hdN on : Int)
instance (off : Int) (on dn : Nat) : Decidable (fitsP off on dn) := by unfold fitsP; exact inferInstance
set_option maxRecDepth 100000 in
theorem within_any (p : PkV) (hoff : 0 ≤ p.off ∧ p.off ≤ 65528) (oA dA : Option Addr) (on oc dn dc : Nat) (hmo : on ≤ 40) (hmd : dn ≤ 140737488355328) (w : World) :
    Calls Try.prog 57 #[.agg (pkC p (.slice oA on oc) (.slice dA dn dc))] w fun e w' => e = .returned (.bool (decide (fitsP p.off on dn))) ∧ Below w.heap.size w w' := by
  obtain ⟨o0, o1⟩ := hoff
  have hh := hdN_le on
  obtain ⟨h, hH⟩ : ∃ h, hdN on = h := ⟨_, rfl⟩
  have hh' : h ≤ 63 := by omega
  have HH := Lib.hid hH
  clear hH hh
  rcases Decidable.em (h + dn ≤ 65535) with d | d
  · have HT : Hid (decide (fitsP p.off on dn) = decide (p.off + dn ≤ 65535 - (h : Int))) := Lib.hid (decide_eq_decide.2 (by unfold fitsP; rw [HH.out]; exact ⟨fun h => h.2, fun h => ⟨d, h⟩⟩))
    have d' : (h : Int) + dn ≤ 65535 := by omega
    unfold pkC
    go_enter Try.func57, Try.ntmps57
    go_wp2_with fail
    refine (size_any oA on oc (by omega) _).mono ?_
    rintro e w' ⟨rfl, rfl⟩
    rw [HH.out]
    go_wp2
    go_ret
    exact ⟨by rw [HT.out]; rfl, (Below.refl _ _).alloc (Nat.le_refl _) _⟩
  · have HT : Hid (decide (fitsP p.off on dn) = false) := Lib.hid (decide_eq_false (by unfold fitsP; rw [HH.out]; exact fun h => d h.1))
    have d' : ¬ (h : Int) + dn ≤ 65535 := by omega
    unfold pkC
    go_enter Try.func57, Try.ntmps57
    go_wp2_with fail
    refine (size_any oA on oc (by omega) _).mono ?_
    rintro e w' ⟨rfl, rfl⟩
    rw [HH.out]
    go_wp2
    go_ret
    exact ⟨by rw [HT.out]; rfl, (Below.refl _ _).alloc (Nat.le_refl _) _⟩
/-- The numbers of a packet are in their bounds. -/
def numsP (p : PkV) : Prop := (0 ≤ p.svc ∧ p.svc ≤ 255) ∧ (0 ≤ p.life ∧ p.life ≤ 255) ∧ (0 ≤ p.proto ∧ p.proto ≤ 255) ∧ (0 ≤ p.id ∧ p.id ≤ 65535) ∧ (0 ≤ p.off ∧ p.off ≤ 65528) ∧ p.off % 8 = 0
/-- What is wrong with a packet. -/
def errIs (p : PkV) (ol : List Int) (dn : Nat) (e : Int) : Prop :=
  (¬ numsP p ∧ e = 1) ∨ (numsP p ∧ (40 < ol.length ∨ goodO ol = false) ∧ e = 3) ∨ (numsP p ∧ ol.length ≤ 40 ∧ goodO ol = true ∧ ¬ fitsP p.off ol.length dn ∧ e = 5) ∨ (numsP p ∧ ol.length ≤ 40 ∧ goodO ol = true ∧ fitsP p.off ol.length dn ∧ e = 0)
theorem errIs_one {p : PkV} {ol : List Int} {dn : Nat} {e e' : Int} (h : errIs p ol dn e) (h' : errIs p ol dn e') : e = e' := by
  unfold errIs at h h'
  rcases h with ⟨a, rfl⟩ | ⟨a, b, rfl⟩ | ⟨a, b, c, d, rfl⟩ | ⟨a, b, c, d, rfl⟩ <;> rcases h' with ⟨a', rfl⟩ | ⟨a', b', rfl⟩ | ⟨a', b', c', d', rfl⟩ | ⟨a', b', c', d', rfl⟩ <;> first
    | rfl
    | exact absurd a' a
    | exact absurd a a'
    | (exfalso; rcases b' with b' | b'; omega; simp_all)
    | (exfalso; rcases b with b | b; omega; simp_all)
    | (exfalso; exact d d')
    | (exfalso; exact d' d)
end Go.Proofs.Ytcjkhonapafndaa
