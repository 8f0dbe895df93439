/- Proved: how a hardware address and a packet of neighbours that came in read; what a nil cache answers. Conditions: none. -/
import Derived.Test.YtocigdkndlmikaaRows
import Derived.Test.YtocigdkndlmikaaRead
import Derived.Test.YtocigdkndlmikaaKnown
set_option linter.unusedVariables false
namespace Go.Proofs.Ytocigdkndlmikaa
open Go.RowKit
def U8 (x : Int) : Prop := 0 ≤ x ∧ x < 256
theorem u8_of {x : Int} (h : (Lit.int .u8 x).wf = true) : U8 x := by have := bounds_u8 h; unfold U8; omega
def ViewMAC (w : World) (v : Value) : Prop := ∃ m0 m1 m2 m3 m4 m5 : Int, v = .agg #[.int .u8 m0, .int .u8 m1, .int .u8 m2, .int .u8 m3, .int .u8 m4, .int .u8 m5] ∧ U8 m0 ∧ U8 m1 ∧ U8 m2 ∧ U8 m3 ∧ U8 m4 ∧ U8 m5
theorem sh_mac : shapeOf Try.prog 5 26 = some (.part 0 1 (.int .u8) (.part 1 1 (.int .u8) (.part 2 1 (.int .u8) (.part 3 1 (.int .u8) (.part 4 1 (.int .u8) (.part 5 1 (.int .u8) .fin)))))) := by kernel_rfl
theorem cells_mac : Try.prog.cellsOf 26 = 6 := by kernel_rfl
set_option maxRecDepth 100000 in
theorem open_mac {H : Type} {enc : TypeId × Value → H} {W : World} {b0 : Nat} {v : Value} {d : DataW H} {p : List MemPlace} (hv : Value.okWide Try.prog W .any b0 26 v)
    (h : DataW.Trod enc Try.prog W 0 (fun _ => true) true 26 v d p) (hw : ∀ k ∈ d.weights Try.prog 26, k ≤ reachBytes) : ViewMAC W v := by
  obtain ⟨cs, rfl, hl, hI⟩ := Sh.open_array sh_mac ⟨_, _, Try.underlying26⟩ hv h hw
  rw [cells_mac] at hl
  match cs, hl with
  | [c0, c1, c2, c3, c4, c5], _ =>
    obtain ⟨⟨n0, e0, k0⟩, ⟨n1, e1, k1⟩, ⟨n2, e2, k2⟩, ⟨n3, e3, k3⟩, ⟨n4, e4, k4⟩, ⟨n5, e5, k5⟩, _⟩ := hI
    simp at e0 e1 e2 e3 e4 e5
    subst e0; subst e1; subst e2; subst e3; subst e4; subst e5
    exact ⟨n0, n1, n2, n3, n4, n5, rfl, u8_of k0, u8_of k1, u8_of k2, u8_of k3, u8_of k4, u8_of k5⟩
/-- A packet of neighbours: its parts. -/
structure Ap where
  op : Int
  fm : List Int
  fr : Int
  tm : List Int
  «to» : Int
def ViewARP (w : World) (v : Value) : Prop := ∃ (op m0 m1 m2 m3 m4 m5 fr t0 t1 t2 t3 t4 t5 to_ : Int),
  v = .agg #[.int .i64 op, .int .u8 m0, .int .u8 m1, .int .u8 m2, .int .u8 m3, .int .u8 m4, .int .u8 m5, .int .u32 fr, .int .u8 t0, .int .u8 t1, .int .u8 t2, .int .u8 t3, .int .u8 t4, .int .u8 t5, .int .u32 to_] ∧
  (-9223372036854775808 ≤ op ∧ op ≤ 9223372036854775807) ∧ (U8 m0 ∧ U8 m1 ∧ U8 m2 ∧ U8 m3 ∧ U8 m4 ∧ U8 m5) ∧ okA fr ∧ (U8 t0 ∧ U8 t1 ∧ U8 t2 ∧ U8 t3 ∧ U8 t4 ∧ U8 t5) ∧ okA to_
theorem sh_arp : shapeOf Try.prog 5 43 = some (.part 0 1 (.int .i64) (.part 1 6 (.part 0 1 (.int .u8) (.part 1 1 (.int .u8) (.part 2 1 (.int .u8) (.part 3 1 (.int .u8) (.part 4 1 (.int .u8) (.part 5 1 (.int .u8) .fin)))))) (.part 7 1 (.int .u32) (.part 8 6 (.part 0 1 (.int .u8) (.part 1 1 (.int .u8) (.part 2 1 (.int .u8) (.part 3 1 (.int .u8) (.part 4 1 (.int .u8) (.part 5 1 (.int .u8) .fin)))))) (.part 14 1 (.int .u32) .fin))))) := by kernel_rfl
theorem cells_arp : Try.prog.cellsOf 43 = 15 := by kernel_rfl
set_option maxRecDepth 100000 in
theorem open_arp {H : Type} {enc : TypeId × Value → H} {W : World} {b0 : Nat} {v : Value} {d : DataW H} {p : List MemPlace} (hv : Value.okWide Try.prog W .any b0 43 v)
    (h : DataW.Trod enc Try.prog W 0 (fun _ => true) true 43 v d p) (hw : ∀ k ∈ d.weights Try.prog 43, k ≤ reachBytes) : ViewARP W v := by
  obtain ⟨cs, rfl, hl, hI⟩ := Sh.open_agg sh_arp ⟨_, Try.underlying43⟩ hv h hw
  rw [cells_arp] at hl
  match cs, hl with
  | [c0, c1, c2, c3, c4, c5, c6, c7, c8, c9, c10, c11, c12, c13, c14], _ =>
    obtain ⟨⟨n0, e0, k0⟩, ⟨⟨n1, e1, k1⟩, ⟨n2, e2, k2⟩, ⟨n3, e3, k3⟩, ⟨n4, e4, k4⟩, ⟨n5, e5, k5⟩, ⟨n6, e6, k6⟩, _⟩, ⟨n7, e7, k7⟩, ⟨⟨n8, e8, k8⟩, ⟨n9, e9, k9⟩, ⟨n10, e10, k10⟩, ⟨n11, e11, k11⟩, ⟨n12, e12, k12⟩, ⟨n13, e13, k13⟩, _⟩, ⟨n14, e14, k14⟩, _⟩ := hI
    simp at e0 e1 e2 e3 e4 e5 e6 e7 e8 e9 e10 e11 e12 e13 e14
    subst e0; subst e1; subst e2; subst e3; subst e4; subst e5; subst e6; subst e7; subst e8; subst e9; subst e10; subst e11; subst e12; subst e13; subst e14
    exact ⟨n0, n1, n2, n3, n4, n5, n6, n7, n8, n9, n10, n11, n12, n13, n14, rfl, bounds_i64 k0, ⟨u8_of k1, u8_of k2, u8_of k3, u8_of k4, u8_of k5, u8_of k6⟩, bounds_u32 k7, ⟨u8_of k8, u8_of k9, u8_of k10, u8_of k11, u8_of k12, u8_of k13⟩, bounds_u32 k14⟩

/-! ### a nil cache -/
theorem tick_nil (now : Int) (w : World) : Calls Try.prog 26 #[.pointer none, .int .i64 now] w fun e w' => e = .returned (.tuple #[.slice none 0 0, .slice none 0 0]) ∧ w = w' := by
  go_enter Try.func26, Try.ntmps26
  go_wp2
  go_ret2
  exact ⟨rfl, rfl⟩
theorem len_nil (w : World) : Calls Try.prog 16 #[.pointer none] w fun e w' => e = .returned (.int .i64 0) ∧ w = w' := by
  go_enter Try.func16, Try.ntmps16
  go_wp2
  go_ret
  exact ⟨rfl, rfl⟩
end Go.Proofs.Ytocigdkndlmikaa
