/- Proved: a script of steps reads as a list; heavy reads its packets' lengths. Conditions: none. -/
import Derived.Test.YtocigdkndlmikaaRows
import Derived.Test.YtocigdkndlmikaaRead
import Derived.Test.YtocigdkndlmikaaBytes
import Derived.Test.YtocigdkndlmikaaArpV
import Derived.Test.YtocigdkndlmikaaArpQ
import Derived.Test.YtocigdkndlmikaaRfl
set_option linter.unusedVariables false
set_option linter.unusedSimpArgs false
namespace Go.Proofs.Ytocigdkndlmikaa
open Go.RowKit
/-- A step. -/
structure StA where
  kd : Int
  a : Int
  pA : Option Addr
  pn : Nat
  pc : Nat
  pl : List Int
  m0 : Int
  m1 : Int
  m2 : Int
  m3 : Int
  m4 : Int
  m5 : Int
  fr : Bool
  by_ : Int
def staC (x : StA) : List Value := [.int .i64 x.kd, .int .u32 x.a, .slice x.pA x.pn x.pc, .int .u8 x.m0, .int .u8 x.m1, .int .u8 x.m2, .int .u8 x.m3, .int .u8 x.m4, .int .u8 x.m5, .bool x.fr, .int .i64 x.by_]
structure StaOk (w : World) (x : StA) : Prop where
  a : okA x.a
  rb : RB w w.heap.size x.pA x.pl
  bs : Bs x.pl
  len : x.pl.length = x.pn
  cap : x.pn ≤ x.pc
  max : x.pc ≤ 140737488351232
  by_ : -9223372036854775808 ≤ x.by_ ∧ x.by_ ≤ 9223372036854775807
def ViewSta (w : World) (v : Value) : Prop := ∃ A len cap, ∃ l : List StA, v = .slice A len cap ∧ len ≤ cap ∧ cap * 56 ≤ 140737488351232 ∧ l.length = len ∧ SL 11 staC w w.heap.size A l ∧ ∀ x ∈ l, StaOk w x
theorem sh_sta : shapeOf Try.prog 9 58 = some (.slice 11 56 (.part 0 1 (.int .i64) (.part 1 1 (.int .u32) (.part 2 1 (.slice 1 1 (.int .u8)) (.part 3 6 (.part 0 1 (.int .u8) (.part 1 1 (.int .u8) (.part 2 1 (.int .u8) (.part 3 1 (.int .u8) (.part 4 1 (.int .u8) (.part 5 1 (.int .u8) .fin)))))) (.part 9 1 .bool (.part 10 1 (.int .i64) .fin))))))) := by kernel_rfl
set_option maxRecDepth 100000 in
theorem open_sta {H : Type} {enc : TypeId × Value → H} {W : World} {b0 : Nat} {v : Value} {d : DataW H} {p : List MemPlace} (hv : Value.okWide Try.prog W .any b0 58 v)
    (h : DataW.Trod enc Try.prog W 0 (fun _ => true) true 58 v d p) (hw : ∀ k ∈ d.weights Try.prog 58, k ≤ reachBytes) : ViewSta W v := by
  have h1 := Sh.open_slice sh_sta Try.underlying58 hv h hw
  obtain ⟨A, len, cap, l, e, h2, h3, _, h4, h5, h6⟩ := SL.of_is (f := staC) (Q := StaOk W) h1 (by omega) fun cs hl hI => by
    match cs, hl with
    | [c0, c1, c2, c3, c4, c5, c6, c7, c8, c9, c10], _ =>
      obtain ⟨⟨n0, e0, k0⟩, ⟨n1, e1, k1⟩, hr, ⟨⟨n3, e3, k3⟩, ⟨n4, e4, k4⟩, ⟨n5, e5, k5⟩, ⟨n6, e6, k6⟩, ⟨n7, e7, k7⟩, ⟨n8, e8, k8⟩, _⟩, ⟨n9, e9⟩, ⟨n10, e10, k10⟩, _⟩ := hI
      obtain ⟨A, n, cap, l, e2, r1, r2, r3, r4, r5⟩ := Sh.bytes hr
      simp at e0 e1 e2 e3 e4 e5 e6 e7 e8 e9 e10
      subst e0; subst e1; subst e2; subst e3; subst e4; subst e5; subst e6; subst e7; subst e8; subst e9; subst e10
      exact ⟨⟨n0, n1, A, n, cap, l, n3, n4, n5, n6, n7, n8, n9, n10⟩, rfl, bounds_u32 k1, r1, r2, r3, r4, r5, bounds_i64 k10⟩
  injection e with e _
  exact ⟨A, len, cap, l, e, h2, h3, h4, h5, h6⟩
/-- What heavy says. -/
def HvPost (l : List StA) (w : World) (e : Ending) (w' : World) : Prop := (∃ b, e = .returned (.bool b) ∧ (b = false → ∀ (k : Nat) (x : StA), k < 200 → l[k]? = some x → x.pn ≤ 4000)) ∧ w' = w
set_option maxHeartbeats 4000000 in
set_option maxRecDepth 100000 in
theorem heavy_any (A : Option Addr) (len cap : Nat) (l : List StA) (hlen : l.length = len) (hmax : len ≤ 140737488351232) (w : World) (hr : SL 11 staC w w.heap.size A l) (hok : ∀ x ∈ l, StaOk w x) :
    Calls Try.prog 24 #[.slice A len cap] w (HvPost l w) := by
  have HLEN := Lib.hid hlen
  have HR := Lib.hid hr
  have HOK := Lib.hid hok
  clear hlen hr hok
  go_enter Try.func24, Try.ntmps24
  go_wp2_with fail
  go_loopw [3, 4] (fun v3 v4 wr => wr = w ∧ ∃ k t : Nat, k ≤ len ∧ k ≤ 200 ∧ t ≤ 4000 ∧ v3 = .int .i64 t ∧ v4 = .int .i64 k ∧ Hid (∀ (j : Nat) (x : StA), j < k → l[j]? = some x → x.pn ≤ 4000)) (fun _ v4 _ => len - (intOf v4).toNat)
  case atStart => exact ⟨rfl, 0, 0, Nat.zero_le _, by omega, by omega, rfl, rfl, Lib.hid (fun j x hj => by omega)⟩
  case round =>
    obtain ⟨rfl, k, t, hk, hk2, ht, rfl, rfl, HH⟩ := hrel
    rcases (by omega : len = k ∨ (k < len ∧ 200 ≤ k) ∨ (k < len ∧ k < 200)) with rfl | ⟨d, d'⟩ | ⟨d, d'⟩
    · have t1 : decide ((len : Int) < (len : Int)) = false := decide_eq_false (by omega)
      go_wp2_with fail
      go_ret
      refine ⟨⟨false, rfl, fun _ j x _ hx => HH.out j x ?_ hx⟩, rfl⟩
      have h2 := (List.getElem?_eq_some_iff.1 hx).1
      have h1 := HLEN.out
      omega
    · have t1 : decide ((k : Int) < (len : Int)) = true := decide_eq_true (by omega)
      have t0 : decide (k < len) = true := decide_eq_true (by omega)
      have t2 : decide ((k : Int) < 200) = false := decide_eq_false (by omega)
      have t3 : decide (k < 200) = false := decide_eq_false (by omega)
      go_wp2_with fail
      go_ret
      exact ⟨⟨false, rfl, fun _ j x hj hx => HH.out j x (by omega) hx⟩, rfl⟩
    · have t1 : decide ((k : Int) < (len : Int)) = true := decide_eq_true (by omega)
      have t0 : decide (k < len) = true := decide_eq_true (by omega)
      have t2 : decide ((k : Int) < 200) = true := decide_eq_true (by omega)
      have t3 : decide (k < 200) = true := decide_eq_true (by omega)
      obtain ⟨x, hx⟩ : ∃ x, l[k]? = some x := ⟨_, List.getElem?_eq_getElem (by rw [HLEN.out]; exact d)⟩
      obtain ⟨b, off, rfl, hbB, hA⟩ := HR.out.at_ hx
      have ok := HOK.out x (List.mem_of_getElem? hx)
      have hpn := ok.cap
      have hpc := ok.max
      obtain ⟨pA, hpA⟩ : ∃ z, x.pA = z := ⟨_, rfl⟩
      obtain ⟨pn, hpnn⟩ : ∃ z, x.pn = z := ⟨_, rfl⟩
      obtain ⟨pc, hpcc⟩ : ∃ z, x.pc = z := ⟨_, rfl⟩
      rw [hpnn, hpcc] at hpn
      rw [hpcc] at hpc
      have h2 : wr.cell? ⟨b, off + k * 11 + 2, none⟩ = some (.slice pA pn pc) := by rw [← hpA, ← hpnn, ← hpcc]; exact hA 2 _ rfl
      have HX := Lib.hid (And.intro hx hpnn)
      have hki : (0 : Int) ≤ (k : Int) ∧ (k : Int) < (len : Int) := by omega
      clear hA ok hx hpA hpnn hpcc
      rcases Int.lt_or_le 4000 ((t : Int) + pn) with r | r
      · have t4 : decide ((4000 : Int) < (t : Int) + pn) = true := decide_eq_true r
        go_wp2_with fail
        go_ret
        exact ⟨⟨true, rfl, fun h => by cases h⟩, rfl⟩
      · have t4 : decide ((4000 : Int) < (t : Int) + pn) = false := decide_eq_false (by omega)
        go_wp2_with fail
        go_roundw
        case rel =>
          refine ⟨by trivial, k + 1, t + pn, by omega, by omega, by omega, by go_num, by go_num, Lib.hid (fun j y hj hy => ?_)⟩
          rcases Nat.lt_or_ge j k with h5 | h5
          · exact HH.out j y h5 hy
          · obtain rfl : j = k := by omega
            rw [HX.out.1] at hy
            injection hy with hy
            rw [← hy, HX.out.2]
            omega
        case measure => simp only [intOf]; omega
end Go.Proofs.Ytocigdkndlmikaa
