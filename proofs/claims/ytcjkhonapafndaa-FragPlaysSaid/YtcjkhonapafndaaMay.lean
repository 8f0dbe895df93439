/- Proved: whether an error may be told about a packet, by icmp.May and by its reference, each by its walk; a packet that came in reads as its parts. Conditions: none. -/
import Derived.Test.YtcjkhonapafndaaRows
import Derived.Test.YtcjkhonapafndaaSum
import Derived.Test.YtcjkhonapafndaaBytes
set_option linter.unusedVariables false
namespace Go.Proofs.Ytcjkhonapafndaa
open Go.RowKit

/-- The parts of a packet, but for its rows. -/
structure PkV where
  svc : Int
  id : Int
  whole : Bool
  more : Bool
  off : Int
  life : Int
  proto : Int
  src : Int
  dst : Int
def pkC (p : PkV) (o d : Value) : Array Value := #[.int .i64 p.svc, .int .i64 p.id, .bool p.whole, .bool p.more, .int .i64 p.off, .int .i64 p.life, .int .i64 p.proto, .int .u32 p.src, .int .u32 p.dst, o, d]
structure PkV.Ok (p : PkV) : Prop where
  svc : -9223372036854775808 ≤ p.svc ∧ p.svc ≤ 9223372036854775807
  id : -9223372036854775808 ≤ p.id ∧ p.id ≤ 9223372036854775807
  off : -9223372036854775808 ≤ p.off ∧ p.off ≤ 9223372036854775807
  life : -9223372036854775808 ≤ p.life ∧ p.life ≤ 9223372036854775807
  proto : -9223372036854775808 ≤ p.proto ∧ p.proto ≤ 9223372036854775807
  src : 0 ≤ p.src ∧ p.src ≤ 4294967295
  dst : 0 ≤ p.dst ∧ p.dst ≤ 4294967295
/-- A row of bytes that came in, or that lies in memory. -/
structure Row8 (w : World) (A : Option Addr) (n c : Nat) (l : List Int) : Prop where
  rb : RB w w.heap.size A l
  bs : Bs l
  len : l.length = n
  cap : n ≤ c
  max : c ≤ 140737488351232
def ViewPkt (w : World) (v : Value) : Prop := ∃ (p : PkV) (oA : Option Addr) (on oc : Nat) (ol : List Int) (dA : Option Addr) (dn dc : Nat) (dl : List Int),
  v = .agg (pkC p (.slice oA on oc) (.slice dA dn dc)) ∧ p.Ok ∧ Row8 w oA on oc ol ∧ Row8 w dA dn dc dl
theorem Row8.below {w w' : World} {A : Option Addr} {n c : Nat} {l : List Int} (h : Row8 w A n c l) (hb : Below w.heap.size w w') : Row8 w' A n c l := ⟨Rw.more (Rw.below h.rb hb) hb.size, h.bs, h.len, h.cap, h.max⟩
theorem Row8.drewN {w : World} {A : Option Addr} {n c : Nat} {l : List Int} (h : Row8 w A n c l) (k : Nat) : Row8 (w.drewN k) A n c l := ⟨h.rb, h.bs, h.len, h.cap, h.max⟩
theorem sh_pkt : shapeOf Try.prog 9 26 = some (.part 0 1 (.int .i64) (.part 1 1 (.int .i64) (.part 2 1 .bool (.part 3 1 .bool (.part 4 1 (.int .i64) (.part 5 1 (.int .i64) (.part 6 1 (.int .i64) (.part 7 1 (.int .u32) (.part 8 1 (.int .u32) (.part 9 1 (.slice 1 1 (.int .u8)) (.part 10 1 (.slice 1 1 (.int .u8)) .fin))))))))))) := by kernel_rfl
theorem cells_pkt : Try.prog.cellsOf 26 = 11 := by kernel_rfl
theorem pkt_of_is {w : World} {cs : List Value} (hl : cs.length = 11)
    (hI : (Sh.part 0 1 (.int .i64) (.part 1 1 (.int .i64) (.part 2 1 .bool (.part 3 1 .bool (.part 4 1 (.int .i64) (.part 5 1 (.int .i64) (.part 6 1 (.int .i64) (.part 7 1 (.int .u32) (.part 8 1 (.int .u32) (.part 9 1 (.slice 1 1 (.int .u8)) (.part 10 1 (.slice 1 1 (.int .u8)) .fin))))))))))).Is w cs) : ViewPkt w (.agg cs.toArray) := by
  match cs, hl with
  | [c0, c1, c2, c3, c4, c5, c6, c7, c8, c9, c10], _ =>
    obtain ⟨⟨n0, e0, k0⟩, ⟨n1, e1, k1⟩, ⟨n2, e2⟩, ⟨n3, e3⟩, ⟨n4, e4, k4⟩, ⟨n5, e5, k5⟩, ⟨n6, e6, k6⟩, ⟨n7, e7, k7⟩, ⟨n8, e8, k8⟩, h9, h10, _⟩ := hI
    obtain ⟨A, n, cap, l, e9, h4, h5, h6, h7, h8⟩ := Sh.bytes h9
    obtain ⟨A', n', cap', l', e10, g4, g5, g6, g7, g8⟩ := Sh.bytes h10
    simp at e0 e1 e2 e3 e4 e5 e6 e7 e8 e9 e10
    subst e0; subst e1; subst e2; subst e3; subst e4; subst e5; subst e6; subst e7; subst e8; subst e9; subst e10
    exact ⟨⟨n0, n1, n2, n3, n4, n5, n6, n7, n8⟩, A, n, cap, l, A', n', cap', l', rfl, ⟨bounds_i64 k0, bounds_i64 k1, bounds_i64 k4, bounds_i64 k5, bounds_i64 k6, bounds_u32 k7, bounds_u32 k8⟩, ⟨h4, h5, h6, h7, h8⟩, ⟨g4, g5, g6, g7, g8⟩⟩
set_option maxRecDepth 100000 in
theorem open_pkt {H : Type} {enc : TypeId × Value → H} {W : World} {b0 : Nat} {v : Value} {d : DataW H} {p : List MemPlace} (hv : Value.okWide Try.prog W .any b0 26 v)
    (h : DataW.Trod enc Try.prog W 0 (fun _ => true) true 26 v d p) (hw : ∀ k ∈ d.weights Try.prog 26, k ≤ reachBytes) : ViewPkt W v := by
  obtain ⟨cs, rfl, hl, hI⟩ := Sh.open_agg sh_pkt ⟨_, Try.underlying26⟩ hv h hw
  rw [cells_pkt] at hl
  exact pkt_of_is hl hI
end Go.Proofs.Ytcjkhonapafndaa
