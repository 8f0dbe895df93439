/-
  No cell of these rows narrows 'for every input' (looked for: loops, veiled, ifaces, maps, wideKeys, modest, calm, conditions, laid).
  DERIVED. THE GIVEN ROWS OF THIS SEAT. 4 by the template 'for every input the law returns true; each argument reads behind the call as it read before'; 0 by the template 'total and deterministic' (their statements: YtaeafkdfbcppgaaGreatTotals.lean).
  GIVEN WITH THE SEED: the statements are not yours to turn. If you find one false, say at which input.
  Laid BY PROGRAM, IN A SANDBOX (cutbox-rows.mjs): the forced cells as the released guide's own fill.sh prints them over the translation 64365b664cede637… (all of the seat's roots in one cut). By AI agents, Wed Nov 11 2026. No macro, syntax, notation, axiom, sorry.
-/
import Derived.Test.YtaeafkdfbcppgaaGreatChecked
import GoSem.Claim
import GoSem.ClaimJoined
import GoSem.ClaimMapViews
import Derived.JoinedTies
import Derived.KernelRfl
namespace Go.Proofs.YtaeafkdfbcppgaaGreat
/- THE CELL 'sum', in the pinned program and in every row, IS THE sha256 OF THE DUMP (.gsa) THAT YtaeafkdfbcppgaaGreatProg.lean LOADS. Nothing in Lean hashes anything: it is a label: what it is worth is what the hold of that sum in a sandbox is worth. -/
noncomputable def Tryz.pinned : Pinned := { name := "ytaeafkdfbcppgaagreat", sum := "64365b664cede6376e6fd6d43bda8e63545229d4eb64628861ec0d41d9e33f51", checked := Tryz.checked }
namespace Rows
def none {H : Type} : Left H := { results := [], args := [] }

/-- 'wharftop.TopSent': WHATEVER THE INPUT: true; the input reads as it did. -/
def topSentSpec : ChangeSpec := { name := "topSent", fn := fun _ => fun
  | [d] => { results := [.lit (.bool true)], args := [d] }
  | _ => none }
def topSentRow : OpenClaim := { program := "ytaeafkdfbcppgaagreat", sum := "64365b664cede6376e6fd6d43bda8e63545229d4eb64628861ec0d41d9e33f51", func := "wharf/wharftop.TopSent", spec := "topSent", inPlace := ["sync/atomic.LoadInt64", "sync/atomic.CompareAndSwapInt64", "slices.overlaps[wharf/api.Route]"], unfollowed := true, recurses := true, plainKeys := false, apart := false }
def TopSentSaid : Prop := topSentRow.holds Tryz.pinned (OpenSpec.ofChange topSentSpec)

/-- ITS FALSE NEIGHBOUR: 'it returns false'. Refute it at one input. -/
def topSentWrong : ChangeSpec := { name := "topSent", fn := fun _ => fun
  | [d] => { results := [.lit (.bool false)], args := [d] }
  | _ => none }
def TopSentWrongFalsely : Prop := topSentRow.holds Tryz.pinned (OpenSpec.ofChange topSentWrong)

/-- 'wharftop.TopBytes': WHATEVER THE INPUT: true; the input reads as it did. -/
def topBytesSpec : ChangeSpec := { name := "topBytes", fn := fun _ => fun
  | [d1, d2] => { results := [.lit (.bool true)], args := [d1, d2] }
  | _ => none }
def topBytesRow : OpenClaim := { program := "ytaeafkdfbcppgaagreat", sum := "64365b664cede6376e6fd6d43bda8e63545229d4eb64628861ec0d41d9e33f51", func := "wharf/wharftop.TopBytes", spec := "topBytes", inPlace := ["sync/atomic.LoadInt64", "sync/atomic.CompareAndSwapInt64", "slices.overlaps[wharf/api.Route]"], unfollowed := true, recurses := true, plainKeys := false, apart := false }
def TopBytesSaid : Prop := topBytesRow.holds Tryz.pinned (OpenSpec.ofChange topBytesSpec)

/-- ITS FALSE NEIGHBOUR: 'it returns false'. Refute it at one input. -/
def topBytesWrong : ChangeSpec := { name := "topBytes", fn := fun _ => fun
  | [d1, d2] => { results := [.lit (.bool false)], args := [d1, d2] }
  | _ => none }
def TopBytesWrongFalsely : Prop := topBytesRow.holds Tryz.pinned (OpenSpec.ofChange topBytesWrong)

/-- 'wharftop.TopTicks': WHATEVER THE INPUT: true; the input reads as it did. -/
def topTicksSpec : ChangeSpec := { name := "topTicks", fn := fun _ => fun
  | [d1, d2] => { results := [.lit (.bool true)], args := [d1, d2] }
  | _ => none }
def topTicksRow : OpenClaim := { program := "ytaeafkdfbcppgaagreat", sum := "64365b664cede6376e6fd6d43bda8e63545229d4eb64628861ec0d41d9e33f51", func := "wharf/wharftop.TopTicks", spec := "topTicks", inPlace := ["sync/atomic.LoadInt64", "sync/atomic.CompareAndSwapInt64", "slices.overlaps[wharf/api.Route]"], unfollowed := true, recurses := true, plainKeys := false, apart := false }
def TopTicksSaid : Prop := topTicksRow.holds Tryz.pinned (OpenSpec.ofChange topTicksSpec)

/-- ITS FALSE NEIGHBOUR: 'it returns false'. Refute it at one input. -/
def topTicksWrong : ChangeSpec := { name := "topTicks", fn := fun _ => fun
  | [d1, d2] => { results := [.lit (.bool false)], args := [d1, d2] }
  | _ => none }
def TopTicksWrongFalsely : Prop := topTicksRow.holds Tryz.pinned (OpenSpec.ofChange topTicksWrong)

/-- 'wharftop.TopSilent': WHATEVER THE INPUT: true; the input reads as it did. -/
def topSilentSpec : ChangeSpec := { name := "topSilent", fn := fun _ => fun
  | [d1, d2] => { results := [.lit (.bool true)], args := [d1, d2] }
  | _ => none }
def topSilentRow : OpenClaim := { program := "ytaeafkdfbcppgaagreat", sum := "64365b664cede6376e6fd6d43bda8e63545229d4eb64628861ec0d41d9e33f51", func := "wharf/wharftop.TopSilent", spec := "topSilent", inPlace := ["sync/atomic.LoadInt64", "sync/atomic.CompareAndSwapInt64", "slices.overlaps[wharf/api.Route]"], unfollowed := true, recurses := true, plainKeys := false, apart := false }
def TopSilentSaid : Prop := topSilentRow.holds Tryz.pinned (OpenSpec.ofChange topSilentSpec)

/-- ITS FALSE NEIGHBOUR: 'it returns false'. Refute it at one input. -/
def topSilentWrong : ChangeSpec := { name := "topSilent", fn := fun _ => fun
  | [d1, d2] => { results := [.lit (.bool false)], args := [d1, d2] }
  | _ => none }
def TopSilentWrongFalsely : Prop := topSilentRow.holds Tryz.pinned (OpenSpec.ofChange topSilentWrong)

/- THE SECOND FORM. 'bulk': how many values and letters a reading holds, each counted each time it is reached (what is shared counts as often as it is met; a slice's spare places count too). A statement '..UptoSaid' is the law's where the arguments, and the package variables that the reading takes, are together of bulk at most 1048576: NARROWER than '..Said'. Prove '..Said' where nothing that the law and all that it calls make is longer than what came in: it says more and counts as full. Else prove '..UptoSaid'. A law counts once. -/
mutual
def uptoBulk {H : Type} : DataW H → Nat
  | .lit (.string bytes) => bytes.length + 1
  | .lit _ => 1
  | .nil => 1
  | .ptr d => uptoBulk d + 1
  | .slice elems spare => uptoBulkAll elems + uptoBulkAll spare + 1
  | .agg parts => uptoBulkAll parts + 1
  | .iface _ d => uptoBulk d + 1
  | .map entries => uptoBulkEntries entries + 1
  | .held _ => 1
def uptoBulkAll {H : Type} : List (DataW H) → Nat
  | [] => 0
  | d :: r => uptoBulk d + uptoBulkAll r
def uptoBulkEntries {H : Type} : List (Lit × DataW H) → Nat
  | [] => 0
  | x :: r => uptoBulkEntry x + uptoBulkEntries r
def uptoBulkEntry {H : Type} : Lit × DataW H → Nat
  | (.string bytes, d) => bytes.length + uptoBulk d + 1
  | (_, d) => uptoBulk d + 1
 end
def uptoSmall : (H : Type) → List (DataW H) → Bool := fun _ ds => decide (uptoBulkAll ds ≤ 1048576)
def OpenSpec.upto (s : _root_.Go.ChangeSpec) : _root_.Go.OpenSpec := { _root_.Go.OpenSpec.ofChange s with cond := some uptoSmall }

/-- 'wharftop.TopSent', WHERE WHAT IT READS IS OF BULK AT MOST 1048576: true; the input reads as it did. -/
def topSentUptoRow : OpenClaim := { program := "ytaeafkdfbcppgaagreat", sum := "64365b664cede6376e6fd6d43bda8e63545229d4eb64628861ec0d41d9e33f51", func := "wharf/wharftop.TopSent", spec := "topSent", inPlace := ["sync/atomic.LoadInt64", "sync/atomic.CompareAndSwapInt64", "slices.overlaps[wharf/api.Route]"], unfollowed := true, recurses := true, plainKeys := false, apart := false, narrowed := true }
def TopSentUptoSaid : Prop := topSentUptoRow.holds Tryz.pinned (OpenSpec.upto topSentSpec)

/-- 'wharftop.TopBytes', WHERE WHAT IT READS IS OF BULK AT MOST 1048576: true; the input reads as it did. -/
def topBytesUptoRow : OpenClaim := { program := "ytaeafkdfbcppgaagreat", sum := "64365b664cede6376e6fd6d43bda8e63545229d4eb64628861ec0d41d9e33f51", func := "wharf/wharftop.TopBytes", spec := "topBytes", inPlace := ["sync/atomic.LoadInt64", "sync/atomic.CompareAndSwapInt64", "slices.overlaps[wharf/api.Route]"], unfollowed := true, recurses := true, plainKeys := false, apart := false, narrowed := true }
def TopBytesUptoSaid : Prop := topBytesUptoRow.holds Tryz.pinned (OpenSpec.upto topBytesSpec)

/-- 'wharftop.TopTicks', WHERE WHAT IT READS IS OF BULK AT MOST 1048576: true; the input reads as it did. -/
def topTicksUptoRow : OpenClaim := { program := "ytaeafkdfbcppgaagreat", sum := "64365b664cede6376e6fd6d43bda8e63545229d4eb64628861ec0d41d9e33f51", func := "wharf/wharftop.TopTicks", spec := "topTicks", inPlace := ["sync/atomic.LoadInt64", "sync/atomic.CompareAndSwapInt64", "slices.overlaps[wharf/api.Route]"], unfollowed := true, recurses := true, plainKeys := false, apart := false, narrowed := true }
def TopTicksUptoSaid : Prop := topTicksUptoRow.holds Tryz.pinned (OpenSpec.upto topTicksSpec)

/-- 'wharftop.TopSilent', WHERE WHAT IT READS IS OF BULK AT MOST 1048576: true; the input reads as it did. -/
def topSilentUptoRow : OpenClaim := { program := "ytaeafkdfbcppgaagreat", sum := "64365b664cede6376e6fd6d43bda8e63545229d4eb64628861ec0d41d9e33f51", func := "wharf/wharftop.TopSilent", spec := "topSilent", inPlace := ["sync/atomic.LoadInt64", "sync/atomic.CompareAndSwapInt64", "slices.overlaps[wharf/api.Route]"], unfollowed := true, recurses := true, plainKeys := false, apart := false, narrowed := true }
def TopSilentUptoSaid : Prop := topSilentUptoRow.holds Tryz.pinned (OpenSpec.upto topSilentSpec)

end Rows
end Go.Proofs.YtaeafkdfbcppgaaGreat
