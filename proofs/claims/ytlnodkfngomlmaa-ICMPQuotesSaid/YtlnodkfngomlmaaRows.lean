/-
  No cell of these rows narrows 'for every input' (looked for: loops, veiled, ifaces, maps, wideKeys, modest, calm, conditions, laid).
  DERIVED. THE GIVEN ROWS OF THIS SEAT. 8 by the template 'for every input the law returns true; each argument reads behind the call as it read before'; 0 by the template 'total and deterministic' (their statements: YtlnodkfngomlmaaTotals.lean).
  GIVEN WITH THE SEED: the statements are not yours to turn. If you find one false, say at which input.
  Laid BY PROGRAM, IN A SANDBOX (cutbox-rows.mjs): the forced cells as the released guide's own fill.sh prints them over the translation 623a481a93fcf538… (all of the seat's roots in one cut). By AI agents, Wed Nov 11 2026. No macro, syntax, notation, axiom, sorry.
-/
import Derived.Test.YtlnodkfngomlmaaChecked
import GoSem.Claim
import GoSem.ClaimJoined
import GoSem.ClaimMapViews
import Derived.JoinedTies
import Derived.KernelRfl
namespace Go.Proofs.Ytlnodkfngomlmaa
/- THE CELL 'sum', in the pinned program and in every row, IS THE sha256 OF THE DUMP (.gsa) THAT YtlnodkfngomlmaaProg.lean LOADS. Nothing in Lean hashes anything: it is a label: what it is worth is what the hold of that sum in a sandbox is worth. -/
noncomputable def Try.pinned : Pinned := { name := "ytlnodkfngomlmaa", sum := "623a481a93fcf538fe6bcd2e9cba1554d4b8655c6497477015c9a8223a8b1a4b", checked := Try.checked }
namespace Rows
def none {H : Type} : Left H := { results := [], args := [] }

/-- 'wharflaw9.ICMPEncodes': WHATEVER THE INPUT: true; the input reads as it did. -/
def iCMPEncodesSpec : ChangeSpec := { name := "iCMPEncodes", fn := fun _ => fun
  | [d] => { results := [.lit (.bool true)], args := [d] }
  | _ => none }
def iCMPEncodesRow : OpenClaim := { program := "ytlnodkfngomlmaa", sum := "623a481a93fcf538fe6bcd2e9cba1554d4b8655c6497477015c9a8223a8b1a4b", func := "wharf/wharflaw9.ICMPEncodes", spec := "iCMPEncodes", unfollowed := true, recurses := true, apart := false }
def ICMPEncodesSaid : Prop := iCMPEncodesRow.holds Try.pinned (OpenSpec.ofChange iCMPEncodesSpec)

/-- ITS FALSE NEIGHBOUR: 'it returns false'. Refute it at one input. -/
def iCMPEncodesWrong : ChangeSpec := { name := "iCMPEncodes", fn := fun _ => fun
  | [d] => { results := [.lit (.bool false)], args := [d] }
  | _ => none }
def ICMPEncodesWrongFalsely : Prop := iCMPEncodesRow.holds Try.pinned (OpenSpec.ofChange iCMPEncodesWrong)

/-- 'wharflaw9.ICMPOfNothing': WHATEVER THE INPUT: true; the input reads as it did. -/
def iCMPOfNothingSpec : ChangeSpec := { name := "iCMPOfNothing", fn := fun _ => fun
  | [d] => { results := [.lit (.bool true)], args := [d] }
  | _ => none }
def iCMPOfNothingRow : OpenClaim := { program := "ytlnodkfngomlmaa", sum := "623a481a93fcf538fe6bcd2e9cba1554d4b8655c6497477015c9a8223a8b1a4b", func := "wharf/wharflaw9.ICMPOfNothing", spec := "iCMPOfNothing", unfollowed := true, recurses := true, apart := false }
def ICMPOfNothingSaid : Prop := iCMPOfNothingRow.holds Try.pinned (OpenSpec.ofChange iCMPOfNothingSpec)

/-- ITS FALSE NEIGHBOUR: 'it returns false'. Refute it at one input. -/
def iCMPOfNothingWrong : ChangeSpec := { name := "iCMPOfNothing", fn := fun _ => fun
  | [d] => { results := [.lit (.bool false)], args := [d] }
  | _ => none }
def ICMPOfNothingWrongFalsely : Prop := iCMPOfNothingRow.holds Try.pinned (OpenSpec.ofChange iCMPOfNothingWrong)

/-- 'wharflaw9.ICMPMay': WHATEVER THE INPUT: true; the input reads as it did. -/
def iCMPMaySpec : ChangeSpec := { name := "iCMPMay", fn := fun _ => fun
  | [d] => { results := [.lit (.bool true)], args := [d] }
  | _ => none }
def iCMPMayRow : OpenClaim := { program := "ytlnodkfngomlmaa", sum := "623a481a93fcf538fe6bcd2e9cba1554d4b8655c6497477015c9a8223a8b1a4b", func := "wharf/wharflaw9.ICMPMay", spec := "iCMPMay", unfollowed := true, recurses := true, apart := false }
def ICMPMaySaid : Prop := iCMPMayRow.holds Try.pinned (OpenSpec.ofChange iCMPMaySpec)

/-- ITS FALSE NEIGHBOUR: 'it returns false'. Refute it at one input. -/
def iCMPMayWrong : ChangeSpec := { name := "iCMPMay", fn := fun _ => fun
  | [d] => { results := [.lit (.bool false)], args := [d] }
  | _ => none }
def ICMPMayWrongFalsely : Prop := iCMPMayRow.holds Try.pinned (OpenSpec.ofChange iCMPMayWrong)

/-- 'wharflaw9.ICMPBuckets': WHATEVER THE INPUT: true; the input reads as it did. -/
def iCMPBucketsSpec : ChangeSpec := { name := "iCMPBuckets", fn := fun _ => fun
  | [d1, d2, d3] => { results := [.lit (.bool true)], args := [d1, d2, d3] }
  | _ => none }
def iCMPBucketsRow : OpenClaim := { program := "ytlnodkfngomlmaa", sum := "623a481a93fcf538fe6bcd2e9cba1554d4b8655c6497477015c9a8223a8b1a4b", func := "wharf/wharflaw9.ICMPBuckets", spec := "iCMPBuckets", unfollowed := true, recurses := true, apart := false }
def ICMPBucketsSaid : Prop := iCMPBucketsRow.holds Try.pinned (OpenSpec.ofChange iCMPBucketsSpec)

/-- ITS FALSE NEIGHBOUR: 'it returns false'. Refute it at one input. -/
def iCMPBucketsWrong : ChangeSpec := { name := "iCMPBuckets", fn := fun _ => fun
  | [d1, d2, d3] => { results := [.lit (.bool false)], args := [d1, d2, d3] }
  | _ => none }
def ICMPBucketsWrongFalsely : Prop := iCMPBucketsRow.holds Try.pinned (OpenSpec.ofChange iCMPBucketsWrong)

/-- 'wharflaw9.ICMPDecodes': WHATEVER THE INPUT: true; the input reads as it did. -/
def iCMPDecodesSpec : ChangeSpec := { name := "iCMPDecodes", fn := fun _ => fun
  | [d] => { results := [.lit (.bool true)], args := [d] }
  | _ => none }
def iCMPDecodesRow : OpenClaim := { program := "ytlnodkfngomlmaa", sum := "623a481a93fcf538fe6bcd2e9cba1554d4b8655c6497477015c9a8223a8b1a4b", func := "wharf/wharflaw9.ICMPDecodes", spec := "iCMPDecodes", unfollowed := true, recurses := true, apart := false }
def ICMPDecodesSaid : Prop := iCMPDecodesRow.holds Try.pinned (OpenSpec.ofChange iCMPDecodesSpec)

/-- ITS FALSE NEIGHBOUR: 'it returns false'. Refute it at one input. -/
def iCMPDecodesWrong : ChangeSpec := { name := "iCMPDecodes", fn := fun _ => fun
  | [d] => { results := [.lit (.bool false)], args := [d] }
  | _ => none }
def ICMPDecodesWrongFalsely : Prop := iCMPDecodesRow.holds Try.pinned (OpenSpec.ofChange iCMPDecodesWrong)

/-- 'wharflaw9.ICMPBack': WHATEVER THE INPUT: true; the input reads as it did. -/
def iCMPBackSpec : ChangeSpec := { name := "iCMPBack", fn := fun _ => fun
  | [d1, d2, d3] => { results := [.lit (.bool true)], args := [d1, d2, d3] }
  | _ => none }
def iCMPBackRow : OpenClaim := { program := "ytlnodkfngomlmaa", sum := "623a481a93fcf538fe6bcd2e9cba1554d4b8655c6497477015c9a8223a8b1a4b", func := "wharf/wharflaw9.ICMPBack", spec := "iCMPBack", unfollowed := true, recurses := true, apart := false }
def ICMPBackSaid : Prop := iCMPBackRow.holds Try.pinned (OpenSpec.ofChange iCMPBackSpec)

/-- ITS FALSE NEIGHBOUR: 'it returns false'. Refute it at one input. -/
def iCMPBackWrong : ChangeSpec := { name := "iCMPBack", fn := fun _ => fun
  | [d1, d2, d3] => { results := [.lit (.bool false)], args := [d1, d2, d3] }
  | _ => none }
def ICMPBackWrongFalsely : Prop := iCMPBackRow.holds Try.pinned (OpenSpec.ofChange iCMPBackWrong)

/-- 'wharflaw9.ICMPFlows': WHATEVER THE INPUT: true; the input reads as it did. -/
def iCMPFlowsSpec : ChangeSpec := { name := "iCMPFlows", fn := fun _ => fun
  | [d] => { results := [.lit (.bool true)], args := [d] }
  | _ => none }
def iCMPFlowsRow : OpenClaim := { program := "ytlnodkfngomlmaa", sum := "623a481a93fcf538fe6bcd2e9cba1554d4b8655c6497477015c9a8223a8b1a4b", func := "wharf/wharflaw9.ICMPFlows", spec := "iCMPFlows", unfollowed := true, recurses := true, apart := false }
def ICMPFlowsSaid : Prop := iCMPFlowsRow.holds Try.pinned (OpenSpec.ofChange iCMPFlowsSpec)

/-- ITS FALSE NEIGHBOUR: 'it returns false'. Refute it at one input. -/
def iCMPFlowsWrong : ChangeSpec := { name := "iCMPFlows", fn := fun _ => fun
  | [d] => { results := [.lit (.bool false)], args := [d] }
  | _ => none }
def ICMPFlowsWrongFalsely : Prop := iCMPFlowsRow.holds Try.pinned (OpenSpec.ofChange iCMPFlowsWrong)

/-- 'wharflaw9.ICMPQuotes': WHATEVER THE INPUT: true; the input reads as it did. -/
def iCMPQuotesSpec : ChangeSpec := { name := "iCMPQuotes", fn := fun _ => fun
  | [d] => { results := [.lit (.bool true)], args := [d] }
  | _ => none }
def iCMPQuotesRow : OpenClaim := { program := "ytlnodkfngomlmaa", sum := "623a481a93fcf538fe6bcd2e9cba1554d4b8655c6497477015c9a8223a8b1a4b", func := "wharf/wharflaw9.ICMPQuotes", spec := "iCMPQuotes", unfollowed := true, recurses := true, apart := false }
def ICMPQuotesSaid : Prop := iCMPQuotesRow.holds Try.pinned (OpenSpec.ofChange iCMPQuotesSpec)

/-- ITS FALSE NEIGHBOUR: 'it returns false'. Refute it at one input. -/
def iCMPQuotesWrong : ChangeSpec := { name := "iCMPQuotes", fn := fun _ => fun
  | [d] => { results := [.lit (.bool false)], args := [d] }
  | _ => none }
def ICMPQuotesWrongFalsely : Prop := iCMPQuotesRow.holds Try.pinned (OpenSpec.ofChange iCMPQuotesWrong)

/- THE SECOND FORM. 'bulk': how many values and letters a reading holds, each counted each time it is reached (what is shared counts as often as it is met; a slice's spare places count too). A statement '..UptoSaid' is the law's where the arguments, and the package variables that the reading takes, are together of bulk at most 1048576: NARROWER than '..Said'. Prove '..Said' where nothing that the law and all that it calls make is longer than what came in: it says more and counts as full. Else prove '..UptoSaid'. A law counts once. -/
mutual
def uptoBulk {H : Type} : DataW H → Nat
  | .lit (.string bytes) => bytes.length + 1
  | .lit _ => 1
  | .nil => 1
  | .ptr d => uptoBulk d + 1
  | .slice elems spare => uptoBulkAll elems + uptoBulkAll spare + 1
  | .agg parts => uptoBulkAll parts + 1
  | .iface _ d => uptoBulk d + 1
  | .map entries => uptoBulkEntries entries + 1
  | .held _ => 1
def uptoBulkAll {H : Type} : List (DataW H) → Nat
  | [] => 0
  | d :: r => uptoBulk d + uptoBulkAll r
def uptoBulkEntries {H : Type} : List (Lit × DataW H) → Nat
  | [] => 0
  | x :: r => uptoBulkEntry x + uptoBulkEntries r
def uptoBulkEntry {H : Type} : Lit × DataW H → Nat
  | (.string bytes, d) => bytes.length + uptoBulk d + 1
  | (_, d) => uptoBulk d + 1
 end
def uptoSmall : (H : Type) → List (DataW H) → Bool := fun _ ds => decide (uptoBulkAll ds ≤ 1048576)
def OpenSpec.upto (s : _root_.Go.ChangeSpec) : _root_.Go.OpenSpec := { _root_.Go.OpenSpec.ofChange s with cond := some uptoSmall }

/-- 'wharflaw9.ICMPEncodes', WHERE WHAT IT READS IS OF BULK AT MOST 1048576: true; the input reads as it did. -/
def iCMPEncodesUptoRow : OpenClaim := { program := "ytlnodkfngomlmaa", sum := "623a481a93fcf538fe6bcd2e9cba1554d4b8655c6497477015c9a8223a8b1a4b", func := "wharf/wharflaw9.ICMPEncodes", spec := "iCMPEncodes", unfollowed := true, recurses := true, apart := false, narrowed := true }
def ICMPEncodesUptoSaid : Prop := iCMPEncodesUptoRow.holds Try.pinned (OpenSpec.upto iCMPEncodesSpec)

/-- 'wharflaw9.ICMPOfNothing', WHERE WHAT IT READS IS OF BULK AT MOST 1048576: true; the input reads as it did. -/
def iCMPOfNothingUptoRow : OpenClaim := { program := "ytlnodkfngomlmaa", sum := "623a481a93fcf538fe6bcd2e9cba1554d4b8655c6497477015c9a8223a8b1a4b", func := "wharf/wharflaw9.ICMPOfNothing", spec := "iCMPOfNothing", unfollowed := true, recurses := true, apart := false, narrowed := true }
def ICMPOfNothingUptoSaid : Prop := iCMPOfNothingUptoRow.holds Try.pinned (OpenSpec.upto iCMPOfNothingSpec)

/-- 'wharflaw9.ICMPMay', WHERE WHAT IT READS IS OF BULK AT MOST 1048576: true; the input reads as it did. -/
def iCMPMayUptoRow : OpenClaim := { program := "ytlnodkfngomlmaa", sum := "623a481a93fcf538fe6bcd2e9cba1554d4b8655c6497477015c9a8223a8b1a4b", func := "wharf/wharflaw9.ICMPMay", spec := "iCMPMay", unfollowed := true, recurses := true, apart := false, narrowed := true }
def ICMPMayUptoSaid : Prop := iCMPMayUptoRow.holds Try.pinned (OpenSpec.upto iCMPMaySpec)

/-- 'wharflaw9.ICMPBuckets', WHERE WHAT IT READS IS OF BULK AT MOST 1048576: true; the input reads as it did. -/
def iCMPBucketsUptoRow : OpenClaim := { program := "ytlnodkfngomlmaa", sum := "623a481a93fcf538fe6bcd2e9cba1554d4b8655c6497477015c9a8223a8b1a4b", func := "wharf/wharflaw9.ICMPBuckets", spec := "iCMPBuckets", unfollowed := true, recurses := true, apart := false, narrowed := true }
def ICMPBucketsUptoSaid : Prop := iCMPBucketsUptoRow.holds Try.pinned (OpenSpec.upto iCMPBucketsSpec)

/-- 'wharflaw9.ICMPDecodes', WHERE WHAT IT READS IS OF BULK AT MOST 1048576: true; the input reads as it did. -/
def iCMPDecodesUptoRow : OpenClaim := { program := "ytlnodkfngomlmaa", sum := "623a481a93fcf538fe6bcd2e9cba1554d4b8655c6497477015c9a8223a8b1a4b", func := "wharf/wharflaw9.ICMPDecodes", spec := "iCMPDecodes", unfollowed := true, recurses := true, apart := false, narrowed := true }
def ICMPDecodesUptoSaid : Prop := iCMPDecodesUptoRow.holds Try.pinned (OpenSpec.upto iCMPDecodesSpec)

/-- 'wharflaw9.ICMPBack', WHERE WHAT IT READS IS OF BULK AT MOST 1048576: true; the input reads as it did. -/
def iCMPBackUptoRow : OpenClaim := { program := "ytlnodkfngomlmaa", sum := "623a481a93fcf538fe6bcd2e9cba1554d4b8655c6497477015c9a8223a8b1a4b", func := "wharf/wharflaw9.ICMPBack", spec := "iCMPBack", unfollowed := true, recurses := true, apart := false, narrowed := true }
def ICMPBackUptoSaid : Prop := iCMPBackUptoRow.holds Try.pinned (OpenSpec.upto iCMPBackSpec)

/-- 'wharflaw9.ICMPFlows', WHERE WHAT IT READS IS OF BULK AT MOST 1048576: true; the input reads as it did. -/
def iCMPFlowsUptoRow : OpenClaim := { program := "ytlnodkfngomlmaa", sum := "623a481a93fcf538fe6bcd2e9cba1554d4b8655c6497477015c9a8223a8b1a4b", func := "wharf/wharflaw9.ICMPFlows", spec := "iCMPFlows", unfollowed := true, recurses := true, apart := false, narrowed := true }
def ICMPFlowsUptoSaid : Prop := iCMPFlowsUptoRow.holds Try.pinned (OpenSpec.upto iCMPFlowsSpec)

/-- 'wharflaw9.ICMPQuotes', WHERE WHAT IT READS IS OF BULK AT MOST 1048576: true; the input reads as it did. -/
def iCMPQuotesUptoRow : OpenClaim := { program := "ytlnodkfngomlmaa", sum := "623a481a93fcf538fe6bcd2e9cba1554d4b8655c6497477015c9a8223a8b1a4b", func := "wharf/wharflaw9.ICMPQuotes", spec := "iCMPQuotes", unfollowed := true, recurses := true, apart := false, narrowed := true }
def ICMPQuotesUptoSaid : Prop := iCMPQuotesUptoRow.holds Try.pinned (OpenSpec.upto iCMPQuotesSpec)

end Rows
end Go.Proofs.Ytlnodkfngomlmaa
