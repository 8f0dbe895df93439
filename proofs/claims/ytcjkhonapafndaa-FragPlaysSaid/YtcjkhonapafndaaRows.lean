/-
  No cell of these rows narrows 'for every input' (looked for: loops, veiled, ifaces, maps, wideKeys, modest, calm, conditions, laid).
  DERIVED. THE GIVEN ROWS OF THIS SEAT. 8 by the template 'for every input the law returns true; each argument reads behind the call as it read before'; 0 by the template 'total and deterministic' (their statements: YtcjkhonapafndaaTotals.lean).
  GIVEN WITH THE SEED: the statements are not yours to turn. If you find one false, say at which input.
  Laid BY PROGRAM, IN A SANDBOX (cutbox-rows.mjs): the forced cells as the released guide's own fill.sh prints them over the translation 70d7543bd471c6f7… (all of the seat's roots in one cut). By AI agents, Wed Nov 11 2026. No macro, syntax, notation, axiom, sorry.
-/
import Derived.Test.YtcjkhonapafndaaChecked
import GoSem.Claim
import GoSem.ClaimJoined
import GoSem.ClaimMapViews
import Derived.JoinedTies
import Derived.KernelRfl
namespace Go.Proofs.Ytcjkhonapafndaa
/- THE CELL 'sum', in the pinned program and in every row, IS THE sha256 OF THE DUMP (.gsa) THAT YtcjkhonapafndaaProg.lean LOADS. Nothing in Lean hashes anything: it is a label: what it is worth is what the hold of that sum in a sandbox is worth. -/
noncomputable def Try.pinned : Pinned := { name := "ytcjkhonapafndaa", sum := "70d7543bd471c6f7d2b390ba2d32a32baf86d88ba8b543ffdb1df0a3a3a3c803", checked := Try.checked }
namespace Rows
def none {H : Type} : Left H := { results := [], args := [] }

/-- 'wharflaw7.FragSplits': WHATEVER THE INPUT: true; the input reads as it did. -/
def fragSplitsSpec : ChangeSpec := { name := "fragSplits", fn := fun _ => fun
  | [d1, d2] => { results := [.lit (.bool true)], args := [d1, d2] }
  | _ => none }
def fragSplitsRow : OpenClaim := { program := "ytcjkhonapafndaa", sum := "70d7543bd471c6f7d2b390ba2d32a32baf86d88ba8b543ffdb1df0a3a3a3c803", func := "wharf/wharflaw7.FragSplits", spec := "fragSplits", unfollowed := true, recurses := true, plainKeys := false, apart := false }
def FragSplitsSaid : Prop := fragSplitsRow.holds Try.pinned (OpenSpec.ofChange fragSplitsSpec)

/-- ITS FALSE NEIGHBOUR: 'it returns false'. Refute it at one input. -/
def fragSplitsWrong : ChangeSpec := { name := "fragSplits", fn := fun _ => fun
  | [d1, d2] => { results := [.lit (.bool false)], args := [d1, d2] }
  | _ => none }
def FragSplitsWrongFalsely : Prop := fragSplitsRow.holds Try.pinned (OpenSpec.ofChange fragSplitsWrong)

/-- 'wharflaw7.FragFits': WHATEVER THE INPUT: true; the input reads as it did. -/
def fragFitsSpec : ChangeSpec := { name := "fragFits", fn := fun _ => fun
  | [d1, d2] => { results := [.lit (.bool true)], args := [d1, d2] }
  | _ => none }
def fragFitsRow : OpenClaim := { program := "ytcjkhonapafndaa", sum := "70d7543bd471c6f7d2b390ba2d32a32baf86d88ba8b543ffdb1df0a3a3a3c803", func := "wharf/wharflaw7.FragFits", spec := "fragFits", unfollowed := true, recurses := true, plainKeys := false, apart := false }
def FragFitsSaid : Prop := fragFitsRow.holds Try.pinned (OpenSpec.ofChange fragFitsSpec)

/-- ITS FALSE NEIGHBOUR: 'it returns false'. Refute it at one input. -/
def fragFitsWrong : ChangeSpec := { name := "fragFits", fn := fun _ => fun
  | [d1, d2] => { results := [.lit (.bool false)], args := [d1, d2] }
  | _ => none }
def FragFitsWrongFalsely : Prop := fragFitsRow.holds Try.pinned (OpenSpec.ofChange fragFitsWrong)

/-- 'wharflaw7.FragFirst': WHATEVER THE INPUT: true; the input reads as it did. -/
def fragFirstSpec : ChangeSpec := { name := "fragFirst", fn := fun _ => fun
  | [d1, d2, d3] => { results := [.lit (.bool true)], args := [d1, d2, d3] }
  | _ => none }
def fragFirstRow : OpenClaim := { program := "ytcjkhonapafndaa", sum := "70d7543bd471c6f7d2b390ba2d32a32baf86d88ba8b543ffdb1df0a3a3a3c803", func := "wharf/wharflaw7.FragFirst", spec := "fragFirst", unfollowed := true, recurses := true, plainKeys := false, apart := false }
def FragFirstSaid : Prop := fragFirstRow.holds Try.pinned (OpenSpec.ofChange fragFirstSpec)

/-- ITS FALSE NEIGHBOUR: 'it returns false'. Refute it at one input. -/
def fragFirstWrong : ChangeSpec := { name := "fragFirst", fn := fun _ => fun
  | [d1, d2, d3] => { results := [.lit (.bool false)], args := [d1, d2, d3] }
  | _ => none }
def FragFirstWrongFalsely : Prop := fragFirstRow.holds Try.pinned (OpenSpec.ofChange fragFirstWrong)

/-- 'wharflaw7.FragBack': WHATEVER THE INPUT: true; the input reads as it did. -/
def fragBackSpec : ChangeSpec := { name := "fragBack", fn := fun _ => fun
  | [d1, d2, d3] => { results := [.lit (.bool true)], args := [d1, d2, d3] }
  | _ => none }
def fragBackRow : OpenClaim := { program := "ytcjkhonapafndaa", sum := "70d7543bd471c6f7d2b390ba2d32a32baf86d88ba8b543ffdb1df0a3a3a3c803", func := "wharf/wharflaw7.FragBack", spec := "fragBack", unfollowed := true, recurses := true, plainKeys := false, apart := false }
def FragBackSaid : Prop := fragBackRow.holds Try.pinned (OpenSpec.ofChange fragBackSpec)

/-- ITS FALSE NEIGHBOUR: 'it returns false'. Refute it at one input. -/
def fragBackWrong : ChangeSpec := { name := "fragBack", fn := fun _ => fun
  | [d1, d2, d3] => { results := [.lit (.bool false)], args := [d1, d2, d3] }
  | _ => none }
def FragBackWrongFalsely : Prop := fragBackRow.holds Try.pinned (OpenSpec.ofChange fragBackWrong)

/-- 'wharflaw7.FragCrowds': WHATEVER THE INPUT: true; the input reads as it did. -/
def fragCrowdsSpec : ChangeSpec := { name := "fragCrowds", fn := fun _ => fun
  | [d] => { results := [.lit (.bool true)], args := [d] }
  | _ => none }
def fragCrowdsRow : OpenClaim := { program := "ytcjkhonapafndaa", sum := "70d7543bd471c6f7d2b390ba2d32a32baf86d88ba8b543ffdb1df0a3a3a3c803", func := "wharf/wharflaw7.FragCrowds", spec := "fragCrowds", unfollowed := true, recurses := true, plainKeys := false, apart := false }
def FragCrowdsSaid : Prop := fragCrowdsRow.holds Try.pinned (OpenSpec.ofChange fragCrowdsSpec)

/-- ITS FALSE NEIGHBOUR: 'it returns false'. Refute it at one input. -/
def fragCrowdsWrong : ChangeSpec := { name := "fragCrowds", fn := fun _ => fun
  | [d] => { results := [.lit (.bool false)], args := [d] }
  | _ => none }
def FragCrowdsWrongFalsely : Prop := fragCrowdsRow.holds Try.pinned (OpenSpec.ofChange fragCrowdsWrong)

/-- 'wharflaw7.FragPlays': WHATEVER THE INPUT: true; the input reads as it did. -/
def fragPlaysSpec : ChangeSpec := { name := "fragPlays", fn := fun _ => fun
  | [d] => { results := [.lit (.bool true)], args := [d] }
  | _ => none }
def fragPlaysRow : OpenClaim := { program := "ytcjkhonapafndaa", sum := "70d7543bd471c6f7d2b390ba2d32a32baf86d88ba8b543ffdb1df0a3a3a3c803", func := "wharf/wharflaw7.FragPlays", spec := "fragPlays", unfollowed := true, recurses := true, plainKeys := false, apart := false }
def FragPlaysSaid : Prop := fragPlaysRow.holds Try.pinned (OpenSpec.ofChange fragPlaysSpec)

/-- ITS FALSE NEIGHBOUR: 'it returns false'. Refute it at one input. -/
def fragPlaysWrong : ChangeSpec := { name := "fragPlays", fn := fun _ => fun
  | [d] => { results := [.lit (.bool false)], args := [d] }
  | _ => none }
def FragPlaysWrongFalsely : Prop := fragPlaysRow.holds Try.pinned (OpenSpec.ofChange fragPlaysWrong)

/-- 'wharflaw7.FragForgets': WHATEVER THE INPUT: true; the input reads as it did. -/
def fragForgetsSpec : ChangeSpec := { name := "fragForgets", fn := fun _ => fun
  | [d1, d2, d3] => { results := [.lit (.bool true)], args := [d1, d2, d3] }
  | _ => none }
def fragForgetsRow : OpenClaim := { program := "ytcjkhonapafndaa", sum := "70d7543bd471c6f7d2b390ba2d32a32baf86d88ba8b543ffdb1df0a3a3a3c803", func := "wharf/wharflaw7.FragForgets", spec := "fragForgets", unfollowed := true, recurses := true, plainKeys := false, apart := false }
def FragForgetsSaid : Prop := fragForgetsRow.holds Try.pinned (OpenSpec.ofChange fragForgetsSpec)

/-- ITS FALSE NEIGHBOUR: 'it returns false'. Refute it at one input. -/
def fragForgetsWrong : ChangeSpec := { name := "fragForgets", fn := fun _ => fun
  | [d1, d2, d3] => { results := [.lit (.bool false)], args := [d1, d2, d3] }
  | _ => none }
def FragForgetsWrongFalsely : Prop := fragForgetsRow.holds Try.pinned (OpenSpec.ofChange fragForgetsWrong)

/-- 'wharflaw7.FragOfNothing': WHATEVER THE INPUT: true; the input reads as it did. -/
def fragOfNothingSpec : ChangeSpec := { name := "fragOfNothing", fn := fun _ => fun
  | [d1, d2] => { results := [.lit (.bool true)], args := [d1, d2] }
  | _ => none }
def fragOfNothingRow : OpenClaim := { program := "ytcjkhonapafndaa", sum := "70d7543bd471c6f7d2b390ba2d32a32baf86d88ba8b543ffdb1df0a3a3a3c803", func := "wharf/wharflaw7.FragOfNothing", spec := "fragOfNothing", unfollowed := true, recurses := true, plainKeys := false, apart := false }
def FragOfNothingSaid : Prop := fragOfNothingRow.holds Try.pinned (OpenSpec.ofChange fragOfNothingSpec)

/-- ITS FALSE NEIGHBOUR: 'it returns false'. Refute it at one input. -/
def fragOfNothingWrong : ChangeSpec := { name := "fragOfNothing", fn := fun _ => fun
  | [d1, d2] => { results := [.lit (.bool false)], args := [d1, d2] }
  | _ => none }
def FragOfNothingWrongFalsely : Prop := fragOfNothingRow.holds Try.pinned (OpenSpec.ofChange fragOfNothingWrong)

/- THE SECOND FORM. 'bulk': how many values and letters a reading holds, each counted each time it is reached (what is shared counts as often as it is met; a slice's spare places count too). A statement '..UptoSaid' is the law's where the arguments, and the package variables that the reading takes, are together of bulk at most 1048576: NARROWER than '..Said'. Prove '..Said' where nothing that the law and all that it calls make is longer than what came in: it says more and counts as full. Else prove '..UptoSaid'. A law counts once. -/
mutual
def uptoBulk {H : Type} : DataW H → Nat
  | .lit (.string bytes) => bytes.length + 1
  | .lit _ => 1
  | .nil => 1
  | .ptr d => uptoBulk d + 1
  | .slice elems spare => uptoBulkAll elems + uptoBulkAll spare + 1
  | .agg parts => uptoBulkAll parts + 1
  | .iface _ d => uptoBulk d + 1
  | .map entries => uptoBulkEntries entries + 1
  | .held _ => 1
def uptoBulkAll {H : Type} : List (DataW H) → Nat
  | [] => 0
  | d :: r => uptoBulk d + uptoBulkAll r
def uptoBulkEntries {H : Type} : List (Lit × DataW H) → Nat
  | [] => 0
  | x :: r => uptoBulkEntry x + uptoBulkEntries r
def uptoBulkEntry {H : Type} : Lit × DataW H → Nat
  | (.string bytes, d) => bytes.length + uptoBulk d + 1
  | (_, d) => uptoBulk d + 1
 end
def uptoSmall : (H : Type) → List (DataW H) → Bool := fun _ ds => decide (uptoBulkAll ds ≤ 1048576)
def OpenSpec.upto (s : _root_.Go.ChangeSpec) : _root_.Go.OpenSpec := { _root_.Go.OpenSpec.ofChange s with cond := some uptoSmall }

/-- 'wharflaw7.FragSplits', WHERE WHAT IT READS IS OF BULK AT MOST 1048576: true; the input reads as it did. -/
def fragSplitsUptoRow : OpenClaim := { program := "ytcjkhonapafndaa", sum := "70d7543bd471c6f7d2b390ba2d32a32baf86d88ba8b543ffdb1df0a3a3a3c803", func := "wharf/wharflaw7.FragSplits", spec := "fragSplits", unfollowed := true, recurses := true, plainKeys := false, apart := false, narrowed := true }
def FragSplitsUptoSaid : Prop := fragSplitsUptoRow.holds Try.pinned (OpenSpec.upto fragSplitsSpec)

/-- 'wharflaw7.FragFits', WHERE WHAT IT READS IS OF BULK AT MOST 1048576: true; the input reads as it did. -/
def fragFitsUptoRow : OpenClaim := { program := "ytcjkhonapafndaa", sum := "70d7543bd471c6f7d2b390ba2d32a32baf86d88ba8b543ffdb1df0a3a3a3c803", func := "wharf/wharflaw7.FragFits", spec := "fragFits", unfollowed := true, recurses := true, plainKeys := false, apart := false, narrowed := true }
def FragFitsUptoSaid : Prop := fragFitsUptoRow.holds Try.pinned (OpenSpec.upto fragFitsSpec)

/-- 'wharflaw7.FragFirst', WHERE WHAT IT READS IS OF BULK AT MOST 1048576: true; the input reads as it did. -/
def fragFirstUptoRow : OpenClaim := { program := "ytcjkhonapafndaa", sum := "70d7543bd471c6f7d2b390ba2d32a32baf86d88ba8b543ffdb1df0a3a3a3c803", func := "wharf/wharflaw7.FragFirst", spec := "fragFirst", unfollowed := true, recurses := true, plainKeys := false, apart := false, narrowed := true }
def FragFirstUptoSaid : Prop := fragFirstUptoRow.holds Try.pinned (OpenSpec.upto fragFirstSpec)

/-- 'wharflaw7.FragBack', WHERE WHAT IT READS IS OF BULK AT MOST 1048576: true; the input reads as it did. -/
def fragBackUptoRow : OpenClaim := { program := "ytcjkhonapafndaa", sum := "70d7543bd471c6f7d2b390ba2d32a32baf86d88ba8b543ffdb1df0a3a3a3c803", func := "wharf/wharflaw7.FragBack", spec := "fragBack", unfollowed := true, recurses := true, plainKeys := false, apart := false, narrowed := true }
def FragBackUptoSaid : Prop := fragBackUptoRow.holds Try.pinned (OpenSpec.upto fragBackSpec)

/-- 'wharflaw7.FragCrowds', WHERE WHAT IT READS IS OF BULK AT MOST 1048576: true; the input reads as it did. -/
def fragCrowdsUptoRow : OpenClaim := { program := "ytcjkhonapafndaa", sum := "70d7543bd471c6f7d2b390ba2d32a32baf86d88ba8b543ffdb1df0a3a3a3c803", func := "wharf/wharflaw7.FragCrowds", spec := "fragCrowds", unfollowed := true, recurses := true, plainKeys := false, apart := false, narrowed := true }
def FragCrowdsUptoSaid : Prop := fragCrowdsUptoRow.holds Try.pinned (OpenSpec.upto fragCrowdsSpec)

/-- 'wharflaw7.FragPlays', WHERE WHAT IT READS IS OF BULK AT MOST 1048576: true; the input reads as it did. -/
def fragPlaysUptoRow : OpenClaim := { program := "ytcjkhonapafndaa", sum := "70d7543bd471c6f7d2b390ba2d32a32baf86d88ba8b543ffdb1df0a3a3a3c803", func := "wharf/wharflaw7.FragPlays", spec := "fragPlays", unfollowed := true, recurses := true, plainKeys := false, apart := false, narrowed := true }
def FragPlaysUptoSaid : Prop := fragPlaysUptoRow.holds Try.pinned (OpenSpec.upto fragPlaysSpec)

/-- 'wharflaw7.FragForgets', WHERE WHAT IT READS IS OF BULK AT MOST 1048576: true; the input reads as it did. -/
def fragForgetsUptoRow : OpenClaim := { program := "ytcjkhonapafndaa", sum := "70d7543bd471c6f7d2b390ba2d32a32baf86d88ba8b543ffdb1df0a3a3a3c803", func := "wharf/wharflaw7.FragForgets", spec := "fragForgets", unfollowed := true, recurses := true, plainKeys := false, apart := false, narrowed := true }
def FragForgetsUptoSaid : Prop := fragForgetsUptoRow.holds Try.pinned (OpenSpec.upto fragForgetsSpec)

/-- 'wharflaw7.FragOfNothing', WHERE WHAT IT READS IS OF BULK AT MOST 1048576: true; the input reads as it did. -/
def fragOfNothingUptoRow : OpenClaim := { program := "ytcjkhonapafndaa", sum := "70d7543bd471c6f7d2b390ba2d32a32baf86d88ba8b543ffdb1df0a3a3a3c803", func := "wharf/wharflaw7.FragOfNothing", spec := "fragOfNothing", unfollowed := true, recurses := true, plainKeys := false, apart := false, narrowed := true }
def FragOfNothingUptoSaid : Prop := fragOfNothingUptoRow.holds Try.pinned (OpenSpec.upto fragOfNothingSpec)

end Rows
end Go.Proofs.Ytcjkhonapafndaa
