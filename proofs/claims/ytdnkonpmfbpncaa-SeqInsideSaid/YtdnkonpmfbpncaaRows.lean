/-
  No cell of these rows narrows 'for every input' (looked for: loops, veiled, ifaces, maps, wideKeys, modest, calm, conditions, laid).
  DERIVED. THE GIVEN ROWS OF THIS SEAT. 6 by the template 'for every input the law returns true; each argument reads behind the call as it read before'; 0 by the template 'total and deterministic' (their statements: YtdnkonpmfbpncaaTotals.lean).
  GIVEN WITH THE SEED: the statements are not yours to turn. If you find one false, say at which input.
  Laid BY PROGRAM, IN A SANDBOX (cutbox-rows.mjs): the forced cells as the released guide's own fill.sh prints them over the translation 2d074e2df4f33531… (all of the seat's roots in one cut). By AI agents, Wed Nov 11 2026. No macro, syntax, notation, axiom, sorry.
-/
import Derived.Test.YtdnkonpmfbpncaaChecked
import GoSem.Claim
import GoSem.ClaimJoined
import GoSem.ClaimMapViews
import Derived.JoinedTies
import Derived.KernelRfl
namespace Go.Proofs.Ytdnkonpmfbpncaa
/- THE CELL 'sum', in the pinned program and in every row, IS THE sha256 OF THE DUMP (.gsa) THAT YtdnkonpmfbpncaaProg.lean LOADS. Nothing in Lean hashes anything: it is a label: what it is worth is what the hold of that sum in a sandbox is worth. -/
noncomputable def Try.pinned : Pinned := { name := "ytdnkonpmfbpncaa", sum := "2d074e2df4f33531fbeefe55f803853e560069e19b6e10a46b5ddadd59713211", checked := Try.checked }
namespace Rows
def none {H : Type} : Left H := { results := [], args := [] }

/-- 'wharflaw12.SeqIns': WHATEVER THE INPUT: true; the input reads as it did. -/
def seqInsSpec : ChangeSpec := { name := "seqIns", fn := fun _ => fun
  | [d1, d2, d3] => { results := [.lit (.bool true)], args := [d1, d2, d3] }
  | _ => none }
def seqInsRow : OpenClaim := { program := "ytdnkonpmfbpncaa", sum := "2d074e2df4f33531fbeefe55f803853e560069e19b6e10a46b5ddadd59713211", func := "wharf/wharflaw12.SeqIns", spec := "seqIns", apart := false }
def SeqInsSaid : Prop := seqInsRow.holds Try.pinned (OpenSpec.ofChange seqInsSpec)

/-- ITS FALSE NEIGHBOUR: 'it returns false'. Refute it at one input. -/
def seqInsWrong : ChangeSpec := { name := "seqIns", fn := fun _ => fun
  | [d1, d2, d3] => { results := [.lit (.bool false)], args := [d1, d2, d3] }
  | _ => none }
def SeqInsWrongFalsely : Prop := seqInsRow.holds Try.pinned (OpenSpec.ofChange seqInsWrong)

/-- 'wharflaw12.SeqDiffs': WHATEVER THE INPUT: true; the input reads as it did. -/
def seqDiffsSpec : ChangeSpec := { name := "seqDiffs", fn := fun _ => fun
  | [d1, d2] => { results := [.lit (.bool true)], args := [d1, d2] }
  | _ => none }
def seqDiffsRow : OpenClaim := { program := "ytdnkonpmfbpncaa", sum := "2d074e2df4f33531fbeefe55f803853e560069e19b6e10a46b5ddadd59713211", func := "wharf/wharflaw12.SeqDiffs", spec := "seqDiffs", apart := false }
def SeqDiffsSaid : Prop := seqDiffsRow.holds Try.pinned (OpenSpec.ofChange seqDiffsSpec)

/-- ITS FALSE NEIGHBOUR: 'it returns false'. Refute it at one input. -/
def seqDiffsWrong : ChangeSpec := { name := "seqDiffs", fn := fun _ => fun
  | [d1, d2] => { results := [.lit (.bool false)], args := [d1, d2] }
  | _ => none }
def SeqDiffsWrongFalsely : Prop := seqDiffsRow.holds Try.pinned (OpenSpec.ofChange seqDiffsWrong)

/-- 'wharflaw12.SeqApart': WHATEVER THE INPUT: true; the input reads as it did. -/
def seqApartSpec : ChangeSpec := { name := "seqApart", fn := fun _ => fun
  | [d1, d2, d3] => { results := [.lit (.bool true)], args := [d1, d2, d3] }
  | _ => none }
def seqApartRow : OpenClaim := { program := "ytdnkonpmfbpncaa", sum := "2d074e2df4f33531fbeefe55f803853e560069e19b6e10a46b5ddadd59713211", func := "wharf/wharflaw12.SeqApart", spec := "seqApart", apart := false }
def SeqApartSaid : Prop := seqApartRow.holds Try.pinned (OpenSpec.ofChange seqApartSpec)

/-- ITS FALSE NEIGHBOUR: 'it returns false'. Refute it at one input. -/
def seqApartWrong : ChangeSpec := { name := "seqApart", fn := fun _ => fun
  | [d1, d2, d3] => { results := [.lit (.bool false)], args := [d1, d2, d3] }
  | _ => none }
def SeqApartWrongFalsely : Prop := seqApartRow.holds Try.pinned (OpenSpec.ofChange seqApartWrong)

/-- 'wharflaw12.SeqFits': WHATEVER THE INPUT: true; the input reads as it did. -/
def seqFitsSpec : ChangeSpec := { name := "seqFits", fn := fun _ => fun
  | [d1, d2, d3, d4] => { results := [.lit (.bool true)], args := [d1, d2, d3, d4] }
  | _ => none }
def seqFitsRow : OpenClaim := { program := "ytdnkonpmfbpncaa", sum := "2d074e2df4f33531fbeefe55f803853e560069e19b6e10a46b5ddadd59713211", func := "wharf/wharflaw12.SeqFits", spec := "seqFits", apart := false }
def SeqFitsSaid : Prop := seqFitsRow.holds Try.pinned (OpenSpec.ofChange seqFitsSpec)

/-- ITS FALSE NEIGHBOUR: 'it returns false'. Refute it at one input. -/
def seqFitsWrong : ChangeSpec := { name := "seqFits", fn := fun _ => fun
  | [d1, d2, d3, d4] => { results := [.lit (.bool false)], args := [d1, d2, d3, d4] }
  | _ => none }
def SeqFitsWrongFalsely : Prop := seqFitsRow.holds Try.pinned (OpenSpec.ofChange seqFitsWrong)

/-- 'wharflaw12.SeqTrims': WHATEVER THE INPUT: true; the input reads as it did. -/
def seqTrimsSpec : ChangeSpec := { name := "seqTrims", fn := fun _ => fun
  | [d1, d2, d3, d4] => { results := [.lit (.bool true)], args := [d1, d2, d3, d4] }
  | _ => none }
def seqTrimsRow : OpenClaim := { program := "ytdnkonpmfbpncaa", sum := "2d074e2df4f33531fbeefe55f803853e560069e19b6e10a46b5ddadd59713211", func := "wharf/wharflaw12.SeqTrims", spec := "seqTrims", apart := false }
def SeqTrimsSaid : Prop := seqTrimsRow.holds Try.pinned (OpenSpec.ofChange seqTrimsSpec)

/-- ITS FALSE NEIGHBOUR: 'it returns false'. Refute it at one input. -/
def seqTrimsWrong : ChangeSpec := { name := "seqTrims", fn := fun _ => fun
  | [d1, d2, d3, d4] => { results := [.lit (.bool false)], args := [d1, d2, d3, d4] }
  | _ => none }
def SeqTrimsWrongFalsely : Prop := seqTrimsRow.holds Try.pinned (OpenSpec.ofChange seqTrimsWrong)

/-- 'wharflaw12.SeqInside': WHATEVER THE INPUT: true; the input reads as it did. -/
def seqInsideSpec : ChangeSpec := { name := "seqInside", fn := fun _ => fun
  | [d1, d2, d3, d4] => { results := [.lit (.bool true)], args := [d1, d2, d3, d4] }
  | _ => none }
def seqInsideRow : OpenClaim := { program := "ytdnkonpmfbpncaa", sum := "2d074e2df4f33531fbeefe55f803853e560069e19b6e10a46b5ddadd59713211", func := "wharf/wharflaw12.SeqInside", spec := "seqInside", apart := false }
def SeqInsideSaid : Prop := seqInsideRow.holds Try.pinned (OpenSpec.ofChange seqInsideSpec)

/-- ITS FALSE NEIGHBOUR: 'it returns false'. Refute it at one input. -/
def seqInsideWrong : ChangeSpec := { name := "seqInside", fn := fun _ => fun
  | [d1, d2, d3, d4] => { results := [.lit (.bool false)], args := [d1, d2, d3, d4] }
  | _ => none }
def SeqInsideWrongFalsely : Prop := seqInsideRow.holds Try.pinned (OpenSpec.ofChange seqInsideWrong)

/- THE SECOND FORM. 'bulk': how many values and letters a reading holds, each counted each time it is reached (what is shared counts as often as it is met; a slice's spare places count too). A statement '..UptoSaid' is the law's where the arguments, and the package variables that the reading takes, are together of bulk at most 1048576: NARROWER than '..Said'. Prove '..Said' where nothing that the law and all that it calls make is longer than what came in: it says more and counts as full. Else prove '..UptoSaid'. A law counts once. -/
mutual
def uptoBulk {H : Type} : DataW H → Nat
  | .lit (.string bytes) => bytes.length + 1
  | .lit _ => 1
  | .nil => 1
  | .ptr d => uptoBulk d + 1
  | .slice elems spare => uptoBulkAll elems + uptoBulkAll spare + 1
  | .agg parts => uptoBulkAll parts + 1
  | .iface _ d => uptoBulk d + 1
  | .map entries => uptoBulkEntries entries + 1
  | .held _ => 1
def uptoBulkAll {H : Type} : List (DataW H) → Nat
  | [] => 0
  | d :: r => uptoBulk d + uptoBulkAll r
def uptoBulkEntries {H : Type} : List (Lit × DataW H) → Nat
  | [] => 0
  | x :: r => uptoBulkEntry x + uptoBulkEntries r
def uptoBulkEntry {H : Type} : Lit × DataW H → Nat
  | (.string bytes, d) => bytes.length + uptoBulk d + 1
  | (_, d) => uptoBulk d + 1
 end
def uptoSmall : (H : Type) → List (DataW H) → Bool := fun _ ds => decide (uptoBulkAll ds ≤ 1048576)
def OpenSpec.upto (s : _root_.Go.ChangeSpec) : _root_.Go.OpenSpec := { _root_.Go.OpenSpec.ofChange s with cond := some uptoSmall }

/-- 'wharflaw12.SeqIns', WHERE WHAT IT READS IS OF BULK AT MOST 1048576: true; the input reads as it did. -/
def seqInsUptoRow : OpenClaim := { program := "ytdnkonpmfbpncaa", sum := "2d074e2df4f33531fbeefe55f803853e560069e19b6e10a46b5ddadd59713211", func := "wharf/wharflaw12.SeqIns", spec := "seqIns", apart := false, narrowed := true }
def SeqInsUptoSaid : Prop := seqInsUptoRow.holds Try.pinned (OpenSpec.upto seqInsSpec)

/-- 'wharflaw12.SeqDiffs', WHERE WHAT IT READS IS OF BULK AT MOST 1048576: true; the input reads as it did. -/
def seqDiffsUptoRow : OpenClaim := { program := "ytdnkonpmfbpncaa", sum := "2d074e2df4f33531fbeefe55f803853e560069e19b6e10a46b5ddadd59713211", func := "wharf/wharflaw12.SeqDiffs", spec := "seqDiffs", apart := false, narrowed := true }
def SeqDiffsUptoSaid : Prop := seqDiffsUptoRow.holds Try.pinned (OpenSpec.upto seqDiffsSpec)

/-- 'wharflaw12.SeqApart', WHERE WHAT IT READS IS OF BULK AT MOST 1048576: true; the input reads as it did. -/
def seqApartUptoRow : OpenClaim := { program := "ytdnkonpmfbpncaa", sum := "2d074e2df4f33531fbeefe55f803853e560069e19b6e10a46b5ddadd59713211", func := "wharf/wharflaw12.SeqApart", spec := "seqApart", apart := false, narrowed := true }
def SeqApartUptoSaid : Prop := seqApartUptoRow.holds Try.pinned (OpenSpec.upto seqApartSpec)

/-- 'wharflaw12.SeqFits', WHERE WHAT IT READS IS OF BULK AT MOST 1048576: true; the input reads as it did. -/
def seqFitsUptoRow : OpenClaim := { program := "ytdnkonpmfbpncaa", sum := "2d074e2df4f33531fbeefe55f803853e560069e19b6e10a46b5ddadd59713211", func := "wharf/wharflaw12.SeqFits", spec := "seqFits", apart := false, narrowed := true }
def SeqFitsUptoSaid : Prop := seqFitsUptoRow.holds Try.pinned (OpenSpec.upto seqFitsSpec)

/-- 'wharflaw12.SeqTrims', WHERE WHAT IT READS IS OF BULK AT MOST 1048576: true; the input reads as it did. -/
def seqTrimsUptoRow : OpenClaim := { program := "ytdnkonpmfbpncaa", sum := "2d074e2df4f33531fbeefe55f803853e560069e19b6e10a46b5ddadd59713211", func := "wharf/wharflaw12.SeqTrims", spec := "seqTrims", apart := false, narrowed := true }
def SeqTrimsUptoSaid : Prop := seqTrimsUptoRow.holds Try.pinned (OpenSpec.upto seqTrimsSpec)

/-- 'wharflaw12.SeqInside', WHERE WHAT IT READS IS OF BULK AT MOST 1048576: true; the input reads as it did. -/
def seqInsideUptoRow : OpenClaim := { program := "ytdnkonpmfbpncaa", sum := "2d074e2df4f33531fbeefe55f803853e560069e19b6e10a46b5ddadd59713211", func := "wharf/wharflaw12.SeqInside", spec := "seqInside", apart := false, narrowed := true }
def SeqInsideUptoSaid : Prop := seqInsideUptoRow.holds Try.pinned (OpenSpec.upto seqInsideSpec)

end Rows
end Go.Proofs.Ytdnkonpmfbpncaa
