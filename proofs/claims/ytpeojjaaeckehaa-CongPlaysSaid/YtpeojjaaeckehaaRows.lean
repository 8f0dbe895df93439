/-
  No cell of these rows narrows 'for every input' (looked for: loops, veiled, ifaces, maps, wideKeys, modest, calm, conditions, laid).
  DERIVED. THE GIVEN ROWS OF THIS SEAT. 4 by the template 'for every input the law returns true; each argument reads behind the call as it read before'; 0 by the template 'total and deterministic' (their statements: YtpeojjaaeckehaaTotals.lean).
  GIVEN WITH THE SEED: the statements are not yours to turn. If you find one false, say at which input.
  Laid BY PROGRAM, IN A SANDBOX (cutbox-rows.mjs): the forced cells as the released guide's own fill.sh prints them over the translation c9df10438a0831cc… (all of the seat's roots in one cut). By AI agents, Wed Nov 11 2026. No macro, syntax, notation, axiom, sorry.
-/
import Derived.Test.YtpeojjaaeckehaaChecked
import GoSem.Claim
import GoSem.ClaimJoined
import GoSem.ClaimMapViews
import Derived.JoinedTies
import Derived.KernelRfl
namespace Go.Proofs.Ytpeojjaaeckehaa
/- THE CELL 'sum', in the pinned program and in every row, IS THE sha256 OF THE DUMP (.gsa) THAT YtpeojjaaeckehaaProg.lean LOADS. Nothing in Lean hashes anything: it is a label: what it is worth is what the hold of that sum in a sandbox is worth. -/
noncomputable def Try.pinned : Pinned := { name := "ytpeojjaaeckehaa", sum := "c9df10438a0831cc55481b8c9a3fd8fa60cd3fbc02c263ebcd8329cd6f9d7710", checked := Try.checked }
namespace Rows
def none {H : Type} : Left H := { results := [], args := [] }

/-- 'wharflaw16.CongStarts': WHATEVER THE INPUT: true; the input reads as it did. -/
def congStartsSpec : ChangeSpec := { name := "congStarts", fn := fun _ => fun
  | [d1, d2] => { results := [.lit (.bool true)], args := [d1, d2] }
  | _ => none }
def congStartsRow : OpenClaim := { program := "ytpeojjaaeckehaa", sum := "c9df10438a0831cc55481b8c9a3fd8fa60cd3fbc02c263ebcd8329cd6f9d7710", func := "wharf/wharflaw16.CongStarts", spec := "congStarts", unfollowed := true, recurses := true, apart := false }
def CongStartsSaid : Prop := congStartsRow.holds Try.pinned (OpenSpec.ofChange congStartsSpec)

/-- ITS FALSE NEIGHBOUR: 'it returns false'. Refute it at one input. -/
def congStartsWrong : ChangeSpec := { name := "congStarts", fn := fun _ => fun
  | [d1, d2] => { results := [.lit (.bool false)], args := [d1, d2] }
  | _ => none }
def CongStartsWrongFalsely : Prop := congStartsRow.holds Try.pinned (OpenSpec.ofChange congStartsWrong)

/-- 'wharflaw16.CongPlays': WHATEVER THE INPUT: true; the input reads as it did. -/
def congPlaysSpec : ChangeSpec := { name := "congPlays", fn := fun _ => fun
  | [d1, d2] => { results := [.lit (.bool true)], args := [d1, d2] }
  | _ => none }
def congPlaysRow : OpenClaim := { program := "ytpeojjaaeckehaa", sum := "c9df10438a0831cc55481b8c9a3fd8fa60cd3fbc02c263ebcd8329cd6f9d7710", func := "wharf/wharflaw16.CongPlays", spec := "congPlays", unfollowed := true, recurses := true, apart := false }
def CongPlaysSaid : Prop := congPlaysRow.holds Try.pinned (OpenSpec.ofChange congPlaysSpec)

/-- ITS FALSE NEIGHBOUR: 'it returns false'. Refute it at one input. -/
def congPlaysWrong : ChangeSpec := { name := "congPlays", fn := fun _ => fun
  | [d1, d2] => { results := [.lit (.bool false)], args := [d1, d2] }
  | _ => none }
def CongPlaysWrongFalsely : Prop := congPlaysRow.holds Try.pinned (OpenSpec.ofChange congPlaysWrong)

/-- 'wharflaw16.CongHalves': WHATEVER THE INPUT: true; the input reads as it did. -/
def congHalvesSpec : ChangeSpec := { name := "congHalves", fn := fun _ => fun
  | [d1, d2, d3] => { results := [.lit (.bool true)], args := [d1, d2, d3] }
  | _ => none }
def congHalvesRow : OpenClaim := { program := "ytpeojjaaeckehaa", sum := "c9df10438a0831cc55481b8c9a3fd8fa60cd3fbc02c263ebcd8329cd6f9d7710", func := "wharf/wharflaw16.CongHalves", spec := "congHalves", unfollowed := true, recurses := true, apart := false }
def CongHalvesSaid : Prop := congHalvesRow.holds Try.pinned (OpenSpec.ofChange congHalvesSpec)

/-- ITS FALSE NEIGHBOUR: 'it returns false'. Refute it at one input. -/
def congHalvesWrong : ChangeSpec := { name := "congHalves", fn := fun _ => fun
  | [d1, d2, d3] => { results := [.lit (.bool false)], args := [d1, d2, d3] }
  | _ => none }
def CongHalvesWrongFalsely : Prop := congHalvesRow.holds Try.pinned (OpenSpec.ofChange congHalvesWrong)

/-- 'wharflaw16.CongOfNothing': WHATEVER THE INPUT: true; the input reads as it did. -/
def congOfNothingSpec : ChangeSpec := { name := "congOfNothing", fn := fun _ => fun
  | [d1, d2] => { results := [.lit (.bool true)], args := [d1, d2] }
  | _ => none }
def congOfNothingRow : OpenClaim := { program := "ytpeojjaaeckehaa", sum := "c9df10438a0831cc55481b8c9a3fd8fa60cd3fbc02c263ebcd8329cd6f9d7710", func := "wharf/wharflaw16.CongOfNothing", spec := "congOfNothing", unfollowed := true, recurses := true, apart := false }
def CongOfNothingSaid : Prop := congOfNothingRow.holds Try.pinned (OpenSpec.ofChange congOfNothingSpec)

/-- ITS FALSE NEIGHBOUR: 'it returns false'. Refute it at one input. -/
def congOfNothingWrong : ChangeSpec := { name := "congOfNothing", fn := fun _ => fun
  | [d1, d2] => { results := [.lit (.bool false)], args := [d1, d2] }
  | _ => none }
def CongOfNothingWrongFalsely : Prop := congOfNothingRow.holds Try.pinned (OpenSpec.ofChange congOfNothingWrong)

/- THE SECOND FORM. 'bulk': how many values and letters a reading holds, each counted each time it is reached (what is shared counts as often as it is met; a slice's spare places count too). A statement '..UptoSaid' is the law's where the arguments, and the package variables that the reading takes, are together of bulk at most 1048576: NARROWER than '..Said'. Prove '..Said' where nothing that the law and all that it calls make is longer than what came in: it says more and counts as full. Else prove '..UptoSaid'. A law counts once. -/
mutual
def uptoBulk {H : Type} : DataW H → Nat
  | .lit (.string bytes) => bytes.length + 1
  | .lit _ => 1
  | .nil => 1
  | .ptr d => uptoBulk d + 1
  | .slice elems spare => uptoBulkAll elems + uptoBulkAll spare + 1
  | .agg parts => uptoBulkAll parts + 1
  | .iface _ d => uptoBulk d + 1
  | .map entries => uptoBulkEntries entries + 1
  | .held _ => 1
def uptoBulkAll {H : Type} : List (DataW H) → Nat
  | [] => 0
  | d :: r => uptoBulk d + uptoBulkAll r
def uptoBulkEntries {H : Type} : List (Lit × DataW H) → Nat
  | [] => 0
  | x :: r => uptoBulkEntry x + uptoBulkEntries r
def uptoBulkEntry {H : Type} : Lit × DataW H → Nat
  | (.string bytes, d) => bytes.length + uptoBulk d + 1
  | (_, d) => uptoBulk d + 1
 end
def uptoSmall : (H : Type) → List (DataW H) → Bool := fun _ ds => decide (uptoBulkAll ds ≤ 1048576)
def OpenSpec.upto (s : _root_.Go.ChangeSpec) : _root_.Go.OpenSpec := { _root_.Go.OpenSpec.ofChange s with cond := some uptoSmall }

/-- 'wharflaw16.CongStarts', WHERE WHAT IT READS IS OF BULK AT MOST 1048576: true; the input reads as it did. -/
def congStartsUptoRow : OpenClaim := { program := "ytpeojjaaeckehaa", sum := "c9df10438a0831cc55481b8c9a3fd8fa60cd3fbc02c263ebcd8329cd6f9d7710", func := "wharf/wharflaw16.CongStarts", spec := "congStarts", unfollowed := true, recurses := true, apart := false, narrowed := true }
def CongStartsUptoSaid : Prop := congStartsUptoRow.holds Try.pinned (OpenSpec.upto congStartsSpec)

/-- 'wharflaw16.CongPlays', WHERE WHAT IT READS IS OF BULK AT MOST 1048576: true; the input reads as it did. -/
def congPlaysUptoRow : OpenClaim := { program := "ytpeojjaaeckehaa", sum := "c9df10438a0831cc55481b8c9a3fd8fa60cd3fbc02c263ebcd8329cd6f9d7710", func := "wharf/wharflaw16.CongPlays", spec := "congPlays", unfollowed := true, recurses := true, apart := false, narrowed := true }
def CongPlaysUptoSaid : Prop := congPlaysUptoRow.holds Try.pinned (OpenSpec.upto congPlaysSpec)

/-- 'wharflaw16.CongHalves', WHERE WHAT IT READS IS OF BULK AT MOST 1048576: true; the input reads as it did. -/
def congHalvesUptoRow : OpenClaim := { program := "ytpeojjaaeckehaa", sum := "c9df10438a0831cc55481b8c9a3fd8fa60cd3fbc02c263ebcd8329cd6f9d7710", func := "wharf/wharflaw16.CongHalves", spec := "congHalves", unfollowed := true, recurses := true, apart := false, narrowed := true }
def CongHalvesUptoSaid : Prop := congHalvesUptoRow.holds Try.pinned (OpenSpec.upto congHalvesSpec)

/-- 'wharflaw16.CongOfNothing', WHERE WHAT IT READS IS OF BULK AT MOST 1048576: true; the input reads as it did. -/
def congOfNothingUptoRow : OpenClaim := { program := "ytpeojjaaeckehaa", sum := "c9df10438a0831cc55481b8c9a3fd8fa60cd3fbc02c263ebcd8329cd6f9d7710", func := "wharf/wharflaw16.CongOfNothing", spec := "congOfNothing", unfollowed := true, recurses := true, apart := false, narrowed := true }
def CongOfNothingUptoSaid : Prop := congOfNothingUptoRow.holds Try.pinned (OpenSpec.upto congOfNothingSpec)

end Rows
end Go.Proofs.Ytpeojjaaeckehaa
