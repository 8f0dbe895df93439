/-
  No cell of these rows narrows 'for every input' (looked for: loops, veiled, ifaces, maps, wideKeys, modest, calm, conditions, laid).
  DERIVED. THE GIVEN ROWS OF THIS SEAT. 9 by the template 'for every input the law returns true; each argument reads behind the call as it read before'; 0 by the template 'total and deterministic' (their statements: YtnjleligdeobeaaTotals.lean).
  GIVEN WITH THE SEED: the statements are not yours to turn. If you find one false, say at which input.
  Laid BY PROGRAM, IN A SANDBOX (cutbox-rows.mjs): the forced cells as the released guide's own fill.sh prints them over the translation 85e641cdeed78957… (all of the seat's roots in one cut). By AI agents, Wed Nov 11 2026. No macro, syntax, notation, axiom, sorry.
-/
import Derived.Test.YtnjleligdeobeaaChecked
import GoSem.Claim
import GoSem.ClaimJoined
import GoSem.ClaimMapViews
import Derived.JoinedTies
import Derived.KernelRfl
namespace Go.Proofs.Ytnjleligdeobeaa
/- THE CELL 'sum', in the pinned program and in every row, IS THE sha256 OF THE DUMP (.gsa) THAT YtnjleligdeobeaaProg.lean LOADS. Nothing in Lean hashes anything: it is a label: what it is worth is what the hold of that sum in a sandbox is worth. -/
noncomputable def Try.pinned : Pinned := { name := "ytnjleligdeobeaa", sum := "85e641cdeed7895759b94cdb82fa49b5be47725a602e7133e6a34f597fc0852c", checked := Try.checked }
namespace Rows
def none {H : Type} : Left H := { results := [], args := [] }

/-- 'wharflaw1.OctetSums': WHATEVER THE INPUT: true; the input reads as it did. -/
def octetSumsSpec : ChangeSpec := { name := "octetSums", fn := fun _ => fun
  | [d] => { results := [.lit (.bool true)], args := [d] }
  | _ => none }
def octetSumsRow : OpenClaim := { program := "ytnjleligdeobeaa", sum := "85e641cdeed7895759b94cdb82fa49b5be47725a602e7133e6a34f597fc0852c", func := "wharf/wharflaw1.OctetSums", spec := "octetSums", apart := false }
def OctetSumsSaid : Prop := octetSumsRow.holds Try.pinned (OpenSpec.ofChange octetSumsSpec)

/-- ITS FALSE NEIGHBOUR: 'it returns false'. Refute it at one input. -/
def octetSumsWrong : ChangeSpec := { name := "octetSums", fn := fun _ => fun
  | [d] => { results := [.lit (.bool false)], args := [d] }
  | _ => none }
def OctetSumsWrongFalsely : Prop := octetSumsRow.holds Try.pinned (OpenSpec.ofChange octetSumsWrong)

/-- 'wharflaw1.OctetJoins': WHATEVER THE INPUT: true; the input reads as it did. -/
def octetJoinsSpec : ChangeSpec := { name := "octetJoins", fn := fun _ => fun
  | [d1, d2, d3, d4] => { results := [.lit (.bool true)], args := [d1, d2, d3, d4] }
  | _ => none }
def octetJoinsRow : OpenClaim := { program := "ytnjleligdeobeaa", sum := "85e641cdeed7895759b94cdb82fa49b5be47725a602e7133e6a34f597fc0852c", func := "wharf/wharflaw1.OctetJoins", spec := "octetJoins", apart := false }
def OctetJoinsSaid : Prop := octetJoinsRow.holds Try.pinned (OpenSpec.ofChange octetJoinsSpec)

/-- ITS FALSE NEIGHBOUR: 'it returns false'. Refute it at one input. -/
def octetJoinsWrong : ChangeSpec := { name := "octetJoins", fn := fun _ => fun
  | [d1, d2, d3, d4] => { results := [.lit (.bool false)], args := [d1, d2, d3, d4] }
  | _ => none }
def OctetJoinsWrongFalsely : Prop := octetJoinsRow.holds Try.pinned (OpenSpec.ofChange octetJoinsWrong)

/-- 'wharflaw1.OctetZero': WHATEVER THE INPUT: true; the input reads as it did. -/
def octetZeroSpec : ChangeSpec := { name := "octetZero", fn := fun _ => fun
  | [d] => { results := [.lit (.bool true)], args := [d] }
  | _ => none }
def octetZeroRow : OpenClaim := { program := "ytnjleligdeobeaa", sum := "85e641cdeed7895759b94cdb82fa49b5be47725a602e7133e6a34f597fc0852c", func := "wharf/wharflaw1.OctetZero", spec := "octetZero", apart := false }
def OctetZeroSaid : Prop := octetZeroRow.holds Try.pinned (OpenSpec.ofChange octetZeroSpec)

/-- ITS FALSE NEIGHBOUR: 'it returns false'. Refute it at one input. -/
def octetZeroWrong : ChangeSpec := { name := "octetZero", fn := fun _ => fun
  | [d] => { results := [.lit (.bool false)], args := [d] }
  | _ => none }
def OctetZeroWrongFalsely : Prop := octetZeroRow.holds Try.pinned (OpenSpec.ofChange octetZeroWrong)

/-- 'wharflaw1.OctetTurned': WHATEVER THE INPUT: true; the input reads as it did. -/
def octetTurnedSpec : ChangeSpec := { name := "octetTurned", fn := fun _ => fun
  | [d1, d2, d3] => { results := [.lit (.bool true)], args := [d1, d2, d3] }
  | _ => none }
def octetTurnedRow : OpenClaim := { program := "ytnjleligdeobeaa", sum := "85e641cdeed7895759b94cdb82fa49b5be47725a602e7133e6a34f597fc0852c", func := "wharf/wharflaw1.OctetTurned", spec := "octetTurned", apart := false }
def OctetTurnedSaid : Prop := octetTurnedRow.holds Try.pinned (OpenSpec.ofChange octetTurnedSpec)

/-- ITS FALSE NEIGHBOUR: 'it returns false'. Refute it at one input. -/
def octetTurnedWrong : ChangeSpec := { name := "octetTurned", fn := fun _ => fun
  | [d1, d2, d3] => { results := [.lit (.bool false)], args := [d1, d2, d3] }
  | _ => none }
def OctetTurnedWrongFalsely : Prop := octetTurnedRow.holds Try.pinned (OpenSpec.ofChange octetTurnedWrong)

/-- 'wharflaw1.OctetOrder': WHATEVER THE INPUT: true; the input reads as it did. -/
def octetOrderSpec : ChangeSpec := { name := "octetOrder", fn := fun _ => fun
  | [d1, d2] => { results := [.lit (.bool true)], args := [d1, d2] }
  | _ => none }
def octetOrderRow : OpenClaim := { program := "ytnjleligdeobeaa", sum := "85e641cdeed7895759b94cdb82fa49b5be47725a602e7133e6a34f597fc0852c", func := "wharf/wharflaw1.OctetOrder", spec := "octetOrder", apart := false }
def OctetOrderSaid : Prop := octetOrderRow.holds Try.pinned (OpenSpec.ofChange octetOrderSpec)

/-- ITS FALSE NEIGHBOUR: 'it returns false'. Refute it at one input. -/
def octetOrderWrong : ChangeSpec := { name := "octetOrder", fn := fun _ => fun
  | [d1, d2] => { results := [.lit (.bool false)], args := [d1, d2] }
  | _ => none }
def OctetOrderWrongFalsely : Prop := octetOrderRow.holds Try.pinned (OpenSpec.ofChange octetOrderWrong)

/-- 'wharflaw1.OctetWrites': WHATEVER THE INPUT: true; the input reads as it did. -/
def octetWritesSpec : ChangeSpec := { name := "octetWrites", fn := fun _ => fun
  | [d] => { results := [.lit (.bool true)], args := [d] }
  | _ => none }
def octetWritesRow : OpenClaim := { program := "ytnjleligdeobeaa", sum := "85e641cdeed7895759b94cdb82fa49b5be47725a602e7133e6a34f597fc0852c", func := "wharf/wharflaw1.OctetWrites", spec := "octetWrites", apart := false }
def OctetWritesSaid : Prop := octetWritesRow.holds Try.pinned (OpenSpec.ofChange octetWritesSpec)

/-- ITS FALSE NEIGHBOUR: 'it returns false'. Refute it at one input. -/
def octetWritesWrong : ChangeSpec := { name := "octetWrites", fn := fun _ => fun
  | [d] => { results := [.lit (.bool false)], args := [d] }
  | _ => none }
def OctetWritesWrongFalsely : Prop := octetWritesRow.holds Try.pinned (OpenSpec.ofChange octetWritesWrong)

/-- 'wharflaw1.OctetOfNothing': WHATEVER THE INPUT: true; the input reads as it did. -/
def octetOfNothingSpec : ChangeSpec := { name := "octetOfNothing", fn := fun _ => fun
  | [d] => { results := [.lit (.bool true)], args := [d] }
  | _ => none }
def octetOfNothingRow : OpenClaim := { program := "ytnjleligdeobeaa", sum := "85e641cdeed7895759b94cdb82fa49b5be47725a602e7133e6a34f597fc0852c", func := "wharf/wharflaw1.OctetOfNothing", spec := "octetOfNothing", unfollowed := true, recurses := true, apart := false }
def OctetOfNothingSaid : Prop := octetOfNothingRow.holds Try.pinned (OpenSpec.ofChange octetOfNothingSpec)

/-- ITS FALSE NEIGHBOUR: 'it returns false'. Refute it at one input. -/
def octetOfNothingWrong : ChangeSpec := { name := "octetOfNothing", fn := fun _ => fun
  | [d] => { results := [.lit (.bool false)], args := [d] }
  | _ => none }
def OctetOfNothingWrongFalsely : Prop := octetOfNothingRow.holds Try.pinned (OpenSpec.ofChange octetOfNothingWrong)

/-- 'wharflaw1.OctetReads': WHATEVER THE INPUT: true; the input reads as it did. -/
def octetReadsSpec : ChangeSpec := { name := "octetReads", fn := fun _ => fun
  | [d1, d2] => { results := [.lit (.bool true)], args := [d1, d2] }
  | _ => none }
def octetReadsRow : OpenClaim := { program := "ytnjleligdeobeaa", sum := "85e641cdeed7895759b94cdb82fa49b5be47725a602e7133e6a34f597fc0852c", func := "wharf/wharflaw1.OctetReads", spec := "octetReads", unfollowed := true, recurses := true, apart := false }
def OctetReadsSaid : Prop := octetReadsRow.holds Try.pinned (OpenSpec.ofChange octetReadsSpec)

/-- ITS FALSE NEIGHBOUR: 'it returns false'. Refute it at one input. -/
def octetReadsWrong : ChangeSpec := { name := "octetReads", fn := fun _ => fun
  | [d1, d2] => { results := [.lit (.bool false)], args := [d1, d2] }
  | _ => none }
def OctetReadsWrongFalsely : Prop := octetReadsRow.holds Try.pinned (OpenSpec.ofChange octetReadsWrong)

/-- 'wharflaw1.OctetBack': WHATEVER THE INPUT: true; the input reads as it did. -/
def octetBackSpec : ChangeSpec := { name := "octetBack", fn := fun _ => fun
  | [d] => { results := [.lit (.bool true)], args := [d] }
  | _ => none }
def octetBackRow : OpenClaim := { program := "ytnjleligdeobeaa", sum := "85e641cdeed7895759b94cdb82fa49b5be47725a602e7133e6a34f597fc0852c", func := "wharf/wharflaw1.OctetBack", spec := "octetBack", unfollowed := true, recurses := true, apart := false }
def OctetBackSaid : Prop := octetBackRow.holds Try.pinned (OpenSpec.ofChange octetBackSpec)

/-- ITS FALSE NEIGHBOUR: 'it returns false'. Refute it at one input. -/
def octetBackWrong : ChangeSpec := { name := "octetBack", fn := fun _ => fun
  | [d] => { results := [.lit (.bool false)], args := [d] }
  | _ => none }
def OctetBackWrongFalsely : Prop := octetBackRow.holds Try.pinned (OpenSpec.ofChange octetBackWrong)

/- THE SECOND FORM. 'bulk': how many values and letters a reading holds, each counted each time it is reached (what is shared counts as often as it is met; a slice's spare places count too). A statement '..UptoSaid' is the law's where the arguments, and the package variables that the reading takes, are together of bulk at most 1048576: NARROWER than '..Said'. Prove '..Said' where nothing that the law and all that it calls make is longer than what came in: it says more and counts as full. Else prove '..UptoSaid'. A law counts once. -/
mutual
def uptoBulk {H : Type} : DataW H → Nat
  | .lit (.string bytes) => bytes.length + 1
  | .lit _ => 1
  | .nil => 1
  | .ptr d => uptoBulk d + 1
  | .slice elems spare => uptoBulkAll elems + uptoBulkAll spare + 1
  | .agg parts => uptoBulkAll parts + 1
  | .iface _ d => uptoBulk d + 1
  | .map entries => uptoBulkEntries entries + 1
  | .held _ => 1
def uptoBulkAll {H : Type} : List (DataW H) → Nat
  | [] => 0
  | d :: r => uptoBulk d + uptoBulkAll r
def uptoBulkEntries {H : Type} : List (Lit × DataW H) → Nat
  | [] => 0
  | x :: r => uptoBulkEntry x + uptoBulkEntries r
def uptoBulkEntry {H : Type} : Lit × DataW H → Nat
  | (.string bytes, d) => bytes.length + uptoBulk d + 1
  | (_, d) => uptoBulk d + 1
 end
def uptoSmall : (H : Type) → List (DataW H) → Bool := fun _ ds => decide (uptoBulkAll ds ≤ 1048576)
def OpenSpec.upto (s : _root_.Go.ChangeSpec) : _root_.Go.OpenSpec := { _root_.Go.OpenSpec.ofChange s with cond := some uptoSmall }

/-- 'wharflaw1.OctetSums', WHERE WHAT IT READS IS OF BULK AT MOST 1048576: true; the input reads as it did. -/
def octetSumsUptoRow : OpenClaim := { program := "ytnjleligdeobeaa", sum := "85e641cdeed7895759b94cdb82fa49b5be47725a602e7133e6a34f597fc0852c", func := "wharf/wharflaw1.OctetSums", spec := "octetSums", apart := false, narrowed := true }
def OctetSumsUptoSaid : Prop := octetSumsUptoRow.holds Try.pinned (OpenSpec.upto octetSumsSpec)

/-- 'wharflaw1.OctetJoins', WHERE WHAT IT READS IS OF BULK AT MOST 1048576: true; the input reads as it did. -/
def octetJoinsUptoRow : OpenClaim := { program := "ytnjleligdeobeaa", sum := "85e641cdeed7895759b94cdb82fa49b5be47725a602e7133e6a34f597fc0852c", func := "wharf/wharflaw1.OctetJoins", spec := "octetJoins", apart := false, narrowed := true }
def OctetJoinsUptoSaid : Prop := octetJoinsUptoRow.holds Try.pinned (OpenSpec.upto octetJoinsSpec)

/-- 'wharflaw1.OctetZero', WHERE WHAT IT READS IS OF BULK AT MOST 1048576: true; the input reads as it did. -/
def octetZeroUptoRow : OpenClaim := { program := "ytnjleligdeobeaa", sum := "85e641cdeed7895759b94cdb82fa49b5be47725a602e7133e6a34f597fc0852c", func := "wharf/wharflaw1.OctetZero", spec := "octetZero", apart := false, narrowed := true }
def OctetZeroUptoSaid : Prop := octetZeroUptoRow.holds Try.pinned (OpenSpec.upto octetZeroSpec)

/-- 'wharflaw1.OctetTurned', WHERE WHAT IT READS IS OF BULK AT MOST 1048576: true; the input reads as it did. -/
def octetTurnedUptoRow : OpenClaim := { program := "ytnjleligdeobeaa", sum := "85e641cdeed7895759b94cdb82fa49b5be47725a602e7133e6a34f597fc0852c", func := "wharf/wharflaw1.OctetTurned", spec := "octetTurned", apart := false, narrowed := true }
def OctetTurnedUptoSaid : Prop := octetTurnedUptoRow.holds Try.pinned (OpenSpec.upto octetTurnedSpec)

/-- 'wharflaw1.OctetOrder', WHERE WHAT IT READS IS OF BULK AT MOST 1048576: true; the input reads as it did. -/
def octetOrderUptoRow : OpenClaim := { program := "ytnjleligdeobeaa", sum := "85e641cdeed7895759b94cdb82fa49b5be47725a602e7133e6a34f597fc0852c", func := "wharf/wharflaw1.OctetOrder", spec := "octetOrder", apart := false, narrowed := true }
def OctetOrderUptoSaid : Prop := octetOrderUptoRow.holds Try.pinned (OpenSpec.upto octetOrderSpec)

/-- 'wharflaw1.OctetWrites', WHERE WHAT IT READS IS OF BULK AT MOST 1048576: true; the input reads as it did. -/
def octetWritesUptoRow : OpenClaim := { program := "ytnjleligdeobeaa", sum := "85e641cdeed7895759b94cdb82fa49b5be47725a602e7133e6a34f597fc0852c", func := "wharf/wharflaw1.OctetWrites", spec := "octetWrites", apart := false, narrowed := true }
def OctetWritesUptoSaid : Prop := octetWritesUptoRow.holds Try.pinned (OpenSpec.upto octetWritesSpec)

/-- 'wharflaw1.OctetOfNothing', WHERE WHAT IT READS IS OF BULK AT MOST 1048576: true; the input reads as it did. -/
def octetOfNothingUptoRow : OpenClaim := { program := "ytnjleligdeobeaa", sum := "85e641cdeed7895759b94cdb82fa49b5be47725a602e7133e6a34f597fc0852c", func := "wharf/wharflaw1.OctetOfNothing", spec := "octetOfNothing", unfollowed := true, recurses := true, apart := false, narrowed := true }
def OctetOfNothingUptoSaid : Prop := octetOfNothingUptoRow.holds Try.pinned (OpenSpec.upto octetOfNothingSpec)

/-- 'wharflaw1.OctetReads', WHERE WHAT IT READS IS OF BULK AT MOST 1048576: true; the input reads as it did. -/
def octetReadsUptoRow : OpenClaim := { program := "ytnjleligdeobeaa", sum := "85e641cdeed7895759b94cdb82fa49b5be47725a602e7133e6a34f597fc0852c", func := "wharf/wharflaw1.OctetReads", spec := "octetReads", unfollowed := true, recurses := true, apart := false, narrowed := true }
def OctetReadsUptoSaid : Prop := octetReadsUptoRow.holds Try.pinned (OpenSpec.upto octetReadsSpec)

/-- 'wharflaw1.OctetBack', WHERE WHAT IT READS IS OF BULK AT MOST 1048576: true; the input reads as it did. -/
def octetBackUptoRow : OpenClaim := { program := "ytnjleligdeobeaa", sum := "85e641cdeed7895759b94cdb82fa49b5be47725a602e7133e6a34f597fc0852c", func := "wharf/wharflaw1.OctetBack", spec := "octetBack", unfollowed := true, recurses := true, apart := false, narrowed := true }
def OctetBackUptoSaid : Prop := octetBackUptoRow.holds Try.pinned (OpenSpec.upto octetBackSpec)

end Rows
end Go.Proofs.Ytnjleligdeobeaa
