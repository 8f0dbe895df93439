/-
  No cell of these rows narrows 'for every input' (looked for: loops, veiled, ifaces, maps, wideKeys, modest, calm, conditions, laid).
  DERIVED. THE GIVEN ROWS OF THIS SEAT. 4 by the template 'for every input the law returns true; each argument reads behind the call as it read before'; 0 by the template 'total and deterministic' (their statements: YtdgacljllbiddaaTotals.lean).
  GIVEN WITH THE SEED: the statements are not yours to turn. If you find one false, say at which input.
  Laid BY PROGRAM, IN A SANDBOX (cutbox-rows.mjs): the forced cells as the released guide's own fill.sh prints them over the translation bf6f2f365ed4f436… (all of the seat's roots in one cut). By AI agents, Wed Nov 11 2026. No macro, syntax, notation, axiom, sorry.
-/
import Derived.Test.YtdgacljllbiddaaChecked
import GoSem.Claim
import GoSem.ClaimJoined
import GoSem.ClaimMapViews
import Derived.JoinedTies
import Derived.KernelRfl
namespace Go.Proofs.Ytdgacljllbiddaa
/- THE CELL 'sum', in the pinned program and in every row, IS THE sha256 OF THE DUMP (.gsa) THAT YtdgacljllbiddaaProg.lean LOADS. Nothing in Lean hashes anything: it is a label: what it is worth is what the hold of that sum in a sandbox is worth. -/
noncomputable def Try.pinned : Pinned := { name := "ytdgacljllbiddaa", sum := "bf6f2f365ed4f436c08955485bea690ace4f99ce3323f9b451387cf8621736f9", checked := Try.checked }
namespace Rows
def none {H : Type} : Left H := { results := [], args := [] }

/-- 'wharflaw15.ClockDoubles': WHATEVER THE INPUT: true; the input reads as it did. -/
def clockDoublesSpec : ChangeSpec := { name := "clockDoubles", fn := fun _ => fun
  | [d1, d2] => { results := [.lit (.bool true)], args := [d1, d2] }
  | _ => none }
def clockDoublesRow : OpenClaim := { program := "ytdgacljllbiddaa", sum := "bf6f2f365ed4f436c08955485bea690ace4f99ce3323f9b451387cf8621736f9", func := "wharf/wharflaw15.ClockDoubles", spec := "clockDoubles", apart := false }
def ClockDoublesSaid : Prop := clockDoublesRow.holds Try.pinned (OpenSpec.ofChange clockDoublesSpec)

/-- ITS FALSE NEIGHBOUR: 'it returns false'. Refute it at one input. -/
def clockDoublesWrong : ChangeSpec := { name := "clockDoubles", fn := fun _ => fun
  | [d1, d2] => { results := [.lit (.bool false)], args := [d1, d2] }
  | _ => none }
def ClockDoublesWrongFalsely : Prop := clockDoublesRow.holds Try.pinned (OpenSpec.ofChange clockDoublesWrong)

/-- 'wharflaw15.ClockSettles': WHATEVER THE INPUT: true; the input reads as it did. -/
def clockSettlesSpec : ChangeSpec := { name := "clockSettles", fn := fun _ => fun
  | [d] => { results := [.lit (.bool true)], args := [d] }
  | _ => none }
def clockSettlesRow : OpenClaim := { program := "ytdgacljllbiddaa", sum := "bf6f2f365ed4f436c08955485bea690ace4f99ce3323f9b451387cf8621736f9", func := "wharf/wharflaw15.ClockSettles", spec := "clockSettles", apart := false }
def ClockSettlesSaid : Prop := clockSettlesRow.holds Try.pinned (OpenSpec.ofChange clockSettlesSpec)

/-- ITS FALSE NEIGHBOUR: 'it returns false'. Refute it at one input. -/
def clockSettlesWrong : ChangeSpec := { name := "clockSettles", fn := fun _ => fun
  | [d] => { results := [.lit (.bool false)], args := [d] }
  | _ => none }
def ClockSettlesWrongFalsely : Prop := clockSettlesRow.holds Try.pinned (OpenSpec.ofChange clockSettlesWrong)

/-- 'wharflaw15.ClockPlays': WHATEVER THE INPUT: true; the input reads as it did. -/
def clockPlaysSpec : ChangeSpec := { name := "clockPlays", fn := fun _ => fun
  | [d] => { results := [.lit (.bool true)], args := [d] }
  | _ => none }
def clockPlaysRow : OpenClaim := { program := "ytdgacljllbiddaa", sum := "bf6f2f365ed4f436c08955485bea690ace4f99ce3323f9b451387cf8621736f9", func := "wharf/wharflaw15.ClockPlays", spec := "clockPlays", apart := false }
def ClockPlaysSaid : Prop := clockPlaysRow.holds Try.pinned (OpenSpec.ofChange clockPlaysSpec)

/-- ITS FALSE NEIGHBOUR: 'it returns false'. Refute it at one input. -/
def clockPlaysWrong : ChangeSpec := { name := "clockPlays", fn := fun _ => fun
  | [d] => { results := [.lit (.bool false)], args := [d] }
  | _ => none }
def ClockPlaysWrongFalsely : Prop := clockPlaysRow.holds Try.pinned (OpenSpec.ofChange clockPlaysWrong)

/-- 'wharflaw15.ClockOfNothing': WHATEVER THE INPUT: true; the input reads as it did. -/
def clockOfNothingSpec : ChangeSpec := { name := "clockOfNothing", fn := fun _ => fun
  | [d] => { results := [.lit (.bool true)], args := [d] }
  | _ => none }
def clockOfNothingRow : OpenClaim := { program := "ytdgacljllbiddaa", sum := "bf6f2f365ed4f436c08955485bea690ace4f99ce3323f9b451387cf8621736f9", func := "wharf/wharflaw15.ClockOfNothing", spec := "clockOfNothing", apart := false }
def ClockOfNothingSaid : Prop := clockOfNothingRow.holds Try.pinned (OpenSpec.ofChange clockOfNothingSpec)

/-- ITS FALSE NEIGHBOUR: 'it returns false'. Refute it at one input. -/
def clockOfNothingWrong : ChangeSpec := { name := "clockOfNothing", fn := fun _ => fun
  | [d] => { results := [.lit (.bool false)], args := [d] }
  | _ => none }
def ClockOfNothingWrongFalsely : Prop := clockOfNothingRow.holds Try.pinned (OpenSpec.ofChange clockOfNothingWrong)

/- THE SECOND FORM. 'bulk': how many values and letters a reading holds, each counted each time it is reached (what is shared counts as often as it is met; a slice's spare places count too). A statement '..UptoSaid' is the law's where the arguments, and the package variables that the reading takes, are together of bulk at most 1048576: NARROWER than '..Said'. Prove '..Said' where nothing that the law and all that it calls make is longer than what came in: it says more and counts as full. Else prove '..UptoSaid'. A law counts once. -/
mutual
def uptoBulk {H : Type} : DataW H → Nat
  | .lit (.string bytes) => bytes.length + 1
  | .lit _ => 1
  | .nil => 1
  | .ptr d => uptoBulk d + 1
  | .slice elems spare => uptoBulkAll elems + uptoBulkAll spare + 1
  | .agg parts => uptoBulkAll parts + 1
  | .iface _ d => uptoBulk d + 1
  | .map entries => uptoBulkEntries entries + 1
  | .held _ => 1
def uptoBulkAll {H : Type} : List (DataW H) → Nat
  | [] => 0
  | d :: r => uptoBulk d + uptoBulkAll r
def uptoBulkEntries {H : Type} : List (Lit × DataW H) → Nat
  | [] => 0
  | x :: r => uptoBulkEntry x + uptoBulkEntries r
def uptoBulkEntry {H : Type} : Lit × DataW H → Nat
  | (.string bytes, d) => bytes.length + uptoBulk d + 1
  | (_, d) => uptoBulk d + 1
 end
def uptoSmall : (H : Type) → List (DataW H) → Bool := fun _ ds => decide (uptoBulkAll ds ≤ 1048576)
def OpenSpec.upto (s : _root_.Go.ChangeSpec) : _root_.Go.OpenSpec := { _root_.Go.OpenSpec.ofChange s with cond := some uptoSmall }

/-- 'wharflaw15.ClockDoubles', WHERE WHAT IT READS IS OF BULK AT MOST 1048576: true; the input reads as it did. -/
def clockDoublesUptoRow : OpenClaim := { program := "ytdgacljllbiddaa", sum := "bf6f2f365ed4f436c08955485bea690ace4f99ce3323f9b451387cf8621736f9", func := "wharf/wharflaw15.ClockDoubles", spec := "clockDoubles", apart := false, narrowed := true }
def ClockDoublesUptoSaid : Prop := clockDoublesUptoRow.holds Try.pinned (OpenSpec.upto clockDoublesSpec)

/-- 'wharflaw15.ClockSettles', WHERE WHAT IT READS IS OF BULK AT MOST 1048576: true; the input reads as it did. -/
def clockSettlesUptoRow : OpenClaim := { program := "ytdgacljllbiddaa", sum := "bf6f2f365ed4f436c08955485bea690ace4f99ce3323f9b451387cf8621736f9", func := "wharf/wharflaw15.ClockSettles", spec := "clockSettles", apart := false, narrowed := true }
def ClockSettlesUptoSaid : Prop := clockSettlesUptoRow.holds Try.pinned (OpenSpec.upto clockSettlesSpec)

/-- 'wharflaw15.ClockPlays', WHERE WHAT IT READS IS OF BULK AT MOST 1048576: true; the input reads as it did. -/
def clockPlaysUptoRow : OpenClaim := { program := "ytdgacljllbiddaa", sum := "bf6f2f365ed4f436c08955485bea690ace4f99ce3323f9b451387cf8621736f9", func := "wharf/wharflaw15.ClockPlays", spec := "clockPlays", apart := false, narrowed := true }
def ClockPlaysUptoSaid : Prop := clockPlaysUptoRow.holds Try.pinned (OpenSpec.upto clockPlaysSpec)

/-- 'wharflaw15.ClockOfNothing', WHERE WHAT IT READS IS OF BULK AT MOST 1048576: true; the input reads as it did. -/
def clockOfNothingUptoRow : OpenClaim := { program := "ytdgacljllbiddaa", sum := "bf6f2f365ed4f436c08955485bea690ace4f99ce3323f9b451387cf8621736f9", func := "wharf/wharflaw15.ClockOfNothing", spec := "clockOfNothing", apart := false, narrowed := true }
def ClockOfNothingUptoSaid : Prop := clockOfNothingUptoRow.holds Try.pinned (OpenSpec.upto clockOfNothingSpec)

end Rows
end Go.Proofs.Ytdgacljllbiddaa
