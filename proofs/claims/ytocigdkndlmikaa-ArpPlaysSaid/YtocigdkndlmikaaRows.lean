/-
  No cell of these rows narrows 'for every input' (looked for: loops, veiled, ifaces, maps, wideKeys, modest, calm, conditions, laid).
  DERIVED. THE GIVEN ROWS OF THIS SEAT. 9 by the template 'for every input the law returns true; each argument reads behind the call as it read before'; 0 by the template 'total and deterministic' (their statements: YtocigdkndlmikaaTotals.lean).
  GIVEN WITH THE SEED: the statements are not yours to turn. If you find one false, say at which input.
  Laid BY PROGRAM, IN A SANDBOX (cutbox-rows.mjs): the forced cells as the released guide's own fill.sh prints them over the translation 6e54edacee7c2838… (all of the seat's roots in one cut). By AI agents, Wed Nov 11 2026. No macro, syntax, notation, axiom, sorry.
-/
import Derived.Test.YtocigdkndlmikaaChecked
import GoSem.Claim
import GoSem.ClaimJoined
import GoSem.ClaimMapViews
import Derived.JoinedTies
import Derived.KernelRfl
namespace Go.Proofs.Ytocigdkndlmikaa
/- THE CELL 'sum', in the pinned program and in every row, IS THE sha256 OF THE DUMP (.gsa) THAT YtocigdkndlmikaaProg.lean LOADS. Nothing in Lean hashes anything: it is a label: what it is worth is what the hold of that sum in a sandbox is worth. -/
noncomputable def Try.pinned : Pinned := { name := "ytocigdkndlmikaa", sum := "6e54edacee7c2838fda7930cef70e9caa73bcb61be7fec5294d2037945b51bac", checked := Try.checked }
namespace Rows
def none {H : Type} : Left H := { results := [], args := [] }

/-- 'wharflaw5.ArpKeeps': WHATEVER THE INPUT: true; the input reads as it did. -/
def arpKeepsSpec : ChangeSpec := { name := "arpKeeps", fn := fun _ => fun
  | [d1, d2, d3] => { results := [.lit (.bool true)], args := [d1, d2, d3] }
  | _ => none }
def arpKeepsRow : OpenClaim := { program := "ytocigdkndlmikaa", sum := "6e54edacee7c2838fda7930cef70e9caa73bcb61be7fec5294d2037945b51bac", func := "wharf/wharflaw5.ArpKeeps", spec := "arpKeeps", apart := false }
def ArpKeepsSaid : Prop := arpKeepsRow.holds Try.pinned (OpenSpec.ofChange arpKeepsSpec)

/-- ITS FALSE NEIGHBOUR: 'it returns false'. Refute it at one input. -/
def arpKeepsWrong : ChangeSpec := { name := "arpKeeps", fn := fun _ => fun
  | [d1, d2, d3] => { results := [.lit (.bool false)], args := [d1, d2, d3] }
  | _ => none }
def ArpKeepsWrongFalsely : Prop := arpKeepsRow.holds Try.pinned (OpenSpec.ofChange arpKeepsWrong)

/-- 'wharflaw5.ArpLives': WHATEVER THE INPUT: true; the input reads as it did. -/
def arpLivesSpec : ChangeSpec := { name := "arpLives", fn := fun _ => fun
  | [d1, d2, d3, d4] => { results := [.lit (.bool true)], args := [d1, d2, d3, d4] }
  | _ => none }
def arpLivesRow : OpenClaim := { program := "ytocigdkndlmikaa", sum := "6e54edacee7c2838fda7930cef70e9caa73bcb61be7fec5294d2037945b51bac", func := "wharf/wharflaw5.ArpLives", spec := "arpLives", apart := false }
def ArpLivesSaid : Prop := arpLivesRow.holds Try.pinned (OpenSpec.ofChange arpLivesSpec)

/-- ITS FALSE NEIGHBOUR: 'it returns false'. Refute it at one input. -/
def arpLivesWrong : ChangeSpec := { name := "arpLives", fn := fun _ => fun
  | [d1, d2, d3, d4] => { results := [.lit (.bool false)], args := [d1, d2, d3, d4] }
  | _ => none }
def ArpLivesWrongFalsely : Prop := arpLivesRow.holds Try.pinned (OpenSpec.ofChange arpLivesWrong)

/-- 'wharflaw5.ArpCrowds': WHATEVER THE INPUT: true; the input reads as it did. -/
def arpCrowdsSpec : ChangeSpec := { name := "arpCrowds", fn := fun _ => fun
  | [d] => { results := [.lit (.bool true)], args := [d] }
  | _ => none }
def arpCrowdsRow : OpenClaim := { program := "ytocigdkndlmikaa", sum := "6e54edacee7c2838fda7930cef70e9caa73bcb61be7fec5294d2037945b51bac", func := "wharf/wharflaw5.ArpCrowds", spec := "arpCrowds", apart := false }
def ArpCrowdsSaid : Prop := arpCrowdsRow.holds Try.pinned (OpenSpec.ofChange arpCrowdsSpec)

/-- ITS FALSE NEIGHBOUR: 'it returns false'. Refute it at one input. -/
def arpCrowdsWrong : ChangeSpec := { name := "arpCrowds", fn := fun _ => fun
  | [d] => { results := [.lit (.bool false)], args := [d] }
  | _ => none }
def ArpCrowdsWrongFalsely : Prop := arpCrowdsRow.holds Try.pinned (OpenSpec.ofChange arpCrowdsWrong)

/-- 'wharflaw5.ArpEncodes': WHATEVER THE INPUT: true; the input reads as it did. -/
def arpEncodesSpec : ChangeSpec := { name := "arpEncodes", fn := fun _ => fun
  | [d] => { results := [.lit (.bool true)], args := [d] }
  | _ => none }
def arpEncodesRow : OpenClaim := { program := "ytocigdkndlmikaa", sum := "6e54edacee7c2838fda7930cef70e9caa73bcb61be7fec5294d2037945b51bac", func := "wharf/wharflaw5.ArpEncodes", spec := "arpEncodes", apart := false }
def ArpEncodesSaid : Prop := arpEncodesRow.holds Try.pinned (OpenSpec.ofChange arpEncodesSpec)

/-- ITS FALSE NEIGHBOUR: 'it returns false'. Refute it at one input. -/
def arpEncodesWrong : ChangeSpec := { name := "arpEncodes", fn := fun _ => fun
  | [d] => { results := [.lit (.bool false)], args := [d] }
  | _ => none }
def ArpEncodesWrongFalsely : Prop := arpEncodesRow.holds Try.pinned (OpenSpec.ofChange arpEncodesWrong)

/-- 'wharflaw5.ArpDecodes': WHATEVER THE INPUT: true; the input reads as it did. -/
def arpDecodesSpec : ChangeSpec := { name := "arpDecodes", fn := fun _ => fun
  | [d] => { results := [.lit (.bool true)], args := [d] }
  | _ => none }
def arpDecodesRow : OpenClaim := { program := "ytocigdkndlmikaa", sum := "6e54edacee7c2838fda7930cef70e9caa73bcb61be7fec5294d2037945b51bac", func := "wharf/wharflaw5.ArpDecodes", spec := "arpDecodes", unfollowed := true, recurses := true, apart := false }
def ArpDecodesSaid : Prop := arpDecodesRow.holds Try.pinned (OpenSpec.ofChange arpDecodesSpec)

/-- ITS FALSE NEIGHBOUR: 'it returns false'. Refute it at one input. -/
def arpDecodesWrong : ChangeSpec := { name := "arpDecodes", fn := fun _ => fun
  | [d] => { results := [.lit (.bool false)], args := [d] }
  | _ => none }
def ArpDecodesWrongFalsely : Prop := arpDecodesRow.holds Try.pinned (OpenSpec.ofChange arpDecodesWrong)

/-- 'wharflaw5.ArpBack': WHATEVER THE INPUT: true; the input reads as it did. -/
def arpBackSpec : ChangeSpec := { name := "arpBack", fn := fun _ => fun
  | [d1, d2] => { results := [.lit (.bool true)], args := [d1, d2] }
  | _ => none }
def arpBackRow : OpenClaim := { program := "ytocigdkndlmikaa", sum := "6e54edacee7c2838fda7930cef70e9caa73bcb61be7fec5294d2037945b51bac", func := "wharf/wharflaw5.ArpBack", spec := "arpBack", unfollowed := true, recurses := true, apart := false }
def ArpBackSaid : Prop := arpBackRow.holds Try.pinned (OpenSpec.ofChange arpBackSpec)

/-- ITS FALSE NEIGHBOUR: 'it returns false'. Refute it at one input. -/
def arpBackWrong : ChangeSpec := { name := "arpBack", fn := fun _ => fun
  | [d1, d2] => { results := [.lit (.bool false)], args := [d1, d2] }
  | _ => none }
def ArpBackWrongFalsely : Prop := arpBackRow.holds Try.pinned (OpenSpec.ofChange arpBackWrong)

/-- 'wharflaw5.ArpPlays': WHATEVER THE INPUT: true; the input reads as it did. -/
def arpPlaysSpec : ChangeSpec := { name := "arpPlays", fn := fun _ => fun
  | [d] => { results := [.lit (.bool true)], args := [d] }
  | _ => none }
def arpPlaysRow : OpenClaim := { program := "ytocigdkndlmikaa", sum := "6e54edacee7c2838fda7930cef70e9caa73bcb61be7fec5294d2037945b51bac", func := "wharf/wharflaw5.ArpPlays", spec := "arpPlays", recurses := true, apart := false }
def ArpPlaysSaid : Prop := arpPlaysRow.holds Try.pinned (OpenSpec.ofChange arpPlaysSpec)

/-- ITS FALSE NEIGHBOUR: 'it returns false'. Refute it at one input. -/
def arpPlaysWrong : ChangeSpec := { name := "arpPlays", fn := fun _ => fun
  | [d] => { results := [.lit (.bool false)], args := [d] }
  | _ => none }
def ArpPlaysWrongFalsely : Prop := arpPlaysRow.holds Try.pinned (OpenSpec.ofChange arpPlaysWrong)

/-- 'wharflaw5.ArpGivesUp': WHATEVER THE INPUT: true; the input reads as it did. -/
def arpGivesUpSpec : ChangeSpec := { name := "arpGivesUp", fn := fun _ => fun
  | [d1, d2] => { results := [.lit (.bool true)], args := [d1, d2] }
  | _ => none }
def arpGivesUpRow : OpenClaim := { program := "ytocigdkndlmikaa", sum := "6e54edacee7c2838fda7930cef70e9caa73bcb61be7fec5294d2037945b51bac", func := "wharf/wharflaw5.ArpGivesUp", spec := "arpGivesUp", recurses := true, apart := false }
def ArpGivesUpSaid : Prop := arpGivesUpRow.holds Try.pinned (OpenSpec.ofChange arpGivesUpSpec)

/-- ITS FALSE NEIGHBOUR: 'it returns false'. Refute it at one input. -/
def arpGivesUpWrong : ChangeSpec := { name := "arpGivesUp", fn := fun _ => fun
  | [d1, d2] => { results := [.lit (.bool false)], args := [d1, d2] }
  | _ => none }
def ArpGivesUpWrongFalsely : Prop := arpGivesUpRow.holds Try.pinned (OpenSpec.ofChange arpGivesUpWrong)

/-- 'wharflaw5.ArpOfNothing': WHATEVER THE INPUT: true; the input reads as it did. -/
def arpOfNothingSpec : ChangeSpec := { name := "arpOfNothing", fn := fun _ => fun
  | [d1, d2, d3] => { results := [.lit (.bool true)], args := [d1, d2, d3] }
  | _ => none }
def arpOfNothingRow : OpenClaim := { program := "ytocigdkndlmikaa", sum := "6e54edacee7c2838fda7930cef70e9caa73bcb61be7fec5294d2037945b51bac", func := "wharf/wharflaw5.ArpOfNothing", spec := "arpOfNothing", recurses := true, apart := false }
def ArpOfNothingSaid : Prop := arpOfNothingRow.holds Try.pinned (OpenSpec.ofChange arpOfNothingSpec)

/-- ITS FALSE NEIGHBOUR: 'it returns false'. Refute it at one input. -/
def arpOfNothingWrong : ChangeSpec := { name := "arpOfNothing", fn := fun _ => fun
  | [d1, d2, d3] => { results := [.lit (.bool false)], args := [d1, d2, d3] }
  | _ => none }
def ArpOfNothingWrongFalsely : Prop := arpOfNothingRow.holds Try.pinned (OpenSpec.ofChange arpOfNothingWrong)

/- THE SECOND FORM. 'bulk': how many values and letters a reading holds, each counted each time it is reached (what is shared counts as often as it is met; a slice's spare places count too). A statement '..UptoSaid' is the law's where the arguments, and the package variables that the reading takes, are together of bulk at most 1048576: NARROWER than '..Said'. Prove '..Said' where nothing that the law and all that it calls make is longer than what came in: it says more and counts as full. Else prove '..UptoSaid'. A law counts once. -/
mutual
def uptoBulk {H : Type} : DataW H → Nat
  | .lit (.string bytes) => bytes.length + 1
  | .lit _ => 1
  | .nil => 1
  | .ptr d => uptoBulk d + 1
  | .slice elems spare => uptoBulkAll elems + uptoBulkAll spare + 1
  | .agg parts => uptoBulkAll parts + 1
  | .iface _ d => uptoBulk d + 1
  | .map entries => uptoBulkEntries entries + 1
  | .held _ => 1
def uptoBulkAll {H : Type} : List (DataW H) → Nat
  | [] => 0
  | d :: r => uptoBulk d + uptoBulkAll r
def uptoBulkEntries {H : Type} : List (Lit × DataW H) → Nat
  | [] => 0
  | x :: r => uptoBulkEntry x + uptoBulkEntries r
def uptoBulkEntry {H : Type} : Lit × DataW H → Nat
  | (.string bytes, d) => bytes.length + uptoBulk d + 1
  | (_, d) => uptoBulk d + 1
 end
def uptoSmall : (H : Type) → List (DataW H) → Bool := fun _ ds => decide (uptoBulkAll ds ≤ 1048576)
def OpenSpec.upto (s : _root_.Go.ChangeSpec) : _root_.Go.OpenSpec := { _root_.Go.OpenSpec.ofChange s with cond := some uptoSmall }

/-- 'wharflaw5.ArpKeeps', WHERE WHAT IT READS IS OF BULK AT MOST 1048576: true; the input reads as it did. -/
def arpKeepsUptoRow : OpenClaim := { program := "ytocigdkndlmikaa", sum := "6e54edacee7c2838fda7930cef70e9caa73bcb61be7fec5294d2037945b51bac", func := "wharf/wharflaw5.ArpKeeps", spec := "arpKeeps", apart := false, narrowed := true }
def ArpKeepsUptoSaid : Prop := arpKeepsUptoRow.holds Try.pinned (OpenSpec.upto arpKeepsSpec)

/-- 'wharflaw5.ArpLives', WHERE WHAT IT READS IS OF BULK AT MOST 1048576: true; the input reads as it did. -/
def arpLivesUptoRow : OpenClaim := { program := "ytocigdkndlmikaa", sum := "6e54edacee7c2838fda7930cef70e9caa73bcb61be7fec5294d2037945b51bac", func := "wharf/wharflaw5.ArpLives", spec := "arpLives", apart := false, narrowed := true }
def ArpLivesUptoSaid : Prop := arpLivesUptoRow.holds Try.pinned (OpenSpec.upto arpLivesSpec)

/-- 'wharflaw5.ArpCrowds', WHERE WHAT IT READS IS OF BULK AT MOST 1048576: true; the input reads as it did. -/
def arpCrowdsUptoRow : OpenClaim := { program := "ytocigdkndlmikaa", sum := "6e54edacee7c2838fda7930cef70e9caa73bcb61be7fec5294d2037945b51bac", func := "wharf/wharflaw5.ArpCrowds", spec := "arpCrowds", apart := false, narrowed := true }
def ArpCrowdsUptoSaid : Prop := arpCrowdsUptoRow.holds Try.pinned (OpenSpec.upto arpCrowdsSpec)

/-- 'wharflaw5.ArpEncodes', WHERE WHAT IT READS IS OF BULK AT MOST 1048576: true; the input reads as it did. -/
def arpEncodesUptoRow : OpenClaim := { program := "ytocigdkndlmikaa", sum := "6e54edacee7c2838fda7930cef70e9caa73bcb61be7fec5294d2037945b51bac", func := "wharf/wharflaw5.ArpEncodes", spec := "arpEncodes", apart := false, narrowed := true }
def ArpEncodesUptoSaid : Prop := arpEncodesUptoRow.holds Try.pinned (OpenSpec.upto arpEncodesSpec)

/-- 'wharflaw5.ArpDecodes', WHERE WHAT IT READS IS OF BULK AT MOST 1048576: true; the input reads as it did. -/
def arpDecodesUptoRow : OpenClaim := { program := "ytocigdkndlmikaa", sum := "6e54edacee7c2838fda7930cef70e9caa73bcb61be7fec5294d2037945b51bac", func := "wharf/wharflaw5.ArpDecodes", spec := "arpDecodes", unfollowed := true, recurses := true, apart := false, narrowed := true }
def ArpDecodesUptoSaid : Prop := arpDecodesUptoRow.holds Try.pinned (OpenSpec.upto arpDecodesSpec)

/-- 'wharflaw5.ArpBack', WHERE WHAT IT READS IS OF BULK AT MOST 1048576: true; the input reads as it did. -/
def arpBackUptoRow : OpenClaim := { program := "ytocigdkndlmikaa", sum := "6e54edacee7c2838fda7930cef70e9caa73bcb61be7fec5294d2037945b51bac", func := "wharf/wharflaw5.ArpBack", spec := "arpBack", unfollowed := true, recurses := true, apart := false, narrowed := true }
def ArpBackUptoSaid : Prop := arpBackUptoRow.holds Try.pinned (OpenSpec.upto arpBackSpec)

/-- 'wharflaw5.ArpPlays', WHERE WHAT IT READS IS OF BULK AT MOST 1048576: true; the input reads as it did. -/
def arpPlaysUptoRow : OpenClaim := { program := "ytocigdkndlmikaa", sum := "6e54edacee7c2838fda7930cef70e9caa73bcb61be7fec5294d2037945b51bac", func := "wharf/wharflaw5.ArpPlays", spec := "arpPlays", recurses := true, apart := false, narrowed := true }
def ArpPlaysUptoSaid : Prop := arpPlaysUptoRow.holds Try.pinned (OpenSpec.upto arpPlaysSpec)

/-- 'wharflaw5.ArpGivesUp', WHERE WHAT IT READS IS OF BULK AT MOST 1048576: true; the input reads as it did. -/
def arpGivesUpUptoRow : OpenClaim := { program := "ytocigdkndlmikaa", sum := "6e54edacee7c2838fda7930cef70e9caa73bcb61be7fec5294d2037945b51bac", func := "wharf/wharflaw5.ArpGivesUp", spec := "arpGivesUp", recurses := true, apart := false, narrowed := true }
def ArpGivesUpUptoSaid : Prop := arpGivesUpUptoRow.holds Try.pinned (OpenSpec.upto arpGivesUpSpec)

/-- 'wharflaw5.ArpOfNothing', WHERE WHAT IT READS IS OF BULK AT MOST 1048576: true; the input reads as it did. -/
def arpOfNothingUptoRow : OpenClaim := { program := "ytocigdkndlmikaa", sum := "6e54edacee7c2838fda7930cef70e9caa73bcb61be7fec5294d2037945b51bac", func := "wharf/wharflaw5.ArpOfNothing", spec := "arpOfNothing", recurses := true, apart := false, narrowed := true }
def ArpOfNothingUptoSaid : Prop := arpOfNothingUptoRow.holds Try.pinned (OpenSpec.upto arpOfNothingSpec)

end Rows
end Go.Proofs.Ytocigdkndlmikaa
