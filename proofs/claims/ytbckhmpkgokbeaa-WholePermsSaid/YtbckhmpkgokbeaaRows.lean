/-
  No cell of these rows narrows 'for every input' (looked for: loops, veiled, ifaces, maps, wideKeys, modest, calm, conditions, laid).
  DERIVED. THE GIVEN ROWS OF THIS SEAT. 2 by the template 'for every input the law returns true; each argument reads behind the call as it read before'; 0 by the template 'total and deterministic' (their statements: YtbckhmpkgokbeaaTotals.lean).
  GIVEN WITH THE SEED: the statements are not yours to turn. If you find one false, say at which input.
  Laid BY PROGRAM, IN A SANDBOX (cutbox-rows.mjs): the forced cells as the released guide's own fill.sh prints them over the translation aad21ab028798734… (all of the seat's roots in one cut). By AI agents, Wed Nov 11 2026. No macro, syntax, notation, axiom, sorry.
-/
import Derived.Test.YtbckhmpkgokbeaaChecked
import GoSem.Claim
import GoSem.ClaimJoined
import GoSem.ClaimMapViews
import Derived.JoinedTies
import Derived.KernelRfl
namespace Go.Proofs.Ytbckhmpkgokbeaa
/- THE CELL 'sum', in the pinned program and in every row, IS THE sha256 OF THE DUMP (.gsa) THAT YtbckhmpkgokbeaaProg.lean LOADS. Nothing in Lean hashes anything: it is a label: what it is worth is what the hold of that sum in a sandbox is worth. -/
noncomputable def Try.pinned : Pinned := { name := "ytbckhmpkgokbeaa", sum := "aad21ab028798734b67731fe935b74da68297923632158056c8d843ee18135a9", checked := Try.checked }
namespace Rows
def none {H : Type} : Left H := { results := [], args := [] }

/-- 'thickettop.WholeChanges': WHATEVER THE INPUT: true; the input reads as it did. -/
def wholeChangesSpec : ChangeSpec := { name := "wholeChanges", fn := fun _ => fun
  | [] => { results := [.lit (.bool true)], args := [] }
  | _ => none }
def wholeChangesRow : OpenClaim := { program := "ytbckhmpkgokbeaa", sum := "aad21ab028798734b67731fe935b74da68297923632158056c8d843ee18135a9", func := "thicket/thickettop.WholeChanges", spec := "wholeChanges", apart := false }
def WholeChangesSaid : Prop := wholeChangesRow.holds Try.pinned (OpenSpec.ofChange wholeChangesSpec)

/-- ITS FALSE NEIGHBOUR: 'it returns false'. Refute it at one input. -/
def wholeChangesWrong : ChangeSpec := { name := "wholeChanges", fn := fun _ => fun
  | [] => { results := [.lit (.bool false)], args := [] }
  | _ => none }
def WholeChangesWrongFalsely : Prop := wholeChangesRow.holds Try.pinned (OpenSpec.ofChange wholeChangesWrong)

/-- 'thickettop.WholePerms': WHATEVER THE INPUT: true; the input reads as it did. -/
def wholePermsSpec : ChangeSpec := { name := "wholePerms", fn := fun _ => fun
  | [d1, d2, d3] => { results := [.lit (.bool true)], args := [d1, d2, d3] }
  | _ => none }
def wholePermsRow : OpenClaim := { program := "ytbckhmpkgokbeaa", sum := "aad21ab028798734b67731fe935b74da68297923632158056c8d843ee18135a9", func := "thicket/thickettop.WholePerms", spec := "wholePerms", apart := false }
def WholePermsSaid : Prop := wholePermsRow.holds Try.pinned (OpenSpec.ofChange wholePermsSpec)

/-- ITS FALSE NEIGHBOUR: 'it returns false'. Refute it at one input. -/
def wholePermsWrong : ChangeSpec := { name := "wholePerms", fn := fun _ => fun
  | [d1, d2, d3] => { results := [.lit (.bool false)], args := [d1, d2, d3] }
  | _ => none }
def WholePermsWrongFalsely : Prop := wholePermsRow.holds Try.pinned (OpenSpec.ofChange wholePermsWrong)

/- THE SECOND FORM. 'bulk': how many values and letters a reading holds, each counted each time it is reached (what is shared counts as often as it is met; a slice's spare places count too). A statement '..UptoSaid' is the law's where the arguments, and the package variables that the reading takes, are together of bulk at most 1048576: NARROWER than '..Said'. Prove '..Said' where nothing that the law and all that it calls make is longer than what came in: it says more and counts as full. Else prove '..UptoSaid'. A law counts once. -/
mutual
def uptoBulk {H : Type} : DataW H → Nat
  | .lit (.string bytes) => bytes.length + 1
  | .lit _ => 1
  | .nil => 1
  | .ptr d => uptoBulk d + 1
  | .slice elems spare => uptoBulkAll elems + uptoBulkAll spare + 1
  | .agg parts => uptoBulkAll parts + 1
  | .iface _ d => uptoBulk d + 1
  | .map entries => uptoBulkEntries entries + 1
  | .held _ => 1
def uptoBulkAll {H : Type} : List (DataW H) → Nat
  | [] => 0
  | d :: r => uptoBulk d + uptoBulkAll r
def uptoBulkEntries {H : Type} : List (Lit × DataW H) → Nat
  | [] => 0
  | x :: r => uptoBulkEntry x + uptoBulkEntries r
def uptoBulkEntry {H : Type} : Lit × DataW H → Nat
  | (.string bytes, d) => bytes.length + uptoBulk d + 1
  | (_, d) => uptoBulk d + 1
 end
def uptoSmall : (H : Type) → List (DataW H) → Bool := fun _ ds => decide (uptoBulkAll ds ≤ 1048576)
def OpenSpec.upto (s : _root_.Go.ChangeSpec) : _root_.Go.OpenSpec := { _root_.Go.OpenSpec.ofChange s with cond := some uptoSmall }

/-- 'thickettop.WholeChanges', WHERE WHAT IT READS IS OF BULK AT MOST 1048576: true; the input reads as it did. -/
def wholeChangesUptoRow : OpenClaim := { program := "ytbckhmpkgokbeaa", sum := "aad21ab028798734b67731fe935b74da68297923632158056c8d843ee18135a9", func := "thicket/thickettop.WholeChanges", spec := "wholeChanges", apart := false, narrowed := true }
def WholeChangesUptoSaid : Prop := wholeChangesUptoRow.holds Try.pinned (OpenSpec.upto wholeChangesSpec)

/-- 'thickettop.WholePerms', WHERE WHAT IT READS IS OF BULK AT MOST 1048576: true; the input reads as it did. -/
def wholePermsUptoRow : OpenClaim := { program := "ytbckhmpkgokbeaa", sum := "aad21ab028798734b67731fe935b74da68297923632158056c8d843ee18135a9", func := "thicket/thickettop.WholePerms", spec := "wholePerms", apart := false, narrowed := true }
def WholePermsUptoSaid : Prop := wholePermsUptoRow.holds Try.pinned (OpenSpec.upto wholePermsSpec)

end Rows
end Go.Proofs.Ytbckhmpkgokbeaa
