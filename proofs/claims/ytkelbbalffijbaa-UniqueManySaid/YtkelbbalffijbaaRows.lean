/-
  No cell of these rows narrows 'for every input' (looked for: loops, veiled, ifaces, maps, wideKeys, modest, calm, conditions, laid).
  DERIVED. THE GIVEN ROWS OF THIS SEAT. 5 by the template 'for every input the law returns true; each argument reads behind the call as it read before'; 0 by the template 'total and deterministic' (their statements: YtkelbbalffijbaaTotals.lean).
  GIVEN WITH THE SEED: the statements are not yours to turn. If you find one false, say at which input.
  Laid BY PROGRAM, IN A SANDBOX (cutbox-rows.mjs): the forced cells as the released guide's own fill.sh prints them over the translation b69b5fc67c934dbd… (all of the seat's roots in one cut). By AI agents, Wed Nov 11 2026. No macro, syntax, notation, axiom, sorry.
-/
import Derived.Test.YtkelbbalffijbaaChecked
import GoSem.Claim
import GoSem.ClaimJoined
import GoSem.ClaimMapViews
import Derived.JoinedTies
import Derived.KernelRfl
namespace Go.Proofs.Ytkelbbalffijbaa
/- THE CELL 'sum', in the pinned program and in every row, IS THE sha256 OF THE DUMP (.gsa) THAT YtkelbbalffijbaaProg.lean LOADS. Nothing in Lean hashes anything: it is a label: what it is worth is what the hold of that sum in a sandbox is worth. -/
noncomputable def Try.pinned : Pinned := { name := "ytkelbbalffijbaa", sum := "b69b5fc67c934dbd28dd035bae2ca42f43ca4eb1d4aa6e3ce1a78ef9906bfcd5", checked := Try.checked }
namespace Rows
def none {H : Type} : Left H := { results := [], args := [] }

/-- 'thicketlaw07.UniquePlays': WHATEVER THE INPUT: true; the input reads as it did. -/
def uniquePlaysSpec : ChangeSpec := { name := "uniquePlays", fn := fun _ => fun
  | [d1, d2] => { results := [.lit (.bool true)], args := [d1, d2] }
  | _ => none }
def uniquePlaysRow : OpenClaim := { program := "ytkelbbalffijbaa", sum := "b69b5fc67c934dbd28dd035bae2ca42f43ca4eb1d4aa6e3ce1a78ef9906bfcd5", func := "thicket/thicketlaw07.UniquePlays", spec := "uniquePlays", unfollowed := true, recurses := true, plainKeys := false, apart := false }
def UniquePlaysSaid : Prop := uniquePlaysRow.holds Try.pinned (OpenSpec.ofChange uniquePlaysSpec)

/-- ITS FALSE NEIGHBOUR: 'it returns false'. Refute it at one input. -/
def uniquePlaysWrong : ChangeSpec := { name := "uniquePlays", fn := fun _ => fun
  | [d1, d2] => { results := [.lit (.bool false)], args := [d1, d2] }
  | _ => none }
def UniquePlaysWrongFalsely : Prop := uniquePlaysRow.holds Try.pinned (OpenSpec.ofChange uniquePlaysWrong)

/-- 'thicketlaw07.UniqueEmpty': WHATEVER THE INPUT: true; the input reads as it did. -/
def uniqueEmptySpec : ChangeSpec := { name := "uniqueEmpty", fn := fun _ => fun
  | [d1, d2, d3] => { results := [.lit (.bool true)], args := [d1, d2, d3] }
  | _ => none }
def uniqueEmptyRow : OpenClaim := { program := "ytkelbbalffijbaa", sum := "b69b5fc67c934dbd28dd035bae2ca42f43ca4eb1d4aa6e3ce1a78ef9906bfcd5", func := "thicket/thicketlaw07.UniqueEmpty", spec := "uniqueEmpty", unfollowed := true, recurses := true, plainKeys := false, apart := false }
def UniqueEmptySaid : Prop := uniqueEmptyRow.holds Try.pinned (OpenSpec.ofChange uniqueEmptySpec)

/-- ITS FALSE NEIGHBOUR: 'it returns false'. Refute it at one input. -/
def uniqueEmptyWrong : ChangeSpec := { name := "uniqueEmpty", fn := fun _ => fun
  | [d1, d2, d3] => { results := [.lit (.bool false)], args := [d1, d2, d3] }
  | _ => none }
def UniqueEmptyWrongFalsely : Prop := uniqueEmptyRow.holds Try.pinned (OpenSpec.ofChange uniqueEmptyWrong)

/-- 'thicketlaw07.UniqueKeeps': WHATEVER THE INPUT: true; the input reads as it did. -/
def uniqueKeepsSpec : ChangeSpec := { name := "uniqueKeeps", fn := fun _ => fun
  | [d1, d2, d3] => { results := [.lit (.bool true)], args := [d1, d2, d3] }
  | _ => none }
def uniqueKeepsRow : OpenClaim := { program := "ytkelbbalffijbaa", sum := "b69b5fc67c934dbd28dd035bae2ca42f43ca4eb1d4aa6e3ce1a78ef9906bfcd5", func := "thicket/thicketlaw07.UniqueKeeps", spec := "uniqueKeeps", unfollowed := true, recurses := true, plainKeys := false, apart := false }
def UniqueKeepsSaid : Prop := uniqueKeepsRow.holds Try.pinned (OpenSpec.ofChange uniqueKeepsSpec)

/-- ITS FALSE NEIGHBOUR: 'it returns false'. Refute it at one input. -/
def uniqueKeepsWrong : ChangeSpec := { name := "uniqueKeeps", fn := fun _ => fun
  | [d1, d2, d3] => { results := [.lit (.bool false)], args := [d1, d2, d3] }
  | _ => none }
def UniqueKeepsWrongFalsely : Prop := uniqueKeepsRow.holds Try.pinned (OpenSpec.ofChange uniqueKeepsWrong)

/-- 'thicketlaw07.UniqueMany': WHATEVER THE INPUT: true; the input reads as it did. -/
def uniqueManySpec : ChangeSpec := { name := "uniqueMany", fn := fun _ => fun
  | [d1, d2, d3, d4] => { results := [.lit (.bool true)], args := [d1, d2, d3, d4] }
  | _ => none }
def uniqueManyRow : OpenClaim := { program := "ytkelbbalffijbaa", sum := "b69b5fc67c934dbd28dd035bae2ca42f43ca4eb1d4aa6e3ce1a78ef9906bfcd5", func := "thicket/thicketlaw07.UniqueMany", spec := "uniqueMany", unfollowed := true, recurses := true, plainKeys := false, apart := false }
def UniqueManySaid : Prop := uniqueManyRow.holds Try.pinned (OpenSpec.ofChange uniqueManySpec)

/-- ITS FALSE NEIGHBOUR: 'it returns false'. Refute it at one input. -/
def uniqueManyWrong : ChangeSpec := { name := "uniqueMany", fn := fun _ => fun
  | [d1, d2, d3, d4] => { results := [.lit (.bool false)], args := [d1, d2, d3, d4] }
  | _ => none }
def UniqueManyWrongFalsely : Prop := uniqueManyRow.holds Try.pinned (OpenSpec.ofChange uniqueManyWrong)

/-- 'thicketlaw07.UniqueOrder': WHATEVER THE INPUT: true; the input reads as it did. -/
def uniqueOrderSpec : ChangeSpec := { name := "uniqueOrder", fn := fun _ => fun
  | [d1, d2, d3] => { results := [.lit (.bool true)], args := [d1, d2, d3] }
  | _ => none }
def uniqueOrderRow : OpenClaim := { program := "ytkelbbalffijbaa", sum := "b69b5fc67c934dbd28dd035bae2ca42f43ca4eb1d4aa6e3ce1a78ef9906bfcd5", func := "thicket/thicketlaw07.UniqueOrder", spec := "uniqueOrder", unfollowed := true, recurses := true, plainKeys := false, apart := false }
def UniqueOrderSaid : Prop := uniqueOrderRow.holds Try.pinned (OpenSpec.ofChange uniqueOrderSpec)

/-- ITS FALSE NEIGHBOUR: 'it returns false'. Refute it at one input. -/
def uniqueOrderWrong : ChangeSpec := { name := "uniqueOrder", fn := fun _ => fun
  | [d1, d2, d3] => { results := [.lit (.bool false)], args := [d1, d2, d3] }
  | _ => none }
def UniqueOrderWrongFalsely : Prop := uniqueOrderRow.holds Try.pinned (OpenSpec.ofChange uniqueOrderWrong)

/- THE SECOND FORM. 'bulk': how many values and letters a reading holds, each counted each time it is reached (what is shared counts as often as it is met; a slice's spare places count too). A statement '..UptoSaid' is the law's where the arguments, and the package variables that the reading takes, are together of bulk at most 1048576: NARROWER than '..Said'. Prove '..Said' where nothing that the law and all that it calls make is longer than what came in: it says more and counts as full. Else prove '..UptoSaid'. A law counts once. -/
mutual
def uptoBulk {H : Type} : DataW H → Nat
  | .lit (.string bytes) => bytes.length + 1
  | .lit _ => 1
  | .nil => 1
  | .ptr d => uptoBulk d + 1
  | .slice elems spare => uptoBulkAll elems + uptoBulkAll spare + 1
  | .agg parts => uptoBulkAll parts + 1
  | .iface _ d => uptoBulk d + 1
  | .map entries => uptoBulkEntries entries + 1
  | .held _ => 1
def uptoBulkAll {H : Type} : List (DataW H) → Nat
  | [] => 0
  | d :: r => uptoBulk d + uptoBulkAll r
def uptoBulkEntries {H : Type} : List (Lit × DataW H) → Nat
  | [] => 0
  | x :: r => uptoBulkEntry x + uptoBulkEntries r
def uptoBulkEntry {H : Type} : Lit × DataW H → Nat
  | (.string bytes, d) => bytes.length + uptoBulk d + 1
  | (_, d) => uptoBulk d + 1
 end
def uptoSmall : (H : Type) → List (DataW H) → Bool := fun _ ds => decide (uptoBulkAll ds ≤ 1048576)
def OpenSpec.upto (s : _root_.Go.ChangeSpec) : _root_.Go.OpenSpec := { _root_.Go.OpenSpec.ofChange s with cond := some uptoSmall }

/-- 'thicketlaw07.UniquePlays', WHERE WHAT IT READS IS OF BULK AT MOST 1048576: true; the input reads as it did. -/
def uniquePlaysUptoRow : OpenClaim := { program := "ytkelbbalffijbaa", sum := "b69b5fc67c934dbd28dd035bae2ca42f43ca4eb1d4aa6e3ce1a78ef9906bfcd5", func := "thicket/thicketlaw07.UniquePlays", spec := "uniquePlays", unfollowed := true, recurses := true, plainKeys := false, apart := false, narrowed := true }
def UniquePlaysUptoSaid : Prop := uniquePlaysUptoRow.holds Try.pinned (OpenSpec.upto uniquePlaysSpec)

/-- 'thicketlaw07.UniqueEmpty', WHERE WHAT IT READS IS OF BULK AT MOST 1048576: true; the input reads as it did. -/
def uniqueEmptyUptoRow : OpenClaim := { program := "ytkelbbalffijbaa", sum := "b69b5fc67c934dbd28dd035bae2ca42f43ca4eb1d4aa6e3ce1a78ef9906bfcd5", func := "thicket/thicketlaw07.UniqueEmpty", spec := "uniqueEmpty", unfollowed := true, recurses := true, plainKeys := false, apart := false, narrowed := true }
def UniqueEmptyUptoSaid : Prop := uniqueEmptyUptoRow.holds Try.pinned (OpenSpec.upto uniqueEmptySpec)

/-- 'thicketlaw07.UniqueKeeps', WHERE WHAT IT READS IS OF BULK AT MOST 1048576: true; the input reads as it did. -/
def uniqueKeepsUptoRow : OpenClaim := { program := "ytkelbbalffijbaa", sum := "b69b5fc67c934dbd28dd035bae2ca42f43ca4eb1d4aa6e3ce1a78ef9906bfcd5", func := "thicket/thicketlaw07.UniqueKeeps", spec := "uniqueKeeps", unfollowed := true, recurses := true, plainKeys := false, apart := false, narrowed := true }
def UniqueKeepsUptoSaid : Prop := uniqueKeepsUptoRow.holds Try.pinned (OpenSpec.upto uniqueKeepsSpec)

/-- 'thicketlaw07.UniqueMany', WHERE WHAT IT READS IS OF BULK AT MOST 1048576: true; the input reads as it did. -/
def uniqueManyUptoRow : OpenClaim := { program := "ytkelbbalffijbaa", sum := "b69b5fc67c934dbd28dd035bae2ca42f43ca4eb1d4aa6e3ce1a78ef9906bfcd5", func := "thicket/thicketlaw07.UniqueMany", spec := "uniqueMany", unfollowed := true, recurses := true, plainKeys := false, apart := false, narrowed := true }
def UniqueManyUptoSaid : Prop := uniqueManyUptoRow.holds Try.pinned (OpenSpec.upto uniqueManySpec)

/-- 'thicketlaw07.UniqueOrder', WHERE WHAT IT READS IS OF BULK AT MOST 1048576: true; the input reads as it did. -/
def uniqueOrderUptoRow : OpenClaim := { program := "ytkelbbalffijbaa", sum := "b69b5fc67c934dbd28dd035bae2ca42f43ca4eb1d4aa6e3ce1a78ef9906bfcd5", func := "thicket/thicketlaw07.UniqueOrder", spec := "uniqueOrder", unfollowed := true, recurses := true, plainKeys := false, apart := false, narrowed := true }
def UniqueOrderUptoSaid : Prop := uniqueOrderUptoRow.holds Try.pinned (OpenSpec.upto uniqueOrderSpec)

end Rows
end Go.Proofs.Ytkelbbalffijbaa
