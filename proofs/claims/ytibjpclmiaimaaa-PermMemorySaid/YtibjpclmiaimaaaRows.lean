/-
  No cell of these rows narrows 'for every input' (looked for: loops, veiled, ifaces, maps, wideKeys, modest, calm, conditions, laid).
  DERIVED. THE GIVEN ROWS OF THIS SEAT. 9 by the template 'for every input the law returns true; each argument reads behind the call as it read before'; 0 by the template 'total and deterministic' (their statements: YtibjpclmiaimaaaTotals.lean).
  GIVEN WITH THE SEED: the statements are not yours to turn. If you find one false, say at which input.
  Laid BY PROGRAM, IN A SANDBOX (cutbox-rows.mjs): the forced cells as the released guide's own fill.sh prints them over the translation c847acd367beb63e… (all of the seat's roots in one cut). By AI agents, Wed Nov 11 2026. No macro, syntax, notation, axiom, sorry.
-/
import Derived.Test.YtibjpclmiaimaaaChecked
import GoSem.Claim
import GoSem.ClaimJoined
import GoSem.ClaimMapViews
import Derived.JoinedTies
import Derived.KernelRfl
namespace Go.Proofs.Ytibjpclmiaimaaa
/- THE CELL 'sum', in the pinned program and in every row, IS THE sha256 OF THE DUMP (.gsa) THAT YtibjpclmiaimaaaProg.lean LOADS. Nothing in Lean hashes anything: it is a label: what it is worth is what the hold of that sum in a sandbox is worth. -/
noncomputable def Try.pinned : Pinned := { name := "ytibjpclmiaimaaa", sum := "c847acd367beb63ec75a6edd1dbb358bd5b280c5491d45eab98f177a667fec76", checked := Try.checked }
namespace Rows
def none {H : Type} : Left H := { results := [], args := [] }

/-- 'thicketlaw02.PermTwos': WHATEVER THE INPUT: true; the input reads as it did. -/
def permTwosSpec : ChangeSpec := { name := "permTwos", fn := fun _ => fun
  | [d1, d2] => { results := [.lit (.bool true)], args := [d1, d2] }
  | _ => none }
def permTwosRow : OpenClaim := { program := "ytibjpclmiaimaaa", sum := "c847acd367beb63ec75a6edd1dbb358bd5b280c5491d45eab98f177a667fec76", func := "thicket/thicketlaw02.PermTwos", spec := "permTwos", apart := false }
def PermTwosSaid : Prop := permTwosRow.holds Try.pinned (OpenSpec.ofChange permTwosSpec)

/-- ITS FALSE NEIGHBOUR: 'it returns false'. Refute it at one input. -/
def permTwosWrong : ChangeSpec := { name := "permTwos", fn := fun _ => fun
  | [d1, d2] => { results := [.lit (.bool false)], args := [d1, d2] }
  | _ => none }
def PermTwosWrongFalsely : Prop := permTwosRow.holds Try.pinned (OpenSpec.ofChange permTwosWrong)

/-- 'thicketlaw02.PermUndoes': WHATEVER THE INPUT: true; the input reads as it did. -/
def permUndoesSpec : ChangeSpec := { name := "permUndoes", fn := fun _ => fun
  | [d1, d2] => { results := [.lit (.bool true)], args := [d1, d2] }
  | _ => none }
def permUndoesRow : OpenClaim := { program := "ytibjpclmiaimaaa", sum := "c847acd367beb63ec75a6edd1dbb358bd5b280c5491d45eab98f177a667fec76", func := "thicket/thicketlaw02.PermUndoes", spec := "permUndoes", apart := false }
def PermUndoesSaid : Prop := permUndoesRow.holds Try.pinned (OpenSpec.ofChange permUndoesSpec)

/-- ITS FALSE NEIGHBOUR: 'it returns false'. Refute it at one input. -/
def permUndoesWrong : ChangeSpec := { name := "permUndoes", fn := fun _ => fun
  | [d1, d2] => { results := [.lit (.bool false)], args := [d1, d2] }
  | _ => none }
def PermUndoesWrongFalsely : Prop := permUndoesRow.holds Try.pinned (OpenSpec.ofChange permUndoesWrong)

/-- 'thicketlaw02.PermAll': WHATEVER THE INPUT: true; the input reads as it did. -/
def permAllSpec : ChangeSpec := { name := "permAll", fn := fun _ => fun
  | [] => { results := [.lit (.bool true)], args := [] }
  | _ => none }
def permAllRow : OpenClaim := { program := "ytibjpclmiaimaaa", sum := "c847acd367beb63ec75a6edd1dbb358bd5b280c5491d45eab98f177a667fec76", func := "thicket/thicketlaw02.PermAll", spec := "permAll", apart := false }
def PermAllSaid : Prop := permAllRow.holds Try.pinned (OpenSpec.ofChange permAllSpec)

/-- ITS FALSE NEIGHBOUR: 'it returns false'. Refute it at one input. -/
def permAllWrong : ChangeSpec := { name := "permAll", fn := fun _ => fun
  | [] => { results := [.lit (.bool false)], args := [] }
  | _ => none }
def PermAllWrongFalsely : Prop := permAllRow.holds Try.pinned (OpenSpec.ofChange permAllWrong)

/-- 'thicketlaw02.PermOnes': WHATEVER THE INPUT: true; the input reads as it did. -/
def permOnesSpec : ChangeSpec := { name := "permOnes", fn := fun _ => fun
  | [d1, d2] => { results := [.lit (.bool true)], args := [d1, d2] }
  | _ => none }
def permOnesRow : OpenClaim := { program := "ytibjpclmiaimaaa", sum := "c847acd367beb63ec75a6edd1dbb358bd5b280c5491d45eab98f177a667fec76", func := "thicket/thicketlaw02.PermOnes", spec := "permOnes", apart := false }
def PermOnesSaid : Prop := permOnesRow.holds Try.pinned (OpenSpec.ofChange permOnesSpec)

/-- ITS FALSE NEIGHBOUR: 'it returns false'. Refute it at one input. -/
def permOnesWrong : ChangeSpec := { name := "permOnes", fn := fun _ => fun
  | [d1, d2] => { results := [.lit (.bool false)], args := [d1, d2] }
  | _ => none }
def PermOnesWrongFalsely : Prop := permOnesRow.holds Try.pinned (OpenSpec.ofChange permOnesWrong)

/-- 'thicketlaw02.PermLeads': WHATEVER THE INPUT: true; the input reads as it did. -/
def permLeadsSpec : ChangeSpec := { name := "permLeads", fn := fun _ => fun
  | [d1, d2] => { results := [.lit (.bool true)], args := [d1, d2] }
  | _ => none }
def permLeadsRow : OpenClaim := { program := "ytibjpclmiaimaaa", sum := "c847acd367beb63ec75a6edd1dbb358bd5b280c5491d45eab98f177a667fec76", func := "thicket/thicketlaw02.PermLeads", spec := "permLeads", apart := false }
def PermLeadsSaid : Prop := permLeadsRow.holds Try.pinned (OpenSpec.ofChange permLeadsSpec)

/-- ITS FALSE NEIGHBOUR: 'it returns false'. Refute it at one input. -/
def permLeadsWrong : ChangeSpec := { name := "permLeads", fn := fun _ => fun
  | [d1, d2] => { results := [.lit (.bool false)], args := [d1, d2] }
  | _ => none }
def PermLeadsWrongFalsely : Prop := permLeadsRow.holds Try.pinned (OpenSpec.ofChange permLeadsWrong)

/-- 'thicketlaw02.PermRanks': WHATEVER THE INPUT: true; the input reads as it did. -/
def permRanksSpec : ChangeSpec := { name := "permRanks", fn := fun _ => fun
  | [d1, d2, d3] => { results := [.lit (.bool true)], args := [d1, d2, d3] }
  | _ => none }
def permRanksRow : OpenClaim := { program := "ytibjpclmiaimaaa", sum := "c847acd367beb63ec75a6edd1dbb358bd5b280c5491d45eab98f177a667fec76", func := "thicket/thicketlaw02.PermRanks", spec := "permRanks", apart := false }
def PermRanksSaid : Prop := permRanksRow.holds Try.pinned (OpenSpec.ofChange permRanksSpec)

/-- ITS FALSE NEIGHBOUR: 'it returns false'. Refute it at one input. -/
def permRanksWrong : ChangeSpec := { name := "permRanks", fn := fun _ => fun
  | [d1, d2, d3] => { results := [.lit (.bool false)], args := [d1, d2, d3] }
  | _ => none }
def PermRanksWrongFalsely : Prop := permRanksRow.holds Try.pinned (OpenSpec.ofChange permRanksWrong)

/-- 'thicketlaw02.PermNumbers': WHATEVER THE INPUT: true; the input reads as it did. -/
def permNumbersSpec : ChangeSpec := { name := "permNumbers", fn := fun _ => fun
  | [d1, d2] => { results := [.lit (.bool true)], args := [d1, d2] }
  | _ => none }
def permNumbersRow : OpenClaim := { program := "ytibjpclmiaimaaa", sum := "c847acd367beb63ec75a6edd1dbb358bd5b280c5491d45eab98f177a667fec76", func := "thicket/thicketlaw02.PermNumbers", spec := "permNumbers", apart := false }
def PermNumbersSaid : Prop := permNumbersRow.holds Try.pinned (OpenSpec.ofChange permNumbersSpec)

/-- ITS FALSE NEIGHBOUR: 'it returns false'. Refute it at one input. -/
def permNumbersWrong : ChangeSpec := { name := "permNumbers", fn := fun _ => fun
  | [d1, d2] => { results := [.lit (.bool false)], args := [d1, d2] }
  | _ => none }
def PermNumbersWrongFalsely : Prop := permNumbersRow.holds Try.pinned (OpenSpec.ofChange permNumbersWrong)

/-- 'thicketlaw02.PermMemory': WHATEVER THE INPUT: true; the input reads as it did. -/
def permMemorySpec : ChangeSpec := { name := "permMemory", fn := fun _ => fun
  | [d1, d2, d3, d4] => { results := [.lit (.bool true)], args := [d1, d2, d3, d4] }
  | _ => none }
def permMemoryRow : OpenClaim := { program := "ytibjpclmiaimaaa", sum := "c847acd367beb63ec75a6edd1dbb358bd5b280c5491d45eab98f177a667fec76", func := "thicket/thicketlaw02.PermMemory", spec := "permMemory", apart := false }
def PermMemorySaid : Prop := permMemoryRow.holds Try.pinned (OpenSpec.ofChange permMemorySpec)

/-- ITS FALSE NEIGHBOUR: 'it returns false'. Refute it at one input. -/
def permMemoryWrong : ChangeSpec := { name := "permMemory", fn := fun _ => fun
  | [d1, d2, d3, d4] => { results := [.lit (.bool false)], args := [d1, d2, d3, d4] }
  | _ => none }
def PermMemoryWrongFalsely : Prop := permMemoryRow.holds Try.pinned (OpenSpec.ofChange permMemoryWrong)

/-- 'thicketlaw02.PermFixed': WHATEVER THE INPUT: true; the input reads as it did. -/
def permFixedSpec : ChangeSpec := { name := "permFixed", fn := fun _ => fun
  | [] => { results := [.lit (.bool true)], args := [] }
  | _ => none }
def permFixedRow : OpenClaim := { program := "ytibjpclmiaimaaa", sum := "c847acd367beb63ec75a6edd1dbb358bd5b280c5491d45eab98f177a667fec76", func := "thicket/thicketlaw02.PermFixed", spec := "permFixed", apart := false }
def PermFixedSaid : Prop := permFixedRow.holds Try.pinned (OpenSpec.ofChange permFixedSpec)

/-- ITS FALSE NEIGHBOUR: 'it returns false'. Refute it at one input. -/
def permFixedWrong : ChangeSpec := { name := "permFixed", fn := fun _ => fun
  | [] => { results := [.lit (.bool false)], args := [] }
  | _ => none }
def PermFixedWrongFalsely : Prop := permFixedRow.holds Try.pinned (OpenSpec.ofChange permFixedWrong)

/- THE SECOND FORM. 'bulk': how many values and letters a reading holds, each counted each time it is reached (what is shared counts as often as it is met; a slice's spare places count too). A statement '..UptoSaid' is the law's where the arguments, and the package variables that the reading takes, are together of bulk at most 1048576: NARROWER than '..Said'. Prove '..Said' where nothing that the law and all that it calls make is longer than what came in: it says more and counts as full. Else prove '..UptoSaid'. A law counts once. -/
mutual
def uptoBulk {H : Type} : DataW H → Nat
  | .lit (.string bytes) => bytes.length + 1
  | .lit _ => 1
  | .nil => 1
  | .ptr d => uptoBulk d + 1
  | .slice elems spare => uptoBulkAll elems + uptoBulkAll spare + 1
  | .agg parts => uptoBulkAll parts + 1
  | .iface _ d => uptoBulk d + 1
  | .map entries => uptoBulkEntries entries + 1
  | .held _ => 1
def uptoBulkAll {H : Type} : List (DataW H) → Nat
  | [] => 0
  | d :: r => uptoBulk d + uptoBulkAll r
def uptoBulkEntries {H : Type} : List (Lit × DataW H) → Nat
  | [] => 0
  | x :: r => uptoBulkEntry x + uptoBulkEntries r
def uptoBulkEntry {H : Type} : Lit × DataW H → Nat
  | (.string bytes, d) => bytes.length + uptoBulk d + 1
  | (_, d) => uptoBulk d + 1
 end
def uptoSmall : (H : Type) → List (DataW H) → Bool := fun _ ds => decide (uptoBulkAll ds ≤ 1048576)
def OpenSpec.upto (s : _root_.Go.ChangeSpec) : _root_.Go.OpenSpec := { _root_.Go.OpenSpec.ofChange s with cond := some uptoSmall }

/-- 'thicketlaw02.PermTwos', WHERE WHAT IT READS IS OF BULK AT MOST 1048576: true; the input reads as it did. -/
def permTwosUptoRow : OpenClaim := { program := "ytibjpclmiaimaaa", sum := "c847acd367beb63ec75a6edd1dbb358bd5b280c5491d45eab98f177a667fec76", func := "thicket/thicketlaw02.PermTwos", spec := "permTwos", apart := false, narrowed := true }
def PermTwosUptoSaid : Prop := permTwosUptoRow.holds Try.pinned (OpenSpec.upto permTwosSpec)

/-- 'thicketlaw02.PermUndoes', WHERE WHAT IT READS IS OF BULK AT MOST 1048576: true; the input reads as it did. -/
def permUndoesUptoRow : OpenClaim := { program := "ytibjpclmiaimaaa", sum := "c847acd367beb63ec75a6edd1dbb358bd5b280c5491d45eab98f177a667fec76", func := "thicket/thicketlaw02.PermUndoes", spec := "permUndoes", apart := false, narrowed := true }
def PermUndoesUptoSaid : Prop := permUndoesUptoRow.holds Try.pinned (OpenSpec.upto permUndoesSpec)

/-- 'thicketlaw02.PermAll', WHERE WHAT IT READS IS OF BULK AT MOST 1048576: true; the input reads as it did. -/
def permAllUptoRow : OpenClaim := { program := "ytibjpclmiaimaaa", sum := "c847acd367beb63ec75a6edd1dbb358bd5b280c5491d45eab98f177a667fec76", func := "thicket/thicketlaw02.PermAll", spec := "permAll", apart := false, narrowed := true }
def PermAllUptoSaid : Prop := permAllUptoRow.holds Try.pinned (OpenSpec.upto permAllSpec)

/-- 'thicketlaw02.PermOnes', WHERE WHAT IT READS IS OF BULK AT MOST 1048576: true; the input reads as it did. -/
def permOnesUptoRow : OpenClaim := { program := "ytibjpclmiaimaaa", sum := "c847acd367beb63ec75a6edd1dbb358bd5b280c5491d45eab98f177a667fec76", func := "thicket/thicketlaw02.PermOnes", spec := "permOnes", apart := false, narrowed := true }
def PermOnesUptoSaid : Prop := permOnesUptoRow.holds Try.pinned (OpenSpec.upto permOnesSpec)

/-- 'thicketlaw02.PermLeads', WHERE WHAT IT READS IS OF BULK AT MOST 1048576: true; the input reads as it did. -/
def permLeadsUptoRow : OpenClaim := { program := "ytibjpclmiaimaaa", sum := "c847acd367beb63ec75a6edd1dbb358bd5b280c5491d45eab98f177a667fec76", func := "thicket/thicketlaw02.PermLeads", spec := "permLeads", apart := false, narrowed := true }
def PermLeadsUptoSaid : Prop := permLeadsUptoRow.holds Try.pinned (OpenSpec.upto permLeadsSpec)

/-- 'thicketlaw02.PermRanks', WHERE WHAT IT READS IS OF BULK AT MOST 1048576: true; the input reads as it did. -/
def permRanksUptoRow : OpenClaim := { program := "ytibjpclmiaimaaa", sum := "c847acd367beb63ec75a6edd1dbb358bd5b280c5491d45eab98f177a667fec76", func := "thicket/thicketlaw02.PermRanks", spec := "permRanks", apart := false, narrowed := true }
def PermRanksUptoSaid : Prop := permRanksUptoRow.holds Try.pinned (OpenSpec.upto permRanksSpec)

/-- 'thicketlaw02.PermNumbers', WHERE WHAT IT READS IS OF BULK AT MOST 1048576: true; the input reads as it did. -/
def permNumbersUptoRow : OpenClaim := { program := "ytibjpclmiaimaaa", sum := "c847acd367beb63ec75a6edd1dbb358bd5b280c5491d45eab98f177a667fec76", func := "thicket/thicketlaw02.PermNumbers", spec := "permNumbers", apart := false, narrowed := true }
def PermNumbersUptoSaid : Prop := permNumbersUptoRow.holds Try.pinned (OpenSpec.upto permNumbersSpec)

/-- 'thicketlaw02.PermMemory', WHERE WHAT IT READS IS OF BULK AT MOST 1048576: true; the input reads as it did. -/
def permMemoryUptoRow : OpenClaim := { program := "ytibjpclmiaimaaa", sum := "c847acd367beb63ec75a6edd1dbb358bd5b280c5491d45eab98f177a667fec76", func := "thicket/thicketlaw02.PermMemory", spec := "permMemory", apart := false, narrowed := true }
def PermMemoryUptoSaid : Prop := permMemoryUptoRow.holds Try.pinned (OpenSpec.upto permMemorySpec)

/-- 'thicketlaw02.PermFixed', WHERE WHAT IT READS IS OF BULK AT MOST 1048576: true; the input reads as it did. -/
def permFixedUptoRow : OpenClaim := { program := "ytibjpclmiaimaaa", sum := "c847acd367beb63ec75a6edd1dbb358bd5b280c5491d45eab98f177a667fec76", func := "thicket/thicketlaw02.PermFixed", spec := "permFixed", apart := false, narrowed := true }
def PermFixedUptoSaid : Prop := permFixedUptoRow.holds Try.pinned (OpenSpec.upto permFixedSpec)

end Rows
end Go.Proofs.Ytibjpclmiaimaaa
