/-
  No cell of these rows narrows 'for every input' (looked for: loops, veiled, ifaces, maps, wideKeys, modest, calm, conditions, laid).
  DERIVED. THE GIVEN ROWS OF THIS SEAT. 10 by the template 'for every input the law returns true; each argument reads behind the call as it read before'; 0 by the template 'total and deterministic' (their statements: YtlggmoghgoeiiaaTotals.lean).
  GIVEN WITH THE SEED: the statements are not yours to turn. If you find one false, say at which input.
  Laid BY PROGRAM, IN A SANDBOX (cutbox-rows.mjs): the forced cells as the released guide's own fill.sh prints them over the translation 01d4ef472379f1ce… (all of the seat's roots in one cut). By AI agents, Wed Nov 11 2026. No macro, syntax, notation, axiom, sorry.
-/
import Derived.Test.YtlggmoghgoeiiaaChecked
import GoSem.Claim
import GoSem.ClaimJoined
import GoSem.ClaimMapViews
import Derived.JoinedTies
import Derived.KernelRfl
namespace Go.Proofs.Ytlggmoghgoeiiaa
/- THE CELL 'sum', in the pinned program and in every row, IS THE sha256 OF THE DUMP (.gsa) THAT YtlggmoghgoeiiaaProg.lean LOADS. Nothing in Lean hashes anything: it is a label: what it is worth is what the hold of that sum in a sandbox is worth. -/
noncomputable def Try.pinned : Pinned := { name := "ytlggmoghgoeiiaa", sum := "01d4ef472379f1cef2712de177582c439cbd63d9f9aba0cc93b0cfd7b08bfaca", checked := Try.checked }
namespace Rows
def none {H : Type} : Left H := { results := [], args := [] }

/-- 'thicketlaw04.TruthGives': WHATEVER THE INPUT: true; the input reads as it did. -/
def truthGivesSpec : ChangeSpec := { name := "truthGives", fn := fun _ => fun
  | [d1, d2] => { results := [.lit (.bool true)], args := [d1, d2] }
  | _ => none }
def truthGivesRow : OpenClaim := { program := "ytlggmoghgoeiiaa", sum := "01d4ef472379f1cef2712de177582c439cbd63d9f9aba0cc93b0cfd7b08bfaca", func := "thicket/thicketlaw04.TruthGives", spec := "truthGives", unfollowed := true, recurses := true, apart := false }
def TruthGivesSaid : Prop := truthGivesRow.holds Try.pinned (OpenSpec.ofChange truthGivesSpec)

/-- ITS FALSE NEIGHBOUR: 'it returns false'. Refute it at one input. -/
def truthGivesWrong : ChangeSpec := { name := "truthGives", fn := fun _ => fun
  | [d1, d2] => { results := [.lit (.bool false)], args := [d1, d2] }
  | _ => none }
def TruthGivesWrongFalsely : Prop := truthGivesRow.holds Try.pinned (OpenSpec.ofChange truthGivesWrong)

/-- 'thicketlaw04.TruthPoints': WHATEVER THE INPUT: true; the input reads as it did. -/
def truthPointsSpec : ChangeSpec := { name := "truthPoints", fn := fun _ => fun
  | [d] => { results := [.lit (.bool true)], args := [d] }
  | _ => none }
def truthPointsRow : OpenClaim := { program := "ytlggmoghgoeiiaa", sum := "01d4ef472379f1cef2712de177582c439cbd63d9f9aba0cc93b0cfd7b08bfaca", func := "thicket/thicketlaw04.TruthPoints", spec := "truthPoints", unfollowed := true, recurses := true, apart := false }
def TruthPointsSaid : Prop := truthPointsRow.holds Try.pinned (OpenSpec.ofChange truthPointsSpec)

/-- ITS FALSE NEIGHBOUR: 'it returns false'. Refute it at one input. -/
def truthPointsWrong : ChangeSpec := { name := "truthPoints", fn := fun _ => fun
  | [d] => { results := [.lit (.bool false)], args := [d] }
  | _ => none }
def TruthPointsWrongFalsely : Prop := truthPointsRow.holds Try.pinned (OpenSpec.ofChange truthPointsWrong)

/-- 'thicketlaw04.TruthForms': WHATEVER THE INPUT: true; the input reads as it did. -/
def truthFormsSpec : ChangeSpec := { name := "truthForms", fn := fun _ => fun
  | [d1, d2, d3] => { results := [.lit (.bool true)], args := [d1, d2, d3] }
  | _ => none }
def truthFormsRow : OpenClaim := { program := "ytlggmoghgoeiiaa", sum := "01d4ef472379f1cef2712de177582c439cbd63d9f9aba0cc93b0cfd7b08bfaca", func := "thicket/thicketlaw04.TruthForms", spec := "truthForms", unfollowed := true, recurses := true, apart := false }
def TruthFormsSaid : Prop := truthFormsRow.holds Try.pinned (OpenSpec.ofChange truthFormsSpec)

/-- ITS FALSE NEIGHBOUR: 'it returns false'. Refute it at one input. -/
def truthFormsWrong : ChangeSpec := { name := "truthForms", fn := fun _ => fun
  | [d1, d2, d3] => { results := [.lit (.bool false)], args := [d1, d2, d3] }
  | _ => none }
def TruthFormsWrongFalsely : Prop := truthFormsRow.holds Try.pinned (OpenSpec.ofChange truthFormsWrong)

/-- 'thicketlaw04.TruthJoins': WHATEVER THE INPUT: true; the input reads as it did. -/
def truthJoinsSpec : ChangeSpec := { name := "truthJoins", fn := fun _ => fun
  | [d1, d2] => { results := [.lit (.bool true)], args := [d1, d2] }
  | _ => none }
def truthJoinsRow : OpenClaim := { program := "ytlggmoghgoeiiaa", sum := "01d4ef472379f1cef2712de177582c439cbd63d9f9aba0cc93b0cfd7b08bfaca", func := "thicket/thicketlaw04.TruthJoins", spec := "truthJoins", unfollowed := true, recurses := true, apart := false }
def TruthJoinsSaid : Prop := truthJoinsRow.holds Try.pinned (OpenSpec.ofChange truthJoinsSpec)

/-- ITS FALSE NEIGHBOUR: 'it returns false'. Refute it at one input. -/
def truthJoinsWrong : ChangeSpec := { name := "truthJoins", fn := fun _ => fun
  | [d1, d2] => { results := [.lit (.bool false)], args := [d1, d2] }
  | _ => none }
def TruthJoinsWrongFalsely : Prop := truthJoinsRow.holds Try.pinned (OpenSpec.ofChange truthJoinsWrong)

/-- 'thicketlaw04.TruthLaws': WHATEVER THE INPUT: true; the input reads as it did. -/
def truthLawsSpec : ChangeSpec := { name := "truthLaws", fn := fun _ => fun
  | [d1, d2] => { results := [.lit (.bool true)], args := [d1, d2] }
  | _ => none }
def truthLawsRow : OpenClaim := { program := "ytlggmoghgoeiiaa", sum := "01d4ef472379f1cef2712de177582c439cbd63d9f9aba0cc93b0cfd7b08bfaca", func := "thicket/thicketlaw04.TruthLaws", spec := "truthLaws", unfollowed := true, recurses := true, apart := false }
def TruthLawsSaid : Prop := truthLawsRow.holds Try.pinned (OpenSpec.ofChange truthLawsSpec)

/-- ITS FALSE NEIGHBOUR: 'it returns false'. Refute it at one input. -/
def truthLawsWrong : ChangeSpec := { name := "truthLaws", fn := fun _ => fun
  | [d1, d2] => { results := [.lit (.bool false)], args := [d1, d2] }
  | _ => none }
def TruthLawsWrongFalsely : Prop := truthLawsRow.holds Try.pinned (OpenSpec.ofChange truthLawsWrong)

/-- 'thicketlaw04.TruthRenames': WHATEVER THE INPUT: true; the input reads as it did. -/
def truthRenamesSpec : ChangeSpec := { name := "truthRenames", fn := fun _ => fun
  | [d1, d2] => { results := [.lit (.bool true)], args := [d1, d2] }
  | _ => none }
def truthRenamesRow : OpenClaim := { program := "ytlggmoghgoeiiaa", sum := "01d4ef472379f1cef2712de177582c439cbd63d9f9aba0cc93b0cfd7b08bfaca", func := "thicket/thicketlaw04.TruthRenames", spec := "truthRenames", unfollowed := true, recurses := true, apart := false }
def TruthRenamesSaid : Prop := truthRenamesRow.holds Try.pinned (OpenSpec.ofChange truthRenamesSpec)

/-- ITS FALSE NEIGHBOUR: 'it returns false'. Refute it at one input. -/
def truthRenamesWrong : ChangeSpec := { name := "truthRenames", fn := fun _ => fun
  | [d1, d2] => { results := [.lit (.bool false)], args := [d1, d2] }
  | _ => none }
def TruthRenamesWrongFalsely : Prop := truthRenamesRow.holds Try.pinned (OpenSpec.ofChange truthRenamesWrong)

/-- 'thicketlaw04.TruthTells': WHATEVER THE INPUT: true; the input reads as it did. -/
def truthTellsSpec : ChangeSpec := { name := "truthTells", fn := fun _ => fun
  | [d1, d2] => { results := [.lit (.bool true)], args := [d1, d2] }
  | _ => none }
def truthTellsRow : OpenClaim := { program := "ytlggmoghgoeiiaa", sum := "01d4ef472379f1cef2712de177582c439cbd63d9f9aba0cc93b0cfd7b08bfaca", func := "thicket/thicketlaw04.TruthTells", spec := "truthTells", unfollowed := true, recurses := true, apart := false }
def TruthTellsSaid : Prop := truthTellsRow.holds Try.pinned (OpenSpec.ofChange truthTellsSpec)

/-- ITS FALSE NEIGHBOUR: 'it returns false'. Refute it at one input. -/
def truthTellsWrong : ChangeSpec := { name := "truthTells", fn := fun _ => fun
  | [d1, d2] => { results := [.lit (.bool false)], args := [d1, d2] }
  | _ => none }
def TruthTellsWrongFalsely : Prop := truthTellsRow.holds Try.pinned (OpenSpec.ofChange truthTellsWrong)

/-- 'thicketlaw04.TruthShannon': WHATEVER THE INPUT: true; the input reads as it did. -/
def truthShannonSpec : ChangeSpec := { name := "truthShannon", fn := fun _ => fun
  | [d1, d2] => { results := [.lit (.bool true)], args := [d1, d2] }
  | _ => none }
def truthShannonRow : OpenClaim := { program := "ytlggmoghgoeiiaa", sum := "01d4ef472379f1cef2712de177582c439cbd63d9f9aba0cc93b0cfd7b08bfaca", func := "thicket/thicketlaw04.TruthShannon", spec := "truthShannon", unfollowed := true, recurses := true, apart := false }
def TruthShannonSaid : Prop := truthShannonRow.holds Try.pinned (OpenSpec.ofChange truthShannonSpec)

/-- ITS FALSE NEIGHBOUR: 'it returns false'. Refute it at one input. -/
def truthShannonWrong : ChangeSpec := { name := "truthShannon", fn := fun _ => fun
  | [d1, d2] => { results := [.lit (.bool false)], args := [d1, d2] }
  | _ => none }
def TruthShannonWrongFalsely : Prop := truthShannonRow.holds Try.pinned (OpenSpec.ofChange truthShannonWrong)

/-- 'thicketlaw04.TruthMoves': WHATEVER THE INPUT: true; the input reads as it did. -/
def truthMovesSpec : ChangeSpec := { name := "truthMoves", fn := fun _ => fun
  | [d1, d2, d3] => { results := [.lit (.bool true)], args := [d1, d2, d3] }
  | _ => none }
def truthMovesRow : OpenClaim := { program := "ytlggmoghgoeiiaa", sum := "01d4ef472379f1cef2712de177582c439cbd63d9f9aba0cc93b0cfd7b08bfaca", func := "thicket/thicketlaw04.TruthMoves", spec := "truthMoves", unfollowed := true, recurses := true, apart := false }
def TruthMovesSaid : Prop := truthMovesRow.holds Try.pinned (OpenSpec.ofChange truthMovesSpec)

/-- ITS FALSE NEIGHBOUR: 'it returns false'. Refute it at one input. -/
def truthMovesWrong : ChangeSpec := { name := "truthMoves", fn := fun _ => fun
  | [d1, d2, d3] => { results := [.lit (.bool false)], args := [d1, d2, d3] }
  | _ => none }
def TruthMovesWrongFalsely : Prop := truthMovesRow.holds Try.pinned (OpenSpec.ofChange truthMovesWrong)

/-- 'thicketlaw04.TruthKeeps': WHATEVER THE INPUT: true; the input reads as it did. -/
def truthKeepsSpec : ChangeSpec := { name := "truthKeeps", fn := fun _ => fun
  | [d1, d2, d3, d4] => { results := [.lit (.bool true)], args := [d1, d2, d3, d4] }
  | _ => none }
def truthKeepsRow : OpenClaim := { program := "ytlggmoghgoeiiaa", sum := "01d4ef472379f1cef2712de177582c439cbd63d9f9aba0cc93b0cfd7b08bfaca", func := "thicket/thicketlaw04.TruthKeeps", spec := "truthKeeps", unfollowed := true, recurses := true, apart := false }
def TruthKeepsSaid : Prop := truthKeepsRow.holds Try.pinned (OpenSpec.ofChange truthKeepsSpec)

/-- ITS FALSE NEIGHBOUR: 'it returns false'. Refute it at one input. -/
def truthKeepsWrong : ChangeSpec := { name := "truthKeeps", fn := fun _ => fun
  | [d1, d2, d3, d4] => { results := [.lit (.bool false)], args := [d1, d2, d3, d4] }
  | _ => none }
def TruthKeepsWrongFalsely : Prop := truthKeepsRow.holds Try.pinned (OpenSpec.ofChange truthKeepsWrong)

/- THE SECOND FORM. 'bulk': how many values and letters a reading holds, each counted each time it is reached (what is shared counts as often as it is met; a slice's spare places count too). A statement '..UptoSaid' is the law's where the arguments, and the package variables that the reading takes, are together of bulk at most 1048576: NARROWER than '..Said'. Prove '..Said' where nothing that the law and all that it calls make is longer than what came in: it says more and counts as full. Else prove '..UptoSaid'. A law counts once. -/
mutual
def uptoBulk {H : Type} : DataW H → Nat
  | .lit (.string bytes) => bytes.length + 1
  | .lit _ => 1
  | .nil => 1
  | .ptr d => uptoBulk d + 1
  | .slice elems spare => uptoBulkAll elems + uptoBulkAll spare + 1
  | .agg parts => uptoBulkAll parts + 1
  | .iface _ d => uptoBulk d + 1
  | .map entries => uptoBulkEntries entries + 1
  | .held _ => 1
def uptoBulkAll {H : Type} : List (DataW H) → Nat
  | [] => 0
  | d :: r => uptoBulk d + uptoBulkAll r
def uptoBulkEntries {H : Type} : List (Lit × DataW H) → Nat
  | [] => 0
  | x :: r => uptoBulkEntry x + uptoBulkEntries r
def uptoBulkEntry {H : Type} : Lit × DataW H → Nat
  | (.string bytes, d) => bytes.length + uptoBulk d + 1
  | (_, d) => uptoBulk d + 1
 end
def uptoSmall : (H : Type) → List (DataW H) → Bool := fun _ ds => decide (uptoBulkAll ds ≤ 1048576)
def OpenSpec.upto (s : _root_.Go.ChangeSpec) : _root_.Go.OpenSpec := { _root_.Go.OpenSpec.ofChange s with cond := some uptoSmall }

/-- 'thicketlaw04.TruthGives', WHERE WHAT IT READS IS OF BULK AT MOST 1048576: true; the input reads as it did. -/
def truthGivesUptoRow : OpenClaim := { program := "ytlggmoghgoeiiaa", sum := "01d4ef472379f1cef2712de177582c439cbd63d9f9aba0cc93b0cfd7b08bfaca", func := "thicket/thicketlaw04.TruthGives", spec := "truthGives", unfollowed := true, recurses := true, apart := false, narrowed := true }
def TruthGivesUptoSaid : Prop := truthGivesUptoRow.holds Try.pinned (OpenSpec.upto truthGivesSpec)

/-- 'thicketlaw04.TruthPoints', WHERE WHAT IT READS IS OF BULK AT MOST 1048576: true; the input reads as it did. -/
def truthPointsUptoRow : OpenClaim := { program := "ytlggmoghgoeiiaa", sum := "01d4ef472379f1cef2712de177582c439cbd63d9f9aba0cc93b0cfd7b08bfaca", func := "thicket/thicketlaw04.TruthPoints", spec := "truthPoints", unfollowed := true, recurses := true, apart := false, narrowed := true }
def TruthPointsUptoSaid : Prop := truthPointsUptoRow.holds Try.pinned (OpenSpec.upto truthPointsSpec)

/-- 'thicketlaw04.TruthForms', WHERE WHAT IT READS IS OF BULK AT MOST 1048576: true; the input reads as it did. -/
def truthFormsUptoRow : OpenClaim := { program := "ytlggmoghgoeiiaa", sum := "01d4ef472379f1cef2712de177582c439cbd63d9f9aba0cc93b0cfd7b08bfaca", func := "thicket/thicketlaw04.TruthForms", spec := "truthForms", unfollowed := true, recurses := true, apart := false, narrowed := true }
def TruthFormsUptoSaid : Prop := truthFormsUptoRow.holds Try.pinned (OpenSpec.upto truthFormsSpec)

/-- 'thicketlaw04.TruthJoins', WHERE WHAT IT READS IS OF BULK AT MOST 1048576: true; the input reads as it did. -/
def truthJoinsUptoRow : OpenClaim := { program := "ytlggmoghgoeiiaa", sum := "01d4ef472379f1cef2712de177582c439cbd63d9f9aba0cc93b0cfd7b08bfaca", func := "thicket/thicketlaw04.TruthJoins", spec := "truthJoins", unfollowed := true, recurses := true, apart := false, narrowed := true }
def TruthJoinsUptoSaid : Prop := truthJoinsUptoRow.holds Try.pinned (OpenSpec.upto truthJoinsSpec)

/-- 'thicketlaw04.TruthLaws', WHERE WHAT IT READS IS OF BULK AT MOST 1048576: true; the input reads as it did. -/
def truthLawsUptoRow : OpenClaim := { program := "ytlggmoghgoeiiaa", sum := "01d4ef472379f1cef2712de177582c439cbd63d9f9aba0cc93b0cfd7b08bfaca", func := "thicket/thicketlaw04.TruthLaws", spec := "truthLaws", unfollowed := true, recurses := true, apart := false, narrowed := true }
def TruthLawsUptoSaid : Prop := truthLawsUptoRow.holds Try.pinned (OpenSpec.upto truthLawsSpec)

/-- 'thicketlaw04.TruthRenames', WHERE WHAT IT READS IS OF BULK AT MOST 1048576: true; the input reads as it did. -/
def truthRenamesUptoRow : OpenClaim := { program := "ytlggmoghgoeiiaa", sum := "01d4ef472379f1cef2712de177582c439cbd63d9f9aba0cc93b0cfd7b08bfaca", func := "thicket/thicketlaw04.TruthRenames", spec := "truthRenames", unfollowed := true, recurses := true, apart := false, narrowed := true }
def TruthRenamesUptoSaid : Prop := truthRenamesUptoRow.holds Try.pinned (OpenSpec.upto truthRenamesSpec)

/-- 'thicketlaw04.TruthTells', WHERE WHAT IT READS IS OF BULK AT MOST 1048576: true; the input reads as it did. -/
def truthTellsUptoRow : OpenClaim := { program := "ytlggmoghgoeiiaa", sum := "01d4ef472379f1cef2712de177582c439cbd63d9f9aba0cc93b0cfd7b08bfaca", func := "thicket/thicketlaw04.TruthTells", spec := "truthTells", unfollowed := true, recurses := true, apart := false, narrowed := true }
def TruthTellsUptoSaid : Prop := truthTellsUptoRow.holds Try.pinned (OpenSpec.upto truthTellsSpec)

/-- 'thicketlaw04.TruthShannon', WHERE WHAT IT READS IS OF BULK AT MOST 1048576: true; the input reads as it did. -/
def truthShannonUptoRow : OpenClaim := { program := "ytlggmoghgoeiiaa", sum := "01d4ef472379f1cef2712de177582c439cbd63d9f9aba0cc93b0cfd7b08bfaca", func := "thicket/thicketlaw04.TruthShannon", spec := "truthShannon", unfollowed := true, recurses := true, apart := false, narrowed := true }
def TruthShannonUptoSaid : Prop := truthShannonUptoRow.holds Try.pinned (OpenSpec.upto truthShannonSpec)

/-- 'thicketlaw04.TruthMoves', WHERE WHAT IT READS IS OF BULK AT MOST 1048576: true; the input reads as it did. -/
def truthMovesUptoRow : OpenClaim := { program := "ytlggmoghgoeiiaa", sum := "01d4ef472379f1cef2712de177582c439cbd63d9f9aba0cc93b0cfd7b08bfaca", func := "thicket/thicketlaw04.TruthMoves", spec := "truthMoves", unfollowed := true, recurses := true, apart := false, narrowed := true }
def TruthMovesUptoSaid : Prop := truthMovesUptoRow.holds Try.pinned (OpenSpec.upto truthMovesSpec)

/-- 'thicketlaw04.TruthKeeps', WHERE WHAT IT READS IS OF BULK AT MOST 1048576: true; the input reads as it did. -/
def truthKeepsUptoRow : OpenClaim := { program := "ytlggmoghgoeiiaa", sum := "01d4ef472379f1cef2712de177582c439cbd63d9f9aba0cc93b0cfd7b08bfaca", func := "thicket/thicketlaw04.TruthKeeps", spec := "truthKeeps", unfollowed := true, recurses := true, apart := false, narrowed := true }
def TruthKeepsUptoSaid : Prop := truthKeepsUptoRow.holds Try.pinned (OpenSpec.upto truthKeepsSpec)

end Rows
end Go.Proofs.Ytlggmoghgoeiiaa
