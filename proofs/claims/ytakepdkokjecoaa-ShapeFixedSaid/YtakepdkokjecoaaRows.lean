/-
  No cell of these rows narrows 'for every input' (looked for: loops, veiled, ifaces, maps, wideKeys, modest, calm, conditions, laid).
  DERIVED. THE GIVEN ROWS OF THIS SEAT. 7 by the template 'for every input the law returns true; each argument reads behind the call as it read before'; 0 by the template 'total and deterministic' (their statements: YtakepdkokjecoaaTotals.lean).
  GIVEN WITH THE SEED: the statements are not yours to turn. If you find one false, say at which input.
  Laid BY PROGRAM, IN A SANDBOX (cutbox-rows.mjs): the forced cells as the released guide's own fill.sh prints them over the translation 1d524d2a49a2e120… (all of the seat's roots in one cut). By AI agents, Wed Nov 11 2026. No macro, syntax, notation, axiom, sorry.
-/
import Derived.Test.YtakepdkokjecoaaChecked
import GoSem.Claim
import GoSem.ClaimJoined
import GoSem.ClaimMapViews
import Derived.JoinedTies
import Derived.KernelRfl
namespace Go.Proofs.Ytakepdkokjecoaa
/- THE CELL 'sum', in the pinned program and in every row, IS THE sha256 OF THE DUMP (.gsa) THAT YtakepdkokjecoaaProg.lean LOADS. Nothing in Lean hashes anything: it is a label: what it is worth is what the hold of that sum in a sandbox is worth. -/
noncomputable def Try.pinned : Pinned := { name := "ytakepdkokjecoaa", sum := "1d524d2a49a2e1204f0564b0a27a0e5bb91bf9584447dd6eec4bac16127f432d", checked := Try.checked }
namespace Rows
def none {H : Type} : Left H := { results := [], args := [] }

/-- 'thicketlaw05.ShapeSums': WHATEVER THE INPUT: true; the input reads as it did. -/
def shapeSumsSpec : ChangeSpec := { name := "shapeSums", fn := fun _ => fun
  | [d1, d2] => { results := [.lit (.bool true)], args := [d1, d2] }
  | _ => none }
def shapeSumsRow : OpenClaim := { program := "ytakepdkokjecoaa", sum := "1d524d2a49a2e1204f0564b0a27a0e5bb91bf9584447dd6eec4bac16127f432d", func := "thicket/thicketlaw05.ShapeSums", spec := "shapeSums", unfollowed := true, recurses := true, apart := false }
def ShapeSumsSaid : Prop := shapeSumsRow.holds Try.pinned (OpenSpec.ofChange shapeSumsSpec)

/-- ITS FALSE NEIGHBOUR: 'it returns false'. Refute it at one input. -/
def shapeSumsWrong : ChangeSpec := { name := "shapeSums", fn := fun _ => fun
  | [d1, d2] => { results := [.lit (.bool false)], args := [d1, d2] }
  | _ => none }
def ShapeSumsWrongFalsely : Prop := shapeSumsRow.holds Try.pinned (OpenSpec.ofChange shapeSumsWrong)

/-- 'thicketlaw05.ShapeBounds': WHATEVER THE INPUT: true; the input reads as it did. -/
def shapeBoundsSpec : ChangeSpec := { name := "shapeBounds", fn := fun _ => fun
  | [d1, d2] => { results := [.lit (.bool true)], args := [d1, d2] }
  | _ => none }
def shapeBoundsRow : OpenClaim := { program := "ytakepdkokjecoaa", sum := "1d524d2a49a2e1204f0564b0a27a0e5bb91bf9584447dd6eec4bac16127f432d", func := "thicket/thicketlaw05.ShapeBounds", spec := "shapeBounds", unfollowed := true, recurses := true, apart := false }
def ShapeBoundsSaid : Prop := shapeBoundsRow.holds Try.pinned (OpenSpec.ofChange shapeBoundsSpec)

/-- ITS FALSE NEIGHBOUR: 'it returns false'. Refute it at one input. -/
def shapeBoundsWrong : ChangeSpec := { name := "shapeBounds", fn := fun _ => fun
  | [d1, d2] => { results := [.lit (.bool false)], args := [d1, d2] }
  | _ => none }
def ShapeBoundsWrongFalsely : Prop := shapeBoundsRow.holds Try.pinned (OpenSpec.ofChange shapeBoundsWrong)

/-- 'thicketlaw05.ShapeNames': WHATEVER THE INPUT: true; the input reads as it did. -/
def shapeNamesSpec : ChangeSpec := { name := "shapeNames", fn := fun _ => fun
  | [d1, d2, d3] => { results := [.lit (.bool true)], args := [d1, d2, d3] }
  | _ => none }
def shapeNamesRow : OpenClaim := { program := "ytakepdkokjecoaa", sum := "1d524d2a49a2e1204f0564b0a27a0e5bb91bf9584447dd6eec4bac16127f432d", func := "thicket/thicketlaw05.ShapeNames", spec := "shapeNames", unfollowed := true, recurses := true, apart := false }
def ShapeNamesSaid : Prop := shapeNamesRow.holds Try.pinned (OpenSpec.ofChange shapeNamesSpec)

/-- ITS FALSE NEIGHBOUR: 'it returns false'. Refute it at one input. -/
def shapeNamesWrong : ChangeSpec := { name := "shapeNames", fn := fun _ => fun
  | [d1, d2, d3] => { results := [.lit (.bool false)], args := [d1, d2, d3] }
  | _ => none }
def ShapeNamesWrongFalsely : Prop := shapeNamesRow.holds Try.pinned (OpenSpec.ofChange shapeNamesWrong)

/-- 'thicketlaw05.ShapePairs': WHATEVER THE INPUT: true; the input reads as it did. -/
def shapePairsSpec : ChangeSpec := { name := "shapePairs", fn := fun _ => fun
  | [d] => { results := [.lit (.bool true)], args := [d] }
  | _ => none }
def shapePairsRow : OpenClaim := { program := "ytakepdkokjecoaa", sum := "1d524d2a49a2e1204f0564b0a27a0e5bb91bf9584447dd6eec4bac16127f432d", func := "thicket/thicketlaw05.ShapePairs", spec := "shapePairs", unfollowed := true, recurses := true, apart := false }
def ShapePairsSaid : Prop := shapePairsRow.holds Try.pinned (OpenSpec.ofChange shapePairsSpec)

/-- ITS FALSE NEIGHBOUR: 'it returns false'. Refute it at one input. -/
def shapePairsWrong : ChangeSpec := { name := "shapePairs", fn := fun _ => fun
  | [d] => { results := [.lit (.bool false)], args := [d] }
  | _ => none }
def ShapePairsWrongFalsely : Prop := shapePairsRow.holds Try.pinned (OpenSpec.ofChange shapePairsWrong)

/-- 'thicketlaw05.ShapeAlike': WHATEVER THE INPUT: true; the input reads as it did. -/
def shapeAlikeSpec : ChangeSpec := { name := "shapeAlike", fn := fun _ => fun
  | [d1, d2] => { results := [.lit (.bool true)], args := [d1, d2] }
  | _ => none }
def shapeAlikeRow : OpenClaim := { program := "ytakepdkokjecoaa", sum := "1d524d2a49a2e1204f0564b0a27a0e5bb91bf9584447dd6eec4bac16127f432d", func := "thicket/thicketlaw05.ShapeAlike", spec := "shapeAlike", unfollowed := true, recurses := true, apart := false }
def ShapeAlikeSaid : Prop := shapeAlikeRow.holds Try.pinned (OpenSpec.ofChange shapeAlikeSpec)

/-- ITS FALSE NEIGHBOUR: 'it returns false'. Refute it at one input. -/
def shapeAlikeWrong : ChangeSpec := { name := "shapeAlike", fn := fun _ => fun
  | [d1, d2] => { results := [.lit (.bool false)], args := [d1, d2] }
  | _ => none }
def ShapeAlikeWrongFalsely : Prop := shapeAlikeRow.holds Try.pinned (OpenSpec.ofChange shapeAlikeWrong)

/-- 'thicketlaw05.ShapeLocal': WHATEVER THE INPUT: true; the input reads as it did. -/
def shapeLocalSpec : ChangeSpec := { name := "shapeLocal", fn := fun _ => fun
  | [d1, d2, d3] => { results := [.lit (.bool true)], args := [d1, d2, d3] }
  | _ => none }
def shapeLocalRow : OpenClaim := { program := "ytakepdkokjecoaa", sum := "1d524d2a49a2e1204f0564b0a27a0e5bb91bf9584447dd6eec4bac16127f432d", func := "thicket/thicketlaw05.ShapeLocal", spec := "shapeLocal", unfollowed := true, recurses := true, apart := false }
def ShapeLocalSaid : Prop := shapeLocalRow.holds Try.pinned (OpenSpec.ofChange shapeLocalSpec)

/-- ITS FALSE NEIGHBOUR: 'it returns false'. Refute it at one input. -/
def shapeLocalWrong : ChangeSpec := { name := "shapeLocal", fn := fun _ => fun
  | [d1, d2, d3] => { results := [.lit (.bool false)], args := [d1, d2, d3] }
  | _ => none }
def ShapeLocalWrongFalsely : Prop := shapeLocalRow.holds Try.pinned (OpenSpec.ofChange shapeLocalWrong)

/-- 'thicketlaw05.ShapeFixed': WHATEVER THE INPUT: true; the input reads as it did. -/
def shapeFixedSpec : ChangeSpec := { name := "shapeFixed", fn := fun _ => fun
  | [] => { results := [.lit (.bool true)], args := [] }
  | _ => none }
def shapeFixedRow : OpenClaim := { program := "ytakepdkokjecoaa", sum := "1d524d2a49a2e1204f0564b0a27a0e5bb91bf9584447dd6eec4bac16127f432d", func := "thicket/thicketlaw05.ShapeFixed", spec := "shapeFixed", unfollowed := true, recurses := true, apart := false }
def ShapeFixedSaid : Prop := shapeFixedRow.holds Try.pinned (OpenSpec.ofChange shapeFixedSpec)

/-- ITS FALSE NEIGHBOUR: 'it returns false'. Refute it at one input. -/
def shapeFixedWrong : ChangeSpec := { name := "shapeFixed", fn := fun _ => fun
  | [] => { results := [.lit (.bool false)], args := [] }
  | _ => none }
def ShapeFixedWrongFalsely : Prop := shapeFixedRow.holds Try.pinned (OpenSpec.ofChange shapeFixedWrong)

/- THE SECOND FORM. 'bulk': how many values and letters a reading holds, each counted each time it is reached (what is shared counts as often as it is met; a slice's spare places count too). A statement '..UptoSaid' is the law's where the arguments, and the package variables that the reading takes, are together of bulk at most 1048576: NARROWER than '..Said'. Prove '..Said' where nothing that the law and all that it calls make is longer than what came in: it says more and counts as full. Else prove '..UptoSaid'. A law counts once. -/
mutual
def uptoBulk {H : Type} : DataW H → Nat
  | .lit (.string bytes) => bytes.length + 1
  | .lit _ => 1
  | .nil => 1
  | .ptr d => uptoBulk d + 1
  | .slice elems spare => uptoBulkAll elems + uptoBulkAll spare + 1
  | .agg parts => uptoBulkAll parts + 1
  | .iface _ d => uptoBulk d + 1
  | .map entries => uptoBulkEntries entries + 1
  | .held _ => 1
def uptoBulkAll {H : Type} : List (DataW H) → Nat
  | [] => 0
  | d :: r => uptoBulk d + uptoBulkAll r
def uptoBulkEntries {H : Type} : List (Lit × DataW H) → Nat
  | [] => 0
  | x :: r => uptoBulkEntry x + uptoBulkEntries r
def uptoBulkEntry {H : Type} : Lit × DataW H → Nat
  | (.string bytes, d) => bytes.length + uptoBulk d + 1
  | (_, d) => uptoBulk d + 1
 end
def uptoSmall : (H : Type) → List (DataW H) → Bool := fun _ ds => decide (uptoBulkAll ds ≤ 1048576)
def OpenSpec.upto (s : _root_.Go.ChangeSpec) : _root_.Go.OpenSpec := { _root_.Go.OpenSpec.ofChange s with cond := some uptoSmall }

/-- 'thicketlaw05.ShapeSums', WHERE WHAT IT READS IS OF BULK AT MOST 1048576: true; the input reads as it did. -/
def shapeSumsUptoRow : OpenClaim := { program := "ytakepdkokjecoaa", sum := "1d524d2a49a2e1204f0564b0a27a0e5bb91bf9584447dd6eec4bac16127f432d", func := "thicket/thicketlaw05.ShapeSums", spec := "shapeSums", unfollowed := true, recurses := true, apart := false, narrowed := true }
def ShapeSumsUptoSaid : Prop := shapeSumsUptoRow.holds Try.pinned (OpenSpec.upto shapeSumsSpec)

/-- 'thicketlaw05.ShapeBounds', WHERE WHAT IT READS IS OF BULK AT MOST 1048576: true; the input reads as it did. -/
def shapeBoundsUptoRow : OpenClaim := { program := "ytakepdkokjecoaa", sum := "1d524d2a49a2e1204f0564b0a27a0e5bb91bf9584447dd6eec4bac16127f432d", func := "thicket/thicketlaw05.ShapeBounds", spec := "shapeBounds", unfollowed := true, recurses := true, apart := false, narrowed := true }
def ShapeBoundsUptoSaid : Prop := shapeBoundsUptoRow.holds Try.pinned (OpenSpec.upto shapeBoundsSpec)

/-- 'thicketlaw05.ShapeNames', WHERE WHAT IT READS IS OF BULK AT MOST 1048576: true; the input reads as it did. -/
def shapeNamesUptoRow : OpenClaim := { program := "ytakepdkokjecoaa", sum := "1d524d2a49a2e1204f0564b0a27a0e5bb91bf9584447dd6eec4bac16127f432d", func := "thicket/thicketlaw05.ShapeNames", spec := "shapeNames", unfollowed := true, recurses := true, apart := false, narrowed := true }
def ShapeNamesUptoSaid : Prop := shapeNamesUptoRow.holds Try.pinned (OpenSpec.upto shapeNamesSpec)

/-- 'thicketlaw05.ShapePairs', WHERE WHAT IT READS IS OF BULK AT MOST 1048576: true; the input reads as it did. -/
def shapePairsUptoRow : OpenClaim := { program := "ytakepdkokjecoaa", sum := "1d524d2a49a2e1204f0564b0a27a0e5bb91bf9584447dd6eec4bac16127f432d", func := "thicket/thicketlaw05.ShapePairs", spec := "shapePairs", unfollowed := true, recurses := true, apart := false, narrowed := true }
def ShapePairsUptoSaid : Prop := shapePairsUptoRow.holds Try.pinned (OpenSpec.upto shapePairsSpec)

/-- 'thicketlaw05.ShapeAlike', WHERE WHAT IT READS IS OF BULK AT MOST 1048576: true; the input reads as it did. -/
def shapeAlikeUptoRow : OpenClaim := { program := "ytakepdkokjecoaa", sum := "1d524d2a49a2e1204f0564b0a27a0e5bb91bf9584447dd6eec4bac16127f432d", func := "thicket/thicketlaw05.ShapeAlike", spec := "shapeAlike", unfollowed := true, recurses := true, apart := false, narrowed := true }
def ShapeAlikeUptoSaid : Prop := shapeAlikeUptoRow.holds Try.pinned (OpenSpec.upto shapeAlikeSpec)

/-- 'thicketlaw05.ShapeLocal', WHERE WHAT IT READS IS OF BULK AT MOST 1048576: true; the input reads as it did. -/
def shapeLocalUptoRow : OpenClaim := { program := "ytakepdkokjecoaa", sum := "1d524d2a49a2e1204f0564b0a27a0e5bb91bf9584447dd6eec4bac16127f432d", func := "thicket/thicketlaw05.ShapeLocal", spec := "shapeLocal", unfollowed := true, recurses := true, apart := false, narrowed := true }
def ShapeLocalUptoSaid : Prop := shapeLocalUptoRow.holds Try.pinned (OpenSpec.upto shapeLocalSpec)

/-- 'thicketlaw05.ShapeFixed', WHERE WHAT IT READS IS OF BULK AT MOST 1048576: true; the input reads as it did. -/
def shapeFixedUptoRow : OpenClaim := { program := "ytakepdkokjecoaa", sum := "1d524d2a49a2e1204f0564b0a27a0e5bb91bf9584447dd6eec4bac16127f432d", func := "thicket/thicketlaw05.ShapeFixed", spec := "shapeFixed", unfollowed := true, recurses := true, apart := false, narrowed := true }
def ShapeFixedUptoSaid : Prop := shapeFixedUptoRow.holds Try.pinned (OpenSpec.upto shapeFixedSpec)

end Rows
end Go.Proofs.Ytakepdkokjecoaa
