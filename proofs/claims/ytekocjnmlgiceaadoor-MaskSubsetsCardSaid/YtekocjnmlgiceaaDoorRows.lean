/-
  NARROWER THAN 'FOR EVERY INPUT', by the rows' own cells (each row's printed sentence says how): MaskOfs: laid · MaskNumbers: laid · MaskRanks: laid · MaskLooks: laid · MaskKeeps: laid · MaskWalks: laid · MaskSubsets: laid · MaskPascal: laid.
  DERIVED. THE GIVEN ROWS OF THIS SEAT. 8 by the template 'for every input the law returns true; each argument reads behind the call as it read before'; 0 by the template 'total and deterministic' (their statements: YtekocjnmlgiceaaDoorTotals.lean).
  GIVEN WITH THE SEED: the statements are not yours to turn. If you find one false, say at which input.
  Laid BY PROGRAM, IN A SANDBOX (cutbox-rows.mjs): the forced cells as the released guide's own fill.sh prints them over the translation 072e8f6f54f10d04… (all of the seat's roots in one cut). By AI agents, Wed Nov 11 2026. No macro, syntax, notation, axiom, sorry.
-/
import Derived.Test.YtekocjnmlgiceaaDoorChecked
import GoSem.Claim
import GoSem.ClaimJoined
import GoSem.ClaimMapViews
import Derived.JoinedTies
import Derived.KernelRfl
namespace Go.Proofs.YtekocjnmlgiceaaDoor
/- THE CELL 'sum', in the pinned program and in every row, IS THE sha256 OF THE DUMP (.gsa) THAT YtekocjnmlgiceaaDoorProg.lean LOADS. Nothing in Lean hashes anything: it is a label: what it is worth is what the hold of that sum in a sandbox is worth. -/
noncomputable def Tryd.pinned : Pinned := { name := "ytekocjnmlgiceaadoor", sum := "072e8f6f54f10d04d782a669313b4116bc5d9d10684c549f350ec70a84b94581", checked := Tryd.checked }
namespace Rows
def none {H : Type} : Left H := { results := [], args := [] }

/- WHAT THE LISTED PACKAGE-LEVEL VARIABLES READ AS WHEN THE CALL BEGINS. Each datum BY PROGRAM (the guide's laid-datum.mjs) off the statement by which the dump's own 'gosem.cut.vars' lays the variable. In a bare row this is a premise. The card (YtekocjnmlgiceaaDoorCards.lean) ties it to the program's text. -/
def laid_math_bits_deBruijn64tab {H : Type} : DataW H := .agg [.lit (.int .u8 0), .lit (.int .u8 1), .lit (.int .u8 56), .lit (.int .u8 2), .lit (.int .u8 57), .lit (.int .u8 49), .lit (.int .u8 28), .lit (.int .u8 3), .lit (.int .u8 61), .lit (.int .u8 58), .lit (.int .u8 42), .lit (.int .u8 50), .lit (.int .u8 38), .lit (.int .u8 29), .lit (.int .u8 17), .lit (.int .u8 4), .lit (.int .u8 62), .lit (.int .u8 47), .lit (.int .u8 59), .lit (.int .u8 36), .lit (.int .u8 45), .lit (.int .u8 43), .lit (.int .u8 51), .lit (.int .u8 22), .lit (.int .u8 53), .lit (.int .u8 39), .lit (.int .u8 33), .lit (.int .u8 30), .lit (.int .u8 24), .lit (.int .u8 18), .lit (.int .u8 12), .lit (.int .u8 5), .lit (.int .u8 63), .lit (.int .u8 55), .lit (.int .u8 48), .lit (.int .u8 27), .lit (.int .u8 60), .lit (.int .u8 41), .lit (.int .u8 37), .lit (.int .u8 16), .lit (.int .u8 46), .lit (.int .u8 35), .lit (.int .u8 44), .lit (.int .u8 21), .lit (.int .u8 52), .lit (.int .u8 32), .lit (.int .u8 23), .lit (.int .u8 11), .lit (.int .u8 54), .lit (.int .u8 26), .lit (.int .u8 40), .lit (.int .u8 15), .lit (.int .u8 34), .lit (.int .u8 20), .lit (.int .u8 31), .lit (.int .u8 10), .lit (.int .u8 25), .lit (.int .u8 14), .lit (.int .u8 19), .lit (.int .u8 9), .lit (.int .u8 13), .lit (.int .u8 8), .lit (.int .u8 7), .lit (.int .u8 6)]

/-- 'thicketlaw01.MaskOfs': WHATEVER THE INPUT: true; the input reads as it did. -/
def maskOfsSpec : ChangeSpec := { name := "maskOfs", fn := fun _ => fun
  | [d] => { results := [.lit (.bool true)], args := [d] }
  | _ => none }
def maskOfsRow : OpenClaim := { program := "ytekocjnmlgiceaadoor", sum := "072e8f6f54f10d04d782a669313b4116bc5d9d10684c549f350ec70a84b94581", func := "thicket/thicketlaw01.MaskOfs", spec := "maskOfs", unfollowed := true, recurses := true, named := ["math/bits.divideError", "math/bits.overflowError", "math/bits.deBruijn64tab"], apart := false, laid := [("math/bits.deBruijn64tab", laid_math_bits_deBruijn64tab)] }
def MaskOfsSaid : Prop := maskOfsRow.holds Tryd.pinned (OpenSpec.ofChange maskOfsSpec)

/-- ITS FALSE NEIGHBOUR: 'it returns false'. Refute it at one input. -/
def maskOfsWrong : ChangeSpec := { name := "maskOfs", fn := fun _ => fun
  | [d] => { results := [.lit (.bool false)], args := [d] }
  | _ => none }
def MaskOfsWrongFalsely : Prop := maskOfsRow.holds Tryd.pinned (OpenSpec.ofChange maskOfsWrong)

/-- 'thicketlaw01.MaskNumbers': WHATEVER THE INPUT: true; the input reads as it did. -/
def maskNumbersSpec : ChangeSpec := { name := "maskNumbers", fn := fun _ => fun
  | [d1, d2, d3] => { results := [.lit (.bool true)], args := [d1, d2, d3] }
  | _ => none }
def maskNumbersRow : OpenClaim := { program := "ytekocjnmlgiceaadoor", sum := "072e8f6f54f10d04d782a669313b4116bc5d9d10684c549f350ec70a84b94581", func := "thicket/thicketlaw01.MaskNumbers", spec := "maskNumbers", unfollowed := true, recurses := true, named := ["math/bits.divideError", "math/bits.overflowError", "math/bits.deBruijn64tab"], apart := false, laid := [("math/bits.deBruijn64tab", laid_math_bits_deBruijn64tab)] }
def MaskNumbersSaid : Prop := maskNumbersRow.holds Tryd.pinned (OpenSpec.ofChange maskNumbersSpec)

/-- ITS FALSE NEIGHBOUR: 'it returns false'. Refute it at one input. -/
def maskNumbersWrong : ChangeSpec := { name := "maskNumbers", fn := fun _ => fun
  | [d1, d2, d3] => { results := [.lit (.bool false)], args := [d1, d2, d3] }
  | _ => none }
def MaskNumbersWrongFalsely : Prop := maskNumbersRow.holds Tryd.pinned (OpenSpec.ofChange maskNumbersWrong)

/-- 'thicketlaw01.MaskRanks': WHATEVER THE INPUT: true; the input reads as it did. -/
def maskRanksSpec : ChangeSpec := { name := "maskRanks", fn := fun _ => fun
  | [d1, d2] => { results := [.lit (.bool true)], args := [d1, d2] }
  | _ => none }
def maskRanksRow : OpenClaim := { program := "ytekocjnmlgiceaadoor", sum := "072e8f6f54f10d04d782a669313b4116bc5d9d10684c549f350ec70a84b94581", func := "thicket/thicketlaw01.MaskRanks", spec := "maskRanks", unfollowed := true, recurses := true, named := ["math/bits.divideError", "math/bits.overflowError", "math/bits.deBruijn64tab"], apart := false, laid := [("math/bits.deBruijn64tab", laid_math_bits_deBruijn64tab)] }
def MaskRanksSaid : Prop := maskRanksRow.holds Tryd.pinned (OpenSpec.ofChange maskRanksSpec)

/-- ITS FALSE NEIGHBOUR: 'it returns false'. Refute it at one input. -/
def maskRanksWrong : ChangeSpec := { name := "maskRanks", fn := fun _ => fun
  | [d1, d2] => { results := [.lit (.bool false)], args := [d1, d2] }
  | _ => none }
def MaskRanksWrongFalsely : Prop := maskRanksRow.holds Tryd.pinned (OpenSpec.ofChange maskRanksWrong)

/-- 'thicketlaw01.MaskLooks': WHATEVER THE INPUT: true; the input reads as it did. -/
def maskLooksSpec : ChangeSpec := { name := "maskLooks", fn := fun _ => fun
  | [d1, d2] => { results := [.lit (.bool true)], args := [d1, d2] }
  | _ => none }
def maskLooksRow : OpenClaim := { program := "ytekocjnmlgiceaadoor", sum := "072e8f6f54f10d04d782a669313b4116bc5d9d10684c549f350ec70a84b94581", func := "thicket/thicketlaw01.MaskLooks", spec := "maskLooks", unfollowed := true, recurses := true, named := ["math/bits.divideError", "math/bits.overflowError", "math/bits.deBruijn64tab"], apart := false, laid := [("math/bits.deBruijn64tab", laid_math_bits_deBruijn64tab)] }
def MaskLooksSaid : Prop := maskLooksRow.holds Tryd.pinned (OpenSpec.ofChange maskLooksSpec)

/-- ITS FALSE NEIGHBOUR: 'it returns false'. Refute it at one input. -/
def maskLooksWrong : ChangeSpec := { name := "maskLooks", fn := fun _ => fun
  | [d1, d2] => { results := [.lit (.bool false)], args := [d1, d2] }
  | _ => none }
def MaskLooksWrongFalsely : Prop := maskLooksRow.holds Tryd.pinned (OpenSpec.ofChange maskLooksWrong)

/-- 'thicketlaw01.MaskKeeps': WHATEVER THE INPUT: true; the input reads as it did. -/
def maskKeepsSpec : ChangeSpec := { name := "maskKeeps", fn := fun _ => fun
  | [d1, d2] => { results := [.lit (.bool true)], args := [d1, d2] }
  | _ => none }
def maskKeepsRow : OpenClaim := { program := "ytekocjnmlgiceaadoor", sum := "072e8f6f54f10d04d782a669313b4116bc5d9d10684c549f350ec70a84b94581", func := "thicket/thicketlaw01.MaskKeeps", spec := "maskKeeps", unfollowed := true, recurses := true, named := ["math/bits.divideError", "math/bits.overflowError", "math/bits.deBruijn64tab"], apart := false, laid := [("math/bits.deBruijn64tab", laid_math_bits_deBruijn64tab)] }
def MaskKeepsSaid : Prop := maskKeepsRow.holds Tryd.pinned (OpenSpec.ofChange maskKeepsSpec)

/-- ITS FALSE NEIGHBOUR: 'it returns false'. Refute it at one input. -/
def maskKeepsWrong : ChangeSpec := { name := "maskKeeps", fn := fun _ => fun
  | [d1, d2] => { results := [.lit (.bool false)], args := [d1, d2] }
  | _ => none }
def MaskKeepsWrongFalsely : Prop := maskKeepsRow.holds Tryd.pinned (OpenSpec.ofChange maskKeepsWrong)

/-- 'thicketlaw01.MaskWalks': WHATEVER THE INPUT: true; the input reads as it did. -/
def maskWalksSpec : ChangeSpec := { name := "maskWalks", fn := fun _ => fun
  | [d1, d2] => { results := [.lit (.bool true)], args := [d1, d2] }
  | _ => none }
def maskWalksRow : OpenClaim := { program := "ytekocjnmlgiceaadoor", sum := "072e8f6f54f10d04d782a669313b4116bc5d9d10684c549f350ec70a84b94581", func := "thicket/thicketlaw01.MaskWalks", spec := "maskWalks", unfollowed := true, recurses := true, named := ["math/bits.divideError", "math/bits.overflowError", "math/bits.deBruijn64tab"], apart := false, laid := [("math/bits.deBruijn64tab", laid_math_bits_deBruijn64tab)] }
def MaskWalksSaid : Prop := maskWalksRow.holds Tryd.pinned (OpenSpec.ofChange maskWalksSpec)

/-- ITS FALSE NEIGHBOUR: 'it returns false'. Refute it at one input. -/
def maskWalksWrong : ChangeSpec := { name := "maskWalks", fn := fun _ => fun
  | [d1, d2] => { results := [.lit (.bool false)], args := [d1, d2] }
  | _ => none }
def MaskWalksWrongFalsely : Prop := maskWalksRow.holds Tryd.pinned (OpenSpec.ofChange maskWalksWrong)

/-- 'thicketlaw01.MaskSubsets': WHATEVER THE INPUT: true; the input reads as it did. -/
def maskSubsetsSpec : ChangeSpec := { name := "maskSubsets", fn := fun _ => fun
  | [d1, d2, d3] => { results := [.lit (.bool true)], args := [d1, d2, d3] }
  | _ => none }
def maskSubsetsRow : OpenClaim := { program := "ytekocjnmlgiceaadoor", sum := "072e8f6f54f10d04d782a669313b4116bc5d9d10684c549f350ec70a84b94581", func := "thicket/thicketlaw01.MaskSubsets", spec := "maskSubsets", unfollowed := true, recurses := true, named := ["math/bits.divideError", "math/bits.overflowError", "math/bits.deBruijn64tab"], apart := false, laid := [("math/bits.deBruijn64tab", laid_math_bits_deBruijn64tab)] }
def MaskSubsetsSaid : Prop := maskSubsetsRow.holds Tryd.pinned (OpenSpec.ofChange maskSubsetsSpec)

/-- ITS FALSE NEIGHBOUR: 'it returns false'. Refute it at one input. -/
def maskSubsetsWrong : ChangeSpec := { name := "maskSubsets", fn := fun _ => fun
  | [d1, d2, d3] => { results := [.lit (.bool false)], args := [d1, d2, d3] }
  | _ => none }
def MaskSubsetsWrongFalsely : Prop := maskSubsetsRow.holds Tryd.pinned (OpenSpec.ofChange maskSubsetsWrong)

/-- 'thicketlaw01.MaskPascal': WHATEVER THE INPUT: true; the input reads as it did. -/
def maskPascalSpec : ChangeSpec := { name := "maskPascal", fn := fun _ => fun
  | [d1, d2] => { results := [.lit (.bool true)], args := [d1, d2] }
  | _ => none }
def maskPascalRow : OpenClaim := { program := "ytekocjnmlgiceaadoor", sum := "072e8f6f54f10d04d782a669313b4116bc5d9d10684c549f350ec70a84b94581", func := "thicket/thicketlaw01.MaskPascal", spec := "maskPascal", unfollowed := true, recurses := true, named := ["math/bits.divideError", "math/bits.overflowError", "math/bits.deBruijn64tab"], apart := false, laid := [("math/bits.deBruijn64tab", laid_math_bits_deBruijn64tab)] }
def MaskPascalSaid : Prop := maskPascalRow.holds Tryd.pinned (OpenSpec.ofChange maskPascalSpec)

/-- ITS FALSE NEIGHBOUR: 'it returns false'. Refute it at one input. -/
def maskPascalWrong : ChangeSpec := { name := "maskPascal", fn := fun _ => fun
  | [d1, d2] => { results := [.lit (.bool false)], args := [d1, d2] }
  | _ => none }
def MaskPascalWrongFalsely : Prop := maskPascalRow.holds Tryd.pinned (OpenSpec.ofChange maskPascalWrong)

/- THE SECOND FORM. 'bulk': how many values and letters a reading holds, each counted each time it is reached (what is shared counts as often as it is met; a slice's spare places count too). A statement '..UptoSaid' is the law's where the arguments, and the package variables that the reading takes, are together of bulk at most 1048576: NARROWER than '..Said'. Prove '..Said' where nothing that the law and all that it calls make is longer than what came in: it says more and counts as full. Else prove '..UptoSaid'. A law counts once. -/
mutual
def uptoBulk {H : Type} : DataW H → Nat
  | .lit (.string bytes) => bytes.length + 1
  | .lit _ => 1
  | .nil => 1
  | .ptr d => uptoBulk d + 1
  | .slice elems spare => uptoBulkAll elems + uptoBulkAll spare + 1
  | .agg parts => uptoBulkAll parts + 1
  | .iface _ d => uptoBulk d + 1
  | .map entries => uptoBulkEntries entries + 1
  | .held _ => 1
def uptoBulkAll {H : Type} : List (DataW H) → Nat
  | [] => 0
  | d :: r => uptoBulk d + uptoBulkAll r
def uptoBulkEntries {H : Type} : List (Lit × DataW H) → Nat
  | [] => 0
  | x :: r => uptoBulkEntry x + uptoBulkEntries r
def uptoBulkEntry {H : Type} : Lit × DataW H → Nat
  | (.string bytes, d) => bytes.length + uptoBulk d + 1
  | (_, d) => uptoBulk d + 1
 end
def uptoSmall : (H : Type) → List (DataW H) → Bool := fun _ ds => decide (uptoBulkAll ds ≤ 1048576)
def OpenSpec.upto (s : _root_.Go.ChangeSpec) : _root_.Go.OpenSpec := { _root_.Go.OpenSpec.ofChange s with cond := some uptoSmall }

/-- 'thicketlaw01.MaskOfs', WHERE WHAT IT READS IS OF BULK AT MOST 1048576: true; the input reads as it did. -/
def maskOfsUptoRow : OpenClaim := { program := "ytekocjnmlgiceaadoor", sum := "072e8f6f54f10d04d782a669313b4116bc5d9d10684c549f350ec70a84b94581", func := "thicket/thicketlaw01.MaskOfs", spec := "maskOfs", unfollowed := true, recurses := true, named := ["math/bits.divideError", "math/bits.overflowError", "math/bits.deBruijn64tab"], apart := false, laid := [("math/bits.deBruijn64tab", laid_math_bits_deBruijn64tab)], narrowed := true }
def MaskOfsUptoSaid : Prop := maskOfsUptoRow.holds Tryd.pinned (OpenSpec.upto maskOfsSpec)

/-- 'thicketlaw01.MaskNumbers', WHERE WHAT IT READS IS OF BULK AT MOST 1048576: true; the input reads as it did. -/
def maskNumbersUptoRow : OpenClaim := { program := "ytekocjnmlgiceaadoor", sum := "072e8f6f54f10d04d782a669313b4116bc5d9d10684c549f350ec70a84b94581", func := "thicket/thicketlaw01.MaskNumbers", spec := "maskNumbers", unfollowed := true, recurses := true, named := ["math/bits.divideError", "math/bits.overflowError", "math/bits.deBruijn64tab"], apart := false, laid := [("math/bits.deBruijn64tab", laid_math_bits_deBruijn64tab)], narrowed := true }
def MaskNumbersUptoSaid : Prop := maskNumbersUptoRow.holds Tryd.pinned (OpenSpec.upto maskNumbersSpec)

/-- 'thicketlaw01.MaskRanks', WHERE WHAT IT READS IS OF BULK AT MOST 1048576: true; the input reads as it did. -/
def maskRanksUptoRow : OpenClaim := { program := "ytekocjnmlgiceaadoor", sum := "072e8f6f54f10d04d782a669313b4116bc5d9d10684c549f350ec70a84b94581", func := "thicket/thicketlaw01.MaskRanks", spec := "maskRanks", unfollowed := true, recurses := true, named := ["math/bits.divideError", "math/bits.overflowError", "math/bits.deBruijn64tab"], apart := false, laid := [("math/bits.deBruijn64tab", laid_math_bits_deBruijn64tab)], narrowed := true }
def MaskRanksUptoSaid : Prop := maskRanksUptoRow.holds Tryd.pinned (OpenSpec.upto maskRanksSpec)

/-- 'thicketlaw01.MaskLooks', WHERE WHAT IT READS IS OF BULK AT MOST 1048576: true; the input reads as it did. -/
def maskLooksUptoRow : OpenClaim := { program := "ytekocjnmlgiceaadoor", sum := "072e8f6f54f10d04d782a669313b4116bc5d9d10684c549f350ec70a84b94581", func := "thicket/thicketlaw01.MaskLooks", spec := "maskLooks", unfollowed := true, recurses := true, named := ["math/bits.divideError", "math/bits.overflowError", "math/bits.deBruijn64tab"], apart := false, laid := [("math/bits.deBruijn64tab", laid_math_bits_deBruijn64tab)], narrowed := true }
def MaskLooksUptoSaid : Prop := maskLooksUptoRow.holds Tryd.pinned (OpenSpec.upto maskLooksSpec)

/-- 'thicketlaw01.MaskKeeps', WHERE WHAT IT READS IS OF BULK AT MOST 1048576: true; the input reads as it did. -/
def maskKeepsUptoRow : OpenClaim := { program := "ytekocjnmlgiceaadoor", sum := "072e8f6f54f10d04d782a669313b4116bc5d9d10684c549f350ec70a84b94581", func := "thicket/thicketlaw01.MaskKeeps", spec := "maskKeeps", unfollowed := true, recurses := true, named := ["math/bits.divideError", "math/bits.overflowError", "math/bits.deBruijn64tab"], apart := false, laid := [("math/bits.deBruijn64tab", laid_math_bits_deBruijn64tab)], narrowed := true }
def MaskKeepsUptoSaid : Prop := maskKeepsUptoRow.holds Tryd.pinned (OpenSpec.upto maskKeepsSpec)

/-- 'thicketlaw01.MaskWalks', WHERE WHAT IT READS IS OF BULK AT MOST 1048576: true; the input reads as it did. -/
def maskWalksUptoRow : OpenClaim := { program := "ytekocjnmlgiceaadoor", sum := "072e8f6f54f10d04d782a669313b4116bc5d9d10684c549f350ec70a84b94581", func := "thicket/thicketlaw01.MaskWalks", spec := "maskWalks", unfollowed := true, recurses := true, named := ["math/bits.divideError", "math/bits.overflowError", "math/bits.deBruijn64tab"], apart := false, laid := [("math/bits.deBruijn64tab", laid_math_bits_deBruijn64tab)], narrowed := true }
def MaskWalksUptoSaid : Prop := maskWalksUptoRow.holds Tryd.pinned (OpenSpec.upto maskWalksSpec)

/-- 'thicketlaw01.MaskSubsets', WHERE WHAT IT READS IS OF BULK AT MOST 1048576: true; the input reads as it did. -/
def maskSubsetsUptoRow : OpenClaim := { program := "ytekocjnmlgiceaadoor", sum := "072e8f6f54f10d04d782a669313b4116bc5d9d10684c549f350ec70a84b94581", func := "thicket/thicketlaw01.MaskSubsets", spec := "maskSubsets", unfollowed := true, recurses := true, named := ["math/bits.divideError", "math/bits.overflowError", "math/bits.deBruijn64tab"], apart := false, laid := [("math/bits.deBruijn64tab", laid_math_bits_deBruijn64tab)], narrowed := true }
def MaskSubsetsUptoSaid : Prop := maskSubsetsUptoRow.holds Tryd.pinned (OpenSpec.upto maskSubsetsSpec)

/-- 'thicketlaw01.MaskPascal', WHERE WHAT IT READS IS OF BULK AT MOST 1048576: true; the input reads as it did. -/
def maskPascalUptoRow : OpenClaim := { program := "ytekocjnmlgiceaadoor", sum := "072e8f6f54f10d04d782a669313b4116bc5d9d10684c549f350ec70a84b94581", func := "thicket/thicketlaw01.MaskPascal", spec := "maskPascal", unfollowed := true, recurses := true, named := ["math/bits.divideError", "math/bits.overflowError", "math/bits.deBruijn64tab"], apart := false, laid := [("math/bits.deBruijn64tab", laid_math_bits_deBruijn64tab)], narrowed := true }
def MaskPascalUptoSaid : Prop := maskPascalUptoRow.holds Tryd.pinned (OpenSpec.upto maskPascalSpec)

end Rows
end Go.Proofs.YtekocjnmlgiceaaDoor
