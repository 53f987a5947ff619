/-
  No cell of these rows narrows 'for every input' (looked for: loops, veiled, ifaces, maps, wideKeys, modest, calm, conditions, laid).
  DERIVED. THE GIVEN ROWS OF THIS SEAT. 9 by the template 'for every input the law returns true; each argument reads behind the call as it read before'; 0 by the template 'total and deterministic' (their statements: YtiomgckodmecbaaGreatTotals.lean).
  GIVEN WITH THE SEED: the statements are not yours to turn. If you find one false, say at which input.
  Laid BY PROGRAM, IN A SANDBOX (cutbox-rows.mjs): the forced cells as the released guide's own fill.sh prints them over the translation c6156dd7fadd6968… (all of the seat's roots in one cut). By AI agents, Wed Nov 11 2026. No macro, syntax, notation, axiom, sorry.
-/
import Derived.Test.YtiomgckodmecbaaGreatChecked
import GoSem.Claim
import GoSem.ClaimJoined
import GoSem.ClaimMapViews
import Derived.JoinedTies
import Derived.KernelRfl
namespace Go.Proofs.YtiomgckodmecbaaGreat
/- THE CELL 'sum', in the pinned program and in every row, IS THE sha256 OF THE DUMP (.gsa) THAT YtiomgckodmecbaaGreatProg.lean LOADS. Nothing in Lean hashes anything: it is a label: what it is worth is what the hold of that sum in a sandbox is worth. -/
noncomputable def Tryz.pinned : Pinned := { name := "ytiomgckodmecbaagreat", sum := "c6156dd7fadd6968a2184b66906528c9f753bbf6f4af4ce9464b4c24628bf079", checked := Tryz.checked }
namespace Rows
def none {H : Type} : Left H := { results := [], args := [] }

/-- 'thicketlaw09.KernelHolds': WHATEVER THE INPUT: true; the input reads as it did. -/
def kernelHoldsSpec : ChangeSpec := { name := "kernelHolds", fn := fun _ => fun
  | [] => { results := [.lit (.bool true)], args := [] }
  | _ => none }
def kernelHoldsRow : OpenClaim := { program := "ytiomgckodmecbaagreat", sum := "c6156dd7fadd6968a2184b66906528c9f753bbf6f4af4ce9464b4c24628bf079", func := "thicket/thicketlaw09.KernelHolds", spec := "kernelHolds", unfollowed := true, recurses := true, plainKeys := false, apart := false }
def KernelHoldsSaid : Prop := kernelHoldsRow.holds Tryz.pinned (OpenSpec.ofChange kernelHoldsSpec)

/-- ITS FALSE NEIGHBOUR: 'it returns false'. Refute it at one input. -/
def kernelHoldsWrong : ChangeSpec := { name := "kernelHolds", fn := fun _ => fun
  | [] => { results := [.lit (.bool false)], args := [] }
  | _ => none }
def KernelHoldsWrongFalsely : Prop := kernelHoldsRow.holds Tryz.pinned (OpenSpec.ofChange kernelHoldsWrong)

/-- 'thicketlaw09.KernelFixed': WHATEVER THE INPUT: true; the input reads as it did. -/
def kernelFixedSpec : ChangeSpec := { name := "kernelFixed", fn := fun _ => fun
  | [] => { results := [.lit (.bool true)], args := [] }
  | _ => none }
def kernelFixedRow : OpenClaim := { program := "ytiomgckodmecbaagreat", sum := "c6156dd7fadd6968a2184b66906528c9f753bbf6f4af4ce9464b4c24628bf079", func := "thicket/thicketlaw09.KernelFixed", spec := "kernelFixed", unfollowed := true, recurses := true, plainKeys := false, apart := false }
def KernelFixedSaid : Prop := kernelFixedRow.holds Tryz.pinned (OpenSpec.ofChange kernelFixedSpec)

/-- ITS FALSE NEIGHBOUR: 'it returns false'. Refute it at one input. -/
def kernelFixedWrong : ChangeSpec := { name := "kernelFixed", fn := fun _ => fun
  | [] => { results := [.lit (.bool false)], args := [] }
  | _ => none }
def KernelFixedWrongFalsely : Prop := kernelFixedRow.holds Tryz.pinned (OpenSpec.ofChange kernelFixedWrong)

/-- 'thicketlaw09.KernelPlays': WHATEVER THE INPUT: true; the input reads as it did. -/
def kernelPlaysSpec : ChangeSpec := { name := "kernelPlays", fn := fun _ => fun
  | [d1, d2, d3] => { results := [.lit (.bool true)], args := [d1, d2, d3] }
  | _ => none }
def kernelPlaysRow : OpenClaim := { program := "ytiomgckodmecbaagreat", sum := "c6156dd7fadd6968a2184b66906528c9f753bbf6f4af4ce9464b4c24628bf079", func := "thicket/thicketlaw09.KernelPlays", spec := "kernelPlays", unfollowed := true, recurses := true, plainKeys := false, apart := false }
def KernelPlaysSaid : Prop := kernelPlaysRow.holds Tryz.pinned (OpenSpec.ofChange kernelPlaysSpec)

/-- ITS FALSE NEIGHBOUR: 'it returns false'. Refute it at one input. -/
def kernelPlaysWrong : ChangeSpec := { name := "kernelPlays", fn := fun _ => fun
  | [d1, d2, d3] => { results := [.lit (.bool false)], args := [d1, d2, d3] }
  | _ => none }
def KernelPlaysWrongFalsely : Prop := kernelPlaysRow.holds Tryz.pinned (OpenSpec.ofChange kernelPlaysWrong)

/-- 'thicketlaw09.KernelNews': WHATEVER THE INPUT: true; the input reads as it did. -/
def kernelNewsSpec : ChangeSpec := { name := "kernelNews", fn := fun _ => fun
  | [d1, d2, d3] => { results := [.lit (.bool true)], args := [d1, d2, d3] }
  | _ => none }
def kernelNewsRow : OpenClaim := { program := "ytiomgckodmecbaagreat", sum := "c6156dd7fadd6968a2184b66906528c9f753bbf6f4af4ce9464b4c24628bf079", func := "thicket/thicketlaw09.KernelNews", spec := "kernelNews", unfollowed := true, recurses := true, plainKeys := false, apart := false }
def KernelNewsSaid : Prop := kernelNewsRow.holds Tryz.pinned (OpenSpec.ofChange kernelNewsSpec)

/-- ITS FALSE NEIGHBOUR: 'it returns false'. Refute it at one input. -/
def kernelNewsWrong : ChangeSpec := { name := "kernelNews", fn := fun _ => fun
  | [d1, d2, d3] => { results := [.lit (.bool false)], args := [d1, d2, d3] }
  | _ => none }
def KernelNewsWrongFalsely : Prop := kernelNewsRow.holds Tryz.pinned (OpenSpec.ofChange kernelNewsWrong)

/-- 'thicketlaw09.KernelSound': WHATEVER THE INPUT: true; the input reads as it did. -/
def kernelSoundSpec : ChangeSpec := { name := "kernelSound", fn := fun _ => fun
  | [d1, d2, d3] => { results := [.lit (.bool true)], args := [d1, d2, d3] }
  | _ => none }
def kernelSoundRow : OpenClaim := { program := "ytiomgckodmecbaagreat", sum := "c6156dd7fadd6968a2184b66906528c9f753bbf6f4af4ce9464b4c24628bf079", func := "thicket/thicketlaw09.KernelSound", spec := "kernelSound", unfollowed := true, recurses := true, plainKeys := false, apart := false }
def KernelSoundSaid : Prop := kernelSoundRow.holds Tryz.pinned (OpenSpec.ofChange kernelSoundSpec)

/-- ITS FALSE NEIGHBOUR: 'it returns false'. Refute it at one input. -/
def kernelSoundWrong : ChangeSpec := { name := "kernelSound", fn := fun _ => fun
  | [d1, d2, d3] => { results := [.lit (.bool false)], args := [d1, d2, d3] }
  | _ => none }
def KernelSoundWrongFalsely : Prop := kernelSoundRow.holds Tryz.pinned (OpenSpec.ofChange kernelSoundWrong)

/-- 'thicketlaw09.KernelNames': WHATEVER THE INPUT: true; the input reads as it did. -/
def kernelNamesSpec : ChangeSpec := { name := "kernelNames", fn := fun _ => fun
  | [d1, d2, d3, d4] => { results := [.lit (.bool true)], args := [d1, d2, d3, d4] }
  | _ => none }
def kernelNamesRow : OpenClaim := { program := "ytiomgckodmecbaagreat", sum := "c6156dd7fadd6968a2184b66906528c9f753bbf6f4af4ce9464b4c24628bf079", func := "thicket/thicketlaw09.KernelNames", spec := "kernelNames", unfollowed := true, recurses := true, plainKeys := false, apart := false }
def KernelNamesSaid : Prop := kernelNamesRow.holds Tryz.pinned (OpenSpec.ofChange kernelNamesSpec)

/-- ITS FALSE NEIGHBOUR: 'it returns false'. Refute it at one input. -/
def kernelNamesWrong : ChangeSpec := { name := "kernelNames", fn := fun _ => fun
  | [d1, d2, d3, d4] => { results := [.lit (.bool false)], args := [d1, d2, d3, d4] }
  | _ => none }
def KernelNamesWrongFalsely : Prop := kernelNamesRow.holds Tryz.pinned (OpenSpec.ofChange kernelNamesWrong)

/-- 'thicketlaw09.KernelRoom': WHATEVER THE INPUT: true; the input reads as it did. -/
def kernelRoomSpec : ChangeSpec := { name := "kernelRoom", fn := fun _ => fun
  | [d1, d2, d3] => { results := [.lit (.bool true)], args := [d1, d2, d3] }
  | _ => none }
def kernelRoomRow : OpenClaim := { program := "ytiomgckodmecbaagreat", sum := "c6156dd7fadd6968a2184b66906528c9f753bbf6f4af4ce9464b4c24628bf079", func := "thicket/thicketlaw09.KernelRoom", spec := "kernelRoom", unfollowed := true, recurses := true, plainKeys := false, apart := false }
def KernelRoomSaid : Prop := kernelRoomRow.holds Tryz.pinned (OpenSpec.ofChange kernelRoomSpec)

/-- ITS FALSE NEIGHBOUR: 'it returns false'. Refute it at one input. -/
def kernelRoomWrong : ChangeSpec := { name := "kernelRoom", fn := fun _ => fun
  | [d1, d2, d3] => { results := [.lit (.bool false)], args := [d1, d2, d3] }
  | _ => none }
def KernelRoomWrongFalsely : Prop := kernelRoomRow.holds Tryz.pinned (OpenSpec.ofChange kernelRoomWrong)

/-- 'thicketlaw09.KernelFinds': WHATEVER THE INPUT: true; the input reads as it did. -/
def kernelFindsSpec : ChangeSpec := { name := "kernelFinds", fn := fun _ => fun
  | [d1, d2, d3, d4] => { results := [.lit (.bool true)], args := [d1, d2, d3, d4] }
  | _ => none }
def kernelFindsRow : OpenClaim := { program := "ytiomgckodmecbaagreat", sum := "c6156dd7fadd6968a2184b66906528c9f753bbf6f4af4ce9464b4c24628bf079", func := "thicket/thicketlaw09.KernelFinds", spec := "kernelFinds", unfollowed := true, recurses := true, plainKeys := false, apart := false }
def KernelFindsSaid : Prop := kernelFindsRow.holds Tryz.pinned (OpenSpec.ofChange kernelFindsSpec)

/-- ITS FALSE NEIGHBOUR: 'it returns false'. Refute it at one input. -/
def kernelFindsWrong : ChangeSpec := { name := "kernelFinds", fn := fun _ => fun
  | [d1, d2, d3, d4] => { results := [.lit (.bool false)], args := [d1, d2, d3, d4] }
  | _ => none }
def KernelFindsWrongFalsely : Prop := kernelFindsRow.holds Tryz.pinned (OpenSpec.ofChange kernelFindsWrong)

/-- 'thicketlaw09.KernelMemory': WHATEVER THE INPUT: true; the input reads as it did. -/
def kernelMemorySpec : ChangeSpec := { name := "kernelMemory", fn := fun _ => fun
  | [d1, d2, d3] => { results := [.lit (.bool true)], args := [d1, d2, d3] }
  | _ => none }
def kernelMemoryRow : OpenClaim := { program := "ytiomgckodmecbaagreat", sum := "c6156dd7fadd6968a2184b66906528c9f753bbf6f4af4ce9464b4c24628bf079", func := "thicket/thicketlaw09.KernelMemory", spec := "kernelMemory", unfollowed := true, recurses := true, plainKeys := false, apart := false }
def KernelMemorySaid : Prop := kernelMemoryRow.holds Tryz.pinned (OpenSpec.ofChange kernelMemorySpec)

/-- ITS FALSE NEIGHBOUR: 'it returns false'. Refute it at one input. -/
def kernelMemoryWrong : ChangeSpec := { name := "kernelMemory", fn := fun _ => fun
  | [d1, d2, d3] => { results := [.lit (.bool false)], args := [d1, d2, d3] }
  | _ => none }
def KernelMemoryWrongFalsely : Prop := kernelMemoryRow.holds Tryz.pinned (OpenSpec.ofChange kernelMemoryWrong)

/- THE SECOND FORM. 'bulk': how many values and letters a reading holds, each counted each time it is reached (what is shared counts as often as it is met; a slice's spare places count too). A statement '..UptoSaid' is the law's where the arguments, and the package variables that the reading takes, are together of bulk at most 1048576: NARROWER than '..Said'. Prove '..Said' where nothing that the law and all that it calls make is longer than what came in: it says more and counts as full. Else prove '..UptoSaid'. A law counts once. -/
mutual
def uptoBulk {H : Type} : DataW H → Nat
  | .lit (.string bytes) => bytes.length + 1
  | .lit _ => 1
  | .nil => 1
  | .ptr d => uptoBulk d + 1
  | .slice elems spare => uptoBulkAll elems + uptoBulkAll spare + 1
  | .agg parts => uptoBulkAll parts + 1
  | .iface _ d => uptoBulk d + 1
  | .map entries => uptoBulkEntries entries + 1
  | .held _ => 1
def uptoBulkAll {H : Type} : List (DataW H) → Nat
  | [] => 0
  | d :: r => uptoBulk d + uptoBulkAll r
def uptoBulkEntries {H : Type} : List (Lit × DataW H) → Nat
  | [] => 0
  | x :: r => uptoBulkEntry x + uptoBulkEntries r
def uptoBulkEntry {H : Type} : Lit × DataW H → Nat
  | (.string bytes, d) => bytes.length + uptoBulk d + 1
  | (_, d) => uptoBulk d + 1
 end
def uptoSmall : (H : Type) → List (DataW H) → Bool := fun _ ds => decide (uptoBulkAll ds ≤ 1048576)
def OpenSpec.upto (s : _root_.Go.ChangeSpec) : _root_.Go.OpenSpec := { _root_.Go.OpenSpec.ofChange s with cond := some uptoSmall }

/-- 'thicketlaw09.KernelHolds', WHERE WHAT IT READS IS OF BULK AT MOST 1048576: true; the input reads as it did. -/
def kernelHoldsUptoRow : OpenClaim := { program := "ytiomgckodmecbaagreat", sum := "c6156dd7fadd6968a2184b66906528c9f753bbf6f4af4ce9464b4c24628bf079", func := "thicket/thicketlaw09.KernelHolds", spec := "kernelHolds", unfollowed := true, recurses := true, plainKeys := false, apart := false, narrowed := true }
def KernelHoldsUptoSaid : Prop := kernelHoldsUptoRow.holds Tryz.pinned (OpenSpec.upto kernelHoldsSpec)

/-- 'thicketlaw09.KernelFixed', WHERE WHAT IT READS IS OF BULK AT MOST 1048576: true; the input reads as it did. -/
def kernelFixedUptoRow : OpenClaim := { program := "ytiomgckodmecbaagreat", sum := "c6156dd7fadd6968a2184b66906528c9f753bbf6f4af4ce9464b4c24628bf079", func := "thicket/thicketlaw09.KernelFixed", spec := "kernelFixed", unfollowed := true, recurses := true, plainKeys := false, apart := false, narrowed := true }
def KernelFixedUptoSaid : Prop := kernelFixedUptoRow.holds Tryz.pinned (OpenSpec.upto kernelFixedSpec)

/-- 'thicketlaw09.KernelPlays', WHERE WHAT IT READS IS OF BULK AT MOST 1048576: true; the input reads as it did. -/
def kernelPlaysUptoRow : OpenClaim := { program := "ytiomgckodmecbaagreat", sum := "c6156dd7fadd6968a2184b66906528c9f753bbf6f4af4ce9464b4c24628bf079", func := "thicket/thicketlaw09.KernelPlays", spec := "kernelPlays", unfollowed := true, recurses := true, plainKeys := false, apart := false, narrowed := true }
def KernelPlaysUptoSaid : Prop := kernelPlaysUptoRow.holds Tryz.pinned (OpenSpec.upto kernelPlaysSpec)

/-- 'thicketlaw09.KernelNews', WHERE WHAT IT READS IS OF BULK AT MOST 1048576: true; the input reads as it did. -/
def kernelNewsUptoRow : OpenClaim := { program := "ytiomgckodmecbaagreat", sum := "c6156dd7fadd6968a2184b66906528c9f753bbf6f4af4ce9464b4c24628bf079", func := "thicket/thicketlaw09.KernelNews", spec := "kernelNews", unfollowed := true, recurses := true, plainKeys := false, apart := false, narrowed := true }
def KernelNewsUptoSaid : Prop := kernelNewsUptoRow.holds Tryz.pinned (OpenSpec.upto kernelNewsSpec)

/-- 'thicketlaw09.KernelSound', WHERE WHAT IT READS IS OF BULK AT MOST 1048576: true; the input reads as it did. -/
def kernelSoundUptoRow : OpenClaim := { program := "ytiomgckodmecbaagreat", sum := "c6156dd7fadd6968a2184b66906528c9f753bbf6f4af4ce9464b4c24628bf079", func := "thicket/thicketlaw09.KernelSound", spec := "kernelSound", unfollowed := true, recurses := true, plainKeys := false, apart := false, narrowed := true }
def KernelSoundUptoSaid : Prop := kernelSoundUptoRow.holds Tryz.pinned (OpenSpec.upto kernelSoundSpec)

/-- 'thicketlaw09.KernelNames', WHERE WHAT IT READS IS OF BULK AT MOST 1048576: true; the input reads as it did. -/
def kernelNamesUptoRow : OpenClaim := { program := "ytiomgckodmecbaagreat", sum := "c6156dd7fadd6968a2184b66906528c9f753bbf6f4af4ce9464b4c24628bf079", func := "thicket/thicketlaw09.KernelNames", spec := "kernelNames", unfollowed := true, recurses := true, plainKeys := false, apart := false, narrowed := true }
def KernelNamesUptoSaid : Prop := kernelNamesUptoRow.holds Tryz.pinned (OpenSpec.upto kernelNamesSpec)

/-- 'thicketlaw09.KernelRoom', WHERE WHAT IT READS IS OF BULK AT MOST 1048576: true; the input reads as it did. -/
def kernelRoomUptoRow : OpenClaim := { program := "ytiomgckodmecbaagreat", sum := "c6156dd7fadd6968a2184b66906528c9f753bbf6f4af4ce9464b4c24628bf079", func := "thicket/thicketlaw09.KernelRoom", spec := "kernelRoom", unfollowed := true, recurses := true, plainKeys := false, apart := false, narrowed := true }
def KernelRoomUptoSaid : Prop := kernelRoomUptoRow.holds Tryz.pinned (OpenSpec.upto kernelRoomSpec)

/-- 'thicketlaw09.KernelFinds', WHERE WHAT IT READS IS OF BULK AT MOST 1048576: true; the input reads as it did. -/
def kernelFindsUptoRow : OpenClaim := { program := "ytiomgckodmecbaagreat", sum := "c6156dd7fadd6968a2184b66906528c9f753bbf6f4af4ce9464b4c24628bf079", func := "thicket/thicketlaw09.KernelFinds", spec := "kernelFinds", unfollowed := true, recurses := true, plainKeys := false, apart := false, narrowed := true }
def KernelFindsUptoSaid : Prop := kernelFindsUptoRow.holds Tryz.pinned (OpenSpec.upto kernelFindsSpec)

/-- 'thicketlaw09.KernelMemory', WHERE WHAT IT READS IS OF BULK AT MOST 1048576: true; the input reads as it did. -/
def kernelMemoryUptoRow : OpenClaim := { program := "ytiomgckodmecbaagreat", sum := "c6156dd7fadd6968a2184b66906528c9f753bbf6f4af4ce9464b4c24628bf079", func := "thicket/thicketlaw09.KernelMemory", spec := "kernelMemory", unfollowed := true, recurses := true, plainKeys := false, apart := false, narrowed := true }
def KernelMemoryUptoSaid : Prop := kernelMemoryUptoRow.holds Tryz.pinned (OpenSpec.upto kernelMemorySpec)

end Rows
end Go.Proofs.YtiomgckodmecbaaGreat
