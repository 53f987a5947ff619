/-
  DERIVED. GIVEN WITH THE SEED: THE CARDS: each row of YtekocjnmlgiceaaDoorRows.lean that lists a variable, with what it lists TIED to the program's text (the seventh form; the later family's looks); each row that meets fmt, with fmt's text TOLD by the authors' own Lean function (tested against real Go, not proved from fmt's source: count such statements apart). THE CARD IS WHAT COUNTS. Prove the row's statement (the work); the ties are given (YtekocjnmlgiceaaDoorTie.lean); close each card by the builder's one call (the guide's Derived/Test/ToyasCard.lean, 'card_holds'). Laid BY PROGRAM, IN A SANDBOX (cutbox-door.mjs). By AI agents, Wed Nov 11 2026. No macro, syntax, notation, axiom, sorry.
-/
import Derived.Test.YtekocjnmlgiceaaDoorRows
import GoSem.ClaimSeven
namespace Go.Proofs.YtekocjnmlgiceaaDoor
namespace Rows

/-- THE TIED CARD OF 'thicketlaw01.MaskOfs'. -/
def maskOfsCard : Claim7 := { stood := { row := maskOfsRow, standIns := [], harness := (true, "2ec64468e1b6ec08a67023028f96230aa5e77f7877dd5a2ba2e42ce3f8f1d9f5"), looks := false }, kinds := [], alts := [], laidByText := true, laidKinds := [.data], laidTests := true, laidLooks := .later }
def MaskOfsCardSaid : Prop := Claim7.holds Tryd.pinned (.plain (OpenSpec.ofChange maskOfsSpec)) maskOfsCard

/-- THE TIED CARD OF 'thicketlaw01.MaskNumbers'. -/
def maskNumbersCard : Claim7 := { stood := { row := maskNumbersRow, standIns := [], harness := (true, "2ec64468e1b6ec08a67023028f96230aa5e77f7877dd5a2ba2e42ce3f8f1d9f5"), looks := false }, kinds := [], alts := [], laidByText := true, laidKinds := [.data], laidTests := true, laidLooks := .later }
def MaskNumbersCardSaid : Prop := Claim7.holds Tryd.pinned (.plain (OpenSpec.ofChange maskNumbersSpec)) maskNumbersCard

/-- THE TIED CARD OF 'thicketlaw01.MaskRanks'. -/
def maskRanksCard : Claim7 := { stood := { row := maskRanksRow, standIns := [], harness := (true, "2ec64468e1b6ec08a67023028f96230aa5e77f7877dd5a2ba2e42ce3f8f1d9f5"), looks := false }, kinds := [], alts := [], laidByText := true, laidKinds := [.data], laidTests := true, laidLooks := .later }
def MaskRanksCardSaid : Prop := Claim7.holds Tryd.pinned (.plain (OpenSpec.ofChange maskRanksSpec)) maskRanksCard

/-- THE TIED CARD OF 'thicketlaw01.MaskLooks'. -/
def maskLooksCard : Claim7 := { stood := { row := maskLooksRow, standIns := [], harness := (true, "2ec64468e1b6ec08a67023028f96230aa5e77f7877dd5a2ba2e42ce3f8f1d9f5"), looks := false }, kinds := [], alts := [], laidByText := true, laidKinds := [.data], laidTests := true, laidLooks := .later }
def MaskLooksCardSaid : Prop := Claim7.holds Tryd.pinned (.plain (OpenSpec.ofChange maskLooksSpec)) maskLooksCard

/-- THE TIED CARD OF 'thicketlaw01.MaskKeeps'. -/
def maskKeepsCard : Claim7 := { stood := { row := maskKeepsRow, standIns := [], harness := (true, "2ec64468e1b6ec08a67023028f96230aa5e77f7877dd5a2ba2e42ce3f8f1d9f5"), looks := false }, kinds := [], alts := [], laidByText := true, laidKinds := [.data], laidTests := true, laidLooks := .later }
def MaskKeepsCardSaid : Prop := Claim7.holds Tryd.pinned (.plain (OpenSpec.ofChange maskKeepsSpec)) maskKeepsCard

/-- THE TIED CARD OF 'thicketlaw01.MaskWalks'. -/
def maskWalksCard : Claim7 := { stood := { row := maskWalksRow, standIns := [], harness := (true, "2ec64468e1b6ec08a67023028f96230aa5e77f7877dd5a2ba2e42ce3f8f1d9f5"), looks := false }, kinds := [], alts := [], laidByText := true, laidKinds := [.data], laidTests := true, laidLooks := .later }
def MaskWalksCardSaid : Prop := Claim7.holds Tryd.pinned (.plain (OpenSpec.ofChange maskWalksSpec)) maskWalksCard

/-- THE TIED CARD OF 'thicketlaw01.MaskSubsets'. -/
def maskSubsetsCard : Claim7 := { stood := { row := maskSubsetsRow, standIns := [], harness := (true, "2ec64468e1b6ec08a67023028f96230aa5e77f7877dd5a2ba2e42ce3f8f1d9f5"), looks := false }, kinds := [], alts := [], laidByText := true, laidKinds := [.data], laidTests := true, laidLooks := .later }
def MaskSubsetsCardSaid : Prop := Claim7.holds Tryd.pinned (.plain (OpenSpec.ofChange maskSubsetsSpec)) maskSubsetsCard

/-- THE TIED CARD OF 'thicketlaw01.MaskPascal'. -/
def maskPascalCard : Claim7 := { stood := { row := maskPascalRow, standIns := [], harness := (true, "2ec64468e1b6ec08a67023028f96230aa5e77f7877dd5a2ba2e42ce3f8f1d9f5"), looks := false }, kinds := [], alts := [], laidByText := true, laidKinds := [.data], laidTests := true, laidLooks := .later }
def MaskPascalCardSaid : Prop := Claim7.holds Tryd.pinned (.plain (OpenSpec.ofChange maskPascalSpec)) maskPascalCard

/-- THE SECOND FORM's CARD OF 'thicketlaw01.MaskOfs'. -/
def maskOfsUptoCard : Claim7 := { stood := { row := maskOfsUptoRow, standIns := [], harness := (true, "2ec64468e1b6ec08a67023028f96230aa5e77f7877dd5a2ba2e42ce3f8f1d9f5"), looks := false }, kinds := [], alts := [], laidByText := true, laidKinds := [.data], laidTests := true, laidLooks := .later }
def MaskOfsUptoCardSaid : Prop := Claim7.holds Tryd.pinned (.plain (OpenSpec.upto maskOfsSpec)) maskOfsUptoCard

/-- THE SECOND FORM's CARD OF 'thicketlaw01.MaskNumbers'. -/
def maskNumbersUptoCard : Claim7 := { stood := { row := maskNumbersUptoRow, standIns := [], harness := (true, "2ec64468e1b6ec08a67023028f96230aa5e77f7877dd5a2ba2e42ce3f8f1d9f5"), looks := false }, kinds := [], alts := [], laidByText := true, laidKinds := [.data], laidTests := true, laidLooks := .later }
def MaskNumbersUptoCardSaid : Prop := Claim7.holds Tryd.pinned (.plain (OpenSpec.upto maskNumbersSpec)) maskNumbersUptoCard

/-- THE SECOND FORM's CARD OF 'thicketlaw01.MaskRanks'. -/
def maskRanksUptoCard : Claim7 := { stood := { row := maskRanksUptoRow, standIns := [], harness := (true, "2ec64468e1b6ec08a67023028f96230aa5e77f7877dd5a2ba2e42ce3f8f1d9f5"), looks := false }, kinds := [], alts := [], laidByText := true, laidKinds := [.data], laidTests := true, laidLooks := .later }
def MaskRanksUptoCardSaid : Prop := Claim7.holds Tryd.pinned (.plain (OpenSpec.upto maskRanksSpec)) maskRanksUptoCard

/-- THE SECOND FORM's CARD OF 'thicketlaw01.MaskLooks'. -/
def maskLooksUptoCard : Claim7 := { stood := { row := maskLooksUptoRow, standIns := [], harness := (true, "2ec64468e1b6ec08a67023028f96230aa5e77f7877dd5a2ba2e42ce3f8f1d9f5"), looks := false }, kinds := [], alts := [], laidByText := true, laidKinds := [.data], laidTests := true, laidLooks := .later }
def MaskLooksUptoCardSaid : Prop := Claim7.holds Tryd.pinned (.plain (OpenSpec.upto maskLooksSpec)) maskLooksUptoCard

/-- THE SECOND FORM's CARD OF 'thicketlaw01.MaskKeeps'. -/
def maskKeepsUptoCard : Claim7 := { stood := { row := maskKeepsUptoRow, standIns := [], harness := (true, "2ec64468e1b6ec08a67023028f96230aa5e77f7877dd5a2ba2e42ce3f8f1d9f5"), looks := false }, kinds := [], alts := [], laidByText := true, laidKinds := [.data], laidTests := true, laidLooks := .later }
def MaskKeepsUptoCardSaid : Prop := Claim7.holds Tryd.pinned (.plain (OpenSpec.upto maskKeepsSpec)) maskKeepsUptoCard

/-- THE SECOND FORM's CARD OF 'thicketlaw01.MaskWalks'. -/
def maskWalksUptoCard : Claim7 := { stood := { row := maskWalksUptoRow, standIns := [], harness := (true, "2ec64468e1b6ec08a67023028f96230aa5e77f7877dd5a2ba2e42ce3f8f1d9f5"), looks := false }, kinds := [], alts := [], laidByText := true, laidKinds := [.data], laidTests := true, laidLooks := .later }
def MaskWalksUptoCardSaid : Prop := Claim7.holds Tryd.pinned (.plain (OpenSpec.upto maskWalksSpec)) maskWalksUptoCard

/-- THE SECOND FORM's CARD OF 'thicketlaw01.MaskSubsets'. -/
def maskSubsetsUptoCard : Claim7 := { stood := { row := maskSubsetsUptoRow, standIns := [], harness := (true, "2ec64468e1b6ec08a67023028f96230aa5e77f7877dd5a2ba2e42ce3f8f1d9f5"), looks := false }, kinds := [], alts := [], laidByText := true, laidKinds := [.data], laidTests := true, laidLooks := .later }
def MaskSubsetsUptoCardSaid : Prop := Claim7.holds Tryd.pinned (.plain (OpenSpec.upto maskSubsetsSpec)) maskSubsetsUptoCard

/-- THE SECOND FORM's CARD OF 'thicketlaw01.MaskPascal'. -/
def maskPascalUptoCard : Claim7 := { stood := { row := maskPascalUptoRow, standIns := [], harness := (true, "2ec64468e1b6ec08a67023028f96230aa5e77f7877dd5a2ba2e42ce3f8f1d9f5"), looks := false }, kinds := [], alts := [], laidByText := true, laidKinds := [.data], laidTests := true, laidLooks := .later }
def MaskPascalUptoCardSaid : Prop := Claim7.holds Tryd.pinned (.plain (OpenSpec.upto maskPascalSpec)) maskPascalUptoCard
end Rows
end Go.Proofs.YtekocjnmlgiceaaDoor
