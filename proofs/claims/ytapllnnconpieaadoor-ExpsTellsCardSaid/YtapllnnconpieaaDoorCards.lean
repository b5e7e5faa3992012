/-
  DERIVED. GIVEN WITH THE SEED: THE CARDS: each row of YtapllnnconpieaaDoorRows.lean that lists a variable, with what it lists TIED to the program's text (the seventh form; the later family's looks); each row that meets fmt, with fmt's text TOLD by the authors' own Lean function (tested against real Go, not proved from fmt's source: count such statements apart). THE CARD IS WHAT COUNTS. Prove the row's statement (the work); the ties are given (YtapllnnconpieaaDoorTie.lean); close each card by the builder's one call (the guide's Derived/Test/ToyasCard.lean, 'card_holds'). Laid BY PROGRAM, IN A SANDBOX (cutbox-door.mjs). By AI agents, Wed Nov 11 2026. No macro, syntax, notation, axiom, sorry.
-/
import Derived.Test.YtapllnnconpieaaDoorRows
import GoSem.ClaimSeven
namespace Go.Proofs.YtapllnnconpieaaDoor
namespace Rows

/-- THE TIED CARD OF 'slipwaylaw2.FoldBounds'. -/
def foldBoundsCard : Claim7 := { stood := { row := foldBoundsRow, standIns := [], harness := (true, "78d6ff1d3895b93373878e0e60ae64c0ec71ddd2d0e9091ea9739e873ddf33fa"), looks := true }, kinds := [], alts := [], laidByText := true, laidKinds := [.data, .data, .data, .sentinel, .sentinel], laidTests := true, laidLooks := .later }
def FoldBoundsCardSaid : Prop := Claim7.holds Tryd.pinned (.plain (OpenSpec.ofChange foldBoundsSpec)) foldBoundsCard

/-- THE TIED CARD OF 'slipwaylaw2.FoldLetters'. -/
def foldLettersCard : Claim7 := { stood := { row := foldLettersRow, standIns := [], harness := (true, "78d6ff1d3895b93373878e0e60ae64c0ec71ddd2d0e9091ea9739e873ddf33fa"), looks := true }, kinds := [], alts := [], laidByText := true, laidKinds := [.data, .data, .data, .sentinel, .sentinel], laidTests := true, laidLooks := .later }
def FoldLettersCardSaid : Prop := Claim7.holds Tryd.pinned (.plain (OpenSpec.ofChange foldLettersSpec)) foldLettersCard

/-- THE TIED CARD OF 'slipwaylaw2.FoldNumbers'. -/
def foldNumbersCard : Claim7 := { stood := { row := foldNumbersRow, standIns := [], harness := (true, "78d6ff1d3895b93373878e0e60ae64c0ec71ddd2d0e9091ea9739e873ddf33fa"), looks := true }, kinds := [], alts := [], laidByText := true, laidKinds := [.data, .data, .data, .sentinel, .sentinel], laidTests := true, laidLooks := .later }
def FoldNumbersCardSaid : Prop := Claim7.holds Tryd.pinned (.plain (OpenSpec.ofChange foldNumbersSpec)) foldNumbersCard

/-- THE TIED CARD OF 'slipwaylaw2.FoldWays'. -/
def foldWaysCard : Claim7 := { stood := { row := foldWaysRow, standIns := [], harness := (true, "78d6ff1d3895b93373878e0e60ae64c0ec71ddd2d0e9091ea9739e873ddf33fa"), looks := true }, kinds := [], alts := [], laidByText := true, laidKinds := [.data, .data, .data, .sentinel, .sentinel], laidTests := true, laidLooks := .later }
def FoldWaysCardSaid : Prop := Claim7.holds Tryd.pinned (.plain (OpenSpec.ofChange foldWaysSpec)) foldWaysCard

/-- THE TIED CARD OF 'slipwaylaw7.ExpsBack'. -/
def expsBackCard : Claim7 := { stood := { row := expsBackRow, standIns := [], harness := (true, "78d6ff1d3895b93373878e0e60ae64c0ec71ddd2d0e9091ea9739e873ddf33fa"), looks := true }, kinds := [], alts := [], laidByText := true, laidKinds := [.data, .data, .data, .sentinel, .sentinel], laidTests := true, laidLooks := .later }
def ExpsBackCardSaid : Prop := Claim7.holds Tryd.pinned (.plain (OpenSpec.ofChange expsBackSpec)) expsBackCard

/-- THE TIED CARD OF 'slipwaylaw7.ExpsBounds'. -/
def expsBoundsCard : Claim7 := { stood := { row := expsBoundsRow, standIns := [], harness := (true, "78d6ff1d3895b93373878e0e60ae64c0ec71ddd2d0e9091ea9739e873ddf33fa"), looks := true }, kinds := [], alts := [], laidByText := true, laidKinds := [.data, .data, .data, .sentinel, .sentinel], laidTests := true, laidLooks := .later }
def ExpsBoundsCardSaid : Prop := Claim7.holds Tryd.pinned (.plain (OpenSpec.ofChange expsBoundsSpec)) expsBoundsCard

/-- THE TIED CARD OF 'slipwaylaw7.ExpsTells'. -/
def expsTellsCard : Claim7 := { stood := { row := expsTellsRow, standIns := [], harness := (true, "78d6ff1d3895b93373878e0e60ae64c0ec71ddd2d0e9091ea9739e873ddf33fa"), looks := true }, kinds := [], alts := [], laidByText := true, laidKinds := [.data, .data, .data, .sentinel, .sentinel], laidTests := true, laidLooks := .later }
def ExpsTellsCardSaid : Prop := Claim7.holds Tryd.pinned (.plain (OpenSpec.ofChange expsTellsSpec)) expsTellsCard

/-- THE TIED CARD OF 'slipwaylaw7.ExpsFinds'. -/
def expsFindsCard : Claim7 := { stood := { row := expsFindsRow, standIns := [], harness := (true, "78d6ff1d3895b93373878e0e60ae64c0ec71ddd2d0e9091ea9739e873ddf33fa"), looks := true }, kinds := [], alts := [], laidByText := true, laidKinds := [.data, .data, .data, .sentinel, .sentinel], laidTests := true, laidLooks := .later }
def ExpsFindsCardSaid : Prop := Claim7.holds Tryd.pinned (.plain (OpenSpec.ofChange expsFindsSpec)) expsFindsCard

/-- THE SECOND FORM's CARD OF 'slipwaylaw2.FoldBounds'. -/
def foldBoundsUptoCard : Claim7 := { stood := { row := foldBoundsUptoRow, standIns := [], harness := (true, "78d6ff1d3895b93373878e0e60ae64c0ec71ddd2d0e9091ea9739e873ddf33fa"), looks := true }, kinds := [], alts := [], laidByText := true, laidKinds := [.data, .data, .data, .sentinel, .sentinel], laidTests := true, laidLooks := .later }
def FoldBoundsUptoCardSaid : Prop := Claim7.holds Tryd.pinned (.plain (OpenSpec.upto foldBoundsSpec)) foldBoundsUptoCard

/-- THE SECOND FORM's CARD OF 'slipwaylaw2.FoldLetters'. -/
def foldLettersUptoCard : Claim7 := { stood := { row := foldLettersUptoRow, standIns := [], harness := (true, "78d6ff1d3895b93373878e0e60ae64c0ec71ddd2d0e9091ea9739e873ddf33fa"), looks := true }, kinds := [], alts := [], laidByText := true, laidKinds := [.data, .data, .data, .sentinel, .sentinel], laidTests := true, laidLooks := .later }
def FoldLettersUptoCardSaid : Prop := Claim7.holds Tryd.pinned (.plain (OpenSpec.upto foldLettersSpec)) foldLettersUptoCard

/-- THE SECOND FORM's CARD OF 'slipwaylaw2.FoldNumbers'. -/
def foldNumbersUptoCard : Claim7 := { stood := { row := foldNumbersUptoRow, standIns := [], harness := (true, "78d6ff1d3895b93373878e0e60ae64c0ec71ddd2d0e9091ea9739e873ddf33fa"), looks := true }, kinds := [], alts := [], laidByText := true, laidKinds := [.data, .data, .data, .sentinel, .sentinel], laidTests := true, laidLooks := .later }
def FoldNumbersUptoCardSaid : Prop := Claim7.holds Tryd.pinned (.plain (OpenSpec.upto foldNumbersSpec)) foldNumbersUptoCard

/-- THE SECOND FORM's CARD OF 'slipwaylaw2.FoldWays'. -/
def foldWaysUptoCard : Claim7 := { stood := { row := foldWaysUptoRow, standIns := [], harness := (true, "78d6ff1d3895b93373878e0e60ae64c0ec71ddd2d0e9091ea9739e873ddf33fa"), looks := true }, kinds := [], alts := [], laidByText := true, laidKinds := [.data, .data, .data, .sentinel, .sentinel], laidTests := true, laidLooks := .later }
def FoldWaysUptoCardSaid : Prop := Claim7.holds Tryd.pinned (.plain (OpenSpec.upto foldWaysSpec)) foldWaysUptoCard

/-- THE SECOND FORM's CARD OF 'slipwaylaw7.ExpsBack'. -/
def expsBackUptoCard : Claim7 := { stood := { row := expsBackUptoRow, standIns := [], harness := (true, "78d6ff1d3895b93373878e0e60ae64c0ec71ddd2d0e9091ea9739e873ddf33fa"), looks := true }, kinds := [], alts := [], laidByText := true, laidKinds := [.data, .data, .data, .sentinel, .sentinel], laidTests := true, laidLooks := .later }
def ExpsBackUptoCardSaid : Prop := Claim7.holds Tryd.pinned (.plain (OpenSpec.upto expsBackSpec)) expsBackUptoCard

/-- THE SECOND FORM's CARD OF 'slipwaylaw7.ExpsBounds'. -/
def expsBoundsUptoCard : Claim7 := { stood := { row := expsBoundsUptoRow, standIns := [], harness := (true, "78d6ff1d3895b93373878e0e60ae64c0ec71ddd2d0e9091ea9739e873ddf33fa"), looks := true }, kinds := [], alts := [], laidByText := true, laidKinds := [.data, .data, .data, .sentinel, .sentinel], laidTests := true, laidLooks := .later }
def ExpsBoundsUptoCardSaid : Prop := Claim7.holds Tryd.pinned (.plain (OpenSpec.upto expsBoundsSpec)) expsBoundsUptoCard

/-- THE SECOND FORM's CARD OF 'slipwaylaw7.ExpsTells'. -/
def expsTellsUptoCard : Claim7 := { stood := { row := expsTellsUptoRow, standIns := [], harness := (true, "78d6ff1d3895b93373878e0e60ae64c0ec71ddd2d0e9091ea9739e873ddf33fa"), looks := true }, kinds := [], alts := [], laidByText := true, laidKinds := [.data, .data, .data, .sentinel, .sentinel], laidTests := true, laidLooks := .later }
def ExpsTellsUptoCardSaid : Prop := Claim7.holds Tryd.pinned (.plain (OpenSpec.upto expsTellsSpec)) expsTellsUptoCard

/-- THE SECOND FORM's CARD OF 'slipwaylaw7.ExpsFinds'. -/
def expsFindsUptoCard : Claim7 := { stood := { row := expsFindsUptoRow, standIns := [], harness := (true, "78d6ff1d3895b93373878e0e60ae64c0ec71ddd2d0e9091ea9739e873ddf33fa"), looks := true }, kinds := [], alts := [], laidByText := true, laidKinds := [.data, .data, .data, .sentinel, .sentinel], laidTests := true, laidLooks := .later }
def ExpsFindsUptoCardSaid : Prop := Claim7.holds Tryd.pinned (.plain (OpenSpec.upto expsFindsSpec)) expsFindsUptoCard
end Rows
end Go.Proofs.YtapllnnconpieaaDoor
