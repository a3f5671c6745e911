/-
  DERIVED. GIVEN WITH THE SEED: THE CARDS: each row of YtieacbccadbdbaaDoorRows.lean that lists a variable, with what it lists TIED to the program's text (the seventh form; the later family's looks); each row that meets fmt, with fmt's text TOLD by the authors' own Lean function (tested against real Go, not proved from fmt's source: count such statements apart). THE CARD IS WHAT COUNTS. Prove the row's statement (the work); the ties are given (YtieacbccadbdbaaDoorTie.lean); close each card by the builder's one call (the guide's Derived/Test/ToyasCard.lean, 'card_holds'). Laid BY PROGRAM, IN A SANDBOX (cutbox-door.mjs). By AI agents, Wed Nov 11 2026. No macro, syntax, notation, axiom, sorry.
-/
import Derived.Test.YtieacbccadbdbaaDoorRows
import GoSem.ClaimSeven
namespace Go.Proofs.YtieacbccadbdbaaDoor
namespace Rows

/-- THE TIED CARD OF 'imageeditorlaw29.RetouchSame'. -/
def retouchSameCard : Claim7 := { stood := { row := retouchSameRow, standIns := [], harness := (true, "53a6fbe69cc16def0d0f9dcdbbdb0695f9189fbcb8e6d214519e6d31a21ea57e"), looks := false }, kinds := [], alts := [], laidByText := true, laidKinds := [.data], laidTests := true, laidLooks := .later }
def RetouchSameCardSaid : Prop := Claim7.holds Tryd.pinned (.plain (OpenSpec.ofChange retouchSameSpec)) retouchSameCard

/-- THE TIED CARD OF 'imageeditorlaw29.RetouchBorders'. -/
def retouchBordersCard : Claim7 := { stood := { row := retouchBordersRow, standIns := [], harness := (true, "53a6fbe69cc16def0d0f9dcdbbdb0695f9189fbcb8e6d214519e6d31a21ea57e"), looks := false }, kinds := [], alts := [], laidByText := true, laidKinds := [.data], laidTests := true, laidLooks := .later }
def RetouchBordersCardSaid : Prop := Claim7.holds Tryd.pinned (.plain (OpenSpec.ofChange retouchBordersSpec)) retouchBordersCard

/-- THE TIED CARD OF 'imageeditorlaw29.RetouchSmall'. -/
def retouchSmallCard : Claim7 := { stood := { row := retouchSmallRow, standIns := [], harness := (true, "53a6fbe69cc16def0d0f9dcdbbdb0695f9189fbcb8e6d214519e6d31a21ea57e"), looks := false }, kinds := [], alts := [], laidByText := true, laidKinds := [.data], laidTests := true, laidLooks := .later }
def RetouchSmallCardSaid : Prop := Claim7.holds Tryd.pinned (.plain (OpenSpec.ofChange retouchSmallSpec)) retouchSmallCard

/-- THE TIED CARD OF 'imageeditorlaw29.RetouchOutside'. -/
def retouchOutsideCard : Claim7 := { stood := { row := retouchOutsideRow, standIns := [], harness := (true, "53a6fbe69cc16def0d0f9dcdbbdb0695f9189fbcb8e6d214519e6d31a21ea57e"), looks := false }, kinds := [], alts := [], laidByText := true, laidKinds := [.data], laidTests := true, laidLooks := .later }
def RetouchOutsideCardSaid : Prop := Claim7.holds Tryd.pinned (.plain (OpenSpec.ofChange retouchOutsideSpec)) retouchOutsideCard

/-- THE SECOND FORM's CARD OF 'imageeditorlaw29.RetouchSame'. -/
def retouchSameUptoCard : Claim7 := { stood := { row := retouchSameUptoRow, standIns := [], harness := (true, "53a6fbe69cc16def0d0f9dcdbbdb0695f9189fbcb8e6d214519e6d31a21ea57e"), looks := false }, kinds := [], alts := [], laidByText := true, laidKinds := [.data], laidTests := true, laidLooks := .later }
def RetouchSameUptoCardSaid : Prop := Claim7.holds Tryd.pinned (.plain (OpenSpec.upto retouchSameSpec)) retouchSameUptoCard

/-- THE SECOND FORM's CARD OF 'imageeditorlaw29.RetouchBorders'. -/
def retouchBordersUptoCard : Claim7 := { stood := { row := retouchBordersUptoRow, standIns := [], harness := (true, "53a6fbe69cc16def0d0f9dcdbbdb0695f9189fbcb8e6d214519e6d31a21ea57e"), looks := false }, kinds := [], alts := [], laidByText := true, laidKinds := [.data], laidTests := true, laidLooks := .later }
def RetouchBordersUptoCardSaid : Prop := Claim7.holds Tryd.pinned (.plain (OpenSpec.upto retouchBordersSpec)) retouchBordersUptoCard

/-- THE SECOND FORM's CARD OF 'imageeditorlaw29.RetouchSmall'. -/
def retouchSmallUptoCard : Claim7 := { stood := { row := retouchSmallUptoRow, standIns := [], harness := (true, "53a6fbe69cc16def0d0f9dcdbbdb0695f9189fbcb8e6d214519e6d31a21ea57e"), looks := false }, kinds := [], alts := [], laidByText := true, laidKinds := [.data], laidTests := true, laidLooks := .later }
def RetouchSmallUptoCardSaid : Prop := Claim7.holds Tryd.pinned (.plain (OpenSpec.upto retouchSmallSpec)) retouchSmallUptoCard

/-- THE SECOND FORM's CARD OF 'imageeditorlaw29.RetouchOutside'. -/
def retouchOutsideUptoCard : Claim7 := { stood := { row := retouchOutsideUptoRow, standIns := [], harness := (true, "53a6fbe69cc16def0d0f9dcdbbdb0695f9189fbcb8e6d214519e6d31a21ea57e"), looks := false }, kinds := [], alts := [], laidByText := true, laidKinds := [.data], laidTests := true, laidLooks := .later }
def RetouchOutsideUptoCardSaid : Prop := Claim7.holds Tryd.pinned (.plain (OpenSpec.upto retouchOutsideSpec)) retouchOutsideUptoCard
end Rows
end Go.Proofs.YtieacbccadbdbaaDoor
