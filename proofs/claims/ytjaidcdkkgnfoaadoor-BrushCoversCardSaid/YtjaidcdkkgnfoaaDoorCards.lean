/-
  DERIVED. GIVEN WITH THE SEED: THE CARDS: each row of YtjaidcdkkgnfoaaDoorRows.lean that lists a variable, with what it lists TIED to the program's text (the seventh form; the later family's looks); each row that meets fmt, with fmt's text TOLD by the authors' own Lean function (tested against real Go, not proved from fmt's source: count such statements apart). THE CARD IS WHAT COUNTS. Prove the row's statement (the work); the ties are given (YtjaidcdkkgnfoaaDoorTie.lean); close each card by the builder's one call (the guide's Derived/Test/ToyasCard.lean, 'card_holds'). Laid BY PROGRAM, IN A SANDBOX (cutbox-door.mjs). By AI agents, Wed Nov 11 2026. No macro, syntax, notation, axiom, sorry.
-/
import Derived.Test.YtjaidcdkkgnfoaaDoorRows
import GoSem.ClaimSeven
namespace Go.Proofs.YtjaidcdkkgnfoaaDoor
namespace Rows

/-- THE TIED CARD OF 'imageeditorlaw28.BrushStrokes'. -/
def brushStrokesCard : Claim7 := { stood := { row := brushStrokesRow, standIns := [], harness := (true, "1aa0964b9559b80c6538006bc50912b3dd8fb5b96082bc822fb7ad46698b88ab"), looks := false }, kinds := [], alts := [], laidByText := true, laidKinds := [.data], laidTests := true, laidLooks := .later }
def BrushStrokesCardSaid : Prop := Claim7.holds Tryd.pinned (.plain (OpenSpec.ofChange brushStrokesSpec)) brushStrokesCard

/-- THE TIED CARD OF 'imageeditorlaw28.BrushCovers'. -/
def brushCoversCard : Claim7 := { stood := { row := brushCoversRow, standIns := [], harness := (true, "1aa0964b9559b80c6538006bc50912b3dd8fb5b96082bc822fb7ad46698b88ab"), looks := false }, kinds := [], alts := [], laidByText := true, laidKinds := [.data], laidTests := true, laidLooks := .later }
def BrushCoversCardSaid : Prop := Claim7.holds Tryd.pinned (.plain (OpenSpec.ofChange brushCoversSpec)) brushCoversCard

/-- THE SECOND FORM's CARD OF 'imageeditorlaw28.BrushStrokes'. -/
def brushStrokesUptoCard : Claim7 := { stood := { row := brushStrokesUptoRow, standIns := [], harness := (true, "1aa0964b9559b80c6538006bc50912b3dd8fb5b96082bc822fb7ad46698b88ab"), looks := false }, kinds := [], alts := [], laidByText := true, laidKinds := [.data], laidTests := true, laidLooks := .later }
def BrushStrokesUptoCardSaid : Prop := Claim7.holds Tryd.pinned (.plain (OpenSpec.upto brushStrokesSpec)) brushStrokesUptoCard

/-- THE SECOND FORM's CARD OF 'imageeditorlaw28.BrushCovers'. -/
def brushCoversUptoCard : Claim7 := { stood := { row := brushCoversUptoRow, standIns := [], harness := (true, "1aa0964b9559b80c6538006bc50912b3dd8fb5b96082bc822fb7ad46698b88ab"), looks := false }, kinds := [], alts := [], laidByText := true, laidKinds := [.data], laidTests := true, laidLooks := .later }
def BrushCoversUptoCardSaid : Prop := Claim7.holds Tryd.pinned (.plain (OpenSpec.upto brushCoversSpec)) brushCoversUptoCard
end Rows
end Go.Proofs.YtjaidcdkkgnfoaaDoor
