/-
  DERIVED. GIVEN WITH THE SEED: THE CARDS: each row of YtjaidcdkkgnfoaaGreatDoorRows.lean that lists a variable, with what it lists TIED to the program's text (the seventh form; the later family's looks); each row that meets fmt, with fmt's text TOLD by the authors' own Lean function (tested against real Go, not proved from fmt's source: count such statements apart). THE CARD IS WHAT COUNTS. Prove the row's statement (the work); the ties are given (YtjaidcdkkgnfoaaGreatDoorTie.lean); close each card by the builder's one call (the guide's Derived/Test/ToyasCard.lean, 'card_holds'). Laid BY PROGRAM, IN A SANDBOX (cutbox-door.mjs). By AI agents, Wed Nov 11 2026. No macro, syntax, notation, axiom, sorry.
-/
import Derived.Test.YtjaidcdkkgnfoaaGreatDoorRows
import GoSem.ClaimSeven
namespace Go.Proofs.YtjaidcdkkgnfoaaGreatDoor
namespace Rows

/-- THE TIED CARD OF 'imageeditorlaw28.BrushPaints'. -/
def brushPaintsCard : Claim7 := { stood := { row := brushPaintsRow, standIns := [], harness := (true, "e158b86a5bdab40c756d0733f94c791fab7d14b4c9c3df3215de9de0347d1483"), looks := false }, kinds := [], alts := [], laidByText := true, laidKinds := [.data], laidTests := true, laidLooks := .later }
def BrushPaintsCardSaid : Prop := Claim7.holds Tryz.pinned (.plain (OpenSpec.ofChange brushPaintsSpec)) brushPaintsCard

/-- THE TIED CARD OF 'imageeditorlaw28.BrushErases'. -/
def brushErasesCard : Claim7 := { stood := { row := brushErasesRow, standIns := [], harness := (true, "e158b86a5bdab40c756d0733f94c791fab7d14b4c9c3df3215de9de0347d1483"), looks := false }, kinds := [], alts := [], laidByText := true, laidKinds := [.data], laidTests := true, laidLooks := .later }
def BrushErasesCardSaid : Prop := Claim7.holds Tryz.pinned (.plain (OpenSpec.ofChange brushErasesSpec)) brushErasesCard

/-- THE TIED CARD OF 'imageeditorlaw28.BrushKeeps'. -/
def brushKeepsCard : Claim7 := { stood := { row := brushKeepsRow, standIns := [], harness := (true, "e158b86a5bdab40c756d0733f94c791fab7d14b4c9c3df3215de9de0347d1483"), looks := false }, kinds := [], alts := [], laidByText := true, laidKinds := [.data], laidTests := true, laidLooks := .later }
def BrushKeepsCardSaid : Prop := Claim7.holds Tryz.pinned (.plain (OpenSpec.ofChange brushKeepsSpec)) brushKeepsCard

/-- THE SECOND FORM's CARD OF 'imageeditorlaw28.BrushPaints'. -/
def brushPaintsUptoCard : Claim7 := { stood := { row := brushPaintsUptoRow, standIns := [], harness := (true, "e158b86a5bdab40c756d0733f94c791fab7d14b4c9c3df3215de9de0347d1483"), looks := false }, kinds := [], alts := [], laidByText := true, laidKinds := [.data], laidTests := true, laidLooks := .later }
def BrushPaintsUptoCardSaid : Prop := Claim7.holds Tryz.pinned (.plain (OpenSpec.upto brushPaintsSpec)) brushPaintsUptoCard

/-- THE SECOND FORM's CARD OF 'imageeditorlaw28.BrushErases'. -/
def brushErasesUptoCard : Claim7 := { stood := { row := brushErasesUptoRow, standIns := [], harness := (true, "e158b86a5bdab40c756d0733f94c791fab7d14b4c9c3df3215de9de0347d1483"), looks := false }, kinds := [], alts := [], laidByText := true, laidKinds := [.data], laidTests := true, laidLooks := .later }
def BrushErasesUptoCardSaid : Prop := Claim7.holds Tryz.pinned (.plain (OpenSpec.upto brushErasesSpec)) brushErasesUptoCard

/-- THE SECOND FORM's CARD OF 'imageeditorlaw28.BrushKeeps'. -/
def brushKeepsUptoCard : Claim7 := { stood := { row := brushKeepsUptoRow, standIns := [], harness := (true, "e158b86a5bdab40c756d0733f94c791fab7d14b4c9c3df3215de9de0347d1483"), looks := false }, kinds := [], alts := [], laidByText := true, laidKinds := [.data], laidTests := true, laidLooks := .later }
def BrushKeepsUptoCardSaid : Prop := Claim7.holds Tryz.pinned (.plain (OpenSpec.upto brushKeepsSpec)) brushKeepsUptoCard
end Rows
end Go.Proofs.YtjaidcdkkgnfoaaGreatDoor
