/-
  DERIVED. GIVEN WITH THE SEED: THE CARDS: each row of YtflegfoalkkkdaaDoorRows.lean that lists a variable, with what it lists TIED to the program's text (the seventh form; the later family's looks); each row that meets fmt, with fmt's text TOLD by the authors' own Lean function (tested against real Go, not proved from fmt's source: count such statements apart). THE CARD IS WHAT COUNTS. Prove the row's statement (the work); the ties are given (YtflegfoalkkkdaaDoorTie.lean); close each card by the builder's one call (the guide's Derived/Test/ToyasCard.lean, 'card_holds'). Laid BY PROGRAM, IN A SANDBOX (cutbox-door.mjs). By AI agents, Wed Nov 11 2026. No macro, syntax, notation, axiom, sorry.
-/
import Derived.Test.YtflegfoalkkkdaaDoorRows
import GoSem.ClaimSeven
namespace Go.Proofs.YtflegfoalkkkdaaDoor
namespace Rows

/-- THE TIED CARD OF 'imageeditorlaw27.DabChecks'. -/
def dabChecksCard : Claim7 := { stood := { row := dabChecksRow, standIns := [], harness := (true, "109d17d9f8939957092d274f65dd9641b473ffddd53bb6d5f1e854060ef6456f"), looks := false }, kinds := [], alts := [], laidByText := true, laidKinds := [.data], laidTests := true, laidLooks := .later }
def DabChecksCardSaid : Prop := Claim7.holds Tryd.pinned (.plain (OpenSpec.ofChange dabChecksSpec)) dabChecksCard

/-- THE TIED CARD OF 'imageeditorlaw27.DabTips'. -/
def dabTipsCard : Claim7 := { stood := { row := dabTipsRow, standIns := [], harness := (true, "109d17d9f8939957092d274f65dd9641b473ffddd53bb6d5f1e854060ef6456f"), looks := false }, kinds := [], alts := [], laidByText := true, laidKinds := [.data], laidTests := true, laidLooks := .later }
def DabTipsCardSaid : Prop := Claim7.holds Tryd.pinned (.plain (OpenSpec.ofChange dabTipsSpec)) dabTipsCard

/-- THE TIED CARD OF 'imageeditorlaw27.DabMoves'. -/
def dabMovesCard : Claim7 := { stood := { row := dabMovesRow, standIns := [], harness := (true, "109d17d9f8939957092d274f65dd9641b473ffddd53bb6d5f1e854060ef6456f"), looks := false }, kinds := [], alts := [], laidByText := true, laidKinds := [.data], laidTests := true, laidLooks := .later }
def DabMovesCardSaid : Prop := Claim7.holds Tryd.pinned (.plain (OpenSpec.ofChange dabMovesSpec)) dabMovesCard

/-- THE TIED CARD OF 'imageeditorlaw27.DabMirrors'. -/
def dabMirrorsCard : Claim7 := { stood := { row := dabMirrorsRow, standIns := [], harness := (true, "109d17d9f8939957092d274f65dd9641b473ffddd53bb6d5f1e854060ef6456f"), looks := false }, kinds := [], alts := [], laidByText := true, laidKinds := [.data], laidTests := true, laidLooks := .later }
def DabMirrorsCardSaid : Prop := Claim7.holds Tryd.pinned (.plain (OpenSpec.ofChange dabMirrorsSpec)) dabMirrorsCard

/-- THE TIED CARD OF 'imageeditorlaw27.DabCovers'. -/
def dabCoversCard : Claim7 := { stood := { row := dabCoversRow, standIns := [], harness := (true, "109d17d9f8939957092d274f65dd9641b473ffddd53bb6d5f1e854060ef6456f"), looks := false }, kinds := [], alts := [], laidByText := true, laidKinds := [.data], laidTests := true, laidLooks := .later }
def DabCoversCardSaid : Prop := Claim7.holds Tryd.pinned (.plain (OpenSpec.ofChange dabCoversSpec)) dabCoversCard

/-- THE SECOND FORM's CARD OF 'imageeditorlaw27.DabChecks'. -/
def dabChecksUptoCard : Claim7 := { stood := { row := dabChecksUptoRow, standIns := [], harness := (true, "109d17d9f8939957092d274f65dd9641b473ffddd53bb6d5f1e854060ef6456f"), looks := false }, kinds := [], alts := [], laidByText := true, laidKinds := [.data], laidTests := true, laidLooks := .later }
def DabChecksUptoCardSaid : Prop := Claim7.holds Tryd.pinned (.plain (OpenSpec.upto dabChecksSpec)) dabChecksUptoCard

/-- THE SECOND FORM's CARD OF 'imageeditorlaw27.DabTips'. -/
def dabTipsUptoCard : Claim7 := { stood := { row := dabTipsUptoRow, standIns := [], harness := (true, "109d17d9f8939957092d274f65dd9641b473ffddd53bb6d5f1e854060ef6456f"), looks := false }, kinds := [], alts := [], laidByText := true, laidKinds := [.data], laidTests := true, laidLooks := .later }
def DabTipsUptoCardSaid : Prop := Claim7.holds Tryd.pinned (.plain (OpenSpec.upto dabTipsSpec)) dabTipsUptoCard

/-- THE SECOND FORM's CARD OF 'imageeditorlaw27.DabMoves'. -/
def dabMovesUptoCard : Claim7 := { stood := { row := dabMovesUptoRow, standIns := [], harness := (true, "109d17d9f8939957092d274f65dd9641b473ffddd53bb6d5f1e854060ef6456f"), looks := false }, kinds := [], alts := [], laidByText := true, laidKinds := [.data], laidTests := true, laidLooks := .later }
def DabMovesUptoCardSaid : Prop := Claim7.holds Tryd.pinned (.plain (OpenSpec.upto dabMovesSpec)) dabMovesUptoCard

/-- THE SECOND FORM's CARD OF 'imageeditorlaw27.DabMirrors'. -/
def dabMirrorsUptoCard : Claim7 := { stood := { row := dabMirrorsUptoRow, standIns := [], harness := (true, "109d17d9f8939957092d274f65dd9641b473ffddd53bb6d5f1e854060ef6456f"), looks := false }, kinds := [], alts := [], laidByText := true, laidKinds := [.data], laidTests := true, laidLooks := .later }
def DabMirrorsUptoCardSaid : Prop := Claim7.holds Tryd.pinned (.plain (OpenSpec.upto dabMirrorsSpec)) dabMirrorsUptoCard

/-- THE SECOND FORM's CARD OF 'imageeditorlaw27.DabCovers'. -/
def dabCoversUptoCard : Claim7 := { stood := { row := dabCoversUptoRow, standIns := [], harness := (true, "109d17d9f8939957092d274f65dd9641b473ffddd53bb6d5f1e854060ef6456f"), looks := false }, kinds := [], alts := [], laidByText := true, laidKinds := [.data], laidTests := true, laidLooks := .later }
def DabCoversUptoCardSaid : Prop := Claim7.holds Tryd.pinned (.plain (OpenSpec.upto dabCoversSpec)) dabCoversUptoCard
end Rows
end Go.Proofs.YtflegfoalkkkdaaDoor
