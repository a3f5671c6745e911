/-
  DERIVED. GIVEN WITH THE SEED: THE CARDS: each row of YtfgkgibomgcmpaaDoorRows.lean that lists a variable, with what it lists TIED to the program's text (the seventh form; the later family's looks); each row that meets fmt, with fmt's text TOLD by the authors' own Lean function (tested against real Go, not proved from fmt's source: count such statements apart). THE CARD IS WHAT COUNTS. Prove the row's statement (the work); the ties are given (YtfgkgibomgcmpaaDoorTie.lean); close each card by the builder's one call (the guide's Derived/Test/ToyasCard.lean, 'card_holds'). Laid BY PROGRAM, IN A SANDBOX (cutbox-door.mjs). By AI agents, Wed Nov 11 2026. No macro, syntax, notation, axiom, sorry.
-/
import Derived.Test.YtfgkgibomgcmpaaDoorRows
import GoSem.ClaimSeven
namespace Go.Proofs.YtfgkgibomgcmpaaDoor
namespace Rows

/-- THE TIED CARD OF 'imageeditorlaw10.BlendChannels'. -/
def blendChannelsCard : Claim7 := { stood := { row := blendChannelsRow, standIns := [], harness := (true, "4dbf9aec079ed62bd81d5bd882e0b5db145c0e585e346544831b26ead5a1ce71"), looks := false }, kinds := [], alts := [], laidByText := true, laidKinds := [.data], laidTests := true, laidLooks := .later }
def BlendChannelsCardSaid : Prop := Claim7.holds Tryd.pinned (.plain (OpenSpec.ofChange blendChannelsSpec)) blendChannelsCard

/-- THE TIED CARD OF 'imageeditorlaw10.BlendColors'. -/
def blendColorsCard : Claim7 := { stood := { row := blendColorsRow, standIns := [], harness := (true, "4dbf9aec079ed62bd81d5bd882e0b5db145c0e585e346544831b26ead5a1ce71"), looks := false }, kinds := [], alts := [], laidByText := true, laidKinds := [.data], laidTests := true, laidLooks := .later }
def BlendColorsCardSaid : Prop := Claim7.holds Tryd.pinned (.plain (OpenSpec.ofChange blendColorsSpec)) blendColorsCard

/-- THE TIED CARD OF 'imageeditorlaw10.BlendOvers'. -/
def blendOversCard : Claim7 := { stood := { row := blendOversRow, standIns := [], harness := (true, "4dbf9aec079ed62bd81d5bd882e0b5db145c0e585e346544831b26ead5a1ce71"), looks := false }, kinds := [], alts := [], laidByText := true, laidKinds := [.data], laidTests := true, laidLooks := .later }
def BlendOversCardSaid : Prop := Claim7.holds Tryd.pinned (.plain (OpenSpec.ofChange blendOversSpec)) blendOversCard

/-- THE TIED CARD OF 'imageeditorlaw10.BlendImages'. -/
def blendImagesCard : Claim7 := { stood := { row := blendImagesRow, standIns := [], harness := (true, "4dbf9aec079ed62bd81d5bd882e0b5db145c0e585e346544831b26ead5a1ce71"), looks := false }, kinds := [], alts := [], laidByText := true, laidKinds := [.data], laidTests := true, laidLooks := .later }
def BlendImagesCardSaid : Prop := Claim7.holds Tryd.pinned (.plain (OpenSpec.ofChange blendImagesSpec)) blendImagesCard

/-- THE TIED CARD OF 'imageeditorlaw10.BlendRanges'. -/
def blendRangesCard : Claim7 := { stood := { row := blendRangesRow, standIns := [], harness := (true, "4dbf9aec079ed62bd81d5bd882e0b5db145c0e585e346544831b26ead5a1ce71"), looks := false }, kinds := [], alts := [], laidByText := true, laidKinds := [.data], laidTests := true, laidLooks := .later }
def BlendRangesCardSaid : Prop := Claim7.holds Tryd.pinned (.plain (OpenSpec.ofChange blendRangesSpec)) blendRangesCard

/-- THE TIED CARD OF 'imageeditorlaw10.BlendClears'. -/
def blendClearsCard : Claim7 := { stood := { row := blendClearsRow, standIns := [], harness := (true, "4dbf9aec079ed62bd81d5bd882e0b5db145c0e585e346544831b26ead5a1ce71"), looks := false }, kinds := [], alts := [], laidByText := true, laidKinds := [.data], laidTests := true, laidLooks := .later }
def BlendClearsCardSaid : Prop := Claim7.holds Tryd.pinned (.plain (OpenSpec.ofChange blendClearsSpec)) blendClearsCard

/-- THE TIED CARD OF 'imageeditorlaw10.BlendTurns'. -/
def blendTurnsCard : Claim7 := { stood := { row := blendTurnsRow, standIns := [], harness := (true, "4dbf9aec079ed62bd81d5bd882e0b5db145c0e585e346544831b26ead5a1ce71"), looks := false }, kinds := [], alts := [], laidByText := true, laidKinds := [.data], laidTests := true, laidLooks := .later }
def BlendTurnsCardSaid : Prop := Claim7.holds Tryd.pinned (.plain (OpenSpec.ofChange blendTurnsSpec)) blendTurnsCard

/-- THE TIED CARD OF 'imageeditorlaw10.BlendParts'. -/
def blendPartsCard : Claim7 := { stood := { row := blendPartsRow, standIns := [], harness := (true, "4dbf9aec079ed62bd81d5bd882e0b5db145c0e585e346544831b26ead5a1ce71"), looks := false }, kinds := [], alts := [], laidByText := true, laidKinds := [.data], laidTests := true, laidLooks := .later }
def BlendPartsCardSaid : Prop := Claim7.holds Tryd.pinned (.plain (OpenSpec.ofChange blendPartsSpec)) blendPartsCard

/-- THE TIED CARD OF 'imageeditorlaw10.BlendNames'. -/
def blendNamesCard : Claim7 := { stood := { row := blendNamesRow, standIns := [], harness := (true, "4dbf9aec079ed62bd81d5bd882e0b5db145c0e585e346544831b26ead5a1ce71"), looks := false }, kinds := [], alts := [], laidByText := true, laidKinds := [.data], laidTests := true, laidLooks := .later }
def BlendNamesCardSaid : Prop := Claim7.holds Tryd.pinned (.plain (OpenSpec.ofChange blendNamesSpec)) blendNamesCard

/-- THE SECOND FORM's CARD OF 'imageeditorlaw10.BlendChannels'. -/
def blendChannelsUptoCard : Claim7 := { stood := { row := blendChannelsUptoRow, standIns := [], harness := (true, "4dbf9aec079ed62bd81d5bd882e0b5db145c0e585e346544831b26ead5a1ce71"), looks := false }, kinds := [], alts := [], laidByText := true, laidKinds := [.data], laidTests := true, laidLooks := .later }
def BlendChannelsUptoCardSaid : Prop := Claim7.holds Tryd.pinned (.plain (OpenSpec.upto blendChannelsSpec)) blendChannelsUptoCard

/-- THE SECOND FORM's CARD OF 'imageeditorlaw10.BlendColors'. -/
def blendColorsUptoCard : Claim7 := { stood := { row := blendColorsUptoRow, standIns := [], harness := (true, "4dbf9aec079ed62bd81d5bd882e0b5db145c0e585e346544831b26ead5a1ce71"), looks := false }, kinds := [], alts := [], laidByText := true, laidKinds := [.data], laidTests := true, laidLooks := .later }
def BlendColorsUptoCardSaid : Prop := Claim7.holds Tryd.pinned (.plain (OpenSpec.upto blendColorsSpec)) blendColorsUptoCard

/-- THE SECOND FORM's CARD OF 'imageeditorlaw10.BlendOvers'. -/
def blendOversUptoCard : Claim7 := { stood := { row := blendOversUptoRow, standIns := [], harness := (true, "4dbf9aec079ed62bd81d5bd882e0b5db145c0e585e346544831b26ead5a1ce71"), looks := false }, kinds := [], alts := [], laidByText := true, laidKinds := [.data], laidTests := true, laidLooks := .later }
def BlendOversUptoCardSaid : Prop := Claim7.holds Tryd.pinned (.plain (OpenSpec.upto blendOversSpec)) blendOversUptoCard

/-- THE SECOND FORM's CARD OF 'imageeditorlaw10.BlendImages'. -/
def blendImagesUptoCard : Claim7 := { stood := { row := blendImagesUptoRow, standIns := [], harness := (true, "4dbf9aec079ed62bd81d5bd882e0b5db145c0e585e346544831b26ead5a1ce71"), looks := false }, kinds := [], alts := [], laidByText := true, laidKinds := [.data], laidTests := true, laidLooks := .later }
def BlendImagesUptoCardSaid : Prop := Claim7.holds Tryd.pinned (.plain (OpenSpec.upto blendImagesSpec)) blendImagesUptoCard

/-- THE SECOND FORM's CARD OF 'imageeditorlaw10.BlendRanges'. -/
def blendRangesUptoCard : Claim7 := { stood := { row := blendRangesUptoRow, standIns := [], harness := (true, "4dbf9aec079ed62bd81d5bd882e0b5db145c0e585e346544831b26ead5a1ce71"), looks := false }, kinds := [], alts := [], laidByText := true, laidKinds := [.data], laidTests := true, laidLooks := .later }
def BlendRangesUptoCardSaid : Prop := Claim7.holds Tryd.pinned (.plain (OpenSpec.upto blendRangesSpec)) blendRangesUptoCard

/-- THE SECOND FORM's CARD OF 'imageeditorlaw10.BlendClears'. -/
def blendClearsUptoCard : Claim7 := { stood := { row := blendClearsUptoRow, standIns := [], harness := (true, "4dbf9aec079ed62bd81d5bd882e0b5db145c0e585e346544831b26ead5a1ce71"), looks := false }, kinds := [], alts := [], laidByText := true, laidKinds := [.data], laidTests := true, laidLooks := .later }
def BlendClearsUptoCardSaid : Prop := Claim7.holds Tryd.pinned (.plain (OpenSpec.upto blendClearsSpec)) blendClearsUptoCard

/-- THE SECOND FORM's CARD OF 'imageeditorlaw10.BlendTurns'. -/
def blendTurnsUptoCard : Claim7 := { stood := { row := blendTurnsUptoRow, standIns := [], harness := (true, "4dbf9aec079ed62bd81d5bd882e0b5db145c0e585e346544831b26ead5a1ce71"), looks := false }, kinds := [], alts := [], laidByText := true, laidKinds := [.data], laidTests := true, laidLooks := .later }
def BlendTurnsUptoCardSaid : Prop := Claim7.holds Tryd.pinned (.plain (OpenSpec.upto blendTurnsSpec)) blendTurnsUptoCard

/-- THE SECOND FORM's CARD OF 'imageeditorlaw10.BlendParts'. -/
def blendPartsUptoCard : Claim7 := { stood := { row := blendPartsUptoRow, standIns := [], harness := (true, "4dbf9aec079ed62bd81d5bd882e0b5db145c0e585e346544831b26ead5a1ce71"), looks := false }, kinds := [], alts := [], laidByText := true, laidKinds := [.data], laidTests := true, laidLooks := .later }
def BlendPartsUptoCardSaid : Prop := Claim7.holds Tryd.pinned (.plain (OpenSpec.upto blendPartsSpec)) blendPartsUptoCard

/-- THE SECOND FORM's CARD OF 'imageeditorlaw10.BlendNames'. -/
def blendNamesUptoCard : Claim7 := { stood := { row := blendNamesUptoRow, standIns := [], harness := (true, "4dbf9aec079ed62bd81d5bd882e0b5db145c0e585e346544831b26ead5a1ce71"), looks := false }, kinds := [], alts := [], laidByText := true, laidKinds := [.data], laidTests := true, laidLooks := .later }
def BlendNamesUptoCardSaid : Prop := Claim7.holds Tryd.pinned (.plain (OpenSpec.upto blendNamesSpec)) blendNamesUptoCard
end Rows
end Go.Proofs.YtfgkgibomgcmpaaDoor
