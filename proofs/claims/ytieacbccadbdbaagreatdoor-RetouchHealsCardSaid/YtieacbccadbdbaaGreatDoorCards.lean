/-
  DERIVED. GIVEN WITH THE SEED: THE CARDS: each row of YtieacbccadbdbaaGreatDoorRows.lean that lists a variable, with what it lists TIED to the program's text (the seventh form; the later family's looks); each row that meets fmt, with fmt's text TOLD by the authors' own Lean function (tested against real Go, not proved from fmt's source: count such statements apart). THE CARD IS WHAT COUNTS. Prove the row's statement (the work); the ties are given (YtieacbccadbdbaaGreatDoorTie.lean); close each card by the builder's one call (the guide's Derived/Test/ToyasCard.lean, 'card_holds'). Laid BY PROGRAM, IN A SANDBOX (cutbox-door.mjs). By AI agents, Wed Nov 11 2026. No macro, syntax, notation, axiom, sorry.
-/
import Derived.Test.YtieacbccadbdbaaGreatDoorRows
import GoSem.ClaimSeven
namespace Go.Proofs.YtieacbccadbdbaaGreatDoor
namespace Rows

/-- THE TIED CARD OF 'imageeditorlaw29.RetouchClones'. -/
def retouchClonesCard : Claim7 := { stood := { row := retouchClonesRow, standIns := [], harness := (true, "7a2ee35b120a36d2ab9c35ab7fc8c0c0fc081425e78ee06e90cf4c7b00f6a00f"), looks := false }, kinds := [], alts := [], laidByText := true, laidKinds := [.data], laidTests := true, laidLooks := .later }
def RetouchClonesCardSaid : Prop := Claim7.holds Tryz.pinned (.plain (OpenSpec.ofChange retouchClonesSpec)) retouchClonesCard

/-- THE TIED CARD OF 'imageeditorlaw29.RetouchSmudges'. -/
def retouchSmudgesCard : Claim7 := { stood := { row := retouchSmudgesRow, standIns := [], harness := (true, "7a2ee35b120a36d2ab9c35ab7fc8c0c0fc081425e78ee06e90cf4c7b00f6a00f"), looks := false }, kinds := [], alts := [], laidByText := true, laidKinds := [.data], laidTests := true, laidLooks := .later }
def RetouchSmudgesCardSaid : Prop := Claim7.holds Tryz.pinned (.plain (OpenSpec.ofChange retouchSmudgesSpec)) retouchSmudgesCard

/-- THE TIED CARD OF 'imageeditorlaw29.RetouchHeals'. -/
def retouchHealsCard : Claim7 := { stood := { row := retouchHealsRow, standIns := [], harness := (true, "7a2ee35b120a36d2ab9c35ab7fc8c0c0fc081425e78ee06e90cf4c7b00f6a00f"), looks := false }, kinds := [], alts := [], laidByText := true, laidKinds := [.data], laidTests := true, laidLooks := .later }
def RetouchHealsCardSaid : Prop := Claim7.holds Tryz.pinned (.plain (OpenSpec.ofChange retouchHealsSpec)) retouchHealsCard

/-- THE SECOND FORM's CARD OF 'imageeditorlaw29.RetouchClones'. -/
def retouchClonesUptoCard : Claim7 := { stood := { row := retouchClonesUptoRow, standIns := [], harness := (true, "7a2ee35b120a36d2ab9c35ab7fc8c0c0fc081425e78ee06e90cf4c7b00f6a00f"), looks := false }, kinds := [], alts := [], laidByText := true, laidKinds := [.data], laidTests := true, laidLooks := .later }
def RetouchClonesUptoCardSaid : Prop := Claim7.holds Tryz.pinned (.plain (OpenSpec.upto retouchClonesSpec)) retouchClonesUptoCard

/-- THE SECOND FORM's CARD OF 'imageeditorlaw29.RetouchSmudges'. -/
def retouchSmudgesUptoCard : Claim7 := { stood := { row := retouchSmudgesUptoRow, standIns := [], harness := (true, "7a2ee35b120a36d2ab9c35ab7fc8c0c0fc081425e78ee06e90cf4c7b00f6a00f"), looks := false }, kinds := [], alts := [], laidByText := true, laidKinds := [.data], laidTests := true, laidLooks := .later }
def RetouchSmudgesUptoCardSaid : Prop := Claim7.holds Tryz.pinned (.plain (OpenSpec.upto retouchSmudgesSpec)) retouchSmudgesUptoCard

/-- THE SECOND FORM's CARD OF 'imageeditorlaw29.RetouchHeals'. -/
def retouchHealsUptoCard : Claim7 := { stood := { row := retouchHealsUptoRow, standIns := [], harness := (true, "7a2ee35b120a36d2ab9c35ab7fc8c0c0fc081425e78ee06e90cf4c7b00f6a00f"), looks := false }, kinds := [], alts := [], laidByText := true, laidKinds := [.data], laidTests := true, laidLooks := .later }
def RetouchHealsUptoCardSaid : Prop := Claim7.holds Tryz.pinned (.plain (OpenSpec.upto retouchHealsSpec)) retouchHealsUptoCard
end Rows
end Go.Proofs.YtieacbccadbdbaaGreatDoor
