/-
  No cell of these rows narrows 'for every input' (looked for: loops, veiled, ifaces, maps, wideKeys, modest, calm, conditions, laid).
  DERIVED. THE GIVEN ROWS OF THIS SEAT. 8 by the template 'for every input the law returns true; each argument reads behind the call as it read before'; 0 by the template 'total and deterministic' (their statements: YtmejdhgknebbbaaTotals.lean).
  GIVEN WITH THE SEED: the statements are not yours to turn. If you find one false, say at which input.
  Laid BY PROGRAM, IN A SANDBOX (cutbox-rows.mjs): the forced cells as the released guide's own fill.sh prints them over the translation 43493deb4ddcf6b1… (all of the seat's roots in one cut). By AI agents, Wed Nov 11 2026. No macro, syntax, notation, axiom, sorry.
-/
import Derived.Test.YtmejdhgknebbbaaChecked
import GoSem.Claim
import GoSem.ClaimJoined
import GoSem.ClaimMapViews
import Derived.JoinedTies
import Derived.KernelRfl
namespace Go.Proofs.Ytmejdhgknebbbaa
/- THE CELL 'sum', in the pinned program and in every row, IS THE sha256 OF THE DUMP (.gsa) THAT YtmejdhgknebbbaaProg.lean LOADS. Nothing in Lean hashes anything: it is a label: what it is worth is what the hold of that sum in a sandbox is worth. -/
noncomputable def Try.pinned : Pinned := { name := "ytmejdhgknebbbaa", sum := "43493deb4ddcf6b1a4ca038d848627eb157e6db2aac6a00eb57b9dd219cdb008", checked := Try.checked }
namespace Rows
def none {H : Type} : Left H := { results := [], args := [] }

/-- 'imageeditorlaw18.GradientColors': WHATEVER THE INPUT: true; the input reads as it did. -/
def gradientColorsSpec : ChangeSpec := { name := "gradientColors", fn := fun _ => fun
  | [d1, d2, d3, d4, d5] => { results := [.lit (.bool true)], args := [d1, d2, d3, d4, d5] }
  | _ => none }
def gradientColorsRow : OpenClaim := { program := "ytmejdhgknebbbaa", sum := "43493deb4ddcf6b1a4ca038d848627eb157e6db2aac6a00eb57b9dd219cdb008", func := "imageeditor/imageeditorlaw18.GradientColors", spec := "gradientColors", inPlace := ["math/bits.Add64"], apart := false }
def GradientColorsSaid : Prop := gradientColorsRow.holds Try.pinned (OpenSpec.ofChange gradientColorsSpec)

/-- ITS FALSE NEIGHBOUR: 'it returns false'. Refute it at one input. -/
def gradientColorsWrong : ChangeSpec := { name := "gradientColors", fn := fun _ => fun
  | [d1, d2, d3, d4, d5] => { results := [.lit (.bool false)], args := [d1, d2, d3, d4, d5] }
  | _ => none }
def GradientColorsWrongFalsely : Prop := gradientColorsRow.holds Try.pinned (OpenSpec.ofChange gradientColorsWrong)

/-- 'imageeditorlaw18.GradientPlaces': WHATEVER THE INPUT: true; the input reads as it did. -/
def gradientPlacesSpec : ChangeSpec := { name := "gradientPlaces", fn := fun _ => fun
  | [d1, d2, d3, d4, d5] => { results := [.lit (.bool true)], args := [d1, d2, d3, d4, d5] }
  | _ => none }
def gradientPlacesRow : OpenClaim := { program := "ytmejdhgknebbbaa", sum := "43493deb4ddcf6b1a4ca038d848627eb157e6db2aac6a00eb57b9dd219cdb008", func := "imageeditor/imageeditorlaw18.GradientPlaces", spec := "gradientPlaces", inPlace := ["math/bits.Add64"], apart := false }
def GradientPlacesSaid : Prop := gradientPlacesRow.holds Try.pinned (OpenSpec.ofChange gradientPlacesSpec)

/-- ITS FALSE NEIGHBOUR: 'it returns false'. Refute it at one input. -/
def gradientPlacesWrong : ChangeSpec := { name := "gradientPlaces", fn := fun _ => fun
  | [d1, d2, d3, d4, d5] => { results := [.lit (.bool false)], args := [d1, d2, d3, d4, d5] }
  | _ => none }
def GradientPlacesWrongFalsely : Prop := gradientPlacesRow.holds Try.pinned (OpenSpec.ofChange gradientPlacesWrong)

/-- 'imageeditorlaw18.GradientDraws': WHATEVER THE INPUT: true; the input reads as it did. -/
def gradientDrawsSpec : ChangeSpec := { name := "gradientDraws", fn := fun _ => fun
  | [d1, d2, d3, d4, d5] => { results := [.lit (.bool true)], args := [d1, d2, d3, d4, d5] }
  | _ => none }
def gradientDrawsRow : OpenClaim := { program := "ytmejdhgknebbbaa", sum := "43493deb4ddcf6b1a4ca038d848627eb157e6db2aac6a00eb57b9dd219cdb008", func := "imageeditor/imageeditorlaw18.GradientDraws", spec := "gradientDraws", inPlace := ["math/bits.Add64"], apart := false }
def GradientDrawsSaid : Prop := gradientDrawsRow.holds Try.pinned (OpenSpec.ofChange gradientDrawsSpec)

/-- ITS FALSE NEIGHBOUR: 'it returns false'. Refute it at one input. -/
def gradientDrawsWrong : ChangeSpec := { name := "gradientDraws", fn := fun _ => fun
  | [d1, d2, d3, d4, d5] => { results := [.lit (.bool false)], args := [d1, d2, d3, d4, d5] }
  | _ => none }
def GradientDrawsWrongFalsely : Prop := gradientDrawsRow.holds Try.pinned (OpenSpec.ofChange gradientDrawsWrong)

/-- 'imageeditorlaw18.GradientStops': WHATEVER THE INPUT: true; the input reads as it did. -/
def gradientStopsSpec : ChangeSpec := { name := "gradientStops", fn := fun _ => fun
  | [d1, d2] => { results := [.lit (.bool true)], args := [d1, d2] }
  | _ => none }
def gradientStopsRow : OpenClaim := { program := "ytmejdhgknebbbaa", sum := "43493deb4ddcf6b1a4ca038d848627eb157e6db2aac6a00eb57b9dd219cdb008", func := "imageeditor/imageeditorlaw18.GradientStops", spec := "gradientStops", inPlace := ["math/bits.Add64"], apart := false }
def GradientStopsSaid : Prop := gradientStopsRow.holds Try.pinned (OpenSpec.ofChange gradientStopsSpec)

/-- ITS FALSE NEIGHBOUR: 'it returns false'. Refute it at one input. -/
def gradientStopsWrong : ChangeSpec := { name := "gradientStops", fn := fun _ => fun
  | [d1, d2] => { results := [.lit (.bool false)], args := [d1, d2] }
  | _ => none }
def GradientStopsWrongFalsely : Prop := gradientStopsRow.holds Try.pinned (OpenSpec.ofChange gradientStopsWrong)

/-- 'imageeditorlaw18.GradientMoves': WHATEVER THE INPUT: true; the input reads as it did. -/
def gradientMovesSpec : ChangeSpec := { name := "gradientMoves", fn := fun _ => fun
  | [d1, d2, d3, d4, d5, d6, d7] => { results := [.lit (.bool true)], args := [d1, d2, d3, d4, d5, d6, d7] }
  | _ => none }
def gradientMovesRow : OpenClaim := { program := "ytmejdhgknebbbaa", sum := "43493deb4ddcf6b1a4ca038d848627eb157e6db2aac6a00eb57b9dd219cdb008", func := "imageeditor/imageeditorlaw18.GradientMoves", spec := "gradientMoves", inPlace := ["math/bits.Add64"], apart := false }
def GradientMovesSaid : Prop := gradientMovesRow.holds Try.pinned (OpenSpec.ofChange gradientMovesSpec)

/-- ITS FALSE NEIGHBOUR: 'it returns false'. Refute it at one input. -/
def gradientMovesWrong : ChangeSpec := { name := "gradientMoves", fn := fun _ => fun
  | [d1, d2, d3, d4, d5, d6, d7] => { results := [.lit (.bool false)], args := [d1, d2, d3, d4, d5, d6, d7] }
  | _ => none }
def GradientMovesWrongFalsely : Prop := gradientMovesRow.holds Try.pinned (OpenSpec.ofChange gradientMovesWrong)

/-- 'imageeditorlaw18.GradientMirrors': WHATEVER THE INPUT: true; the input reads as it did. -/
def gradientMirrorsSpec : ChangeSpec := { name := "gradientMirrors", fn := fun _ => fun
  | [d1, d2, d3, d4, d5, d6, d7] => { results := [.lit (.bool true)], args := [d1, d2, d3, d4, d5, d6, d7] }
  | _ => none }
def gradientMirrorsRow : OpenClaim := { program := "ytmejdhgknebbbaa", sum := "43493deb4ddcf6b1a4ca038d848627eb157e6db2aac6a00eb57b9dd219cdb008", func := "imageeditor/imageeditorlaw18.GradientMirrors", spec := "gradientMirrors", inPlace := ["math/bits.Add64"], apart := false }
def GradientMirrorsSaid : Prop := gradientMirrorsRow.holds Try.pinned (OpenSpec.ofChange gradientMirrorsSpec)

/-- ITS FALSE NEIGHBOUR: 'it returns false'. Refute it at one input. -/
def gradientMirrorsWrong : ChangeSpec := { name := "gradientMirrors", fn := fun _ => fun
  | [d1, d2, d3, d4, d5, d6, d7] => { results := [.lit (.bool false)], args := [d1, d2, d3, d4, d5, d6, d7] }
  | _ => none }
def GradientMirrorsWrongFalsely : Prop := gradientMirrorsRow.holds Try.pinned (OpenSpec.ofChange gradientMirrorsWrong)

/-- 'imageeditorlaw18.GradientTurns': WHATEVER THE INPUT: true; the input reads as it did. -/
def gradientTurnsSpec : ChangeSpec := { name := "gradientTurns", fn := fun _ => fun
  | [d1, d2, d3, d4, d5, d6] => { results := [.lit (.bool true)], args := [d1, d2, d3, d4, d5, d6] }
  | _ => none }
def gradientTurnsRow : OpenClaim := { program := "ytmejdhgknebbbaa", sum := "43493deb4ddcf6b1a4ca038d848627eb157e6db2aac6a00eb57b9dd219cdb008", func := "imageeditor/imageeditorlaw18.GradientTurns", spec := "gradientTurns", inPlace := ["math/bits.Add64"], apart := false }
def GradientTurnsSaid : Prop := gradientTurnsRow.holds Try.pinned (OpenSpec.ofChange gradientTurnsSpec)

/-- ITS FALSE NEIGHBOUR: 'it returns false'. Refute it at one input. -/
def gradientTurnsWrong : ChangeSpec := { name := "gradientTurns", fn := fun _ => fun
  | [d1, d2, d3, d4, d5, d6] => { results := [.lit (.bool false)], args := [d1, d2, d3, d4, d5, d6] }
  | _ => none }
def GradientTurnsWrongFalsely : Prop := gradientTurnsRow.holds Try.pinned (OpenSpec.ofChange gradientTurnsWrong)

/-- 'imageeditorlaw18.GradientParts': WHATEVER THE INPUT: true; the input reads as it did. -/
def gradientPartsSpec : ChangeSpec := { name := "gradientParts", fn := fun _ => fun
  | [d1, d2, d3, d4, d5, d6, d7] => { results := [.lit (.bool true)], args := [d1, d2, d3, d4, d5, d6, d7] }
  | _ => none }
def gradientPartsRow : OpenClaim := { program := "ytmejdhgknebbbaa", sum := "43493deb4ddcf6b1a4ca038d848627eb157e6db2aac6a00eb57b9dd219cdb008", func := "imageeditor/imageeditorlaw18.GradientParts", spec := "gradientParts", inPlace := ["math/bits.Add64"], apart := false }
def GradientPartsSaid : Prop := gradientPartsRow.holds Try.pinned (OpenSpec.ofChange gradientPartsSpec)

/-- ITS FALSE NEIGHBOUR: 'it returns false'. Refute it at one input. -/
def gradientPartsWrong : ChangeSpec := { name := "gradientParts", fn := fun _ => fun
  | [d1, d2, d3, d4, d5, d6, d7] => { results := [.lit (.bool false)], args := [d1, d2, d3, d4, d5, d6, d7] }
  | _ => none }
def GradientPartsWrongFalsely : Prop := gradientPartsRow.holds Try.pinned (OpenSpec.ofChange gradientPartsWrong)

/- THE SECOND FORM. 'bulk': how many values and letters a reading holds, each counted each time it is reached (what is shared counts as often as it is met; a slice's spare places count too). A statement '..UptoSaid' is the law's where the arguments, and the package variables that the reading takes, are together of bulk at most 1048576: NARROWER than '..Said'. Prove '..Said' where nothing that the law and all that it calls make is longer than what came in: it says more and counts as full. Else prove '..UptoSaid'. A law counts once. -/
mutual
def uptoBulk {H : Type} : DataW H → Nat
  | .lit (.string bytes) => bytes.length + 1
  | .lit _ => 1
  | .nil => 1
  | .ptr d => uptoBulk d + 1
  | .slice elems spare => uptoBulkAll elems + uptoBulkAll spare + 1
  | .agg parts => uptoBulkAll parts + 1
  | .iface _ d => uptoBulk d + 1
  | .map entries => uptoBulkEntries entries + 1
  | .held _ => 1
def uptoBulkAll {H : Type} : List (DataW H) → Nat
  | [] => 0
  | d :: r => uptoBulk d + uptoBulkAll r
def uptoBulkEntries {H : Type} : List (Lit × DataW H) → Nat
  | [] => 0
  | x :: r => uptoBulkEntry x + uptoBulkEntries r
def uptoBulkEntry {H : Type} : Lit × DataW H → Nat
  | (.string bytes, d) => bytes.length + uptoBulk d + 1
  | (_, d) => uptoBulk d + 1
 end
def uptoSmall : (H : Type) → List (DataW H) → Bool := fun _ ds => decide (uptoBulkAll ds ≤ 1048576)
def OpenSpec.upto (s : _root_.Go.ChangeSpec) : _root_.Go.OpenSpec := { _root_.Go.OpenSpec.ofChange s with cond := some uptoSmall }

/-- 'imageeditorlaw18.GradientColors', WHERE WHAT IT READS IS OF BULK AT MOST 1048576: true; the input reads as it did. -/
def gradientColorsUptoRow : OpenClaim := { program := "ytmejdhgknebbbaa", sum := "43493deb4ddcf6b1a4ca038d848627eb157e6db2aac6a00eb57b9dd219cdb008", func := "imageeditor/imageeditorlaw18.GradientColors", spec := "gradientColors", inPlace := ["math/bits.Add64"], apart := false, narrowed := true }
def GradientColorsUptoSaid : Prop := gradientColorsUptoRow.holds Try.pinned (OpenSpec.upto gradientColorsSpec)

/-- 'imageeditorlaw18.GradientPlaces', WHERE WHAT IT READS IS OF BULK AT MOST 1048576: true; the input reads as it did. -/
def gradientPlacesUptoRow : OpenClaim := { program := "ytmejdhgknebbbaa", sum := "43493deb4ddcf6b1a4ca038d848627eb157e6db2aac6a00eb57b9dd219cdb008", func := "imageeditor/imageeditorlaw18.GradientPlaces", spec := "gradientPlaces", inPlace := ["math/bits.Add64"], apart := false, narrowed := true }
def GradientPlacesUptoSaid : Prop := gradientPlacesUptoRow.holds Try.pinned (OpenSpec.upto gradientPlacesSpec)

/-- 'imageeditorlaw18.GradientDraws', WHERE WHAT IT READS IS OF BULK AT MOST 1048576: true; the input reads as it did. -/
def gradientDrawsUptoRow : OpenClaim := { program := "ytmejdhgknebbbaa", sum := "43493deb4ddcf6b1a4ca038d848627eb157e6db2aac6a00eb57b9dd219cdb008", func := "imageeditor/imageeditorlaw18.GradientDraws", spec := "gradientDraws", inPlace := ["math/bits.Add64"], apart := false, narrowed := true }
def GradientDrawsUptoSaid : Prop := gradientDrawsUptoRow.holds Try.pinned (OpenSpec.upto gradientDrawsSpec)

/-- 'imageeditorlaw18.GradientStops', WHERE WHAT IT READS IS OF BULK AT MOST 1048576: true; the input reads as it did. -/
def gradientStopsUptoRow : OpenClaim := { program := "ytmejdhgknebbbaa", sum := "43493deb4ddcf6b1a4ca038d848627eb157e6db2aac6a00eb57b9dd219cdb008", func := "imageeditor/imageeditorlaw18.GradientStops", spec := "gradientStops", inPlace := ["math/bits.Add64"], apart := false, narrowed := true }
def GradientStopsUptoSaid : Prop := gradientStopsUptoRow.holds Try.pinned (OpenSpec.upto gradientStopsSpec)

/-- 'imageeditorlaw18.GradientMoves', WHERE WHAT IT READS IS OF BULK AT MOST 1048576: true; the input reads as it did. -/
def gradientMovesUptoRow : OpenClaim := { program := "ytmejdhgknebbbaa", sum := "43493deb4ddcf6b1a4ca038d848627eb157e6db2aac6a00eb57b9dd219cdb008", func := "imageeditor/imageeditorlaw18.GradientMoves", spec := "gradientMoves", inPlace := ["math/bits.Add64"], apart := false, narrowed := true }
def GradientMovesUptoSaid : Prop := gradientMovesUptoRow.holds Try.pinned (OpenSpec.upto gradientMovesSpec)

/-- 'imageeditorlaw18.GradientMirrors', WHERE WHAT IT READS IS OF BULK AT MOST 1048576: true; the input reads as it did. -/
def gradientMirrorsUptoRow : OpenClaim := { program := "ytmejdhgknebbbaa", sum := "43493deb4ddcf6b1a4ca038d848627eb157e6db2aac6a00eb57b9dd219cdb008", func := "imageeditor/imageeditorlaw18.GradientMirrors", spec := "gradientMirrors", inPlace := ["math/bits.Add64"], apart := false, narrowed := true }
def GradientMirrorsUptoSaid : Prop := gradientMirrorsUptoRow.holds Try.pinned (OpenSpec.upto gradientMirrorsSpec)

/-- 'imageeditorlaw18.GradientTurns', WHERE WHAT IT READS IS OF BULK AT MOST 1048576: true; the input reads as it did. -/
def gradientTurnsUptoRow : OpenClaim := { program := "ytmejdhgknebbbaa", sum := "43493deb4ddcf6b1a4ca038d848627eb157e6db2aac6a00eb57b9dd219cdb008", func := "imageeditor/imageeditorlaw18.GradientTurns", spec := "gradientTurns", inPlace := ["math/bits.Add64"], apart := false, narrowed := true }
def GradientTurnsUptoSaid : Prop := gradientTurnsUptoRow.holds Try.pinned (OpenSpec.upto gradientTurnsSpec)

/-- 'imageeditorlaw18.GradientParts', WHERE WHAT IT READS IS OF BULK AT MOST 1048576: true; the input reads as it did. -/
def gradientPartsUptoRow : OpenClaim := { program := "ytmejdhgknebbbaa", sum := "43493deb4ddcf6b1a4ca038d848627eb157e6db2aac6a00eb57b9dd219cdb008", func := "imageeditor/imageeditorlaw18.GradientParts", spec := "gradientParts", inPlace := ["math/bits.Add64"], apart := false, narrowed := true }
def GradientPartsUptoSaid : Prop := gradientPartsUptoRow.holds Try.pinned (OpenSpec.upto gradientPartsSpec)

end Rows
end Go.Proofs.Ytmejdhgknebbbaa
