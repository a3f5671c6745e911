/-
  No cell of these rows narrows 'for every input' (looked for: loops, veiled, ifaces, maps, wideKeys, modest, calm, conditions, laid).
  DERIVED. THE GIVEN ROWS OF THIS SEAT. 8 by the template 'for every input the law returns true; each argument reads behind the call as it read before'; 0 by the template 'total and deterministic' (their statements: YtmkieeaikhndcaaTotals.lean).
  GIVEN WITH THE SEED: the statements are not yours to turn. If you find one false, say at which input.
  Laid BY PROGRAM, IN A SANDBOX (cutbox-rows.mjs): the forced cells as the released guide's own fill.sh prints them over the translation 4711a0972732d535… (all of the seat's roots in one cut). By AI agents, Wed Nov 11 2026. No macro, syntax, notation, axiom, sorry.
-/
import Derived.Test.YtmkieeaikhndcaaChecked
import GoSem.Claim
import GoSem.ClaimJoined
import GoSem.ClaimMapViews
import Derived.JoinedTies
import Derived.KernelRfl
namespace Go.Proofs.Ytmkieeaikhndcaa
/- THE CELL 'sum', in the pinned program and in every row, IS THE sha256 OF THE DUMP (.gsa) THAT YtmkieeaikhndcaaProg.lean LOADS. Nothing in Lean hashes anything: it is a label: what it is worth is what the hold of that sum in a sandbox is worth. -/
noncomputable def Try.pinned : Pinned := { name := "ytmkieeaikhndcaa", sum := "4711a0972732d5358979b8613c453831fc2c753d9a50be70509473332cec461d", checked := Try.checked }
namespace Rows
def none {H : Type} : Left H := { results := [], args := [] }

/-- 'imageeditorlaw06.PixelAlphas': WHATEVER THE INPUT: true; the input reads as it did. -/
def pixelAlphasSpec : ChangeSpec := { name := "pixelAlphas", fn := fun _ => fun
  | [d1, d2] => { results := [.lit (.bool true)], args := [d1, d2] }
  | _ => none }
def pixelAlphasRow : OpenClaim := { program := "ytmkieeaikhndcaa", sum := "4711a0972732d5358979b8613c453831fc2c753d9a50be70509473332cec461d", func := "imageeditor/imageeditorlaw06.PixelAlphas", spec := "pixelAlphas", apart := false }
def PixelAlphasSaid : Prop := pixelAlphasRow.holds Try.pinned (OpenSpec.ofChange pixelAlphasSpec)

/-- ITS FALSE NEIGHBOUR: 'it returns false'. Refute it at one input. -/
def pixelAlphasWrong : ChangeSpec := { name := "pixelAlphas", fn := fun _ => fun
  | [d1, d2] => { results := [.lit (.bool false)], args := [d1, d2] }
  | _ => none }
def PixelAlphasWrongFalsely : Prop := pixelAlphasRow.holds Try.pinned (OpenSpec.ofChange pixelAlphasWrong)

/-- 'imageeditorlaw06.PixelMixes': WHATEVER THE INPUT: true; the input reads as it did. -/
def pixelMixesSpec : ChangeSpec := { name := "pixelMixes", fn := fun _ => fun
  | [d1, d2, d3] => { results := [.lit (.bool true)], args := [d1, d2, d3] }
  | _ => none }
def pixelMixesRow : OpenClaim := { program := "ytmkieeaikhndcaa", sum := "4711a0972732d5358979b8613c453831fc2c753d9a50be70509473332cec461d", func := "imageeditor/imageeditorlaw06.PixelMixes", spec := "pixelMixes", apart := false }
def PixelMixesSaid : Prop := pixelMixesRow.holds Try.pinned (OpenSpec.ofChange pixelMixesSpec)

/-- ITS FALSE NEIGHBOUR: 'it returns false'. Refute it at one input. -/
def pixelMixesWrong : ChangeSpec := { name := "pixelMixes", fn := fun _ => fun
  | [d1, d2, d3] => { results := [.lit (.bool false)], args := [d1, d2, d3] }
  | _ => none }
def PixelMixesWrongFalsely : Prop := pixelMixesRow.holds Try.pinned (OpenSpec.ofChange pixelMixesWrong)

/-- 'imageeditorlaw06.PixelMeasures': WHATEVER THE INPUT: true; the input reads as it did. -/
def pixelMeasuresSpec : ChangeSpec := { name := "pixelMeasures", fn := fun _ => fun
  | [d1, d2, d3] => { results := [.lit (.bool true)], args := [d1, d2, d3] }
  | _ => none }
def pixelMeasuresRow : OpenClaim := { program := "ytmkieeaikhndcaa", sum := "4711a0972732d5358979b8613c453831fc2c753d9a50be70509473332cec461d", func := "imageeditor/imageeditorlaw06.PixelMeasures", spec := "pixelMeasures", apart := false }
def PixelMeasuresSaid : Prop := pixelMeasuresRow.holds Try.pinned (OpenSpec.ofChange pixelMeasuresSpec)

/-- ITS FALSE NEIGHBOUR: 'it returns false'. Refute it at one input. -/
def pixelMeasuresWrong : ChangeSpec := { name := "pixelMeasures", fn := fun _ => fun
  | [d1, d2, d3] => { results := [.lit (.bool false)], args := [d1, d2, d3] }
  | _ => none }
def PixelMeasuresWrongFalsely : Prop := pixelMeasuresRow.holds Try.pinned (OpenSpec.ofChange pixelMeasuresWrong)

/-- 'imageeditorlaw06.PixelTexts': WHATEVER THE INPUT: true; the input reads as it did. -/
def pixelTextsSpec : ChangeSpec := { name := "pixelTexts", fn := fun _ => fun
  | [d1, d2] => { results := [.lit (.bool true)], args := [d1, d2] }
  | _ => none }
def pixelTextsRow : OpenClaim := { program := "ytmkieeaikhndcaa", sum := "4711a0972732d5358979b8613c453831fc2c753d9a50be70509473332cec461d", func := "imageeditor/imageeditorlaw06.PixelTexts", spec := "pixelTexts", apart := false }
def PixelTextsSaid : Prop := pixelTextsRow.holds Try.pinned (OpenSpec.ofChange pixelTextsSpec)

/-- ITS FALSE NEIGHBOUR: 'it returns false'. Refute it at one input. -/
def pixelTextsWrong : ChangeSpec := { name := "pixelTexts", fn := fun _ => fun
  | [d1, d2] => { results := [.lit (.bool false)], args := [d1, d2] }
  | _ => none }
def PixelTextsWrongFalsely : Prop := pixelTextsRow.holds Try.pinned (OpenSpec.ofChange pixelTextsWrong)

/-- 'imageeditorlaw06.PixelStraightens': WHATEVER THE INPUT: true; the input reads as it did. -/
def pixelStraightensSpec : ChangeSpec := { name := "pixelStraightens", fn := fun _ => fun
  | [d] => { results := [.lit (.bool true)], args := [d] }
  | _ => none }
def pixelStraightensRow : OpenClaim := { program := "ytmkieeaikhndcaa", sum := "4711a0972732d5358979b8613c453831fc2c753d9a50be70509473332cec461d", func := "imageeditor/imageeditorlaw06.PixelStraightens", spec := "pixelStraightens", apart := false }
def PixelStraightensSaid : Prop := pixelStraightensRow.holds Try.pinned (OpenSpec.ofChange pixelStraightensSpec)

/-- ITS FALSE NEIGHBOUR: 'it returns false'. Refute it at one input. -/
def pixelStraightensWrong : ChangeSpec := { name := "pixelStraightens", fn := fun _ => fun
  | [d] => { results := [.lit (.bool false)], args := [d] }
  | _ => none }
def PixelStraightensWrongFalsely : Prop := pixelStraightensRow.holds Try.pinned (OpenSpec.ofChange pixelStraightensWrong)

/-- 'imageeditorlaw06.PixelBetween': WHATEVER THE INPUT: true; the input reads as it did. -/
def pixelBetweenSpec : ChangeSpec := { name := "pixelBetween", fn := fun _ => fun
  | [d1, d2, d3] => { results := [.lit (.bool true)], args := [d1, d2, d3] }
  | _ => none }
def pixelBetweenRow : OpenClaim := { program := "ytmkieeaikhndcaa", sum := "4711a0972732d5358979b8613c453831fc2c753d9a50be70509473332cec461d", func := "imageeditor/imageeditorlaw06.PixelBetween", spec := "pixelBetween", apart := false }
def PixelBetweenSaid : Prop := pixelBetweenRow.holds Try.pinned (OpenSpec.ofChange pixelBetweenSpec)

/-- ITS FALSE NEIGHBOUR: 'it returns false'. Refute it at one input. -/
def pixelBetweenWrong : ChangeSpec := { name := "pixelBetween", fn := fun _ => fun
  | [d1, d2, d3] => { results := [.lit (.bool false)], args := [d1, d2, d3] }
  | _ => none }
def PixelBetweenWrongFalsely : Prop := pixelBetweenRow.holds Try.pinned (OpenSpec.ofChange pixelBetweenWrong)

/-- 'imageeditorlaw06.PixelMetric': WHATEVER THE INPUT: true; the input reads as it did. -/
def pixelMetricSpec : ChangeSpec := { name := "pixelMetric", fn := fun _ => fun
  | [d1, d2, d3] => { results := [.lit (.bool true)], args := [d1, d2, d3] }
  | _ => none }
def pixelMetricRow : OpenClaim := { program := "ytmkieeaikhndcaa", sum := "4711a0972732d5358979b8613c453831fc2c753d9a50be70509473332cec461d", func := "imageeditor/imageeditorlaw06.PixelMetric", spec := "pixelMetric", apart := false }
def PixelMetricSaid : Prop := pixelMetricRow.holds Try.pinned (OpenSpec.ofChange pixelMetricSpec)

/-- ITS FALSE NEIGHBOUR: 'it returns false'. Refute it at one input. -/
def pixelMetricWrong : ChangeSpec := { name := "pixelMetric", fn := fun _ => fun
  | [d1, d2, d3] => { results := [.lit (.bool false)], args := [d1, d2, d3] }
  | _ => none }
def PixelMetricWrongFalsely : Prop := pixelMetricRow.holds Try.pinned (OpenSpec.ofChange pixelMetricWrong)

/-- 'imageeditorlaw06.PixelNotation': WHATEVER THE INPUT: true; the input reads as it did. -/
def pixelNotationSpec : ChangeSpec := { name := "pixelNotation", fn := fun _ => fun
  | [d1, d2] => { results := [.lit (.bool true)], args := [d1, d2] }
  | _ => none }
def pixelNotationRow : OpenClaim := { program := "ytmkieeaikhndcaa", sum := "4711a0972732d5358979b8613c453831fc2c753d9a50be70509473332cec461d", func := "imageeditor/imageeditorlaw06.PixelNotation", spec := "pixelNotation", apart := false }
def PixelNotationSaid : Prop := pixelNotationRow.holds Try.pinned (OpenSpec.ofChange pixelNotationSpec)

/-- ITS FALSE NEIGHBOUR: 'it returns false'. Refute it at one input. -/
def pixelNotationWrong : ChangeSpec := { name := "pixelNotation", fn := fun _ => fun
  | [d1, d2] => { results := [.lit (.bool false)], args := [d1, d2] }
  | _ => none }
def PixelNotationWrongFalsely : Prop := pixelNotationRow.holds Try.pinned (OpenSpec.ofChange pixelNotationWrong)

/- THE SECOND FORM. 'bulk': how many values and letters a reading holds, each counted each time it is reached (what is shared counts as often as it is met; a slice's spare places count too). A statement '..UptoSaid' is the law's where the arguments, and the package variables that the reading takes, are together of bulk at most 1048576: NARROWER than '..Said'. Prove '..Said' where nothing that the law and all that it calls make is longer than what came in: it says more and counts as full. Else prove '..UptoSaid'. A law counts once. -/
mutual
def uptoBulk {H : Type} : DataW H → Nat
  | .lit (.string bytes) => bytes.length + 1
  | .lit _ => 1
  | .nil => 1
  | .ptr d => uptoBulk d + 1
  | .slice elems spare => uptoBulkAll elems + uptoBulkAll spare + 1
  | .agg parts => uptoBulkAll parts + 1
  | .iface _ d => uptoBulk d + 1
  | .map entries => uptoBulkEntries entries + 1
  | .held _ => 1
def uptoBulkAll {H : Type} : List (DataW H) → Nat
  | [] => 0
  | d :: r => uptoBulk d + uptoBulkAll r
def uptoBulkEntries {H : Type} : List (Lit × DataW H) → Nat
  | [] => 0
  | x :: r => uptoBulkEntry x + uptoBulkEntries r
def uptoBulkEntry {H : Type} : Lit × DataW H → Nat
  | (.string bytes, d) => bytes.length + uptoBulk d + 1
  | (_, d) => uptoBulk d + 1
 end
def uptoSmall : (H : Type) → List (DataW H) → Bool := fun _ ds => decide (uptoBulkAll ds ≤ 1048576)
def OpenSpec.upto (s : _root_.Go.ChangeSpec) : _root_.Go.OpenSpec := { _root_.Go.OpenSpec.ofChange s with cond := some uptoSmall }

/-- 'imageeditorlaw06.PixelAlphas', WHERE WHAT IT READS IS OF BULK AT MOST 1048576: true; the input reads as it did. -/
def pixelAlphasUptoRow : OpenClaim := { program := "ytmkieeaikhndcaa", sum := "4711a0972732d5358979b8613c453831fc2c753d9a50be70509473332cec461d", func := "imageeditor/imageeditorlaw06.PixelAlphas", spec := "pixelAlphas", apart := false, narrowed := true }
def PixelAlphasUptoSaid : Prop := pixelAlphasUptoRow.holds Try.pinned (OpenSpec.upto pixelAlphasSpec)

/-- 'imageeditorlaw06.PixelMixes', WHERE WHAT IT READS IS OF BULK AT MOST 1048576: true; the input reads as it did. -/
def pixelMixesUptoRow : OpenClaim := { program := "ytmkieeaikhndcaa", sum := "4711a0972732d5358979b8613c453831fc2c753d9a50be70509473332cec461d", func := "imageeditor/imageeditorlaw06.PixelMixes", spec := "pixelMixes", apart := false, narrowed := true }
def PixelMixesUptoSaid : Prop := pixelMixesUptoRow.holds Try.pinned (OpenSpec.upto pixelMixesSpec)

/-- 'imageeditorlaw06.PixelMeasures', WHERE WHAT IT READS IS OF BULK AT MOST 1048576: true; the input reads as it did. -/
def pixelMeasuresUptoRow : OpenClaim := { program := "ytmkieeaikhndcaa", sum := "4711a0972732d5358979b8613c453831fc2c753d9a50be70509473332cec461d", func := "imageeditor/imageeditorlaw06.PixelMeasures", spec := "pixelMeasures", apart := false, narrowed := true }
def PixelMeasuresUptoSaid : Prop := pixelMeasuresUptoRow.holds Try.pinned (OpenSpec.upto pixelMeasuresSpec)

/-- 'imageeditorlaw06.PixelTexts', WHERE WHAT IT READS IS OF BULK AT MOST 1048576: true; the input reads as it did. -/
def pixelTextsUptoRow : OpenClaim := { program := "ytmkieeaikhndcaa", sum := "4711a0972732d5358979b8613c453831fc2c753d9a50be70509473332cec461d", func := "imageeditor/imageeditorlaw06.PixelTexts", spec := "pixelTexts", apart := false, narrowed := true }
def PixelTextsUptoSaid : Prop := pixelTextsUptoRow.holds Try.pinned (OpenSpec.upto pixelTextsSpec)

/-- 'imageeditorlaw06.PixelStraightens', WHERE WHAT IT READS IS OF BULK AT MOST 1048576: true; the input reads as it did. -/
def pixelStraightensUptoRow : OpenClaim := { program := "ytmkieeaikhndcaa", sum := "4711a0972732d5358979b8613c453831fc2c753d9a50be70509473332cec461d", func := "imageeditor/imageeditorlaw06.PixelStraightens", spec := "pixelStraightens", apart := false, narrowed := true }
def PixelStraightensUptoSaid : Prop := pixelStraightensUptoRow.holds Try.pinned (OpenSpec.upto pixelStraightensSpec)

/-- 'imageeditorlaw06.PixelBetween', WHERE WHAT IT READS IS OF BULK AT MOST 1048576: true; the input reads as it did. -/
def pixelBetweenUptoRow : OpenClaim := { program := "ytmkieeaikhndcaa", sum := "4711a0972732d5358979b8613c453831fc2c753d9a50be70509473332cec461d", func := "imageeditor/imageeditorlaw06.PixelBetween", spec := "pixelBetween", apart := false, narrowed := true }
def PixelBetweenUptoSaid : Prop := pixelBetweenUptoRow.holds Try.pinned (OpenSpec.upto pixelBetweenSpec)

/-- 'imageeditorlaw06.PixelMetric', WHERE WHAT IT READS IS OF BULK AT MOST 1048576: true; the input reads as it did. -/
def pixelMetricUptoRow : OpenClaim := { program := "ytmkieeaikhndcaa", sum := "4711a0972732d5358979b8613c453831fc2c753d9a50be70509473332cec461d", func := "imageeditor/imageeditorlaw06.PixelMetric", spec := "pixelMetric", apart := false, narrowed := true }
def PixelMetricUptoSaid : Prop := pixelMetricUptoRow.holds Try.pinned (OpenSpec.upto pixelMetricSpec)

/-- 'imageeditorlaw06.PixelNotation', WHERE WHAT IT READS IS OF BULK AT MOST 1048576: true; the input reads as it did. -/
def pixelNotationUptoRow : OpenClaim := { program := "ytmkieeaikhndcaa", sum := "4711a0972732d5358979b8613c453831fc2c753d9a50be70509473332cec461d", func := "imageeditor/imageeditorlaw06.PixelNotation", spec := "pixelNotation", apart := false, narrowed := true }
def PixelNotationUptoSaid : Prop := pixelNotationUptoRow.holds Try.pinned (OpenSpec.upto pixelNotationSpec)

end Rows
end Go.Proofs.Ytmkieeaikhndcaa
