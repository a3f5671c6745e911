/-
  No cell of these rows narrows 'for every input' (looked for: loops, veiled, ifaces, maps, wideKeys, modest, calm, conditions, laid).
  DERIVED. THE GIVEN ROWS OF THIS SEAT. 7 by the template 'for every input the law returns true; each argument reads behind the call as it read before'; 0 by the template 'total and deterministic' (their statements: YtnnginappckfcaaTotals.lean).
  GIVEN WITH THE SEED: the statements are not yours to turn. If you find one false, say at which input.
  Laid BY PROGRAM, IN A SANDBOX (cutbox-rows.mjs): the forced cells as the released guide's own fill.sh prints them over the translation 83b3086ac3b1ad2e… (all of the seat's roots in one cut). By AI agents, Wed Nov 11 2026. No macro, syntax, notation, axiom, sorry.
-/
import Derived.Test.YtnnginappckfcaaChecked
import GoSem.Claim
import GoSem.ClaimJoined
import GoSem.ClaimMapViews
import Derived.JoinedTies
import Derived.KernelRfl
namespace Go.Proofs.Ytnnginappckfcaa
/- THE CELL 'sum', in the pinned program and in every row, IS THE sha256 OF THE DUMP (.gsa) THAT YtnnginappckfcaaProg.lean LOADS. Nothing in Lean hashes anything: it is a label: what it is worth is what the hold of that sum in a sandbox is worth. -/
noncomputable def Try.pinned : Pinned := { name := "ytnnginappckfcaa", sum := "83b3086ac3b1ad2eb0525e844939a331f7b85d2ca7ec772c768efac0e61701b4", checked := Try.checked }
namespace Rows
def none {H : Type} : Left H := { results := [], args := [] }

/-- 'imageeditorlaw26.DynamicsChecks': WHATEVER THE INPUT: true; the input reads as it did. -/
def dynamicsChecksSpec : ChangeSpec := { name := "dynamicsChecks", fn := fun _ => fun
  | [d] => { results := [.lit (.bool true)], args := [d] }
  | _ => none }
def dynamicsChecksRow : OpenClaim := { program := "ytnnginappckfcaa", sum := "83b3086ac3b1ad2eb0525e844939a331f7b85d2ca7ec772c768efac0e61701b4", func := "imageeditor/imageeditorlaw26.DynamicsChecks", spec := "dynamicsChecks", inPlace := ["math/bits.Add64"], apart := false }
def DynamicsChecksSaid : Prop := dynamicsChecksRow.holds Try.pinned (OpenSpec.ofChange dynamicsChecksSpec)

/-- ITS FALSE NEIGHBOUR: 'it returns false'. Refute it at one input. -/
def dynamicsChecksWrong : ChangeSpec := { name := "dynamicsChecks", fn := fun _ => fun
  | [d] => { results := [.lit (.bool false)], args := [d] }
  | _ => none }
def DynamicsChecksWrongFalsely : Prop := dynamicsChecksRow.holds Try.pinned (OpenSpec.ofChange dynamicsChecksWrong)

/-- 'imageeditorlaw26.DynamicsSpeeds': WHATEVER THE INPUT: true; the input reads as it did. -/
def dynamicsSpeedsSpec : ChangeSpec := { name := "dynamicsSpeeds", fn := fun _ => fun
  | [d1, d2] => { results := [.lit (.bool true)], args := [d1, d2] }
  | _ => none }
def dynamicsSpeedsRow : OpenClaim := { program := "ytnnginappckfcaa", sum := "83b3086ac3b1ad2eb0525e844939a331f7b85d2ca7ec772c768efac0e61701b4", func := "imageeditor/imageeditorlaw26.DynamicsSpeeds", spec := "dynamicsSpeeds", inPlace := ["math/bits.Add64"], apart := false }
def DynamicsSpeedsSaid : Prop := dynamicsSpeedsRow.holds Try.pinned (OpenSpec.ofChange dynamicsSpeedsSpec)

/-- ITS FALSE NEIGHBOUR: 'it returns false'. Refute it at one input. -/
def dynamicsSpeedsWrong : ChangeSpec := { name := "dynamicsSpeeds", fn := fun _ => fun
  | [d1, d2] => { results := [.lit (.bool false)], args := [d1, d2] }
  | _ => none }
def DynamicsSpeedsWrongFalsely : Prop := dynamicsSpeedsRow.holds Try.pinned (OpenSpec.ofChange dynamicsSpeedsWrong)

/-- 'imageeditorlaw26.DynamicsSources': WHATEVER THE INPUT: true; the input reads as it did. -/
def dynamicsSourcesSpec : ChangeSpec := { name := "dynamicsSources", fn := fun _ => fun
  | [d1, d2, d3, d4, d5] => { results := [.lit (.bool true)], args := [d1, d2, d3, d4, d5] }
  | _ => none }
def dynamicsSourcesRow : OpenClaim := { program := "ytnnginappckfcaa", sum := "83b3086ac3b1ad2eb0525e844939a331f7b85d2ca7ec772c768efac0e61701b4", func := "imageeditor/imageeditorlaw26.DynamicsSources", spec := "dynamicsSources", inPlace := ["math/bits.Add64"], apart := false }
def DynamicsSourcesSaid : Prop := dynamicsSourcesRow.holds Try.pinned (OpenSpec.ofChange dynamicsSourcesSpec)

/-- ITS FALSE NEIGHBOUR: 'it returns false'. Refute it at one input. -/
def dynamicsSourcesWrong : ChangeSpec := { name := "dynamicsSources", fn := fun _ => fun
  | [d1, d2, d3, d4, d5] => { results := [.lit (.bool false)], args := [d1, d2, d3, d4, d5] }
  | _ => none }
def DynamicsSourcesWrongFalsely : Prop := dynamicsSourcesRow.holds Try.pinned (OpenSpec.ofChange dynamicsSourcesWrong)

/-- 'imageeditorlaw26.DynamicsValues': WHATEVER THE INPUT: true; the input reads as it did. -/
def dynamicsValuesSpec : ChangeSpec := { name := "dynamicsValues", fn := fun _ => fun
  | [d1, d2, d3, d4, d5, d6] => { results := [.lit (.bool true)], args := [d1, d2, d3, d4, d5, d6] }
  | _ => none }
def dynamicsValuesRow : OpenClaim := { program := "ytnnginappckfcaa", sum := "83b3086ac3b1ad2eb0525e844939a331f7b85d2ca7ec772c768efac0e61701b4", func := "imageeditor/imageeditorlaw26.DynamicsValues", spec := "dynamicsValues", inPlace := ["math/bits.Add64"], apart := false }
def DynamicsValuesSaid : Prop := dynamicsValuesRow.holds Try.pinned (OpenSpec.ofChange dynamicsValuesSpec)

/-- ITS FALSE NEIGHBOUR: 'it returns false'. Refute it at one input. -/
def dynamicsValuesWrong : ChangeSpec := { name := "dynamicsValues", fn := fun _ => fun
  | [d1, d2, d3, d4, d5, d6] => { results := [.lit (.bool false)], args := [d1, d2, d3, d4, d5, d6] }
  | _ => none }
def DynamicsValuesWrongFalsely : Prop := dynamicsValuesRow.holds Try.pinned (OpenSpec.ofChange dynamicsValuesWrong)

/-- 'imageeditorlaw26.DynamicsMore': WHATEVER THE INPUT: true; the input reads as it did. -/
def dynamicsMoreSpec : ChangeSpec := { name := "dynamicsMore", fn := fun _ => fun
  | [d1, d2, d3, d4, d5, d6] => { results := [.lit (.bool true)], args := [d1, d2, d3, d4, d5, d6] }
  | _ => none }
def dynamicsMoreRow : OpenClaim := { program := "ytnnginappckfcaa", sum := "83b3086ac3b1ad2eb0525e844939a331f7b85d2ca7ec772c768efac0e61701b4", func := "imageeditor/imageeditorlaw26.DynamicsMore", spec := "dynamicsMore", inPlace := ["math/bits.Add64"], apart := false }
def DynamicsMoreSaid : Prop := dynamicsMoreRow.holds Try.pinned (OpenSpec.ofChange dynamicsMoreSpec)

/-- ITS FALSE NEIGHBOUR: 'it returns false'. Refute it at one input. -/
def dynamicsMoreWrong : ChangeSpec := { name := "dynamicsMore", fn := fun _ => fun
  | [d1, d2, d3, d4, d5, d6] => { results := [.lit (.bool false)], args := [d1, d2, d3, d4, d5, d6] }
  | _ => none }
def DynamicsMoreWrongFalsely : Prop := dynamicsMoreRow.holds Try.pinned (OpenSpec.ofChange dynamicsMoreWrong)

/-- 'imageeditorlaw26.DynamicsBounds': WHATEVER THE INPUT: true; the input reads as it did. -/
def dynamicsBoundsSpec : ChangeSpec := { name := "dynamicsBounds", fn := fun _ => fun
  | [d1, d2, d3, d4, d5, d6, d7, d8] => { results := [.lit (.bool true)], args := [d1, d2, d3, d4, d5, d6, d7, d8] }
  | _ => none }
def dynamicsBoundsRow : OpenClaim := { program := "ytnnginappckfcaa", sum := "83b3086ac3b1ad2eb0525e844939a331f7b85d2ca7ec772c768efac0e61701b4", func := "imageeditor/imageeditorlaw26.DynamicsBounds", spec := "dynamicsBounds", inPlace := ["math/bits.Add64"], apart := false }
def DynamicsBoundsSaid : Prop := dynamicsBoundsRow.holds Try.pinned (OpenSpec.ofChange dynamicsBoundsSpec)

/-- ITS FALSE NEIGHBOUR: 'it returns false'. Refute it at one input. -/
def dynamicsBoundsWrong : ChangeSpec := { name := "dynamicsBounds", fn := fun _ => fun
  | [d1, d2, d3, d4, d5, d6, d7, d8] => { results := [.lit (.bool false)], args := [d1, d2, d3, d4, d5, d6, d7, d8] }
  | _ => none }
def DynamicsBoundsWrongFalsely : Prop := dynamicsBoundsRow.holds Try.pinned (OpenSpec.ofChange dynamicsBoundsWrong)

/-- 'imageeditorlaw26.DynamicsMoves': WHATEVER THE INPUT: true; the input reads as it did. -/
def dynamicsMovesSpec : ChangeSpec := { name := "dynamicsMoves", fn := fun _ => fun
  | [d1, d2, d3, d4, d5, d6, d7, d8, d9] => { results := [.lit (.bool true)], args := [d1, d2, d3, d4, d5, d6, d7, d8, d9] }
  | _ => none }
def dynamicsMovesRow : OpenClaim := { program := "ytnnginappckfcaa", sum := "83b3086ac3b1ad2eb0525e844939a331f7b85d2ca7ec772c768efac0e61701b4", func := "imageeditor/imageeditorlaw26.DynamicsMoves", spec := "dynamicsMoves", inPlace := ["math/bits.Add64"], apart := false }
def DynamicsMovesSaid : Prop := dynamicsMovesRow.holds Try.pinned (OpenSpec.ofChange dynamicsMovesSpec)

/-- ITS FALSE NEIGHBOUR: 'it returns false'. Refute it at one input. -/
def dynamicsMovesWrong : ChangeSpec := { name := "dynamicsMoves", fn := fun _ => fun
  | [d1, d2, d3, d4, d5, d6, d7, d8, d9] => { results := [.lit (.bool false)], args := [d1, d2, d3, d4, d5, d6, d7, d8, d9] }
  | _ => none }
def DynamicsMovesWrongFalsely : Prop := dynamicsMovesRow.holds Try.pinned (OpenSpec.ofChange dynamicsMovesWrong)

/- THE SECOND FORM. 'bulk': how many values and letters a reading holds, each counted each time it is reached (what is shared counts as often as it is met; a slice's spare places count too). A statement '..UptoSaid' is the law's where the arguments, and the package variables that the reading takes, are together of bulk at most 1048576: NARROWER than '..Said'. Prove '..Said' where nothing that the law and all that it calls make is longer than what came in: it says more and counts as full. Else prove '..UptoSaid'. A law counts once. -/
mutual
def uptoBulk {H : Type} : DataW H → Nat
  | .lit (.string bytes) => bytes.length + 1
  | .lit _ => 1
  | .nil => 1
  | .ptr d => uptoBulk d + 1
  | .slice elems spare => uptoBulkAll elems + uptoBulkAll spare + 1
  | .agg parts => uptoBulkAll parts + 1
  | .iface _ d => uptoBulk d + 1
  | .map entries => uptoBulkEntries entries + 1
  | .held _ => 1
def uptoBulkAll {H : Type} : List (DataW H) → Nat
  | [] => 0
  | d :: r => uptoBulk d + uptoBulkAll r
def uptoBulkEntries {H : Type} : List (Lit × DataW H) → Nat
  | [] => 0
  | x :: r => uptoBulkEntry x + uptoBulkEntries r
def uptoBulkEntry {H : Type} : Lit × DataW H → Nat
  | (.string bytes, d) => bytes.length + uptoBulk d + 1
  | (_, d) => uptoBulk d + 1
 end
def uptoSmall : (H : Type) → List (DataW H) → Bool := fun _ ds => decide (uptoBulkAll ds ≤ 1048576)
def OpenSpec.upto (s : _root_.Go.ChangeSpec) : _root_.Go.OpenSpec := { _root_.Go.OpenSpec.ofChange s with cond := some uptoSmall }

/-- 'imageeditorlaw26.DynamicsChecks', WHERE WHAT IT READS IS OF BULK AT MOST 1048576: true; the input reads as it did. -/
def dynamicsChecksUptoRow : OpenClaim := { program := "ytnnginappckfcaa", sum := "83b3086ac3b1ad2eb0525e844939a331f7b85d2ca7ec772c768efac0e61701b4", func := "imageeditor/imageeditorlaw26.DynamicsChecks", spec := "dynamicsChecks", inPlace := ["math/bits.Add64"], apart := false, narrowed := true }
def DynamicsChecksUptoSaid : Prop := dynamicsChecksUptoRow.holds Try.pinned (OpenSpec.upto dynamicsChecksSpec)

/-- 'imageeditorlaw26.DynamicsSpeeds', WHERE WHAT IT READS IS OF BULK AT MOST 1048576: true; the input reads as it did. -/
def dynamicsSpeedsUptoRow : OpenClaim := { program := "ytnnginappckfcaa", sum := "83b3086ac3b1ad2eb0525e844939a331f7b85d2ca7ec772c768efac0e61701b4", func := "imageeditor/imageeditorlaw26.DynamicsSpeeds", spec := "dynamicsSpeeds", inPlace := ["math/bits.Add64"], apart := false, narrowed := true }
def DynamicsSpeedsUptoSaid : Prop := dynamicsSpeedsUptoRow.holds Try.pinned (OpenSpec.upto dynamicsSpeedsSpec)

/-- 'imageeditorlaw26.DynamicsSources', WHERE WHAT IT READS IS OF BULK AT MOST 1048576: true; the input reads as it did. -/
def dynamicsSourcesUptoRow : OpenClaim := { program := "ytnnginappckfcaa", sum := "83b3086ac3b1ad2eb0525e844939a331f7b85d2ca7ec772c768efac0e61701b4", func := "imageeditor/imageeditorlaw26.DynamicsSources", spec := "dynamicsSources", inPlace := ["math/bits.Add64"], apart := false, narrowed := true }
def DynamicsSourcesUptoSaid : Prop := dynamicsSourcesUptoRow.holds Try.pinned (OpenSpec.upto dynamicsSourcesSpec)

/-- 'imageeditorlaw26.DynamicsValues', WHERE WHAT IT READS IS OF BULK AT MOST 1048576: true; the input reads as it did. -/
def dynamicsValuesUptoRow : OpenClaim := { program := "ytnnginappckfcaa", sum := "83b3086ac3b1ad2eb0525e844939a331f7b85d2ca7ec772c768efac0e61701b4", func := "imageeditor/imageeditorlaw26.DynamicsValues", spec := "dynamicsValues", inPlace := ["math/bits.Add64"], apart := false, narrowed := true }
def DynamicsValuesUptoSaid : Prop := dynamicsValuesUptoRow.holds Try.pinned (OpenSpec.upto dynamicsValuesSpec)

/-- 'imageeditorlaw26.DynamicsMore', WHERE WHAT IT READS IS OF BULK AT MOST 1048576: true; the input reads as it did. -/
def dynamicsMoreUptoRow : OpenClaim := { program := "ytnnginappckfcaa", sum := "83b3086ac3b1ad2eb0525e844939a331f7b85d2ca7ec772c768efac0e61701b4", func := "imageeditor/imageeditorlaw26.DynamicsMore", spec := "dynamicsMore", inPlace := ["math/bits.Add64"], apart := false, narrowed := true }
def DynamicsMoreUptoSaid : Prop := dynamicsMoreUptoRow.holds Try.pinned (OpenSpec.upto dynamicsMoreSpec)

/-- 'imageeditorlaw26.DynamicsBounds', WHERE WHAT IT READS IS OF BULK AT MOST 1048576: true; the input reads as it did. -/
def dynamicsBoundsUptoRow : OpenClaim := { program := "ytnnginappckfcaa", sum := "83b3086ac3b1ad2eb0525e844939a331f7b85d2ca7ec772c768efac0e61701b4", func := "imageeditor/imageeditorlaw26.DynamicsBounds", spec := "dynamicsBounds", inPlace := ["math/bits.Add64"], apart := false, narrowed := true }
def DynamicsBoundsUptoSaid : Prop := dynamicsBoundsUptoRow.holds Try.pinned (OpenSpec.upto dynamicsBoundsSpec)

/-- 'imageeditorlaw26.DynamicsMoves', WHERE WHAT IT READS IS OF BULK AT MOST 1048576: true; the input reads as it did. -/
def dynamicsMovesUptoRow : OpenClaim := { program := "ytnnginappckfcaa", sum := "83b3086ac3b1ad2eb0525e844939a331f7b85d2ca7ec772c768efac0e61701b4", func := "imageeditor/imageeditorlaw26.DynamicsMoves", spec := "dynamicsMoves", inPlace := ["math/bits.Add64"], apart := false, narrowed := true }
def DynamicsMovesUptoSaid : Prop := dynamicsMovesUptoRow.holds Try.pinned (OpenSpec.upto dynamicsMovesSpec)

end Rows
end Go.Proofs.Ytnnginappckfcaa
