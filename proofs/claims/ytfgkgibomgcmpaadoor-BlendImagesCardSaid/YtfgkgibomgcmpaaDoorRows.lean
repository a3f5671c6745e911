/-
  NARROWER THAN 'FOR EVERY INPUT', by the rows' own cells (each row's printed sentence says how): BlendChannels: laid · BlendColors: laid · BlendOvers: laid · BlendImages: laid · BlendRanges: laid · BlendClears: laid · BlendTurns: laid · BlendParts: laid · BlendNames: laid.
  DERIVED. THE GIVEN ROWS OF THIS SEAT. 9 by the template 'for every input the law returns true; each argument reads behind the call as it read before'; 0 by the template 'total and deterministic' (their statements: YtfgkgibomgcmpaaDoorTotals.lean).
  GIVEN WITH THE SEED: the statements are not yours to turn. If you find one false, say at which input.
  Laid BY PROGRAM, IN A SANDBOX (cutbox-rows.mjs): the forced cells as the released guide's own fill.sh prints them over the translation 6fe187fb2c0e7bfc… (all of the seat's roots in one cut). By AI agents, Wed Nov 11 2026. No macro, syntax, notation, axiom, sorry.
-/
import Derived.Test.YtfgkgibomgcmpaaDoorChecked
import GoSem.Claim
import GoSem.ClaimJoined
import GoSem.ClaimMapViews
import Derived.JoinedTies
import Derived.KernelRfl
namespace Go.Proofs.YtfgkgibomgcmpaaDoor
/- THE CELL 'sum', in the pinned program and in every row, IS THE sha256 OF THE DUMP (.gsa) THAT YtfgkgibomgcmpaaDoorProg.lean LOADS. Nothing in Lean hashes anything: it is a label: what it is worth is what the hold of that sum in a sandbox is worth. -/
noncomputable def Tryd.pinned : Pinned := { name := "ytfgkgibomgcmpaadoor", sum := "6fe187fb2c0e7bfcb3212b44e32bf3dd728aa42bc45de2133a4c1deae4bf546d", checked := Tryd.checked }
namespace Rows
def none {H : Type} : Left H := { results := [], args := [] }

/- WHAT THE LISTED PACKAGE-LEVEL VARIABLES READ AS WHEN THE CALL BEGINS. Each datum BY PROGRAM (the guide's laid-datum.mjs) off the statement by which the dump's own 'gosem.cut.vars' lays the variable. In a bare row this is a premise. The card (YtfgkgibomgcmpaaDoorCards.lean) ties it to the program's text. -/
def laid_imageeditor_blend_names {H : Type} : DataW H := .agg [.lit (.string [110, 111, 114, 109, 97, 108]), .lit (.string [109, 117, 108, 116, 105, 112, 108, 121]), .lit (.string [115, 99, 114, 101, 101, 110]), .lit (.string [111, 118, 101, 114, 108, 97, 121]), .lit (.string [100, 97, 114, 107, 101, 110]), .lit (.string [108, 105, 103, 104, 116, 101, 110]), .lit (.string [100, 111, 100, 103, 101]), .lit (.string [98, 117, 114, 110]), .lit (.string [104, 97, 114, 100]), .lit (.string [115, 111, 102, 116]), .lit (.string [100, 105, 102, 102, 101, 114, 101, 110, 99, 101]), .lit (.string [101, 120, 99, 108, 117, 115, 105, 111, 110]), .lit (.string [97, 100, 100]), .lit (.string [115, 117, 98, 116, 114, 97, 99, 116]), .lit (.string [104, 117, 101]), .lit (.string [115, 97, 116, 117, 114, 97, 116, 105, 111, 110]), .lit (.string [99, 111, 108, 111, 114]), .lit (.string [108, 117, 109, 105, 110, 111, 115, 105, 116, 121])]

/-- 'imageeditorlaw10.BlendChannels': WHATEVER THE INPUT: true; the input reads as it did. -/
def blendChannelsSpec : ChangeSpec := { name := "blendChannels", fn := fun _ => fun
  | [d1, d2, d3] => { results := [.lit (.bool true)], args := [d1, d2, d3] }
  | _ => none }
def blendChannelsRow : OpenClaim := { program := "ytfgkgibomgcmpaadoor", sum := "6fe187fb2c0e7bfcb3212b44e32bf3dd728aa42bc45de2133a4c1deae4bf546d", func := "imageeditor/imageeditorlaw10.BlendChannels", spec := "blendChannels", unfollowed := true, recurses := true, named := ["imageeditor/blend.names"], apart := false, laid := [("imageeditor/blend.names", laid_imageeditor_blend_names)] }
def BlendChannelsSaid : Prop := blendChannelsRow.holds Tryd.pinned (OpenSpec.ofChange blendChannelsSpec)

/-- ITS FALSE NEIGHBOUR: 'it returns false'. Refute it at one input. -/
def blendChannelsWrong : ChangeSpec := { name := "blendChannels", fn := fun _ => fun
  | [d1, d2, d3] => { results := [.lit (.bool false)], args := [d1, d2, d3] }
  | _ => none }
def BlendChannelsWrongFalsely : Prop := blendChannelsRow.holds Tryd.pinned (OpenSpec.ofChange blendChannelsWrong)

/-- 'imageeditorlaw10.BlendColors': WHATEVER THE INPUT: true; the input reads as it did. -/
def blendColorsSpec : ChangeSpec := { name := "blendColors", fn := fun _ => fun
  | [d1, d2, d3] => { results := [.lit (.bool true)], args := [d1, d2, d3] }
  | _ => none }
def blendColorsRow : OpenClaim := { program := "ytfgkgibomgcmpaadoor", sum := "6fe187fb2c0e7bfcb3212b44e32bf3dd728aa42bc45de2133a4c1deae4bf546d", func := "imageeditor/imageeditorlaw10.BlendColors", spec := "blendColors", unfollowed := true, recurses := true, named := ["imageeditor/blend.names"], apart := false, laid := [("imageeditor/blend.names", laid_imageeditor_blend_names)] }
def BlendColorsSaid : Prop := blendColorsRow.holds Tryd.pinned (OpenSpec.ofChange blendColorsSpec)

/-- ITS FALSE NEIGHBOUR: 'it returns false'. Refute it at one input. -/
def blendColorsWrong : ChangeSpec := { name := "blendColors", fn := fun _ => fun
  | [d1, d2, d3] => { results := [.lit (.bool false)], args := [d1, d2, d3] }
  | _ => none }
def BlendColorsWrongFalsely : Prop := blendColorsRow.holds Tryd.pinned (OpenSpec.ofChange blendColorsWrong)

/-- 'imageeditorlaw10.BlendOvers': WHATEVER THE INPUT: true; the input reads as it did. -/
def blendOversSpec : ChangeSpec := { name := "blendOvers", fn := fun _ => fun
  | [d1, d2, d3] => { results := [.lit (.bool true)], args := [d1, d2, d3] }
  | _ => none }
def blendOversRow : OpenClaim := { program := "ytfgkgibomgcmpaadoor", sum := "6fe187fb2c0e7bfcb3212b44e32bf3dd728aa42bc45de2133a4c1deae4bf546d", func := "imageeditor/imageeditorlaw10.BlendOvers", spec := "blendOvers", unfollowed := true, recurses := true, named := ["imageeditor/blend.names"], apart := false, laid := [("imageeditor/blend.names", laid_imageeditor_blend_names)] }
def BlendOversSaid : Prop := blendOversRow.holds Tryd.pinned (OpenSpec.ofChange blendOversSpec)

/-- ITS FALSE NEIGHBOUR: 'it returns false'. Refute it at one input. -/
def blendOversWrong : ChangeSpec := { name := "blendOvers", fn := fun _ => fun
  | [d1, d2, d3] => { results := [.lit (.bool false)], args := [d1, d2, d3] }
  | _ => none }
def BlendOversWrongFalsely : Prop := blendOversRow.holds Tryd.pinned (OpenSpec.ofChange blendOversWrong)

/-- 'imageeditorlaw10.BlendImages': WHATEVER THE INPUT: true; the input reads as it did. -/
def blendImagesSpec : ChangeSpec := { name := "blendImages", fn := fun _ => fun
  | [d] => { results := [.lit (.bool true)], args := [d] }
  | _ => none }
def blendImagesRow : OpenClaim := { program := "ytfgkgibomgcmpaadoor", sum := "6fe187fb2c0e7bfcb3212b44e32bf3dd728aa42bc45de2133a4c1deae4bf546d", func := "imageeditor/imageeditorlaw10.BlendImages", spec := "blendImages", unfollowed := true, recurses := true, named := ["imageeditor/blend.names"], apart := false, laid := [("imageeditor/blend.names", laid_imageeditor_blend_names)] }
def BlendImagesSaid : Prop := blendImagesRow.holds Tryd.pinned (OpenSpec.ofChange blendImagesSpec)

/-- ITS FALSE NEIGHBOUR: 'it returns false'. Refute it at one input. -/
def blendImagesWrong : ChangeSpec := { name := "blendImages", fn := fun _ => fun
  | [d] => { results := [.lit (.bool false)], args := [d] }
  | _ => none }
def BlendImagesWrongFalsely : Prop := blendImagesRow.holds Tryd.pinned (OpenSpec.ofChange blendImagesWrong)

/-- 'imageeditorlaw10.BlendRanges': WHATEVER THE INPUT: true; the input reads as it did. -/
def blendRangesSpec : ChangeSpec := { name := "blendRanges", fn := fun _ => fun
  | [d1, d2, d3] => { results := [.lit (.bool true)], args := [d1, d2, d3] }
  | _ => none }
def blendRangesRow : OpenClaim := { program := "ytfgkgibomgcmpaadoor", sum := "6fe187fb2c0e7bfcb3212b44e32bf3dd728aa42bc45de2133a4c1deae4bf546d", func := "imageeditor/imageeditorlaw10.BlendRanges", spec := "blendRanges", unfollowed := true, recurses := true, named := ["imageeditor/blend.names"], apart := false, laid := [("imageeditor/blend.names", laid_imageeditor_blend_names)] }
def BlendRangesSaid : Prop := blendRangesRow.holds Tryd.pinned (OpenSpec.ofChange blendRangesSpec)

/-- ITS FALSE NEIGHBOUR: 'it returns false'. Refute it at one input. -/
def blendRangesWrong : ChangeSpec := { name := "blendRanges", fn := fun _ => fun
  | [d1, d2, d3] => { results := [.lit (.bool false)], args := [d1, d2, d3] }
  | _ => none }
def BlendRangesWrongFalsely : Prop := blendRangesRow.holds Tryd.pinned (OpenSpec.ofChange blendRangesWrong)

/-- 'imageeditorlaw10.BlendClears': WHATEVER THE INPUT: true; the input reads as it did. -/
def blendClearsSpec : ChangeSpec := { name := "blendClears", fn := fun _ => fun
  | [d1, d2, d3] => { results := [.lit (.bool true)], args := [d1, d2, d3] }
  | _ => none }
def blendClearsRow : OpenClaim := { program := "ytfgkgibomgcmpaadoor", sum := "6fe187fb2c0e7bfcb3212b44e32bf3dd728aa42bc45de2133a4c1deae4bf546d", func := "imageeditor/imageeditorlaw10.BlendClears", spec := "blendClears", unfollowed := true, recurses := true, named := ["imageeditor/blend.names"], apart := false, laid := [("imageeditor/blend.names", laid_imageeditor_blend_names)] }
def BlendClearsSaid : Prop := blendClearsRow.holds Tryd.pinned (OpenSpec.ofChange blendClearsSpec)

/-- ITS FALSE NEIGHBOUR: 'it returns false'. Refute it at one input. -/
def blendClearsWrong : ChangeSpec := { name := "blendClears", fn := fun _ => fun
  | [d1, d2, d3] => { results := [.lit (.bool false)], args := [d1, d2, d3] }
  | _ => none }
def BlendClearsWrongFalsely : Prop := blendClearsRow.holds Tryd.pinned (OpenSpec.ofChange blendClearsWrong)

/-- 'imageeditorlaw10.BlendTurns': WHATEVER THE INPUT: true; the input reads as it did. -/
def blendTurnsSpec : ChangeSpec := { name := "blendTurns", fn := fun _ => fun
  | [d1, d2] => { results := [.lit (.bool true)], args := [d1, d2] }
  | _ => none }
def blendTurnsRow : OpenClaim := { program := "ytfgkgibomgcmpaadoor", sum := "6fe187fb2c0e7bfcb3212b44e32bf3dd728aa42bc45de2133a4c1deae4bf546d", func := "imageeditor/imageeditorlaw10.BlendTurns", spec := "blendTurns", unfollowed := true, recurses := true, named := ["imageeditor/blend.names"], apart := false, laid := [("imageeditor/blend.names", laid_imageeditor_blend_names)] }
def BlendTurnsSaid : Prop := blendTurnsRow.holds Tryd.pinned (OpenSpec.ofChange blendTurnsSpec)

/-- ITS FALSE NEIGHBOUR: 'it returns false'. Refute it at one input. -/
def blendTurnsWrong : ChangeSpec := { name := "blendTurns", fn := fun _ => fun
  | [d1, d2] => { results := [.lit (.bool false)], args := [d1, d2] }
  | _ => none }
def BlendTurnsWrongFalsely : Prop := blendTurnsRow.holds Tryd.pinned (OpenSpec.ofChange blendTurnsWrong)

/-- 'imageeditorlaw10.BlendParts': WHATEVER THE INPUT: true; the input reads as it did. -/
def blendPartsSpec : ChangeSpec := { name := "blendParts", fn := fun _ => fun
  | [d] => { results := [.lit (.bool true)], args := [d] }
  | _ => none }
def blendPartsRow : OpenClaim := { program := "ytfgkgibomgcmpaadoor", sum := "6fe187fb2c0e7bfcb3212b44e32bf3dd728aa42bc45de2133a4c1deae4bf546d", func := "imageeditor/imageeditorlaw10.BlendParts", spec := "blendParts", unfollowed := true, recurses := true, named := ["imageeditor/blend.names"], apart := false, laid := [("imageeditor/blend.names", laid_imageeditor_blend_names)] }
def BlendPartsSaid : Prop := blendPartsRow.holds Tryd.pinned (OpenSpec.ofChange blendPartsSpec)

/-- ITS FALSE NEIGHBOUR: 'it returns false'. Refute it at one input. -/
def blendPartsWrong : ChangeSpec := { name := "blendParts", fn := fun _ => fun
  | [d] => { results := [.lit (.bool false)], args := [d] }
  | _ => none }
def BlendPartsWrongFalsely : Prop := blendPartsRow.holds Tryd.pinned (OpenSpec.ofChange blendPartsWrong)

/-- 'imageeditorlaw10.BlendNames': WHATEVER THE INPUT: true; the input reads as it did. -/
def blendNamesSpec : ChangeSpec := { name := "blendNames", fn := fun _ => fun
  | [d1, d2] => { results := [.lit (.bool true)], args := [d1, d2] }
  | _ => none }
def blendNamesRow : OpenClaim := { program := "ytfgkgibomgcmpaadoor", sum := "6fe187fb2c0e7bfcb3212b44e32bf3dd728aa42bc45de2133a4c1deae4bf546d", func := "imageeditor/imageeditorlaw10.BlendNames", spec := "blendNames", unfollowed := true, recurses := true, named := ["imageeditor/blend.names"], apart := false, laid := [("imageeditor/blend.names", laid_imageeditor_blend_names)] }
def BlendNamesSaid : Prop := blendNamesRow.holds Tryd.pinned (OpenSpec.ofChange blendNamesSpec)

/-- ITS FALSE NEIGHBOUR: 'it returns false'. Refute it at one input. -/
def blendNamesWrong : ChangeSpec := { name := "blendNames", fn := fun _ => fun
  | [d1, d2] => { results := [.lit (.bool false)], args := [d1, d2] }
  | _ => none }
def BlendNamesWrongFalsely : Prop := blendNamesRow.holds Tryd.pinned (OpenSpec.ofChange blendNamesWrong)

/- THE SECOND FORM. 'bulk': how many values and letters a reading holds, each counted each time it is reached (what is shared counts as often as it is met; a slice's spare places count too). A statement '..UptoSaid' is the law's where the arguments, and the package variables that the reading takes, are together of bulk at most 1048576: NARROWER than '..Said'. Prove '..Said' where nothing that the law and all that it calls make is longer than what came in: it says more and counts as full. Else prove '..UptoSaid'. A law counts once. -/
mutual
def uptoBulk {H : Type} : DataW H → Nat
  | .lit (.string bytes) => bytes.length + 1
  | .lit _ => 1
  | .nil => 1
  | .ptr d => uptoBulk d + 1
  | .slice elems spare => uptoBulkAll elems + uptoBulkAll spare + 1
  | .agg parts => uptoBulkAll parts + 1
  | .iface _ d => uptoBulk d + 1
  | .map entries => uptoBulkEntries entries + 1
  | .held _ => 1
def uptoBulkAll {H : Type} : List (DataW H) → Nat
  | [] => 0
  | d :: r => uptoBulk d + uptoBulkAll r
def uptoBulkEntries {H : Type} : List (Lit × DataW H) → Nat
  | [] => 0
  | x :: r => uptoBulkEntry x + uptoBulkEntries r
def uptoBulkEntry {H : Type} : Lit × DataW H → Nat
  | (.string bytes, d) => bytes.length + uptoBulk d + 1
  | (_, d) => uptoBulk d + 1
 end
def uptoSmall : (H : Type) → List (DataW H) → Bool := fun _ ds => decide (uptoBulkAll ds ≤ 1048576)
def OpenSpec.upto (s : _root_.Go.ChangeSpec) : _root_.Go.OpenSpec := { _root_.Go.OpenSpec.ofChange s with cond := some uptoSmall }

/-- 'imageeditorlaw10.BlendChannels', WHERE WHAT IT READS IS OF BULK AT MOST 1048576: true; the input reads as it did. -/
def blendChannelsUptoRow : OpenClaim := { program := "ytfgkgibomgcmpaadoor", sum := "6fe187fb2c0e7bfcb3212b44e32bf3dd728aa42bc45de2133a4c1deae4bf546d", func := "imageeditor/imageeditorlaw10.BlendChannels", spec := "blendChannels", unfollowed := true, recurses := true, named := ["imageeditor/blend.names"], apart := false, laid := [("imageeditor/blend.names", laid_imageeditor_blend_names)], narrowed := true }
def BlendChannelsUptoSaid : Prop := blendChannelsUptoRow.holds Tryd.pinned (OpenSpec.upto blendChannelsSpec)

/-- 'imageeditorlaw10.BlendColors', WHERE WHAT IT READS IS OF BULK AT MOST 1048576: true; the input reads as it did. -/
def blendColorsUptoRow : OpenClaim := { program := "ytfgkgibomgcmpaadoor", sum := "6fe187fb2c0e7bfcb3212b44e32bf3dd728aa42bc45de2133a4c1deae4bf546d", func := "imageeditor/imageeditorlaw10.BlendColors", spec := "blendColors", unfollowed := true, recurses := true, named := ["imageeditor/blend.names"], apart := false, laid := [("imageeditor/blend.names", laid_imageeditor_blend_names)], narrowed := true }
def BlendColorsUptoSaid : Prop := blendColorsUptoRow.holds Tryd.pinned (OpenSpec.upto blendColorsSpec)

/-- 'imageeditorlaw10.BlendOvers', WHERE WHAT IT READS IS OF BULK AT MOST 1048576: true; the input reads as it did. -/
def blendOversUptoRow : OpenClaim := { program := "ytfgkgibomgcmpaadoor", sum := "6fe187fb2c0e7bfcb3212b44e32bf3dd728aa42bc45de2133a4c1deae4bf546d", func := "imageeditor/imageeditorlaw10.BlendOvers", spec := "blendOvers", unfollowed := true, recurses := true, named := ["imageeditor/blend.names"], apart := false, laid := [("imageeditor/blend.names", laid_imageeditor_blend_names)], narrowed := true }
def BlendOversUptoSaid : Prop := blendOversUptoRow.holds Tryd.pinned (OpenSpec.upto blendOversSpec)

/-- 'imageeditorlaw10.BlendImages', WHERE WHAT IT READS IS OF BULK AT MOST 1048576: true; the input reads as it did. -/
def blendImagesUptoRow : OpenClaim := { program := "ytfgkgibomgcmpaadoor", sum := "6fe187fb2c0e7bfcb3212b44e32bf3dd728aa42bc45de2133a4c1deae4bf546d", func := "imageeditor/imageeditorlaw10.BlendImages", spec := "blendImages", unfollowed := true, recurses := true, named := ["imageeditor/blend.names"], apart := false, laid := [("imageeditor/blend.names", laid_imageeditor_blend_names)], narrowed := true }
def BlendImagesUptoSaid : Prop := blendImagesUptoRow.holds Tryd.pinned (OpenSpec.upto blendImagesSpec)

/-- 'imageeditorlaw10.BlendRanges', WHERE WHAT IT READS IS OF BULK AT MOST 1048576: true; the input reads as it did. -/
def blendRangesUptoRow : OpenClaim := { program := "ytfgkgibomgcmpaadoor", sum := "6fe187fb2c0e7bfcb3212b44e32bf3dd728aa42bc45de2133a4c1deae4bf546d", func := "imageeditor/imageeditorlaw10.BlendRanges", spec := "blendRanges", unfollowed := true, recurses := true, named := ["imageeditor/blend.names"], apart := false, laid := [("imageeditor/blend.names", laid_imageeditor_blend_names)], narrowed := true }
def BlendRangesUptoSaid : Prop := blendRangesUptoRow.holds Tryd.pinned (OpenSpec.upto blendRangesSpec)

/-- 'imageeditorlaw10.BlendClears', WHERE WHAT IT READS IS OF BULK AT MOST 1048576: true; the input reads as it did. -/
def blendClearsUptoRow : OpenClaim := { program := "ytfgkgibomgcmpaadoor", sum := "6fe187fb2c0e7bfcb3212b44e32bf3dd728aa42bc45de2133a4c1deae4bf546d", func := "imageeditor/imageeditorlaw10.BlendClears", spec := "blendClears", unfollowed := true, recurses := true, named := ["imageeditor/blend.names"], apart := false, laid := [("imageeditor/blend.names", laid_imageeditor_blend_names)], narrowed := true }
def BlendClearsUptoSaid : Prop := blendClearsUptoRow.holds Tryd.pinned (OpenSpec.upto blendClearsSpec)

/-- 'imageeditorlaw10.BlendTurns', WHERE WHAT IT READS IS OF BULK AT MOST 1048576: true; the input reads as it did. -/
def blendTurnsUptoRow : OpenClaim := { program := "ytfgkgibomgcmpaadoor", sum := "6fe187fb2c0e7bfcb3212b44e32bf3dd728aa42bc45de2133a4c1deae4bf546d", func := "imageeditor/imageeditorlaw10.BlendTurns", spec := "blendTurns", unfollowed := true, recurses := true, named := ["imageeditor/blend.names"], apart := false, laid := [("imageeditor/blend.names", laid_imageeditor_blend_names)], narrowed := true }
def BlendTurnsUptoSaid : Prop := blendTurnsUptoRow.holds Tryd.pinned (OpenSpec.upto blendTurnsSpec)

/-- 'imageeditorlaw10.BlendParts', WHERE WHAT IT READS IS OF BULK AT MOST 1048576: true; the input reads as it did. -/
def blendPartsUptoRow : OpenClaim := { program := "ytfgkgibomgcmpaadoor", sum := "6fe187fb2c0e7bfcb3212b44e32bf3dd728aa42bc45de2133a4c1deae4bf546d", func := "imageeditor/imageeditorlaw10.BlendParts", spec := "blendParts", unfollowed := true, recurses := true, named := ["imageeditor/blend.names"], apart := false, laid := [("imageeditor/blend.names", laid_imageeditor_blend_names)], narrowed := true }
def BlendPartsUptoSaid : Prop := blendPartsUptoRow.holds Tryd.pinned (OpenSpec.upto blendPartsSpec)

/-- 'imageeditorlaw10.BlendNames', WHERE WHAT IT READS IS OF BULK AT MOST 1048576: true; the input reads as it did. -/
def blendNamesUptoRow : OpenClaim := { program := "ytfgkgibomgcmpaadoor", sum := "6fe187fb2c0e7bfcb3212b44e32bf3dd728aa42bc45de2133a4c1deae4bf546d", func := "imageeditor/imageeditorlaw10.BlendNames", spec := "blendNames", unfollowed := true, recurses := true, named := ["imageeditor/blend.names"], apart := false, laid := [("imageeditor/blend.names", laid_imageeditor_blend_names)], narrowed := true }
def BlendNamesUptoSaid : Prop := blendNamesUptoRow.holds Tryd.pinned (OpenSpec.upto blendNamesSpec)

end Rows
end Go.Proofs.YtfgkgibomgcmpaaDoor
