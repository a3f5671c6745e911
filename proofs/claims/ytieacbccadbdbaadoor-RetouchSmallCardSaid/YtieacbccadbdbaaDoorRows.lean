/-
  NARROWER THAN 'FOR EVERY INPUT', by the rows' own cells (each row's printed sentence says how): RetouchSame: laid · RetouchBorders: laid · RetouchSmall: laid · RetouchOutside: laid.
  DERIVED. THE GIVEN ROWS OF THIS SEAT. 4 by the template 'for every input the law returns true; each argument reads behind the call as it read before'; 0 by the template 'total and deterministic' (their statements: YtieacbccadbdbaaDoorTotals.lean).
  GIVEN WITH THE SEED: the statements are not yours to turn. If you find one false, say at which input.
  Laid BY PROGRAM, IN A SANDBOX (cutbox-rows.mjs): the forced cells as the released guide's own fill.sh prints them over the translation 437a4ef9f21db9ce… (all of the seat's roots in one cut). By AI agents, Wed Nov 11 2026. No macro, syntax, notation, axiom, sorry.
-/
import Derived.Test.YtieacbccadbdbaaDoorChecked
import GoSem.Claim
import GoSem.ClaimJoined
import GoSem.ClaimMapViews
import Derived.JoinedTies
import Derived.KernelRfl
namespace Go.Proofs.YtieacbccadbdbaaDoor
/- THE CELL 'sum', in the pinned program and in every row, IS THE sha256 OF THE DUMP (.gsa) THAT YtieacbccadbdbaaDoorProg.lean LOADS. Nothing in Lean hashes anything: it is a label: what it is worth is what the hold of that sum in a sandbox is worth. -/
noncomputable def Tryd.pinned : Pinned := { name := "ytieacbccadbdbaadoor", sum := "437a4ef9f21db9ce32e7425759da6599b7b36b718301916c11e35fe94108161d", checked := Tryd.checked }
namespace Rows
def none {H : Type} : Left H := { results := [], args := [] }

/- WHAT THE LISTED PACKAGE-LEVEL VARIABLES READ AS WHEN THE CALL BEGINS. Each datum BY PROGRAM (the guide's laid-datum.mjs) off the statement by which the dump's own 'gosem.cut.vars' lays the variable. In a bare row this is a premise. The card (YtieacbccadbdbaaDoorCards.lean) ties it to the program's text. -/
def laid_imageeditor_num_sines {H : Type} : DataW H := .agg [.lit (.int .i64 0), .lit (.int .i64 1608), .lit (.int .i64 3216), .lit (.int .i64 4821), .lit (.int .i64 6424), .lit (.int .i64 8022), .lit (.int .i64 9616), .lit (.int .i64 11204), .lit (.int .i64 12785), .lit (.int .i64 14359), .lit (.int .i64 15924), .lit (.int .i64 17479), .lit (.int .i64 19024), .lit (.int .i64 20557), .lit (.int .i64 22078), .lit (.int .i64 23586), .lit (.int .i64 25080), .lit (.int .i64 26558), .lit (.int .i64 28020), .lit (.int .i64 29466), .lit (.int .i64 30893), .lit (.int .i64 32303), .lit (.int .i64 33692), .lit (.int .i64 35062), .lit (.int .i64 36410), .lit (.int .i64 37736), .lit (.int .i64 39040), .lit (.int .i64 40320), .lit (.int .i64 41576), .lit (.int .i64 42806), .lit (.int .i64 44011), .lit (.int .i64 45190), .lit (.int .i64 46341), .lit (.int .i64 47464), .lit (.int .i64 48559), .lit (.int .i64 49624), .lit (.int .i64 50660), .lit (.int .i64 51665), .lit (.int .i64 52639), .lit (.int .i64 53581), .lit (.int .i64 54491), .lit (.int .i64 55368), .lit (.int .i64 56212), .lit (.int .i64 57022), .lit (.int .i64 57798), .lit (.int .i64 58538), .lit (.int .i64 59244), .lit (.int .i64 59914), .lit (.int .i64 60547), .lit (.int .i64 61145), .lit (.int .i64 61705), .lit (.int .i64 62228), .lit (.int .i64 62714), .lit (.int .i64 63162), .lit (.int .i64 63572), .lit (.int .i64 63944), .lit (.int .i64 64277), .lit (.int .i64 64571), .lit (.int .i64 64827), .lit (.int .i64 65043), .lit (.int .i64 65220), .lit (.int .i64 65358), .lit (.int .i64 65457), .lit (.int .i64 65516), .lit (.int .i64 65536)]

/-- 'imageeditorlaw29.RetouchSame': WHATEVER THE INPUT: true; the input reads as it did. -/
def retouchSameSpec : ChangeSpec := { name := "retouchSame", fn := fun _ => fun
  | [d1, d2, d3, d4, d5] => { results := [.lit (.bool true)], args := [d1, d2, d3, d4, d5] }
  | _ => none }
def retouchSameRow : OpenClaim := { program := "ytieacbccadbdbaadoor", sum := "437a4ef9f21db9ce32e7425759da6599b7b36b718301916c11e35fe94108161d", func := "imageeditor/imageeditorlaw29.RetouchSame", spec := "retouchSame", inPlace := ["math/bits.Add64"], unfollowed := true, recurses := true, named := ["imageeditor/num.sines"], apart := false, laid := [("imageeditor/num.sines", laid_imageeditor_num_sines)] }
def RetouchSameSaid : Prop := retouchSameRow.holds Tryd.pinned (OpenSpec.ofChange retouchSameSpec)

/-- ITS FALSE NEIGHBOUR: 'it returns false'. Refute it at one input. -/
def retouchSameWrong : ChangeSpec := { name := "retouchSame", fn := fun _ => fun
  | [d1, d2, d3, d4, d5] => { results := [.lit (.bool false)], args := [d1, d2, d3, d4, d5] }
  | _ => none }
def RetouchSameWrongFalsely : Prop := retouchSameRow.holds Tryd.pinned (OpenSpec.ofChange retouchSameWrong)

/-- 'imageeditorlaw29.RetouchBorders': WHATEVER THE INPUT: true; the input reads as it did. -/
def retouchBordersSpec : ChangeSpec := { name := "retouchBorders", fn := fun _ => fun
  | [d1, d2, d3, d4] => { results := [.lit (.bool true)], args := [d1, d2, d3, d4] }
  | _ => none }
def retouchBordersRow : OpenClaim := { program := "ytieacbccadbdbaadoor", sum := "437a4ef9f21db9ce32e7425759da6599b7b36b718301916c11e35fe94108161d", func := "imageeditor/imageeditorlaw29.RetouchBorders", spec := "retouchBorders", inPlace := ["math/bits.Add64"], unfollowed := true, recurses := true, named := ["imageeditor/num.sines"], apart := false, laid := [("imageeditor/num.sines", laid_imageeditor_num_sines)] }
def RetouchBordersSaid : Prop := retouchBordersRow.holds Tryd.pinned (OpenSpec.ofChange retouchBordersSpec)

/-- ITS FALSE NEIGHBOUR: 'it returns false'. Refute it at one input. -/
def retouchBordersWrong : ChangeSpec := { name := "retouchBorders", fn := fun _ => fun
  | [d1, d2, d3, d4] => { results := [.lit (.bool false)], args := [d1, d2, d3, d4] }
  | _ => none }
def RetouchBordersWrongFalsely : Prop := retouchBordersRow.holds Tryd.pinned (OpenSpec.ofChange retouchBordersWrong)

/-- 'imageeditorlaw29.RetouchSmall': WHATEVER THE INPUT: true; the input reads as it did. -/
def retouchSmallSpec : ChangeSpec := { name := "retouchSmall", fn := fun _ => fun
  | [d1, d2, d3, d4] => { results := [.lit (.bool true)], args := [d1, d2, d3, d4] }
  | _ => none }
def retouchSmallRow : OpenClaim := { program := "ytieacbccadbdbaadoor", sum := "437a4ef9f21db9ce32e7425759da6599b7b36b718301916c11e35fe94108161d", func := "imageeditor/imageeditorlaw29.RetouchSmall", spec := "retouchSmall", inPlace := ["math/bits.Add64"], unfollowed := true, recurses := true, named := ["imageeditor/num.sines"], apart := false, laid := [("imageeditor/num.sines", laid_imageeditor_num_sines)] }
def RetouchSmallSaid : Prop := retouchSmallRow.holds Tryd.pinned (OpenSpec.ofChange retouchSmallSpec)

/-- ITS FALSE NEIGHBOUR: 'it returns false'. Refute it at one input. -/
def retouchSmallWrong : ChangeSpec := { name := "retouchSmall", fn := fun _ => fun
  | [d1, d2, d3, d4] => { results := [.lit (.bool false)], args := [d1, d2, d3, d4] }
  | _ => none }
def RetouchSmallWrongFalsely : Prop := retouchSmallRow.holds Tryd.pinned (OpenSpec.ofChange retouchSmallWrong)

/-- 'imageeditorlaw29.RetouchOutside': WHATEVER THE INPUT: true; the input reads as it did. -/
def retouchOutsideSpec : ChangeSpec := { name := "retouchOutside", fn := fun _ => fun
  | [d1, d2, d3, d4, d5] => { results := [.lit (.bool true)], args := [d1, d2, d3, d4, d5] }
  | _ => none }
def retouchOutsideRow : OpenClaim := { program := "ytieacbccadbdbaadoor", sum := "437a4ef9f21db9ce32e7425759da6599b7b36b718301916c11e35fe94108161d", func := "imageeditor/imageeditorlaw29.RetouchOutside", spec := "retouchOutside", inPlace := ["math/bits.Add64"], unfollowed := true, recurses := true, named := ["imageeditor/num.sines"], apart := false, laid := [("imageeditor/num.sines", laid_imageeditor_num_sines)] }
def RetouchOutsideSaid : Prop := retouchOutsideRow.holds Tryd.pinned (OpenSpec.ofChange retouchOutsideSpec)

/-- ITS FALSE NEIGHBOUR: 'it returns false'. Refute it at one input. -/
def retouchOutsideWrong : ChangeSpec := { name := "retouchOutside", fn := fun _ => fun
  | [d1, d2, d3, d4, d5] => { results := [.lit (.bool false)], args := [d1, d2, d3, d4, d5] }
  | _ => none }
def RetouchOutsideWrongFalsely : Prop := retouchOutsideRow.holds Tryd.pinned (OpenSpec.ofChange retouchOutsideWrong)

/- THE SECOND FORM. 'bulk': how many values and letters a reading holds, each counted each time it is reached (what is shared counts as often as it is met; a slice's spare places count too). A statement '..UptoSaid' is the law's where the arguments, and the package variables that the reading takes, are together of bulk at most 1048576: NARROWER than '..Said'. Prove '..Said' where nothing that the law and all that it calls make is longer than what came in: it says more and counts as full. Else prove '..UptoSaid'. A law counts once. -/
mutual
def uptoBulk {H : Type} : DataW H → Nat
  | .lit (.string bytes) => bytes.length + 1
  | .lit _ => 1
  | .nil => 1
  | .ptr d => uptoBulk d + 1
  | .slice elems spare => uptoBulkAll elems + uptoBulkAll spare + 1
  | .agg parts => uptoBulkAll parts + 1
  | .iface _ d => uptoBulk d + 1
  | .map entries => uptoBulkEntries entries + 1
  | .held _ => 1
def uptoBulkAll {H : Type} : List (DataW H) → Nat
  | [] => 0
  | d :: r => uptoBulk d + uptoBulkAll r
def uptoBulkEntries {H : Type} : List (Lit × DataW H) → Nat
  | [] => 0
  | x :: r => uptoBulkEntry x + uptoBulkEntries r
def uptoBulkEntry {H : Type} : Lit × DataW H → Nat
  | (.string bytes, d) => bytes.length + uptoBulk d + 1
  | (_, d) => uptoBulk d + 1
 end
def uptoSmall : (H : Type) → List (DataW H) → Bool := fun _ ds => decide (uptoBulkAll ds ≤ 1048576)
def OpenSpec.upto (s : _root_.Go.ChangeSpec) : _root_.Go.OpenSpec := { _root_.Go.OpenSpec.ofChange s with cond := some uptoSmall }

/-- 'imageeditorlaw29.RetouchSame', WHERE WHAT IT READS IS OF BULK AT MOST 1048576: true; the input reads as it did. -/
def retouchSameUptoRow : OpenClaim := { program := "ytieacbccadbdbaadoor", sum := "437a4ef9f21db9ce32e7425759da6599b7b36b718301916c11e35fe94108161d", func := "imageeditor/imageeditorlaw29.RetouchSame", spec := "retouchSame", inPlace := ["math/bits.Add64"], unfollowed := true, recurses := true, named := ["imageeditor/num.sines"], apart := false, laid := [("imageeditor/num.sines", laid_imageeditor_num_sines)], narrowed := true }
def RetouchSameUptoSaid : Prop := retouchSameUptoRow.holds Tryd.pinned (OpenSpec.upto retouchSameSpec)

/-- 'imageeditorlaw29.RetouchBorders', WHERE WHAT IT READS IS OF BULK AT MOST 1048576: true; the input reads as it did. -/
def retouchBordersUptoRow : OpenClaim := { program := "ytieacbccadbdbaadoor", sum := "437a4ef9f21db9ce32e7425759da6599b7b36b718301916c11e35fe94108161d", func := "imageeditor/imageeditorlaw29.RetouchBorders", spec := "retouchBorders", inPlace := ["math/bits.Add64"], unfollowed := true, recurses := true, named := ["imageeditor/num.sines"], apart := false, laid := [("imageeditor/num.sines", laid_imageeditor_num_sines)], narrowed := true }
def RetouchBordersUptoSaid : Prop := retouchBordersUptoRow.holds Tryd.pinned (OpenSpec.upto retouchBordersSpec)

/-- 'imageeditorlaw29.RetouchSmall', WHERE WHAT IT READS IS OF BULK AT MOST 1048576: true; the input reads as it did. -/
def retouchSmallUptoRow : OpenClaim := { program := "ytieacbccadbdbaadoor", sum := "437a4ef9f21db9ce32e7425759da6599b7b36b718301916c11e35fe94108161d", func := "imageeditor/imageeditorlaw29.RetouchSmall", spec := "retouchSmall", inPlace := ["math/bits.Add64"], unfollowed := true, recurses := true, named := ["imageeditor/num.sines"], apart := false, laid := [("imageeditor/num.sines", laid_imageeditor_num_sines)], narrowed := true }
def RetouchSmallUptoSaid : Prop := retouchSmallUptoRow.holds Tryd.pinned (OpenSpec.upto retouchSmallSpec)

/-- 'imageeditorlaw29.RetouchOutside', WHERE WHAT IT READS IS OF BULK AT MOST 1048576: true; the input reads as it did. -/
def retouchOutsideUptoRow : OpenClaim := { program := "ytieacbccadbdbaadoor", sum := "437a4ef9f21db9ce32e7425759da6599b7b36b718301916c11e35fe94108161d", func := "imageeditor/imageeditorlaw29.RetouchOutside", spec := "retouchOutside", inPlace := ["math/bits.Add64"], unfollowed := true, recurses := true, named := ["imageeditor/num.sines"], apart := false, laid := [("imageeditor/num.sines", laid_imageeditor_num_sines)], narrowed := true }
def RetouchOutsideUptoSaid : Prop := retouchOutsideUptoRow.holds Tryd.pinned (OpenSpec.upto retouchOutsideSpec)

end Rows
end Go.Proofs.YtieacbccadbdbaaDoor
