/-
  No cell of these rows narrows 'for every input' (looked for: loops, veiled, ifaces, maps, wideKeys, modest, calm, conditions, laid).
  DERIVED. THE GIVEN ROWS OF THIS SEAT. 5 by the template 'for every input the law returns true; each argument reads behind the call as it read before'; 0 by the template 'total and deterministic' (their statements: YtccpnfkncleilaaTotals.lean).
  GIVEN WITH THE SEED: the statements are not yours to turn. If you find one false, say at which input.
  Laid BY PROGRAM, IN A SANDBOX (cutbox-rows.mjs): the forced cells as the released guide's own fill.sh prints them over the translation 81b2a71765cb3741… (all of the seat's roots in one cut). By AI agents, Wed Nov 11 2026. No macro, syntax, notation, axiom, sorry.
-/
import Derived.Test.YtccpnfkncleilaaChecked
import GoSem.Claim
import GoSem.ClaimJoined
import GoSem.ClaimMapViews
import Derived.JoinedTies
import Derived.KernelRfl
namespace Go.Proofs.Ytccpnfkncleilaa
/- THE CELL 'sum', in the pinned program and in every row, IS THE sha256 OF THE DUMP (.gsa) THAT YtccpnfkncleilaaProg.lean LOADS. Nothing in Lean hashes anything: it is a label: what it is worth is what the hold of that sum in a sandbox is worth. -/
noncomputable def Try.pinned : Pinned := { name := "ytccpnfkncleilaa", sum := "81b2a71765cb3741ca2695f925d56ba0108d8a37c086af267a52fb89616d7474", checked := Try.checked }
namespace Rows
def none {H : Type} : Left H := { results := [], args := [] }

/-- 'imageeditorlaw25.RandomMixes': WHATEVER THE INPUT: true; the input reads as it did. -/
def randomMixesSpec : ChangeSpec := { name := "randomMixes", fn := fun _ => fun
  | [d1, d2, d3] => { results := [.lit (.bool true)], args := [d1, d2, d3] }
  | _ => none }
def randomMixesRow : OpenClaim := { program := "ytccpnfkncleilaa", sum := "81b2a71765cb3741ca2695f925d56ba0108d8a37c086af267a52fb89616d7474", func := "imageeditor/imageeditorlaw25.RandomMixes", spec := "randomMixes", apart := false }
def RandomMixesSaid : Prop := randomMixesRow.holds Try.pinned (OpenSpec.ofChange randomMixesSpec)

/-- ITS FALSE NEIGHBOUR: 'it returns false'. Refute it at one input. -/
def randomMixesWrong : ChangeSpec := { name := "randomMixes", fn := fun _ => fun
  | [d1, d2, d3] => { results := [.lit (.bool false)], args := [d1, d2, d3] }
  | _ => none }
def RandomMixesWrongFalsely : Prop := randomMixesRow.holds Try.pinned (OpenSpec.ofChange randomMixesWrong)

/-- 'imageeditorlaw25.RandomAts': WHATEVER THE INPUT: true; the input reads as it did. -/
def randomAtsSpec : ChangeSpec := { name := "randomAts", fn := fun _ => fun
  | [d1, d2, d3] => { results := [.lit (.bool true)], args := [d1, d2, d3] }
  | _ => none }
def randomAtsRow : OpenClaim := { program := "ytccpnfkncleilaa", sum := "81b2a71765cb3741ca2695f925d56ba0108d8a37c086af267a52fb89616d7474", func := "imageeditor/imageeditorlaw25.RandomAts", spec := "randomAts", apart := false }
def RandomAtsSaid : Prop := randomAtsRow.holds Try.pinned (OpenSpec.ofChange randomAtsSpec)

/-- ITS FALSE NEIGHBOUR: 'it returns false'. Refute it at one input. -/
def randomAtsWrong : ChangeSpec := { name := "randomAts", fn := fun _ => fun
  | [d1, d2, d3] => { results := [.lit (.bool false)], args := [d1, d2, d3] }
  | _ => none }
def RandomAtsWrongFalsely : Prop := randomAtsRow.holds Try.pinned (OpenSpec.ofChange randomAtsWrong)

/-- 'imageeditorlaw25.RandomBelows': WHATEVER THE INPUT: true; the input reads as it did. -/
def randomBelowsSpec : ChangeSpec := { name := "randomBelows", fn := fun _ => fun
  | [d1, d2, d3] => { results := [.lit (.bool true)], args := [d1, d2, d3] }
  | _ => none }
def randomBelowsRow : OpenClaim := { program := "ytccpnfkncleilaa", sum := "81b2a71765cb3741ca2695f925d56ba0108d8a37c086af267a52fb89616d7474", func := "imageeditor/imageeditorlaw25.RandomBelows", spec := "randomBelows", apart := false }
def RandomBelowsSaid : Prop := randomBelowsRow.holds Try.pinned (OpenSpec.ofChange randomBelowsSpec)

/-- ITS FALSE NEIGHBOUR: 'it returns false'. Refute it at one input. -/
def randomBelowsWrong : ChangeSpec := { name := "randomBelows", fn := fun _ => fun
  | [d1, d2, d3] => { results := [.lit (.bool false)], args := [d1, d2, d3] }
  | _ => none }
def RandomBelowsWrongFalsely : Prop := randomBelowsRow.holds Try.pinned (OpenSpec.ofChange randomBelowsWrong)

/-- 'imageeditorlaw25.RandomSources': WHATEVER THE INPUT: true; the input reads as it did. -/
def randomSourcesSpec : ChangeSpec := { name := "randomSources", fn := fun _ => fun
  | [d1, d2, d3] => { results := [.lit (.bool true)], args := [d1, d2, d3] }
  | _ => none }
def randomSourcesRow : OpenClaim := { program := "ytccpnfkncleilaa", sum := "81b2a71765cb3741ca2695f925d56ba0108d8a37c086af267a52fb89616d7474", func := "imageeditor/imageeditorlaw25.RandomSources", spec := "randomSources", apart := false }
def RandomSourcesSaid : Prop := randomSourcesRow.holds Try.pinned (OpenSpec.ofChange randomSourcesSpec)

/-- ITS FALSE NEIGHBOUR: 'it returns false'. Refute it at one input. -/
def randomSourcesWrong : ChangeSpec := { name := "randomSources", fn := fun _ => fun
  | [d1, d2, d3] => { results := [.lit (.bool false)], args := [d1, d2, d3] }
  | _ => none }
def RandomSourcesWrongFalsely : Prop := randomSourcesRow.holds Try.pinned (OpenSpec.ofChange randomSourcesWrong)

/-- 'imageeditorlaw25.RandomNone': WHATEVER THE INPUT: true; the input reads as it did. -/
def randomNoneSpec : ChangeSpec := { name := "randomNone", fn := fun _ => fun
  | [d] => { results := [.lit (.bool true)], args := [d] }
  | _ => none }
def randomNoneRow : OpenClaim := { program := "ytccpnfkncleilaa", sum := "81b2a71765cb3741ca2695f925d56ba0108d8a37c086af267a52fb89616d7474", func := "imageeditor/imageeditorlaw25.RandomNone", spec := "randomNone", apart := false }
def RandomNoneSaid : Prop := randomNoneRow.holds Try.pinned (OpenSpec.ofChange randomNoneSpec)

/-- ITS FALSE NEIGHBOUR: 'it returns false'. Refute it at one input. -/
def randomNoneWrong : ChangeSpec := { name := "randomNone", fn := fun _ => fun
  | [d] => { results := [.lit (.bool false)], args := [d] }
  | _ => none }
def RandomNoneWrongFalsely : Prop := randomNoneRow.holds Try.pinned (OpenSpec.ofChange randomNoneWrong)

/- THE SECOND FORM. 'bulk': how many values and letters a reading holds, each counted each time it is reached (what is shared counts as often as it is met; a slice's spare places count too). A statement '..UptoSaid' is the law's where the arguments, and the package variables that the reading takes, are together of bulk at most 1048576: NARROWER than '..Said'. Prove '..Said' where nothing that the law and all that it calls make is longer than what came in: it says more and counts as full. Else prove '..UptoSaid'. A law counts once. -/
mutual
def uptoBulk {H : Type} : DataW H → Nat
  | .lit (.string bytes) => bytes.length + 1
  | .lit _ => 1
  | .nil => 1
  | .ptr d => uptoBulk d + 1
  | .slice elems spare => uptoBulkAll elems + uptoBulkAll spare + 1
  | .agg parts => uptoBulkAll parts + 1
  | .iface _ d => uptoBulk d + 1
  | .map entries => uptoBulkEntries entries + 1
  | .held _ => 1
def uptoBulkAll {H : Type} : List (DataW H) → Nat
  | [] => 0
  | d :: r => uptoBulk d + uptoBulkAll r
def uptoBulkEntries {H : Type} : List (Lit × DataW H) → Nat
  | [] => 0
  | x :: r => uptoBulkEntry x + uptoBulkEntries r
def uptoBulkEntry {H : Type} : Lit × DataW H → Nat
  | (.string bytes, d) => bytes.length + uptoBulk d + 1
  | (_, d) => uptoBulk d + 1
 end
def uptoSmall : (H : Type) → List (DataW H) → Bool := fun _ ds => decide (uptoBulkAll ds ≤ 1048576)
def OpenSpec.upto (s : _root_.Go.ChangeSpec) : _root_.Go.OpenSpec := { _root_.Go.OpenSpec.ofChange s with cond := some uptoSmall }

/-- 'imageeditorlaw25.RandomMixes', WHERE WHAT IT READS IS OF BULK AT MOST 1048576: true; the input reads as it did. -/
def randomMixesUptoRow : OpenClaim := { program := "ytccpnfkncleilaa", sum := "81b2a71765cb3741ca2695f925d56ba0108d8a37c086af267a52fb89616d7474", func := "imageeditor/imageeditorlaw25.RandomMixes", spec := "randomMixes", apart := false, narrowed := true }
def RandomMixesUptoSaid : Prop := randomMixesUptoRow.holds Try.pinned (OpenSpec.upto randomMixesSpec)

/-- 'imageeditorlaw25.RandomAts', WHERE WHAT IT READS IS OF BULK AT MOST 1048576: true; the input reads as it did. -/
def randomAtsUptoRow : OpenClaim := { program := "ytccpnfkncleilaa", sum := "81b2a71765cb3741ca2695f925d56ba0108d8a37c086af267a52fb89616d7474", func := "imageeditor/imageeditorlaw25.RandomAts", spec := "randomAts", apart := false, narrowed := true }
def RandomAtsUptoSaid : Prop := randomAtsUptoRow.holds Try.pinned (OpenSpec.upto randomAtsSpec)

/-- 'imageeditorlaw25.RandomBelows', WHERE WHAT IT READS IS OF BULK AT MOST 1048576: true; the input reads as it did. -/
def randomBelowsUptoRow : OpenClaim := { program := "ytccpnfkncleilaa", sum := "81b2a71765cb3741ca2695f925d56ba0108d8a37c086af267a52fb89616d7474", func := "imageeditor/imageeditorlaw25.RandomBelows", spec := "randomBelows", apart := false, narrowed := true }
def RandomBelowsUptoSaid : Prop := randomBelowsUptoRow.holds Try.pinned (OpenSpec.upto randomBelowsSpec)

/-- 'imageeditorlaw25.RandomSources', WHERE WHAT IT READS IS OF BULK AT MOST 1048576: true; the input reads as it did. -/
def randomSourcesUptoRow : OpenClaim := { program := "ytccpnfkncleilaa", sum := "81b2a71765cb3741ca2695f925d56ba0108d8a37c086af267a52fb89616d7474", func := "imageeditor/imageeditorlaw25.RandomSources", spec := "randomSources", apart := false, narrowed := true }
def RandomSourcesUptoSaid : Prop := randomSourcesUptoRow.holds Try.pinned (OpenSpec.upto randomSourcesSpec)

/-- 'imageeditorlaw25.RandomNone', WHERE WHAT IT READS IS OF BULK AT MOST 1048576: true; the input reads as it did. -/
def randomNoneUptoRow : OpenClaim := { program := "ytccpnfkncleilaa", sum := "81b2a71765cb3741ca2695f925d56ba0108d8a37c086af267a52fb89616d7474", func := "imageeditor/imageeditorlaw25.RandomNone", spec := "randomNone", apart := false, narrowed := true }
def RandomNoneUptoSaid : Prop := randomNoneUptoRow.holds Try.pinned (OpenSpec.upto randomNoneSpec)

end Rows
end Go.Proofs.Ytccpnfkncleilaa
