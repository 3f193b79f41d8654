/-
  No cell of these rows narrows 'for every input' (looked for: loops, veiled, ifaces, maps, wideKeys, modest, calm, conditions, laid).
  DERIVED. THE GIVEN ROWS OF THIS SEAT. 8 by the template 'for every input the law returns true; each argument reads behind the call as it read before'; 0 by the template 'total and deterministic' (their statements: YtfkndnocjelhgaaTotals.lean).
  GIVEN WITH THE SEED: the statements are not yours to turn. If you find one false, say at which input.
  Laid BY PROGRAM, IN A SANDBOX (cutbox-rows.mjs): the forced cells as the released guide's own fill.sh prints them over the translation a428a4b896ec2218… (all of the seat's roots in one cut). By AI agents, Wed Nov 11 2026. No macro, syntax, notation, axiom, sorry.
-/
import Derived.Test.YtfkndnocjelhgaaChecked
import GoSem.Claim
import GoSem.ClaimJoined
import GoSem.ClaimMapViews
import Derived.JoinedTies
import Derived.KernelRfl
namespace Go.Proofs.Ytfkndnocjelhgaa
/- THE CELL 'sum', in the pinned program and in every row, IS THE sha256 OF THE DUMP (.gsa) THAT YtfkndnocjelhgaaProg.lean LOADS. Nothing in Lean hashes anything: it is a label: what it is worth is what the hold of that sum in a sandbox is worth. -/
noncomputable def Try.pinned : Pinned := { name := "ytfkndnocjelhgaa", sum := "a428a4b896ec221824135037c7d3dfec1ea6337c75871fed17fa0bb0e903dd10", checked := Try.checked }
namespace Rows
def none {H : Type} : Left H := { results := [], args := [] }

/-- 'encorelaw05.StripCells': WHATEVER THE INPUT: true; the input reads as it did. -/
def stripCellsSpec : ChangeSpec := { name := "stripCells", fn := fun _ => fun
  | [d1, d2, d3] => { results := [.lit (.bool true)], args := [d1, d2, d3] }
  | _ => none }
def stripCellsRow : OpenClaim := { program := "ytfkndnocjelhgaa", sum := "a428a4b896ec221824135037c7d3dfec1ea6337c75871fed17fa0bb0e903dd10", func := "encore/encorelaw05.StripCells", spec := "stripCells", unfollowed := true, recurses := true, apart := false }
def StripCellsSaid : Prop := stripCellsRow.holds Try.pinned (OpenSpec.ofChange stripCellsSpec)

/-- ITS FALSE NEIGHBOUR: 'it returns false'. Refute it at one input. -/
def stripCellsWrong : ChangeSpec := { name := "stripCells", fn := fun _ => fun
  | [d1, d2, d3] => { results := [.lit (.bool false)], args := [d1, d2, d3] }
  | _ => none }
def StripCellsWrongFalsely : Prop := stripCellsRow.holds Try.pinned (OpenSpec.ofChange stripCellsWrong)

/-- 'encorelaw05.StripReads': WHATEVER THE INPUT: true; the input reads as it did. -/
def stripReadsSpec : ChangeSpec := { name := "stripReads", fn := fun _ => fun
  | [d] => { results := [.lit (.bool true)], args := [d] }
  | _ => none }
def stripReadsRow : OpenClaim := { program := "ytfkndnocjelhgaa", sum := "a428a4b896ec221824135037c7d3dfec1ea6337c75871fed17fa0bb0e903dd10", func := "encore/encorelaw05.StripReads", spec := "stripReads", unfollowed := true, recurses := true, apart := false }
def StripReadsSaid : Prop := stripReadsRow.holds Try.pinned (OpenSpec.ofChange stripReadsSpec)

/-- ITS FALSE NEIGHBOUR: 'it returns false'. Refute it at one input. -/
def stripReadsWrong : ChangeSpec := { name := "stripReads", fn := fun _ => fun
  | [d] => { results := [.lit (.bool false)], args := [d] }
  | _ => none }
def StripReadsWrongFalsely : Prop := stripReadsRow.holds Try.pinned (OpenSpec.ofChange stripReadsWrong)

/-- 'encorelaw05.StripMixes': WHATEVER THE INPUT: true; the input reads as it did. -/
def stripMixesSpec : ChangeSpec := { name := "stripMixes", fn := fun _ => fun
  | [d] => { results := [.lit (.bool true)], args := [d] }
  | _ => none }
def stripMixesRow : OpenClaim := { program := "ytfkndnocjelhgaa", sum := "a428a4b896ec221824135037c7d3dfec1ea6337c75871fed17fa0bb0e903dd10", func := "encore/encorelaw05.StripMixes", spec := "stripMixes", unfollowed := true, recurses := true, apart := false }
def StripMixesSaid : Prop := stripMixesRow.holds Try.pinned (OpenSpec.ofChange stripMixesSpec)

/-- ITS FALSE NEIGHBOUR: 'it returns false'. Refute it at one input. -/
def stripMixesWrong : ChangeSpec := { name := "stripMixes", fn := fun _ => fun
  | [d] => { results := [.lit (.bool false)], args := [d] }
  | _ => none }
def StripMixesWrongFalsely : Prop := stripMixesRow.holds Try.pinned (OpenSpec.ofChange stripMixesWrong)

/-- 'encorelaw05.StripFront': WHATEVER THE INPUT: true; the input reads as it did. -/
def stripFrontSpec : ChangeSpec := { name := "stripFront", fn := fun _ => fun
  | [d1, d2, d3] => { results := [.lit (.bool true)], args := [d1, d2, d3] }
  | _ => none }
def stripFrontRow : OpenClaim := { program := "ytfkndnocjelhgaa", sum := "a428a4b896ec221824135037c7d3dfec1ea6337c75871fed17fa0bb0e903dd10", func := "encore/encorelaw05.StripFront", spec := "stripFront", unfollowed := true, recurses := true, apart := false }
def StripFrontSaid : Prop := stripFrontRow.holds Try.pinned (OpenSpec.ofChange stripFrontSpec)

/-- ITS FALSE NEIGHBOUR: 'it returns false'. Refute it at one input. -/
def stripFrontWrong : ChangeSpec := { name := "stripFront", fn := fun _ => fun
  | [d1, d2, d3] => { results := [.lit (.bool false)], args := [d1, d2, d3] }
  | _ => none }
def StripFrontWrongFalsely : Prop := stripFrontRow.holds Try.pinned (OpenSpec.ofChange stripFrontWrong)

/-- 'encorelaw05.StripScans': WHATEVER THE INPUT: true; the input reads as it did. -/
def stripScansSpec : ChangeSpec := { name := "stripScans", fn := fun _ => fun
  | [d1, d2] => { results := [.lit (.bool true)], args := [d1, d2] }
  | _ => none }
def stripScansRow : OpenClaim := { program := "ytfkndnocjelhgaa", sum := "a428a4b896ec221824135037c7d3dfec1ea6337c75871fed17fa0bb0e903dd10", func := "encore/encorelaw05.StripScans", spec := "stripScans", unfollowed := true, recurses := true, apart := false }
def StripScansSaid : Prop := stripScansRow.holds Try.pinned (OpenSpec.ofChange stripScansSpec)

/-- ITS FALSE NEIGHBOUR: 'it returns false'. Refute it at one input. -/
def stripScansWrong : ChangeSpec := { name := "stripScans", fn := fun _ => fun
  | [d1, d2] => { results := [.lit (.bool false)], args := [d1, d2] }
  | _ => none }
def StripScansWrongFalsely : Prop := stripScansRow.holds Try.pinned (OpenSpec.ofChange stripScansWrong)

/-- 'encorelaw05.StripBack': WHATEVER THE INPUT: true; the input reads as it did. -/
def stripBackSpec : ChangeSpec := { name := "stripBack", fn := fun _ => fun
  | [d1, d2] => { results := [.lit (.bool true)], args := [d1, d2] }
  | _ => none }
def stripBackRow : OpenClaim := { program := "ytfkndnocjelhgaa", sum := "a428a4b896ec221824135037c7d3dfec1ea6337c75871fed17fa0bb0e903dd10", func := "encore/encorelaw05.StripBack", spec := "stripBack", unfollowed := true, recurses := true, apart := false }
def StripBackSaid : Prop := stripBackRow.holds Try.pinned (OpenSpec.ofChange stripBackSpec)

/-- ITS FALSE NEIGHBOUR: 'it returns false'. Refute it at one input. -/
def stripBackWrong : ChangeSpec := { name := "stripBack", fn := fun _ => fun
  | [d1, d2] => { results := [.lit (.bool false)], args := [d1, d2] }
  | _ => none }
def StripBackWrongFalsely : Prop := stripBackRow.holds Try.pinned (OpenSpec.ofChange stripBackWrong)

/-- 'encorelaw05.StripTorn': WHATEVER THE INPUT: true; the input reads as it did. -/
def stripTornSpec : ChangeSpec := { name := "stripTorn", fn := fun _ => fun
  | [d1, d2, d3] => { results := [.lit (.bool true)], args := [d1, d2, d3] }
  | _ => none }
def stripTornRow : OpenClaim := { program := "ytfkndnocjelhgaa", sum := "a428a4b896ec221824135037c7d3dfec1ea6337c75871fed17fa0bb0e903dd10", func := "encore/encorelaw05.StripTorn", spec := "stripTorn", unfollowed := true, recurses := true, apart := false }
def StripTornSaid : Prop := stripTornRow.holds Try.pinned (OpenSpec.ofChange stripTornSpec)

/-- ITS FALSE NEIGHBOUR: 'it returns false'. Refute it at one input. -/
def stripTornWrong : ChangeSpec := { name := "stripTorn", fn := fun _ => fun
  | [d1, d2, d3] => { results := [.lit (.bool false)], args := [d1, d2, d3] }
  | _ => none }
def StripTornWrongFalsely : Prop := stripTornRow.holds Try.pinned (OpenSpec.ofChange stripTornWrong)

/-- 'encorelaw05.StripKnown': WHATEVER THE INPUT: true; the input reads as it did. -/
def stripKnownSpec : ChangeSpec := { name := "stripKnown", fn := fun _ => fun
  | [] => { results := [.lit (.bool true)], args := [] }
  | _ => none }
def stripKnownRow : OpenClaim := { program := "ytfkndnocjelhgaa", sum := "a428a4b896ec221824135037c7d3dfec1ea6337c75871fed17fa0bb0e903dd10", func := "encore/encorelaw05.StripKnown", spec := "stripKnown", unfollowed := true, recurses := true, apart := false }
def StripKnownSaid : Prop := stripKnownRow.holds Try.pinned (OpenSpec.ofChange stripKnownSpec)

/-- ITS FALSE NEIGHBOUR: 'it returns false'. Refute it at one input. -/
def stripKnownWrong : ChangeSpec := { name := "stripKnown", fn := fun _ => fun
  | [] => { results := [.lit (.bool false)], args := [] }
  | _ => none }
def StripKnownWrongFalsely : Prop := stripKnownRow.holds Try.pinned (OpenSpec.ofChange stripKnownWrong)

/- THE SECOND FORM. 'bulk': how many values and letters a reading holds, each counted each time it is reached (what is shared counts as often as it is met; a slice's spare places count too). A statement '..UptoSaid' is the law's where the arguments, and the package variables that the reading takes, are together of bulk at most 1048576: NARROWER than '..Said'. Prove '..Said' where nothing that the law and all that it calls make is longer than what came in: it says more and counts as full. Else prove '..UptoSaid'. A law counts once. -/
mutual
def uptoBulk {H : Type} : DataW H → Nat
  | .lit (.string bytes) => bytes.length + 1
  | .lit _ => 1
  | .nil => 1
  | .ptr d => uptoBulk d + 1
  | .slice elems spare => uptoBulkAll elems + uptoBulkAll spare + 1
  | .agg parts => uptoBulkAll parts + 1
  | .iface _ d => uptoBulk d + 1
  | .map entries => uptoBulkEntries entries + 1
  | .held _ => 1
def uptoBulkAll {H : Type} : List (DataW H) → Nat
  | [] => 0
  | d :: r => uptoBulk d + uptoBulkAll r
def uptoBulkEntries {H : Type} : List (Lit × DataW H) → Nat
  | [] => 0
  | x :: r => uptoBulkEntry x + uptoBulkEntries r
def uptoBulkEntry {H : Type} : Lit × DataW H → Nat
  | (.string bytes, d) => bytes.length + uptoBulk d + 1
  | (_, d) => uptoBulk d + 1
 end
def uptoSmall : (H : Type) → List (DataW H) → Bool := fun _ ds => decide (uptoBulkAll ds ≤ 1048576)
def OpenSpec.upto (s : _root_.Go.ChangeSpec) : _root_.Go.OpenSpec := { _root_.Go.OpenSpec.ofChange s with cond := some uptoSmall }

/-- 'encorelaw05.StripCells', WHERE WHAT IT READS IS OF BULK AT MOST 1048576: true; the input reads as it did. -/
def stripCellsUptoRow : OpenClaim := { program := "ytfkndnocjelhgaa", sum := "a428a4b896ec221824135037c7d3dfec1ea6337c75871fed17fa0bb0e903dd10", func := "encore/encorelaw05.StripCells", spec := "stripCells", unfollowed := true, recurses := true, apart := false, narrowed := true }
def StripCellsUptoSaid : Prop := stripCellsUptoRow.holds Try.pinned (OpenSpec.upto stripCellsSpec)

/-- 'encorelaw05.StripReads', WHERE WHAT IT READS IS OF BULK AT MOST 1048576: true; the input reads as it did. -/
def stripReadsUptoRow : OpenClaim := { program := "ytfkndnocjelhgaa", sum := "a428a4b896ec221824135037c7d3dfec1ea6337c75871fed17fa0bb0e903dd10", func := "encore/encorelaw05.StripReads", spec := "stripReads", unfollowed := true, recurses := true, apart := false, narrowed := true }
def StripReadsUptoSaid : Prop := stripReadsUptoRow.holds Try.pinned (OpenSpec.upto stripReadsSpec)

/-- 'encorelaw05.StripMixes', WHERE WHAT IT READS IS OF BULK AT MOST 1048576: true; the input reads as it did. -/
def stripMixesUptoRow : OpenClaim := { program := "ytfkndnocjelhgaa", sum := "a428a4b896ec221824135037c7d3dfec1ea6337c75871fed17fa0bb0e903dd10", func := "encore/encorelaw05.StripMixes", spec := "stripMixes", unfollowed := true, recurses := true, apart := false, narrowed := true }
def StripMixesUptoSaid : Prop := stripMixesUptoRow.holds Try.pinned (OpenSpec.upto stripMixesSpec)

/-- 'encorelaw05.StripFront', WHERE WHAT IT READS IS OF BULK AT MOST 1048576: true; the input reads as it did. -/
def stripFrontUptoRow : OpenClaim := { program := "ytfkndnocjelhgaa", sum := "a428a4b896ec221824135037c7d3dfec1ea6337c75871fed17fa0bb0e903dd10", func := "encore/encorelaw05.StripFront", spec := "stripFront", unfollowed := true, recurses := true, apart := false, narrowed := true }
def StripFrontUptoSaid : Prop := stripFrontUptoRow.holds Try.pinned (OpenSpec.upto stripFrontSpec)

/-- 'encorelaw05.StripScans', WHERE WHAT IT READS IS OF BULK AT MOST 1048576: true; the input reads as it did. -/
def stripScansUptoRow : OpenClaim := { program := "ytfkndnocjelhgaa", sum := "a428a4b896ec221824135037c7d3dfec1ea6337c75871fed17fa0bb0e903dd10", func := "encore/encorelaw05.StripScans", spec := "stripScans", unfollowed := true, recurses := true, apart := false, narrowed := true }
def StripScansUptoSaid : Prop := stripScansUptoRow.holds Try.pinned (OpenSpec.upto stripScansSpec)

/-- 'encorelaw05.StripBack', WHERE WHAT IT READS IS OF BULK AT MOST 1048576: true; the input reads as it did. -/
def stripBackUptoRow : OpenClaim := { program := "ytfkndnocjelhgaa", sum := "a428a4b896ec221824135037c7d3dfec1ea6337c75871fed17fa0bb0e903dd10", func := "encore/encorelaw05.StripBack", spec := "stripBack", unfollowed := true, recurses := true, apart := false, narrowed := true }
def StripBackUptoSaid : Prop := stripBackUptoRow.holds Try.pinned (OpenSpec.upto stripBackSpec)

/-- 'encorelaw05.StripTorn', WHERE WHAT IT READS IS OF BULK AT MOST 1048576: true; the input reads as it did. -/
def stripTornUptoRow : OpenClaim := { program := "ytfkndnocjelhgaa", sum := "a428a4b896ec221824135037c7d3dfec1ea6337c75871fed17fa0bb0e903dd10", func := "encore/encorelaw05.StripTorn", spec := "stripTorn", unfollowed := true, recurses := true, apart := false, narrowed := true }
def StripTornUptoSaid : Prop := stripTornUptoRow.holds Try.pinned (OpenSpec.upto stripTornSpec)

/-- 'encorelaw05.StripKnown', WHERE WHAT IT READS IS OF BULK AT MOST 1048576: true; the input reads as it did. -/
def stripKnownUptoRow : OpenClaim := { program := "ytfkndnocjelhgaa", sum := "a428a4b896ec221824135037c7d3dfec1ea6337c75871fed17fa0bb0e903dd10", func := "encore/encorelaw05.StripKnown", spec := "stripKnown", unfollowed := true, recurses := true, apart := false, narrowed := true }
def StripKnownUptoSaid : Prop := stripKnownUptoRow.holds Try.pinned (OpenSpec.upto stripKnownSpec)

end Rows
end Go.Proofs.Ytfkndnocjelhgaa
