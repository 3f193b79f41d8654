/-
  No cell of these rows narrows 'for every input' (looked for: loops, veiled, ifaces, maps, wideKeys, modest, calm, conditions, laid).
  DERIVED. THE GIVEN ROWS OF THIS SEAT. 8 by the template 'for every input the law returns true; each argument reads behind the call as it read before'; 0 by the template 'total and deterministic' (their statements: YtpkkljlgggfmoaaTotals.lean).
  GIVEN WITH THE SEED: the statements are not yours to turn. If you find one false, say at which input.
  Laid BY PROGRAM, IN A SANDBOX (cutbox-rows.mjs): the forced cells as the released guide's own fill.sh prints them over the translation e66f356500618393… (all of the seat's roots in one cut). By AI agents, Wed Nov 11 2026. No macro, syntax, notation, axiom, sorry.
-/
import Derived.Test.YtpkkljlgggfmoaaChecked
import GoSem.Claim
import GoSem.ClaimJoined
import GoSem.ClaimMapViews
import Derived.JoinedTies
import Derived.KernelRfl
namespace Go.Proofs.Ytpkkljlgggfmoaa
/- THE CELL 'sum', in the pinned program and in every row, IS THE sha256 OF THE DUMP (.gsa) THAT YtpkkljlgggfmoaaProg.lean LOADS. Nothing in Lean hashes anything: it is a label: what it is worth is what the hold of that sum in a sandbox is worth. -/
noncomputable def Try.pinned : Pinned := { name := "ytpkkljlgggfmoaa", sum := "e66f3565006183938493619a1483b45deab8afee91f638a660566a832a063f7f", checked := Try.checked }
namespace Rows
def none {H : Type} : Left H := { results := [], args := [] }

/-- 'encorelaw02.BinWrites': WHATEVER THE INPUT: true; the input reads as it did. -/
def binWritesSpec : ChangeSpec := { name := "binWrites", fn := fun _ => fun
  | [d] => { results := [.lit (.bool true)], args := [d] }
  | _ => none }
def binWritesRow : OpenClaim := { program := "ytpkkljlgggfmoaa", sum := "e66f3565006183938493619a1483b45deab8afee91f638a660566a832a063f7f", func := "encore/encorelaw02.BinWrites", spec := "binWrites", unfollowed := true, recurses := true, apart := false }
def BinWritesSaid : Prop := binWritesRow.holds Try.pinned (OpenSpec.ofChange binWritesSpec)

/-- ITS FALSE NEIGHBOUR: 'it returns false'. Refute it at one input. -/
def binWritesWrong : ChangeSpec := { name := "binWrites", fn := fun _ => fun
  | [d] => { results := [.lit (.bool false)], args := [d] }
  | _ => none }
def BinWritesWrongFalsely : Prop := binWritesRow.holds Try.pinned (OpenSpec.ofChange binWritesWrong)

/-- 'encorelaw02.BinTexts': WHATEVER THE INPUT: true; the input reads as it did. -/
def binTextsSpec : ChangeSpec := { name := "binTexts", fn := fun _ => fun
  | [d1, d2] => { results := [.lit (.bool true)], args := [d1, d2] }
  | _ => none }
def binTextsRow : OpenClaim := { program := "ytpkkljlgggfmoaa", sum := "e66f3565006183938493619a1483b45deab8afee91f638a660566a832a063f7f", func := "encore/encorelaw02.BinTexts", spec := "binTexts", unfollowed := true, recurses := true, apart := false }
def BinTextsSaid : Prop := binTextsRow.holds Try.pinned (OpenSpec.ofChange binTextsSpec)

/-- ITS FALSE NEIGHBOUR: 'it returns false'. Refute it at one input. -/
def binTextsWrong : ChangeSpec := { name := "binTexts", fn := fun _ => fun
  | [d1, d2] => { results := [.lit (.bool false)], args := [d1, d2] }
  | _ => none }
def BinTextsWrongFalsely : Prop := binTextsRow.holds Try.pinned (OpenSpec.ofChange binTextsWrong)

/-- 'encorelaw02.BinOrder': WHATEVER THE INPUT: true; the input reads as it did. -/
def binOrderSpec : ChangeSpec := { name := "binOrder", fn := fun _ => fun
  | [d1, d2] => { results := [.lit (.bool true)], args := [d1, d2] }
  | _ => none }
def binOrderRow : OpenClaim := { program := "ytpkkljlgggfmoaa", sum := "e66f3565006183938493619a1483b45deab8afee91f638a660566a832a063f7f", func := "encore/encorelaw02.BinOrder", spec := "binOrder", unfollowed := true, recurses := true, apart := false }
def BinOrderSaid : Prop := binOrderRow.holds Try.pinned (OpenSpec.ofChange binOrderSpec)

/-- ITS FALSE NEIGHBOUR: 'it returns false'. Refute it at one input. -/
def binOrderWrong : ChangeSpec := { name := "binOrder", fn := fun _ => fun
  | [d1, d2] => { results := [.lit (.bool false)], args := [d1, d2] }
  | _ => none }
def BinOrderWrongFalsely : Prop := binOrderRow.holds Try.pinned (OpenSpec.ofChange binOrderWrong)

/-- 'encorelaw02.BinReads': WHATEVER THE INPUT: true; the input reads as it did. -/
def binReadsSpec : ChangeSpec := { name := "binReads", fn := fun _ => fun
  | [d1, d2] => { results := [.lit (.bool true)], args := [d1, d2] }
  | _ => none }
def binReadsRow : OpenClaim := { program := "ytpkkljlgggfmoaa", sum := "e66f3565006183938493619a1483b45deab8afee91f638a660566a832a063f7f", func := "encore/encorelaw02.BinReads", spec := "binReads", unfollowed := true, recurses := true, apart := false }
def BinReadsSaid : Prop := binReadsRow.holds Try.pinned (OpenSpec.ofChange binReadsSpec)

/-- ITS FALSE NEIGHBOUR: 'it returns false'. Refute it at one input. -/
def binReadsWrong : ChangeSpec := { name := "binReads", fn := fun _ => fun
  | [d1, d2] => { results := [.lit (.bool false)], args := [d1, d2] }
  | _ => none }
def BinReadsWrongFalsely : Prop := binReadsRow.holds Try.pinned (OpenSpec.ofChange binReadsWrong)

/-- 'encorelaw02.BinBack': WHATEVER THE INPUT: true; the input reads as it did. -/
def binBackSpec : ChangeSpec := { name := "binBack", fn := fun _ => fun
  | [d1, d2, d3] => { results := [.lit (.bool true)], args := [d1, d2, d3] }
  | _ => none }
def binBackRow : OpenClaim := { program := "ytpkkljlgggfmoaa", sum := "e66f3565006183938493619a1483b45deab8afee91f638a660566a832a063f7f", func := "encore/encorelaw02.BinBack", spec := "binBack", unfollowed := true, recurses := true, apart := false }
def BinBackSaid : Prop := binBackRow.holds Try.pinned (OpenSpec.ofChange binBackSpec)

/-- ITS FALSE NEIGHBOUR: 'it returns false'. Refute it at one input. -/
def binBackWrong : ChangeSpec := { name := "binBack", fn := fun _ => fun
  | [d1, d2, d3] => { results := [.lit (.bool false)], args := [d1, d2, d3] }
  | _ => none }
def BinBackWrongFalsely : Prop := binBackRow.holds Try.pinned (OpenSpec.ofChange binBackWrong)

/-- 'encorelaw02.BinAgain': WHATEVER THE INPUT: true; the input reads as it did. -/
def binAgainSpec : ChangeSpec := { name := "binAgain", fn := fun _ => fun
  | [d] => { results := [.lit (.bool true)], args := [d] }
  | _ => none }
def binAgainRow : OpenClaim := { program := "ytpkkljlgggfmoaa", sum := "e66f3565006183938493619a1483b45deab8afee91f638a660566a832a063f7f", func := "encore/encorelaw02.BinAgain", spec := "binAgain", unfollowed := true, recurses := true, apart := false }
def BinAgainSaid : Prop := binAgainRow.holds Try.pinned (OpenSpec.ofChange binAgainSpec)

/-- ITS FALSE NEIGHBOUR: 'it returns false'. Refute it at one input. -/
def binAgainWrong : ChangeSpec := { name := "binAgain", fn := fun _ => fun
  | [d] => { results := [.lit (.bool false)], args := [d] }
  | _ => none }
def BinAgainWrongFalsely : Prop := binAgainRow.holds Try.pinned (OpenSpec.ofChange binAgainWrong)

/-- 'encorelaw02.BinShort': WHATEVER THE INPUT: true; the input reads as it did. -/
def binShortSpec : ChangeSpec := { name := "binShort", fn := fun _ => fun
  | [d1, d2, d3] => { results := [.lit (.bool true)], args := [d1, d2, d3] }
  | _ => none }
def binShortRow : OpenClaim := { program := "ytpkkljlgggfmoaa", sum := "e66f3565006183938493619a1483b45deab8afee91f638a660566a832a063f7f", func := "encore/encorelaw02.BinShort", spec := "binShort", unfollowed := true, recurses := true, apart := false }
def BinShortSaid : Prop := binShortRow.holds Try.pinned (OpenSpec.ofChange binShortSpec)

/-- ITS FALSE NEIGHBOUR: 'it returns false'. Refute it at one input. -/
def binShortWrong : ChangeSpec := { name := "binShort", fn := fun _ => fun
  | [d1, d2, d3] => { results := [.lit (.bool false)], args := [d1, d2, d3] }
  | _ => none }
def BinShortWrongFalsely : Prop := binShortRow.holds Try.pinned (OpenSpec.ofChange binShortWrong)

/-- 'encorelaw02.BinKnown': WHATEVER THE INPUT: true; the input reads as it did. -/
def binKnownSpec : ChangeSpec := { name := "binKnown", fn := fun _ => fun
  | [] => { results := [.lit (.bool true)], args := [] }
  | _ => none }
def binKnownRow : OpenClaim := { program := "ytpkkljlgggfmoaa", sum := "e66f3565006183938493619a1483b45deab8afee91f638a660566a832a063f7f", func := "encore/encorelaw02.BinKnown", spec := "binKnown", unfollowed := true, recurses := true, apart := false }
def BinKnownSaid : Prop := binKnownRow.holds Try.pinned (OpenSpec.ofChange binKnownSpec)

/-- ITS FALSE NEIGHBOUR: 'it returns false'. Refute it at one input. -/
def binKnownWrong : ChangeSpec := { name := "binKnown", fn := fun _ => fun
  | [] => { results := [.lit (.bool false)], args := [] }
  | _ => none }
def BinKnownWrongFalsely : Prop := binKnownRow.holds Try.pinned (OpenSpec.ofChange binKnownWrong)

/- THE SECOND FORM. 'bulk': how many values and letters a reading holds, each counted each time it is reached (what is shared counts as often as it is met; a slice's spare places count too). A statement '..UptoSaid' is the law's where the arguments, and the package variables that the reading takes, are together of bulk at most 1048576: NARROWER than '..Said'. Prove '..Said' where nothing that the law and all that it calls make is longer than what came in: it says more and counts as full. Else prove '..UptoSaid'. A law counts once. -/
mutual
def uptoBulk {H : Type} : DataW H → Nat
  | .lit (.string bytes) => bytes.length + 1
  | .lit _ => 1
  | .nil => 1
  | .ptr d => uptoBulk d + 1
  | .slice elems spare => uptoBulkAll elems + uptoBulkAll spare + 1
  | .agg parts => uptoBulkAll parts + 1
  | .iface _ d => uptoBulk d + 1
  | .map entries => uptoBulkEntries entries + 1
  | .held _ => 1
def uptoBulkAll {H : Type} : List (DataW H) → Nat
  | [] => 0
  | d :: r => uptoBulk d + uptoBulkAll r
def uptoBulkEntries {H : Type} : List (Lit × DataW H) → Nat
  | [] => 0
  | x :: r => uptoBulkEntry x + uptoBulkEntries r
def uptoBulkEntry {H : Type} : Lit × DataW H → Nat
  | (.string bytes, d) => bytes.length + uptoBulk d + 1
  | (_, d) => uptoBulk d + 1
 end
def uptoSmall : (H : Type) → List (DataW H) → Bool := fun _ ds => decide (uptoBulkAll ds ≤ 1048576)
def OpenSpec.upto (s : _root_.Go.ChangeSpec) : _root_.Go.OpenSpec := { _root_.Go.OpenSpec.ofChange s with cond := some uptoSmall }

/-- 'encorelaw02.BinWrites', WHERE WHAT IT READS IS OF BULK AT MOST 1048576: true; the input reads as it did. -/
def binWritesUptoRow : OpenClaim := { program := "ytpkkljlgggfmoaa", sum := "e66f3565006183938493619a1483b45deab8afee91f638a660566a832a063f7f", func := "encore/encorelaw02.BinWrites", spec := "binWrites", unfollowed := true, recurses := true, apart := false, narrowed := true }
def BinWritesUptoSaid : Prop := binWritesUptoRow.holds Try.pinned (OpenSpec.upto binWritesSpec)

/-- 'encorelaw02.BinTexts', WHERE WHAT IT READS IS OF BULK AT MOST 1048576: true; the input reads as it did. -/
def binTextsUptoRow : OpenClaim := { program := "ytpkkljlgggfmoaa", sum := "e66f3565006183938493619a1483b45deab8afee91f638a660566a832a063f7f", func := "encore/encorelaw02.BinTexts", spec := "binTexts", unfollowed := true, recurses := true, apart := false, narrowed := true }
def BinTextsUptoSaid : Prop := binTextsUptoRow.holds Try.pinned (OpenSpec.upto binTextsSpec)

/-- 'encorelaw02.BinOrder', WHERE WHAT IT READS IS OF BULK AT MOST 1048576: true; the input reads as it did. -/
def binOrderUptoRow : OpenClaim := { program := "ytpkkljlgggfmoaa", sum := "e66f3565006183938493619a1483b45deab8afee91f638a660566a832a063f7f", func := "encore/encorelaw02.BinOrder", spec := "binOrder", unfollowed := true, recurses := true, apart := false, narrowed := true }
def BinOrderUptoSaid : Prop := binOrderUptoRow.holds Try.pinned (OpenSpec.upto binOrderSpec)

/-- 'encorelaw02.BinReads', WHERE WHAT IT READS IS OF BULK AT MOST 1048576: true; the input reads as it did. -/
def binReadsUptoRow : OpenClaim := { program := "ytpkkljlgggfmoaa", sum := "e66f3565006183938493619a1483b45deab8afee91f638a660566a832a063f7f", func := "encore/encorelaw02.BinReads", spec := "binReads", unfollowed := true, recurses := true, apart := false, narrowed := true }
def BinReadsUptoSaid : Prop := binReadsUptoRow.holds Try.pinned (OpenSpec.upto binReadsSpec)

/-- 'encorelaw02.BinBack', WHERE WHAT IT READS IS OF BULK AT MOST 1048576: true; the input reads as it did. -/
def binBackUptoRow : OpenClaim := { program := "ytpkkljlgggfmoaa", sum := "e66f3565006183938493619a1483b45deab8afee91f638a660566a832a063f7f", func := "encore/encorelaw02.BinBack", spec := "binBack", unfollowed := true, recurses := true, apart := false, narrowed := true }
def BinBackUptoSaid : Prop := binBackUptoRow.holds Try.pinned (OpenSpec.upto binBackSpec)

/-- 'encorelaw02.BinAgain', WHERE WHAT IT READS IS OF BULK AT MOST 1048576: true; the input reads as it did. -/
def binAgainUptoRow : OpenClaim := { program := "ytpkkljlgggfmoaa", sum := "e66f3565006183938493619a1483b45deab8afee91f638a660566a832a063f7f", func := "encore/encorelaw02.BinAgain", spec := "binAgain", unfollowed := true, recurses := true, apart := false, narrowed := true }
def BinAgainUptoSaid : Prop := binAgainUptoRow.holds Try.pinned (OpenSpec.upto binAgainSpec)

/-- 'encorelaw02.BinShort', WHERE WHAT IT READS IS OF BULK AT MOST 1048576: true; the input reads as it did. -/
def binShortUptoRow : OpenClaim := { program := "ytpkkljlgggfmoaa", sum := "e66f3565006183938493619a1483b45deab8afee91f638a660566a832a063f7f", func := "encore/encorelaw02.BinShort", spec := "binShort", unfollowed := true, recurses := true, apart := false, narrowed := true }
def BinShortUptoSaid : Prop := binShortUptoRow.holds Try.pinned (OpenSpec.upto binShortSpec)

/-- 'encorelaw02.BinKnown', WHERE WHAT IT READS IS OF BULK AT MOST 1048576: true; the input reads as it did. -/
def binKnownUptoRow : OpenClaim := { program := "ytpkkljlgggfmoaa", sum := "e66f3565006183938493619a1483b45deab8afee91f638a660566a832a063f7f", func := "encore/encorelaw02.BinKnown", spec := "binKnown", unfollowed := true, recurses := true, apart := false, narrowed := true }
def BinKnownUptoSaid : Prop := binKnownUptoRow.holds Try.pinned (OpenSpec.upto binKnownSpec)

end Rows
end Go.Proofs.Ytpkkljlgggfmoaa
