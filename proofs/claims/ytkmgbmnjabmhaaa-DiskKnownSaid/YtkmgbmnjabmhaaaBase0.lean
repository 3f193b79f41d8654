-- PRINTED by print.py (a twelfth state) out of the translation. Not trusted: Lean checks it.
import Derived.Test.YtkmgbmnjabmhaaaProg
import Derived.Below
import Derived.Deep.Draws
import Derived.Deep.AppendLies
import Derived.Maps.AppendAt
import Derived.OwnWalk
import Derived.Laws.BytesArg
import Derived.Laws.MakeOwn
import Derived.Laws.OwnMore
import Derived.Deep.OwnRows
import Derived.Tactics
import Derived.Lib.ConvBytes
import Derived.Laws.Slices
import Derived.WalkKit
import Derived.KernelRfl
import Derived.RowKit3
import Derived.Deep.LoopGhost
import Derived.Deep.QuietTactic
import Derived.BigQuiet
import Derived.WideLaws
import Derived.Deep.DeepCutAuto
import Derived.Deep.CutBlock
import Derived.Deep.RegionHeld3
import Derived.Laws.Rows
import Derived.Lib.AppendStr
import Derived.ArgAppend
import Derived.Laws.IdiomCopy
import Derived.OrdersHeld
import Derived.Laws.BitsLemmas
import Derived.RowKit
import Derived.Test.YtkmgbmnjabmhaaaWWords
import Derived.Test.YtkmgbmnjabmhaaaWLast
import Derived.Test.YtkmgbmnjabmhaaaWTab
import Derived.Test.YtkmgbmnjabmhaaaWFour
import Derived.Test.YtkmgbmnjabmhaaaWQPut
import Derived.Test.YtkmgbmnjabmhaaaWApart
import Derived.Test.YtkmgbmnjabmhaaaWArr
import Derived.Test.YtkmgbmnjabmhaaaWZeros
import Derived.Test.YtkmgbmnjabmhaaaWFoot
import Derived.Test.YtkmgbmnjabmhaaaWKept
import Derived.Test.YtkmgbmnjabmhaaaWShare
import Derived.Test.YtkmgbmnjabmhaaaWN
import Derived.Test.YtkmgbmnjabmhaaaWFootNe
import Derived.Test.YtkmgbmnjabmhaaaWAt
import Derived.Test.YtkmgbmnjabmhaaaWEqStruct
import Derived.Test.YtkmgbmnjabmhaaaWRepsOne
import Derived.Test.YtkmgbmnjabmhaaaWInv
import Derived.Test.YtkmgbmnjabmhaaaWInvWords
import Derived.Test.YtkmgbmnjabmhaaaWGuard
import Derived.Test.YtkmgbmnjabmhaaaWNEv
import Derived.Test.YtkmgbmnjabmhaaaWMore
namespace Go.Proofs.Ytkmgbmnjabmhaaa.Base
open Go.RowKit Go.Proofs.YtkmgbmnjabmhaaaW.PrintWords Go.Proofs.YtkmgbmnjabmhaaaW.PrintLast Go.Proofs.YtkmgbmnjabmhaaaW.PrintMore
attribute [local go_sem] max2_int min2_int max_two min_two max_three min_three max_four min_four   -- for this text's walks alone
set_option linter.unusedVariables false
set_option linter.unusedSimpArgs false



def errW : Option Int → Value
  | none => .nilIface
  | some c => .iface 0 (.int .i64 c)
theorem errW_none : errW none = .nilIface := rfl
theorem errW_some (c : Int) : errW (some c) = .iface 0 (.int .i64 c) := rfl

theorem info5 : (Try.prog.info? 5).map (fun i => (i.zero, i.size, i.bytes)) = some (some (.int .u8 0), 1, 1) := by kernel_rfl
-- the values' own types

end Go.Proofs.Ytkmgbmnjabmhaaa.Base
