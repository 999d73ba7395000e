/- Proves that the Go functions that NumStays reaches (this part of them) come to what the Lean functions of their names answer, where these answer something. By a program of this session (the kit's print, with turns of its own: wip/print in the repo); Lean checks it. -/
import Derived.Test.YtkicclfokhfeiaaProg
import Derived.Below
import Derived.Deep.Draws
import Derived.Deep.AppendLies
import Derived.Maps.AppendAt
import Derived.OwnWalk
import Derived.Laws.BytesArg
import Derived.Laws.MakeOwn
import Derived.Laws.OwnMore
import Derived.Deep.OwnRows
import Derived.Tactics
import Derived.Lib.ConvBytes
import Derived.Laws.Slices
import Derived.WalkKit
import Derived.KernelRfl
import Derived.RowKit3
import Derived.Deep.LoopGhost
import Derived.Deep.QuietTactic
import Derived.BigQuiet
import Derived.WideLaws
import Derived.Deep.DeepCutAuto
import Derived.Deep.CutBlock
import Derived.Deep.RegionHeld3
import Derived.Laws.Rows
import Derived.Lib.AppendStr
import Derived.ArgAppend
import Derived.Laws.IdiomCopy
import Derived.OrdersHeld
import Derived.Laws.BitsLemmas
import Derived.RowKit
import Derived.Test.YtkicclfokhfeiaaMore
import Derived.Test.YtkicclfokhfeiaaWWords
import Derived.Test.YtkicclfokhfeiaaWLast
import Derived.Test.YtkicclfokhfeiaaWTab
import Derived.Test.YtkicclfokhfeiaaWFour
import Derived.Test.YtkicclfokhfeiaaWQPut
import Derived.Test.YtkicclfokhfeiaaWApart
import Derived.Test.YtkicclfokhfeiaaWArr
import Derived.Test.YtkicclfokhfeiaaWZeros
import Derived.Test.YtkicclfokhfeiaaWFoot
import Derived.Test.YtkicclfokhfeiaaWKept
import Derived.Test.YtkicclfokhfeiaaWShare
import Derived.Test.YtkicclfokhfeiaaWN
import Derived.Test.YtkicclfokhfeiaaWFootNe
import Derived.Test.YtkicclfokhfeiaaWAt
import Derived.Test.YtkicclfokhfeiaaWEqStruct
import Derived.Test.YtkicclfokhfeiaaWRepsOne
import Derived.Test.YtkicclfokhfeiaaWInv
import Derived.Test.YtkicclfokhfeiaaWInvWords
import Derived.Test.YtkicclfokhfeiaaWGuard
import Derived.Test.YtkicclfokhfeiaaWNEv
import Derived.Test.YtkicclfokhfeiaaWMore
namespace Go.Proofs.Ytkicclfokhfeiaa.PNumStays
open Go.RowKit Go.Proofs.YtkicclfokhfeiaaW.PrintWords Go.Proofs.YtkicclfokhfeiaaW.PrintLast Go.Proofs.YtkicclfokhfeiaaW.PrintMore
attribute [local go_sem] max2_int min2_int max_two min_two max_three min_three max_four min_four   -- for this text's walks alone
set_option linter.unusedVariables false
set_option linter.unusedSimpArgs false



def errW : Option Int → Value
  | none => .nilIface
  | some c => .iface 0 (.int .i64 c)
theorem errW_none : errW none = .nilIface := rfl
theorem errW_some (c : Int) : errW (some c) = .iface 0 (.int .i64 c) := rfl

theorem info5 : (Try.prog.info? 5).map (fun i => (i.zero, i.size, i.bytes)) = some (some (.int .u8 0), 1, 1) := by kernel_rfl
-- the values' own types

end Go.Proofs.Ytkicclfokhfeiaa.PNumStays
