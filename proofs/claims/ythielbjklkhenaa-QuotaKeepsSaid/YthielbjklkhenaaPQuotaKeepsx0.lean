/- Proves that the Go functions that QuotaKeeps reaches (this part of them) come to what the Lean functions of their names answer, where these answer something. By a program of this session (the kit's print, with turns of its own: wip/print in the repo); Lean checks it. -/
import Derived.Test.YthielbjklkhenaaProg
import Derived.Below
import Derived.Deep.Draws
import Derived.Deep.AppendLies
import Derived.Maps.AppendAt
import Derived.OwnWalk
import Derived.Laws.BytesArg
import Derived.Laws.MakeOwn
import Derived.Laws.OwnMore
import Derived.Deep.OwnRows
import Derived.Tactics
import Derived.Lib.ConvBytes
import Derived.Laws.Slices
import Derived.WalkKit
import Derived.KernelRfl
import Derived.RowKit3
import Derived.Deep.LoopGhost
import Derived.Deep.QuietTactic
import Derived.BigQuiet
import Derived.WideLaws
import Derived.Deep.DeepCutAuto
import Derived.Deep.CutBlock
import Derived.Deep.RegionHeld3
import Derived.Laws.Rows
import Derived.Lib.AppendStr
import Derived.ArgAppend
import Derived.Laws.IdiomCopy
import Derived.OrdersHeld
import Derived.Laws.BitsLemmas
import Derived.RowKit
import Derived.Test.YthielbjklkhenaaWWords
import Derived.Test.YthielbjklkhenaaWLast
import Derived.Test.YthielbjklkhenaaWTab
import Derived.Test.YthielbjklkhenaaWFour
import Derived.Test.YthielbjklkhenaaWQPut
import Derived.Test.YthielbjklkhenaaWApart
import Derived.Test.YthielbjklkhenaaWArr
import Derived.Test.YthielbjklkhenaaWZeros
import Derived.Test.YthielbjklkhenaaWFoot
import Derived.Test.YthielbjklkhenaaWKept
import Derived.Test.YthielbjklkhenaaWShare
import Derived.Test.YthielbjklkhenaaWN
import Derived.Test.YthielbjklkhenaaWFootNe
import Derived.Test.YthielbjklkhenaaWAt
import Derived.Test.YthielbjklkhenaaWEqStruct
import Derived.Test.YthielbjklkhenaaWRepsOne
import Derived.Test.YthielbjklkhenaaWInv
import Derived.Test.YthielbjklkhenaaWInvWords
import Derived.Test.YthielbjklkhenaaWGuard
import Derived.Test.YthielbjklkhenaaWNEv
import Derived.Test.YthielbjklkhenaaWMore
namespace Go.Proofs.Ythielbjklkhenaa.PQuotaKeeps
open Go.RowKit Go.Proofs.YthielbjklkhenaaW.PrintWords Go.Proofs.YthielbjklkhenaaW.PrintLast Go.Proofs.YthielbjklkhenaaW.PrintMore
attribute [local go_sem] max2_int min2_int max_two min_two max_three min_three max_four min_four   -- for this text's walks alone
set_option linter.unusedVariables false
set_option linter.unusedSimpArgs false



def errW : Option Int → Value
  | none => .nilIface
  | some c => .iface 0 (.int .i64 c)
theorem errW_none : errW none = .nilIface := rfl
theorem errW_some (c : Int) : errW (some c) = .iface 0 (.int .i64 c) := rfl

theorem info3 : (Try.prog.info? 3).map (fun i => (i.zero, i.size, i.bytes)) = some (some (.int .i64 0), 1, 8) := by kernel_rfl
-- the values' own types

end Go.Proofs.Ythielbjklkhenaa.PQuotaKeeps
