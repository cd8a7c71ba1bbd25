-- Written for this claim by the session's own wip/myprint.py (a patched run of the kit's printer). Not trusted: Lean checks it.
import Derived.Test.YtdabhhlfnfjojaaProg
import Derived.Below
import Derived.Deep.Draws
import Derived.Deep.AppendLies
import Derived.Maps.AppendAt
import Derived.OwnWalk
import Derived.Laws.BytesArg
import Derived.Laws.MakeOwn
import Derived.Laws.OwnMore
import Derived.Deep.OwnRows
import Derived.Tactics
import Derived.Lib.ConvBytes
import Derived.Laws.Slices
import Derived.WalkKit
import Derived.KernelRfl
import Derived.RowKit3
import Derived.Deep.LoopGhost
import Derived.Deep.QuietTactic
import Derived.BigQuiet
import Derived.WideLaws
import Derived.Deep.DeepCutAuto
import Derived.Deep.CutBlock
import Derived.Deep.RegionHeld3
import Derived.Laws.Rows
import Derived.Lib.AppendStr
import Derived.ArgAppend
import Derived.Laws.IdiomCopy
import Derived.OrdersHeld
import Derived.Laws.BitsLemmas
import Derived.RowKit
import Derived.Test.YtdabhhlfnfjojaaPW
import Derived.Test.YtdabhhlfnfjojaaPW2
import Derived.Test.YtdabhhlfnfjojaaPW3
import Derived.Test.YtdabhhlfnfjojaaPW4
import Derived.Test.YtdabhhlfnfjojaaWWords
import Derived.Test.YtdabhhlfnfjojaaWLast
import Derived.Test.YtdabhhlfnfjojaaWTab
import Derived.Test.YtdabhhlfnfjojaaWFour
import Derived.Test.YtdabhhlfnfjojaaWQPut
import Derived.Test.YtdabhhlfnfjojaaWApart
import Derived.Test.YtdabhhlfnfjojaaWArr
import Derived.Test.YtdabhhlfnfjojaaWZeros
import Derived.Test.YtdabhhlfnfjojaaWFoot
import Derived.Test.YtdabhhlfnfjojaaWKept
import Derived.Test.YtdabhhlfnfjojaaWShare
import Derived.Test.YtdabhhlfnfjojaaWN
import Derived.Test.YtdabhhlfnfjojaaWFootNe
import Derived.Test.YtdabhhlfnfjojaaWAt
import Derived.Test.YtdabhhlfnfjojaaWEqStruct
import Derived.Test.YtdabhhlfnfjojaaWRepsOne
import Derived.Test.YtdabhhlfnfjojaaWInv
import Derived.Test.YtdabhhlfnfjojaaWInvWords
import Derived.Test.YtdabhhlfnfjojaaWGuard
import Derived.Test.YtdabhhlfnfjojaaWNEv
import Derived.Test.YtdabhhlfnfjojaaWMore
namespace Go.Proofs.Ytdabhhlfnfjojaa.PFnRegs
open Go.RowKit Go.Proofs.YtdabhhlfnfjojaaW.PrintWords Go.Proofs.YtdabhhlfnfjojaaW.PrintLast Go.Proofs.YtdabhhlfnfjojaaW.PrintMore
attribute [local go_sem] max2_str max2_int min2_int max_two min_two max_three min_three max_four min_four   -- for this text's walks alone
set_option linter.unusedVariables false
set_option linter.unusedSimpArgs false



def errW : Option Int → Value
 | none => .nilIface
 | some c => .iface 0 (.int .i64 c)
theorem errW_none : errW none = .nilIface := rfl
theorem errW_some (c : Int) : errW (some c) = .iface 0 (.int .i64 c) := rfl

theorem info3 : (Try.prog.info? 3).map (fun i => (i.zero, i.size, i.bytes)) = some (some (.int .i64 0), 1, 8) := by kernel_rfl
-- the values' own types

end Go.Proofs.Ytdabhhlfnfjojaa.PFnRegs
