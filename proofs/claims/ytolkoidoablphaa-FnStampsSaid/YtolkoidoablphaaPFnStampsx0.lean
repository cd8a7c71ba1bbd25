-- Written for this claim by the session's own wip/myprint.py (a patched run of the kit's printer). Not trusted: Lean checks it.
import Derived.Test.YtolkoidoablphaaProg
import Derived.Below
import Derived.Deep.Draws
import Derived.Deep.AppendLies
import Derived.Maps.AppendAt
import Derived.OwnWalk
import Derived.Laws.BytesArg
import Derived.Laws.MakeOwn
import Derived.Laws.OwnMore
import Derived.Deep.OwnRows
import Derived.Tactics
import Derived.Lib.ConvBytes
import Derived.Laws.Slices
import Derived.WalkKit
import Derived.KernelRfl
import Derived.RowKit3
import Derived.Deep.LoopGhost
import Derived.Deep.QuietTactic
import Derived.BigQuiet
import Derived.WideLaws
import Derived.Deep.DeepCutAuto
import Derived.Deep.CutBlock
import Derived.Deep.RegionHeld3
import Derived.Laws.Rows
import Derived.Lib.AppendStr
import Derived.ArgAppend
import Derived.Laws.IdiomCopy
import Derived.OrdersHeld
import Derived.Laws.BitsLemmas
import Derived.RowKit
import Derived.Test.YtolkoidoablphaaPW
import Derived.Test.YtolkoidoablphaaPW2
import Derived.Test.YtolkoidoablphaaPW3
import Derived.Test.YtolkoidoablphaaPW4
import Derived.Test.YtolkoidoablphaaWWords
import Derived.Test.YtolkoidoablphaaWLast
import Derived.Test.YtolkoidoablphaaWTab
import Derived.Test.YtolkoidoablphaaWFour
import Derived.Test.YtolkoidoablphaaWQPut
import Derived.Test.YtolkoidoablphaaWApart
import Derived.Test.YtolkoidoablphaaWArr
import Derived.Test.YtolkoidoablphaaWZeros
import Derived.Test.YtolkoidoablphaaWFoot
import Derived.Test.YtolkoidoablphaaWKept
import Derived.Test.YtolkoidoablphaaWShare
import Derived.Test.YtolkoidoablphaaWN
import Derived.Test.YtolkoidoablphaaWFootNe
import Derived.Test.YtolkoidoablphaaWAt
import Derived.Test.YtolkoidoablphaaWEqStruct
import Derived.Test.YtolkoidoablphaaWRepsOne
import Derived.Test.YtolkoidoablphaaWInv
import Derived.Test.YtolkoidoablphaaWInvWords
import Derived.Test.YtolkoidoablphaaWGuard
import Derived.Test.YtolkoidoablphaaWNEv
import Derived.Test.YtolkoidoablphaaWMore
namespace Go.Proofs.Ytolkoidoablphaa.PFnStamps
open Go.RowKit Go.Proofs.YtolkoidoablphaaW.PrintWords Go.Proofs.YtolkoidoablphaaW.PrintLast Go.Proofs.YtolkoidoablphaaW.PrintMore
attribute [local go_sem] max2_str max2_int min2_int max_two min_two max_three min_three max_four min_four   -- for this text's walks alone
set_option linter.unusedVariables false
set_option linter.unusedSimpArgs false



def errW : Option Int → Value
 | none => .nilIface
 | some c => .iface 0 (.int .i64 c)
theorem errW_none : errW none = .nilIface := rfl
theorem errW_some (c : Int) : errW (some c) = .iface 0 (.int .i64 c) := rfl

theorem info3 : (Try.prog.info? 3).map (fun i => (i.zero, i.size, i.bytes)) = some (some (.int .i64 0), 1, 8) := by kernel_rfl
-- the values' own types

end Go.Proofs.Ytolkoidoablphaa.PFnStamps
