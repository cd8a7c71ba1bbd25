-- Written for this claim by the session's own wip/myprint.py (a patched run of the kit's printer). Not trusted: Lean checks it.
import Derived.Test.YteaclgfgogecjaaProg
import Derived.Below
import Derived.Deep.Draws
import Derived.Deep.AppendLies
import Derived.Maps.AppendAt
import Derived.OwnWalk
import Derived.Laws.BytesArg
import Derived.Laws.MakeOwn
import Derived.Laws.OwnMore
import Derived.Deep.OwnRows
import Derived.Tactics
import Derived.Lib.ConvBytes
import Derived.Laws.Slices
import Derived.WalkKit
import Derived.KernelRfl
import Derived.RowKit3
import Derived.Deep.LoopGhost
import Derived.Deep.QuietTactic
import Derived.BigQuiet
import Derived.WideLaws
import Derived.Deep.DeepCutAuto
import Derived.Deep.CutBlock
import Derived.Deep.RegionHeld3
import Derived.Laws.Rows
import Derived.Lib.AppendStr
import Derived.ArgAppend
import Derived.Laws.IdiomCopy
import Derived.OrdersHeld
import Derived.Laws.BitsLemmas
import Derived.RowKit
import Derived.Test.YteaclgfgogecjaaPW
import Derived.Test.YteaclgfgogecjaaPW2
import Derived.Test.YteaclgfgogecjaaWWords
import Derived.Test.YteaclgfgogecjaaWLast
import Derived.Test.YteaclgfgogecjaaWTab
import Derived.Test.YteaclgfgogecjaaWFour
import Derived.Test.YteaclgfgogecjaaWQPut
import Derived.Test.YteaclgfgogecjaaWApart
import Derived.Test.YteaclgfgogecjaaWArr
import Derived.Test.YteaclgfgogecjaaWZeros
import Derived.Test.YteaclgfgogecjaaWFoot
import Derived.Test.YteaclgfgogecjaaWKept
import Derived.Test.YteaclgfgogecjaaWShare
import Derived.Test.YteaclgfgogecjaaWN
import Derived.Test.YteaclgfgogecjaaWFootNe
import Derived.Test.YteaclgfgogecjaaWAt
import Derived.Test.YteaclgfgogecjaaWEqStruct
import Derived.Test.YteaclgfgogecjaaWRepsOne
import Derived.Test.YteaclgfgogecjaaWInv
import Derived.Test.YteaclgfgogecjaaWInvWords
import Derived.Test.YteaclgfgogecjaaWGuard
import Derived.Test.YteaclgfgogecjaaWNEv
import Derived.Test.YteaclgfgogecjaaWMore
namespace Go.Proofs.Yteaclgfgogecjaa.PFnExactHex
open Go.RowKit Go.Proofs.YteaclgfgogecjaaW.PrintWords Go.Proofs.YteaclgfgogecjaaW.PrintLast Go.Proofs.YteaclgfgogecjaaW.PrintMore
attribute [local go_sem] max2_int min2_int max_two min_two max_three min_three max_four min_four   -- for this text's walks alone
set_option linter.unusedVariables false
set_option linter.unusedSimpArgs false



def errW : Option Int → Value
 | none => .nilIface
 | some c => .iface 0 (.int .i64 c)
theorem errW_none : errW none = .nilIface := rfl
theorem errW_some (c : Int) : errW (some c) = .iface 0 (.int .i64 c) := rfl

theorem info5 : (Try.prog.info? 5).map (fun i => (i.zero, i.size, i.bytes)) = some (some (.int .u8 0), 1, 1) := by kernel_rfl
-- the values' own types

end Go.Proofs.Yteaclgfgogecjaa.PFnExactHex
