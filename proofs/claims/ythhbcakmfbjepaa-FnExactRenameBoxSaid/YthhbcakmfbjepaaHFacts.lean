/- Facts on the whole program that every row of this seat asks. -/
import Derived.Test.YthhbcakmfbjepaaRows
import Derived.Test.YthhbcakmfbjepaaProg
import Derived.WalkKit
import Derived.ProofKit
namespace Go.Proofs.Ythhbcakmfbjepaa.H
theorem factEnter : Try.checked.prog.mayEnter = true := by kernel_rfl
theorem factLifts : (Rows.fnExactAddMailRow.lifted == Try.checked.prog.liftsFinal) = true := by kernel_rfl
theorem factMake : (Try.checked.prog.make == some Rows.fnExactAddMailRow.make) = true := by kernel_rfl
theorem own : ownKnob Try.prog.godebug = none := by kernel_rfl
theorem laidOut : laidOutB Try.prog = true := by kernel_rfl
end Go.Proofs.Ythhbcakmfbjepaa.H
