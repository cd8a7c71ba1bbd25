/- Facts on the whole program that every row of this seat asks. -/
import Derived.Test.YtjfjpabfkembcaaRows
import Derived.Test.YtjfjpabfkembcaaProg
import Derived.WalkKit
import Derived.ProofKit
namespace Go.Proofs.Ytjfjpabfkembcaa.H
theorem factEnter : Try.checked.prog.mayEnter = true := by kernel_rfl
theorem factLifts : (Rows.fnExactTakeOutRow.lifted == Try.checked.prog.liftsFinal) = true := by kernel_rfl
theorem factMake : (Try.checked.prog.make == some Rows.fnExactTakeOutRow.make) = true := by kernel_rfl
theorem own : ownKnob Try.prog.godebug = none := by kernel_rfl
theorem laidOut : laidOutB Try.prog = true := by kernel_rfl
end Go.Proofs.Ytjfjpabfkembcaa.H
