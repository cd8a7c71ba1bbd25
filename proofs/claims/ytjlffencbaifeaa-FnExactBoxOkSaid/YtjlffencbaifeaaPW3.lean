import Derived.Test.YtjlffencbaifeaaPW2
/-! More words of this session's own. -/
namespace Go.Proofs.YtjlffencbaifeaaW.PrintWords
open Go.RowKit
set_option linter.unusedVariables false
/-- The greater of two texts, as Go's max tells it. -/
def sx (a b : ByteArray) : ByteArray := if Op.bytesLess a.toList b.toList = true then b else a
theorem max2_str (x y : ByteArray) : Builtin.max2 (.string x) (.string y) = pure (.string (sx x y)) := by
  unfold sx
  cases h : Op.bytesLess x.toList y.toList <;> simp [Builtin.max2, Op.stringOp, asBool, h]
end Go.Proofs.YtjlffencbaifeaaW.PrintWords
