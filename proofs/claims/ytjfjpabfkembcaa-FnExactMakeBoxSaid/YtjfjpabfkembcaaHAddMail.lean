/- What a function that changes a box hands back. -/
import Derived.Test.YtjfjpabfkembcaaHFlagsNew
import Derived.Test.YtjfjpabfkembcaaHStorePre
import Derived.Test.YtjfjpabfkembcaaHBoxOk
import Derived.Test.YtjfjpabfkembcaaHBoxOkS
import Derived.Test.YtjfjpabfkembcaaHPure2
import Derived.Test.YtjfjpabfkembcaaHOwn2
import Derived.Test.YtjfjpabfkembcaaHCopySt2
namespace Go.Proofs.Ytjfjpabfkembcaa.H
open Go.RowKit
set_option linter.unusedVariables false
set_option linter.unusedSimpArgs false
/-- What a function that changes a box hands back. -/
def RetBoxB (w : World) (r : Box × Bool) (e : Ending) (w' : World) : Prop := ∃ mv gv D, e = .returned (.tuple #[.agg #[.int .i64 r.1.g, .string r.1.nm, .int .i64 r.1.t, .int .i64 r.1.b, .int .i64 r.1.nx, mv, gv], .bool r.2]) ∧
  owBox w' D [.int .i64 r.1.g, .string r.1.nm, .int .i64 r.1.t, .int .i64 r.1.b, .int .i64 r.1.nx, mv, gv] r.1 ∧ New w w' D ∧ Below w.heap.size w w'
theorem boxOk_nx {b : Box} (h : boxOk b = true) : 1 ≤ b.nx ∧ b.nx ≤ 10000 := by
  unfold boxOk boxHead at h
  simp only [Bool.and_eq_true] at h
  exact isIn_iff.1 h.1.1.1.2
end Go.Proofs.Ytjfjpabfkembcaa.H
