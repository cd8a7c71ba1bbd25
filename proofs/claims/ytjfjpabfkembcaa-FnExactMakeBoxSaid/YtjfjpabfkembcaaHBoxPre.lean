/- What comes before a mail. -/
import Derived.Test.YtjfjpabfkembcaaHAt
namespace Go.Proofs.Ytjfjpabfkembcaa.H
open Go.RowKit
set_option linter.unusedVariables false
set_option linter.unusedSimpArgs false

def prevU (l : List Mail) (i : Nat) : Option Int := if i = 0 then none else (l[i - 1]?).map (·.u)
theorem prevU_pos {l : List Mail} {i : Nat} (hi : 0 < i) (h : i - 1 < l.length) : prevU l i = some l[i - 1].u := by simp [prevU, h, show i ≠ 0 by omega]
theorem mailsIn_at {b : Box} {i : Nat} (h : i < b.ml.length) : mailsIn b i (prevU b.ml i) (b.ml.drop i) = (mailIn b i (prevU b.ml i) b.ml[i] && mailsIn b ((i + 1 : Nat) : Int) (prevU b.ml (i + 1)) (b.ml.drop (i + 1))) := by
  have e : prevU b.ml (i + 1) = some b.ml[i].u := by simp [prevU, h]
  rw [List.drop_eq_getElem_cons h, e]
  push_cast
  rfl
end Go.Proofs.Ytjfjpabfkembcaa.H
