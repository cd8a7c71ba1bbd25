import Derived.Test.YtjlffencbaifeaaLib4
namespace Go.Proofs.Ytjlffencbaifeaa.Lib
open Go.RowKit Go.Proofs.YtjlffencbaifeaaW.PrintWords
set_option linter.unusedVariables false
/-! ### the parts of a line -/
def partsV (t : ByteArray) : Nat → List ByteArray → Nat → Nat → List ByteArray × Bool
  | 0, acc, _, _ => if (acc.length : Int) > 10 then ([], false) else (acc, true)
  | d + 1, acc, b, i =>
    if i < t.size ∧ (btN t i < 32 ∨ btN t i > 126) then ([], false)
    else if i < t.size ∧ btN t i ≠ 32 then partsV t d acc b (i + 1)
    else if b < i then partsV t d (acc ++ [t.extract b i]) (i + 1) (i + 1)
    else partsV t d acc (i + 1) (i + 1)
def partsOfV (t : ByteArray) : List ByteArray × Bool := if (t.size : Int) > 600 then ([], false) else partsV t (t.size + 1) [] 0 0
theorem partsV_length (t : ByteArray) (d : Nat) : ∀ acc b i, (partsV t d acc b i).1.length ≤ 10 := by
  induction d with
  | zero =>
    intro acc b i
    unfold partsV
    split
    · simp
    · dsimp only
      omega
  | succ d ih =>
    intro acc b i
    unfold partsV
    split
    · simp
    · split
      · exact ih _ _ _
      · split
        · exact ih _ _ _
        · exact ih _ _ _
theorem partsOfV_length (t : ByteArray) : (partsOfV t).1.length ≤ 10 := by
  unfold partsOfV
  split
  · simp
  · exact partsV_length t _ _ _ _
end Go.Proofs.Ytjlffencbaifeaa.Lib
