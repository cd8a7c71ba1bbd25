import Derived.Test.YtjlffencbaifeaaLib2
namespace Go.Proofs.Ytjlffencbaifeaa.Lib
open Go.RowKit Go.Proofs.YtjlffencbaifeaaW.PrintWords
set_option linter.unusedVariables false

/-! ### figures read -/
def readDec (t : ByteArray) : Nat → Nat → Nat → Int × Bool
  | 0, _, n => if (n : Int) > 1000000000 then (0, false) else if (decV (n : Int)).toList = t.toList then ((n : Int), true) else (0, false)
  | d + 1, i, n => if btN t i < 48 ∨ btN t i > 57 then (0, false) else readDec t d (i + 1) (10 * n + (btN t i - 48))
theorem readDec_empty (t : ByteArray) (h : t.size = 0) : readDec t 0 0 0 = (0, false) := by
  unfold readDec
  rw [if_neg (by decide), if_neg]
  intro h2
  rw [ByteArray.toList_eq, ByteArray.toList_eq] at h2
  have h3 := congrArg List.length h2
  rw [Array.length_toList, Array.length_toList] at h3
  have e : (decV ((0 : Nat) : Int)) = (⟨#[48]⟩ : ByteArray) := by
    unfold decV
    rw [if_pos (by decide)]
  rw [e] at h3
  have h4 : t.data.size = 0 := h
  rw [h4] at h3
  exact absurd h3 (by decide)
theorem shr_small3 (x : Int) (i : Nat) (h : i < 3) : shr .i64 x (i : Int) = x / 2 ^ i := by
  unfold shr
  have : min (i : Int).toNat IntKind.i64.bits = i := by
    simp only [IntKind.bits]
    omega
  rw [this]
end Go.Proofs.Ytjlffencbaifeaa.Lib
