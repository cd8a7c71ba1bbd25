import Derived.Test.YtjlffencbaifeaaLib6
namespace Go.Proofs.Ytjlffencbaifeaa.Lib
open Go.RowKit Go.Proofs.YtjlffencbaifeaaW.PrintWords
set_option linter.unusedVariables false
/-! ### Hex, both ways -/
def hexFrom (t : ByteArray) : Nat → List Int → Nat → List Int
  | 0, acc, _ => acc
  | d + 1, acc, i => hexFrom t d (acc ++ [figV ((btN t i : Int) / 16), figV ((btN t i : Int) % 16)]) (i + 1)
def hexV (t : ByteArray) : ByteArray × Bool := if (t.size : Int) > 20000 then (⟨#[]⟩, false) else (strOfNums (hexFrom t t.size [] 0), true)
def valV (c : Nat) : Int := if 48 ≤ c ∧ c ≤ 57 then (c : Int) - 48 else if 97 ≤ c ∧ c ≤ 102 then (c : Int) - 87 else -1
theorem valV_range (c : Nat) : -1 ≤ valV c ∧ valV c ≤ 15 := by
  unfold valV
  split
  · omega
  · split <;> omega
def unhexFrom (t : ByteArray) : Nat → List Int → Nat → ByteArray × Bool
  | 0, acc, _ => (strOfNums acc, true)
  | d + 1, acc, i => if valV (btN t i) < 0 ∨ valV (btN t (i + 1)) < 0 then (⟨#[]⟩, false) else unhexFrom t d (acc ++ [16 * valV (btN t i) + valV (btN t (i + 1))]) (i + 2)
def unhexV (t : ByteArray) : ByteArray × Bool := if t.size > 40000 ∨ t.size % 2 ≠ 0 then (⟨#[]⟩, false) else unhexFrom t (t.size / 2) [] 0
end Go.Proofs.Ytjlffencbaifeaa.Lib
