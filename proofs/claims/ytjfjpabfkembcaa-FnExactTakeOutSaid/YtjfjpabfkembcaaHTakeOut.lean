/- TakeOut of both; what it answers is small where the box is. -/
import Derived.Test.YtjfjpabfkembcaaHTakeOutI
import Derived.Test.YtjfjpabfkembcaaHTakeOutS
import Derived.Test.YtjfjpabfkembcaaHLaw
namespace Go.Proofs.Ytjfjpabfkembcaa.H
open Go.RowKit
set_option linter.unusedVariables false
theorem cMails_erase : ∀ (l : List Mail) (k : Nat), cMails (l.eraseIdx k) ≤ cMails l
  | [], k => by simp
  | m :: l, 0 => by simp only [List.eraseIdx_cons_zero, cMails, cMail]; omega
  | m :: l, k + 1 => by
    have := cMails_erase l k
    simp only [List.eraseIdx_cons_succ, cMails]
    omega
theorem takeOut_small {b rb : Box} {ok : Bool} {g : Int} (h : takeOut b g = (rb, ok)) (hs : szBox b ≤ 1048576) : cMails rb.ml + (rb.go.length : Int) ≤ 100000000 := by
  have h0 := cBox_of_sz hs
  have hn := cMails_nn b.ml
  unfold takeOut at h
  split at h
  · injection h with h _
    subst h
    dsimp only
    have h1 := cMails_erase b.ml (mailAt b.ml g).toNat
    have h2 := lows_len g b.go
    have h3 := highs_len g b.go
    rw [putIn_eq, List.length_append, List.length_cons]
    push_cast
    omega
  · injection h with h _
    subst h
    omega
end Go.Proofs.Ytjfjpabfkembcaa.H
