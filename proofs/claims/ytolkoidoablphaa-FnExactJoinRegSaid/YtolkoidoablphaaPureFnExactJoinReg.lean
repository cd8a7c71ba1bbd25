/- The program's JoinReg returns what the reference's returns, for every two registers. -/
import Derived.Test.YtolkoidoablphaaPFnExactJoinRegx2
import Derived.Test.YtolkoidoablphaaPFnExactJoinRegx3
import Derived.Test.YtolkoidoablphaaLib
import Derived.Test.YtolkoidoablphaaQFnExactJoinReg
namespace Go.Proofs.Ytolkoidoablphaa.Pure
open Go.RowKit Go.Proofs.Ytolkoidoablphaa.PFnExactJoinReg Go.Proofs.YtolkoidoablphaaW.PrintWords Go.Proofs.YtolkoidoablphaaW.PrintLast Go.Proofs.Ytolkoidoablphaa.Lib
set_option linter.unusedVariables false
set_option linter.unusedSimpArgs false

theorem spec_Later_eq (a b c d : Int) : spec_Later.f a b c d = some (laterV a b c d) := by
  unfold spec_Later.f laterV
  by_cases h : a = c
  · rw [if_pos h, if_pos h]
  · rw [if_neg h, if_neg h]
theorem impl_Later_eq (a b c d : Int) : impl_Later.f a b c d = some (laterV a b c d) := by
  unfold impl_Later.f laterV
  by_cases h : a > c
  · rw [if_pos h, if_neg (by omega), decide_eq_true h]
  · rw [if_neg h]
    by_cases h2 : a = c
    · rw [if_pos h2, if_pos h2]
    · rw [if_neg h2, if_neg h2, decide_eq_false h]
theorem spec_JoinReg_eq (a b c d e f : Int) : spec_JoinReg.f a b c d e f = some (joinRegV a b c d e f) := by
  unfold spec_JoinReg.f joinRegV
  simp only [spec_Later_eq, Option.bind_some]
  unfold laterV
  by_cases h1 : b = e <;> by_cases h2 : c > f <;> by_cases h3 : b > e <;> by_cases h4 : c = f <;> by_cases h5 : d ≤ a <;> simp [h1, h2, h3, h4, h5] <;> omega
theorem impl_JoinReg_eq (a b c d e f : Int) : impl_JoinReg.f a b c d e f = some (joinRegV a b c d e f) := by
  unfold impl_JoinReg.f joinRegV
  simp only [impl_Later_eq, Option.bind_some]
  unfold laterV
  by_cases h1 : b = e
  · subst h1
    by_cases h4 : c = f
    · subst h4
      by_cases h5 : d > a
      · simp [h5] <;> omega
      · simp [h5] <;> omega
    · by_cases h2 : c > f
      · simp [h2, h4] <;> omega
      · simp [h2, h4] <;> omega
  · by_cases h3 : b > e
    · simp [h1, h3, Ne.symm h1] <;> omega
    · simp [h1, h3, Ne.symm h1] <;> omega
theorem eqReg_self (a b c : Int) : laws_eqReg.f a b c a b c = some true := by
  unfold laws_eqReg.f laws_eqStamp.f
  simp

theorem FnExactJoinReg : laws_FnExactJoinReg.Pure := by
  intro a b c d e f _ _ _ _ _ _
  unfold laws_FnExactJoinReg.f laws_toReg.f laws_toStamp.f
  simp only [Option.bind_some, spec_JoinReg_eq, impl_JoinReg_eq, eqReg_self, ↓reduceIte]

end Go.Proofs.Ytolkoidoablphaa.Pure
