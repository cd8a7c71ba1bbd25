/- The program's Later returns what the reference's returns, for every two stamps. -/
import Derived.Test.YteaclgfgogecjaaPFnExactLaterx1
import Derived.Test.YteaclgfgogecjaaLib
import Derived.Test.YteaclgfgogecjaaQFnExactLater
namespace Go.Proofs.Yteaclgfgogecjaa.Pure
open Go.RowKit Go.Proofs.Yteaclgfgogecjaa.PFnExactLater Go.Proofs.YteaclgfgogecjaaW.PrintWords Go.Proofs.YteaclgfgogecjaaW.PrintLast Go.Proofs.Yteaclgfgogecjaa.Lib
set_option linter.unusedVariables false
set_option linter.unusedSimpArgs false

theorem spec_Later_eq (a b c d : Int) : spec_Later.f a b c d = some (laterV a b c d) := by
  unfold spec_Later.f laterV
  by_cases h : a = c
  · rw [if_pos h, if_pos h]
  · rw [if_neg h, if_neg h]
theorem impl_Later_eq (a b c d : Int) : impl_Later.f a b c d = some (laterV a b c d) := by
  unfold impl_Later.f laterV
  by_cases h : a > c
  · rw [if_pos h, if_neg (by omega), decide_eq_true h]
  · rw [if_neg h]
    by_cases h2 : a = c
    · rw [if_pos h2, if_pos h2]
    · rw [if_neg h2, if_neg h2, decide_eq_false h]

theorem FnExactLater : laws_FnExactLater.Pure := by
  intro a b c d _ _ _ _
  unfold laws_FnExactLater.f laws_toStamp.f
  simp only [Option.bind_some, spec_Later_eq, impl_Later_eq]
  simp

end Go.Proofs.Yteaclgfgogecjaa.Pure
