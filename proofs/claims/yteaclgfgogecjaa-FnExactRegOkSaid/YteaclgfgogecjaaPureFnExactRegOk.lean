/- The program's RegOk returns what the reference's returns, for every register. -/
import Derived.Test.YteaclgfgogecjaaPFnExactRegOkx1
import Derived.Test.YteaclgfgogecjaaLib
import Derived.Test.YteaclgfgogecjaaQFnExactRegOk
namespace Go.Proofs.Yteaclgfgogecjaa.Pure
open Go.RowKit Go.Proofs.Yteaclgfgogecjaa.PFnExactRegOk Go.Proofs.YteaclgfgogecjaaW.PrintWords Go.Proofs.YteaclgfgogecjaaW.PrintLast Go.Proofs.Yteaclgfgogecjaa.Lib
set_option linter.unusedVariables false
set_option linter.unusedSimpArgs false

theorem l01In_eq (x a b : Int) : spec_l01In.f x a b = some (decide (a ≤ x ∧ x ≤ b)) := by
  unfold spec_l01In.f
  by_cases h : a ≤ x
  · rw [if_pos h]; simp [h]
  · rw [if_neg h]; simp [h]
theorem within_eq (x a b : Int) : impl_within.f x a b = some (decide (a ≤ x ∧ x ≤ b)) := by
  unfold impl_within.f
  by_cases h : a ≤ x
  · rw [if_pos h]; simp [h]
  · rw [if_neg h]; simp [h]
theorem spec_StampOk_eq (a b : Int) : spec_StampOk.f a b = some (stampV a b) := by
  unfold spec_StampOk.f stampV
  simp only [l01In_eq, Option.bind_some]
  by_cases h : 0 ≤ a ∧ a ≤ 100000 <;> by_cases h2 : 0 ≤ b ∧ b ≤ 2 <;> simp [h, h2]
theorem impl_StampOk_eq (a b : Int) : impl_StampOk.f a b = some (stampV a b) := by
  unfold impl_StampOk.f stampV
  simp only [within_eq, Option.bind_some]
  by_cases h : 0 ≤ a ∧ a ≤ 100000 <;> by_cases h2 : 0 ≤ b ∧ b ≤ 2 <;> simp [h, h2]
theorem spec_RegOk_eq (a b c : Int) : spec_RegOk.f a b c = some (regV a b c) := by
  unfold spec_RegOk.f regV
  simp only [l01In_eq, spec_StampOk_eq, Option.bind_some]
  cases stampV b c <;> simp
theorem impl_RegOk_eq (a b c : Int) : impl_RegOk.f a b c = some (regV a b c) := by
  unfold impl_RegOk.f regV
  simp only [within_eq, impl_StampOk_eq, Option.bind_some]
  cases stampV b c <;> simp

theorem FnExactRegOk : laws_FnExactRegOk.Pure := by
  intro a b c _ _ _
  unfold laws_FnExactRegOk.f laws_toReg.f laws_toStamp.f
  simp only [Option.bind_some, spec_RegOk_eq, impl_RegOk_eq]
  simp

end Go.Proofs.Yteaclgfgogecjaa.Pure
