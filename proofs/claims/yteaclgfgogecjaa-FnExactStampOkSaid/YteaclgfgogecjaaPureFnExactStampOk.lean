/- The program's StampOk returns what the reference's returns, for every stamp. -/
import Derived.Test.YteaclgfgogecjaaPFnExactStampOkx1
import Derived.Test.YteaclgfgogecjaaLib
import Derived.Test.YteaclgfgogecjaaQFnExactStampOk
namespace Go.Proofs.Yteaclgfgogecjaa.Pure
open Go.RowKit Go.Proofs.Yteaclgfgogecjaa.PFnExactStampOk Go.Proofs.YteaclgfgogecjaaW.PrintWords Go.Proofs.YteaclgfgogecjaaW.PrintLast Go.Proofs.Yteaclgfgogecjaa.Lib
set_option linter.unusedVariables false
set_option linter.unusedSimpArgs false

theorem l01In_eq (x a b : Int) : spec_l01In.f x a b = some (decide (a ≤ x ∧ x ≤ b)) := by
  unfold spec_l01In.f
  by_cases h : a ≤ x
  · rw [if_pos h]; simp [h]
  · rw [if_neg h]; simp [h]
theorem within_eq (x a b : Int) : impl_within.f x a b = some (decide (a ≤ x ∧ x ≤ b)) := by
  unfold impl_within.f
  by_cases h : a ≤ x
  · rw [if_pos h]; simp [h]
  · rw [if_neg h]; simp [h]
theorem spec_StampOk_eq (a b : Int) : spec_StampOk.f a b = some (stampV a b) := by
  unfold spec_StampOk.f stampV
  simp only [l01In_eq, Option.bind_some]
  by_cases h : 0 ≤ a ∧ a ≤ 100000 <;> by_cases h2 : 0 ≤ b ∧ b ≤ 2 <;> simp [h, h2]
theorem impl_StampOk_eq (a b : Int) : impl_StampOk.f a b = some (stampV a b) := by
  unfold impl_StampOk.f stampV
  simp only [within_eq, Option.bind_some]
  by_cases h : 0 ≤ a ∧ a ≤ 100000 <;> by_cases h2 : 0 ≤ b ∧ b ≤ 2 <;> simp [h, h2]

theorem FnExactStampOk : laws_FnExactStampOk.Pure := by
  intro a b _ _
  unfold laws_FnExactStampOk.f laws_toStamp.f
  simp only [Option.bind_some, spec_StampOk_eq, impl_StampOk_eq]
  simp

end Go.Proofs.Yteaclgfgogecjaa.Pure
