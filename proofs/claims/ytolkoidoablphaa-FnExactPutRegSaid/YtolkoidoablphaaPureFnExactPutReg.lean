/- The program's PutReg returns what the reference's returns, for every register, number and stamp. -/
import Derived.Test.YtolkoidoablphaaPFnExactPutRegx1
import Derived.Test.YtolkoidoablphaaPFnExactPutRegx2
import Derived.Test.YtolkoidoablphaaLib
import Derived.Test.YtolkoidoablphaaQFnExactPutReg
namespace Go.Proofs.Ytolkoidoablphaa.Pure
open Go.RowKit Go.Proofs.Ytolkoidoablphaa.PFnExactPutReg Go.Proofs.YtolkoidoablphaaW.PrintWords Go.Proofs.YtolkoidoablphaaW.PrintLast Go.Proofs.Ytolkoidoablphaa.Lib
set_option linter.unusedVariables false
set_option linter.unusedSimpArgs false

theorem l01In_eq (x a b : Int) : spec_l01In.f x a b = some (decide (a ≤ x ∧ x ≤ b)) := by
  unfold spec_l01In.f
  by_cases h : a ≤ x
  · rw [if_pos h]; simp [h]
  · rw [if_neg h]; simp [h]
theorem within_eq (x a b : Int) : impl_within.f x a b = some (decide (a ≤ x ∧ x ≤ b)) := by
  unfold impl_within.f
  by_cases h : a ≤ x
  · rw [if_pos h]; simp [h]
  · rw [if_neg h]; simp [h]
theorem spec_Later_eq (a b c d : Int) : spec_Later.f a b c d = some (laterV a b c d) := by
  unfold spec_Later.f laterV
  by_cases h : a = c
  · rw [if_pos h, if_pos h]
  · rw [if_neg h, if_neg h]
theorem impl_Later_eq (a b c d : Int) : impl_Later.f a b c d = some (laterV a b c d) := by
  unfold impl_Later.f laterV
  by_cases h : a > c
  · rw [if_pos h, if_neg (by omega), decide_eq_true h]
  · rw [if_neg h]
    by_cases h2 : a = c
    · rw [if_pos h2, if_pos h2]
    · rw [if_neg h2, if_neg h2, decide_eq_false h]
theorem spec_StampOk_eq (a b : Int) : spec_StampOk.f a b = some (stampV a b) := by
  unfold spec_StampOk.f stampV
  simp only [l01In_eq, Option.bind_some]
  by_cases h : 0 ≤ a ∧ a ≤ 100000 <;> by_cases h2 : 0 ≤ b ∧ b ≤ 2 <;> simp [h, h2]
theorem impl_StampOk_eq (a b : Int) : impl_StampOk.f a b = some (stampV a b) := by
  unfold impl_StampOk.f stampV
  simp only [within_eq, Option.bind_some]
  by_cases h : 0 ≤ a ∧ a ≤ 100000 <;> by_cases h2 : 0 ≤ b ∧ b ≤ 2 <;> simp [h, h2]
theorem spec_RegOk_eq (a b c : Int) : spec_RegOk.f a b c = some (regV a b c) := by
  unfold spec_RegOk.f regV
  simp only [l01In_eq, spec_StampOk_eq, Option.bind_some]
  cases stampV b c <;> simp
theorem impl_RegOk_eq (a b c : Int) : impl_RegOk.f a b c = some (regV a b c) := by
  unfold impl_RegOk.f regV
  simp only [within_eq, impl_StampOk_eq, Option.bind_some]
  cases stampV b c <;> simp
theorem eqReg_self (a b c : Int) : laws_eqReg.f a b c a b c = some true := by
  unfold laws_eqReg.f laws_eqStamp.f
  simp
theorem PutReg_same (a b c n e f : Int) : impl_PutReg.f a b c n e f = spec_PutReg.f a b c n e f := by
  unfold impl_PutReg.f spec_PutReg.f
  simp only [impl_Later_eq, spec_Later_eq, impl_RegOk_eq, spec_RegOk_eq]
theorem spec_PutReg_eq (a b c n e f : Int) : spec_PutReg.f a b c n e f = some (putRegV a b c n e f) := by
  unfold spec_PutReg.f putRegV
  simp only [spec_Later_eq, spec_RegOk_eq, Option.bind_some]
  cases laterV e f b c <;> cases regV n e f <;> rfl
theorem impl_PutReg_eq (a b c n e f : Int) : impl_PutReg.f a b c n e f = some (putRegV a b c n e f) := by
  rw [PutReg_same, spec_PutReg_eq]

theorem FnExactPutReg : laws_FnExactPutReg.Pure := by
  intro a b c n e f _ _ _ _ _ _
  unfold laws_FnExactPutReg.f laws_toReg.f laws_toStamp.f
  simp only [Option.bind_some, spec_PutReg_eq, impl_PutReg_eq, eqReg_self, ↓reduceIte]

end Go.Proofs.Ytolkoidoablphaa.Pure
