/- The program's NameOk returns what the reference's returns, for every text; the only bound is the row's own on a text's size. -/
import Derived.Test.YteaclgfgogecjaaPFnExactNameOkx1
import Derived.Test.YteaclgfgogecjaaLib
namespace Go.Proofs.Yteaclgfgogecjaa.Pure
open Go.RowKit Go.Proofs.Yteaclgfgogecjaa.PFnExactNameOk Go.Proofs.YteaclgfgogecjaaW.PrintWords Go.Proofs.YteaclgfgogecjaaW.PrintLast Go.Proofs.Yteaclgfgogecjaa.Lib
set_option linter.unusedVariables false
set_option linter.unusedSimpArgs false

theorem l01In_eq (x a b : Int) : spec_l01In.f x a b = some (decide (a ≤ x ∧ x ≤ b)) := by
  unfold spec_l01In.f
  by_cases h : a ≤ x
  · rw [if_pos h]; simp [h]
  · rw [if_neg h]; simp [h]
theorem within_eq (x a b : Int) : impl_within.f x a b = some (decide (a ≤ x ∧ x ≤ b)) := by
  unfold impl_within.f
  by_cases h : a ≤ x
  · rw [if_pos h]; simp [h]
  · rw [if_neg h]; simp [h]
theorem name_same (t : ByteArray) : ∀ (k : Nat) (i : Int), impl_NameOk.l0 k t i = spec_NameOk.l0 k t i
  | 0, i => rfl
  | k + 1, i => by
    simp only [impl_NameOk.l0, spec_NameOk.l0, within_eq, l01In_eq, name_same t k]
theorem spec_name_l0 (t : ByteArray) (hn : t.size ≤ 140737488351232) (d : Nat) : ∀ (i : Nat), i + d = t.size →
    Ev (fun k => spec_NameOk.l0 k t (i : Int)) (((bytesOf t).drop i).all nameByte && decide (1 ≤ (t.size : Int) ∧ (t.size : Int) ≤ 12)) := by
  induction d with
  | zero =>
    intro i hi
    obtain rfl : i = t.size := by omega
    rw [bytes_end]
    refine Ev.step (f := fun _ => some (decide (1 ≤ (t.size : Int) ∧ (t.size : Int) ≤ 12))) (fun k => ?_) (Ev.now _)
    simp only [spec_NameOk.l0, l01In_eq]
    rw [if_neg (by omega)]
    rfl
  | succ d ih =>
    intro i hi
    have hlt : i < t.size := by omega
    have hb := bt_range t (i : Int)
    rw [bytes_drop t i hlt, List.all_cons]
    have this := ih (i + 1) (by omega)
    refine Ev.step (f := fun k => if nameByte (bt t i) = true then spec_NameOk.l0 k t ((i + 1 : Nat) : Int) else some false) (fun k => ?_) ?_
    · simp only [spec_NameOk.l0]
      rw [if_pos (by omega), if_pos (by omega), wrap_id (by omega) (by omega)]
      unfold nameByte
      generalize bt t i = b at *
      by_cases h1 : b < 97 <;> by_cases h2 : b < 48 <;> by_cases h3 : b > 57 <;> by_cases h4 : b > 122 <;> simp [h1, h2, h3, h4] <;> omega
    · by_cases h : nameByte (bt t i) = true
      · simp only [h, ↓reduceIte, Bool.true_and]
        exact this
      · simp only [h]
        rw [Bool.not_eq_true] at h
        simp only [h, Bool.false_and]
        exact Ev.now _
theorem spec_NameOk_ev (t : ByteArray) (hn : t.size ≤ 140737488351232) : Ev (fun k => spec_NameOk.f k t) (nameV t) :=
  spec_name_l0 t hn t.size 0 (by omega)
theorem impl_NameOk_ev (t : ByteArray) (hn : t.size ≤ 140737488351232) : Ev (fun k => impl_NameOk.f k t) (nameV t) :=
  Ev.congr (fun k => name_same t k 0) (spec_NameOk_ev t hn)

theorem FnExactNameOk : laws_FnExactNameOk.Pure := by
  intro a1 hn
  refine Ev.rounds (g := fun k => laws_FnExactNameOk.f k a1) ?_
  unfold laws_FnExactNameOk.f
  by_cases hbig : (a1.size : Int) > 1048576
  · simp only [if_pos hbig]
    exact Ev.now _
  · simp only [if_neg hbig]
    refine Ev.bind (spec_NameOk_ev a1 hn) (Ev.bind (impl_NameOk_ev a1 hn) ?_)
    rw [if_neg (by simp)]
    exact Ev.now _

end Go.Proofs.Yteaclgfgogecjaa.Pure
