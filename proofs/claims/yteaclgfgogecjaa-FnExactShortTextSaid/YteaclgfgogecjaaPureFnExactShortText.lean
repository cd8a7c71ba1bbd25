/- The program's ShortText returns what the reference's returns, for every text; the only bound is the row's own on a text's size. -/
import Derived.Test.YteaclgfgogecjaaPFnExactShortTextx1
import Derived.Test.YteaclgfgogecjaaLib
namespace Go.Proofs.Yteaclgfgogecjaa.Pure
open Go.RowKit Go.Proofs.Yteaclgfgogecjaa.PFnExactShortText Go.Proofs.YteaclgfgogecjaaW.PrintWords Go.Proofs.YteaclgfgogecjaaW.PrintLast Go.Proofs.Yteaclgfgogecjaa.Lib
set_option linter.unusedVariables false
set_option linter.unusedSimpArgs false

theorem within_eq (x a b : Int) : impl_within.f x a b = some (decide (a ≤ x ∧ x ≤ b)) := by
  unfold impl_within.f
  by_cases h : a ≤ x
  · rw [if_pos h]; simp [h]
  · rw [if_neg h]; simp [h]
theorem spec_var_l0 (d : Nat) : ∀ (n : Nat) (xs : List Int), n < 128 ^ d → xs.length + d ≤ 1000 → n ≤ 9223372036854775807 →
    Ev (fun k => spec_l01Var.l0 k (n : Int) xs) (strOfNums (xs ++ var7 n)) := by
  induction d with
  | zero =>
    intro n xs h hl hn
    rw [Nat.pow_zero] at h
    rw [var7_small (by omega)]
    refine Ev.step (f := fun _ => some (strOfNums (xs ++ [(n : Int)]))) (fun k => ?_) (Ev.now _)
    simp only [spec_l01Var.l0]
    rw [if_neg (by omega), if_pos (by omega), Int.emod_eq_of_lt (by omega) (by omega)]
  | succ d ih =>
    intro n xs h hl hn
    by_cases hb : n > 127
    · rw [var7_big hb]
      have hd : n / 128 < 128 ^ d := by
        apply Nat.div_lt_of_lt_mul
        rw [Nat.pow_succ] at h
        omega
      have this := ih (n / 128) (xs ++ [((n % 128 + 128 : Nat) : Int)]) hd (by simp; omega) (by omega)
      rw [List.append_assoc] at this
      refine Ev.step (f := fun k => spec_l01Var.l0 k ((n / 128 : Nat) : Int) (xs ++ [((n % 128 + 128 : Nat) : Int)])) (fun k => ?_) this
      simp only [spec_l01Var.l0]
      rw [if_pos (by omega), if_pos (by omega), tdiv_pos (by omega), tmod_pos (by omega), wrap_id (by omega) (by omega), wrap_id (by omega) (by omega), Int.emod_eq_of_lt (by omega) (by omega)]
      rfl
    · rw [var7_small hb]
      refine Ev.step (f := fun _ => some (strOfNums (xs ++ [(n : Int)]))) (fun k => ?_) (Ev.now _)
      simp only [spec_l01Var.l0]
      rw [if_neg (by omega), if_pos (by omega), Int.emod_eq_of_lt (by omega) (by omega)]
theorem spec_l01Var_ev (n : Nat) (hn : n ≤ 9223372036854775807) : Ev (fun k => spec_l01Var.f k (n : Int)) (strOfNums (var7 n)) :=
  spec_var_l0 10 n [] (by omega) (by simp) hn
theorem impl_var_l0 (d : Nat) : ∀ (n : Nat) (xs : List Int), n < 128 ^ d → xs.length + d ≤ 1000 → n ≤ 9223372036854775807 →
    Ev (fun k => impl_VarText.l0 k (n : Int) xs) (strOfNums (xs ++ var7 n), true) := by
  induction d with
  | zero =>
    intro n xs h hl hn
    rw [Nat.pow_zero] at h
    rw [var7_small (by omega)]
    refine Ev.step (f := fun _ => some (strOfNums (xs ++ [(n : Int)]), true)) (fun k => ?_) (Ev.now _)
    simp only [impl_VarText.l0]
    rw [if_neg (by omega), if_pos (by omega), Int.emod_eq_of_lt (by omega) (by omega)]
  | succ d ih =>
    intro n xs h hl hn
    by_cases hb : n > 127
    · rw [var7_big hb]
      have hd : n / 128 < 128 ^ d := by
        apply Nat.div_lt_of_lt_mul
        rw [Nat.pow_succ] at h
        omega
      have this := ih (n / 128) (xs ++ [((n % 128 + 128 : Nat) : Int)]) hd (by simp; omega) (by omega)
      rw [List.append_assoc] at this
      refine Ev.step (f := fun k => impl_VarText.l0 k ((n / 128 : Nat) : Int) (xs ++ [((n % 128 + 128 : Nat) : Int)])) (fun k => ?_) this
      simp only [impl_VarText.l0]
      rw [if_pos (by omega), if_pos (by omega), and127 (by omega) (by omega), or128 (by omega) (by omega), Int.emod_eq_of_lt (by omega) (by omega)]
      rfl
    · rw [var7_small hb]
      refine Ev.step (f := fun _ => some (strOfNums (xs ++ [(n : Int)]), true)) (fun k => ?_) (Ev.now _)
      simp only [impl_VarText.l0]
      rw [if_neg (by omega), if_pos (by omega), Int.emod_eq_of_lt (by omega) (by omega)]
theorem impl_VarText_ev (a : Int) : Ev (fun k => impl_VarText.f k a) (varTextV a) := by
  unfold impl_VarText.f varTextV
  simp only [within_eq, Option.bind_some]
  by_cases h : 0 ≤ a ∧ a ≤ 1000000000
  · obtain ⟨n, rfl⟩ := Int.eq_ofNat_of_zero_le h.1
    rw [decide_eq_true h, if_pos h]
    simp only [↓reduceIte, Int.toNat_natCast]
    exact impl_var_l0 10 n [] (by omega) (by simp) (by omega)
  · rw [decide_eq_false h, if_neg h]
    exact Ev.now _
theorem spec_ShortText_ev (s : ByteArray) : Ev (fun k => spec_ShortText.f k s) (shortV s) := by
  unfold spec_ShortText.f shortV
  by_cases h : (s.size : Int) > 20000
  · simp only [if_pos h]
    exact Ev.now _
  · simp only [if_neg h]
    refine Ev.bind (spec_l01Var_ev s.size (by omega)) ?_
    have hl := var7_length 9 s.size (by omega)
    rw [if_pos (by rw [strOfNums_size]; omega)]
    exact Ev.now _
theorem impl_ShortText_ev (s : ByteArray) : Ev (fun k => impl_ShortText.f k s) (shortV s) := by
  unfold impl_ShortText.f shortV
  by_cases h : (s.size : Int) > 20000
  · simp only [if_pos h]
    exact Ev.now _
  · simp only [if_neg h]
    refine Ev.bind (impl_VarText_ev s.size) ?_
    have hl := var7_length 9 s.size (by omega)
    have e : varTextV (s.size : Int) = (strOfNums (var7 s.size), true) := by
      unfold varTextV
      rw [if_pos (by omega), Int.toNat_natCast]
    rw [e, if_pos (by rw [strOfNums_size]; omega)]
    exact Ev.now _

theorem FnExactShortText : laws_FnExactShortText.Pure := by
  intro a hn
  refine Ev.rounds (g := fun k => laws_FnExactShortText.f k a) ?_
  unfold laws_FnExactShortText.f
  by_cases hbig : (a.size : Int) > 1048576
  · simp only [if_pos hbig]
    exact Ev.now _
  · simp only [if_neg hbig]
    refine Ev.bind (spec_ShortText_ev a) (Ev.bind (impl_ShortText_ev a) ?_)
    rw [if_pos rfl, if_neg (by simp)]
    exact Ev.now _

end Go.Proofs.Yteaclgfgogecjaa.Pure
