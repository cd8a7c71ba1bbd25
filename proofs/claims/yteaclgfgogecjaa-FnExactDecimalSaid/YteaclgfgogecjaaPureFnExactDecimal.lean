/- The program's Decimal returns what the reference's returns, for every 64-bit number. -/
import Derived.Test.YteaclgfgogecjaaPFnExactDecimalx1
import Derived.Test.YteaclgfgogecjaaLib
import Derived.Test.YteaclgfgogecjaaLib2
import Derived.Test.YteaclgfgogecjaaLib3
namespace Go.Proofs.Yteaclgfgogecjaa.Pure
open Go.RowKit Go.Proofs.Yteaclgfgogecjaa.PFnExactDecimal Go.Proofs.YteaclgfgogecjaaW.PrintWords Go.Proofs.YteaclgfgogecjaaW.PrintLast Go.Proofs.Yteaclgfgogecjaa.Lib
set_option linter.unusedVariables false
set_option linter.unusedSimpArgs false

theorem figure_eq (x : Int) (h0 : 0 ≤ x) (h1 : x < 16) : spec_l01Figure.f x = some (figV x) := by
  unfold spec_l01Figure.f figV
  by_cases h : x < 10
  · rw [if_pos h, if_pos h, wrap_id (by omega) (by omega), Int.emod_eq_of_lt (by omega) (by omega)]
  · rw [if_neg h, if_neg h, wrap_id (x := 97 + x) (by omega) (by omega), wrap_id (by omega) (by omega), Int.emod_eq_of_lt (by omega) (by omega)]
    congr 1
    omega
theorem spec_dec_pos (d : Nat) : ∀ (m : Nat) (acc : ByteArray), m < 10 ^ d → acc.size + d ≤ 1000 → m ≤ 9223372036854775807 →
    Ev (fun k => spec_Decimal.l0 k (m : Int) false acc) (strOfNums (dec m) ++ acc) := by
  induction d with
  | zero =>
    intro m acc h hl hn
    rw [Nat.pow_zero] at h
    obtain rfl : m = 0 := by omega
    refine Ev.step (f := fun _ => some acc) (fun k => ?_) ?_
    · simp only [spec_Decimal.l0]
      rw [if_pos (by omega), if_neg (by simp)]
    · rw [dec_zero, str_nil_append]; exact Ev.now _
  | succ d ih =>
    intro m acc h hl hn
    by_cases hz : m = 0
    · subst hz
      refine Ev.step (f := fun _ => some acc) (fun k => ?_) ?_
      · simp only [spec_Decimal.l0]
        rw [if_pos (by omega), if_neg (by simp)]
      · rw [dec_zero, str_nil_append]; exact Ev.now _
    · have hd : m / 10 < 10 ^ d := by
        apply Nat.div_lt_of_lt_mul
        rw [Nat.pow_succ] at h
        omega
      have this := ih (m / 10) (strOfNums [((48 + m % 10 : Nat) : Int)] ++ acc) hd (by rw [ByteArray.size_append, strOfNums_size]; simp; omega) (by omega)
      rw [dec_pos hz, str_append_assoc]
      refine Ev.step (f := fun k => spec_Decimal.l0 k ((m / 10 : Nat) : Int) false (strOfNums [((48 + m % 10 : Nat) : Int)] ++ acc)) (fun k => ?_) this
      simp only [spec_Decimal.l0]
      rw [if_neg (by omega), tmod_pos (by omega), if_neg (by omega), figure_eq _ (by omega) (by omega), tdiv_pos (by omega), wrap_id (by omega) (by omega)]
      unfold figV
      rw [if_pos (by omega)]
      simp only [Option.bind_some]
      rw [if_pos (by rw [strOfNums_size]; simp; omega)]
      rfl
theorem spec_dec_neg (d : Nat) : ∀ (m : Nat) (acc : ByteArray), m < 10 ^ d → acc.size + d ≤ 1000 → m ≤ 9223372036854775808 →
    Ev (fun k => spec_Decimal.l0 k (-(m : Int)) true acc) ((⟨#[45]⟩ : ByteArray) ++ (strOfNums (dec m) ++ acc)) := by
  induction d with
  | zero =>
    intro m acc h hl hn
    rw [Nat.pow_zero] at h
    obtain rfl : m = 0 := by omega
    refine Ev.step (f := fun _ => some ((⟨#[45]⟩ : ByteArray) ++ acc)) (fun k => ?_) ?_
    · simp only [spec_Decimal.l0]
      rw [if_pos (by omega), if_pos (by trivial), if_pos (by omega)]
    · rw [dec_zero, str_nil_append]; exact Ev.now _
  | succ d ih =>
    intro m acc h hl hn
    by_cases hz : m = 0
    · subst hz
      refine Ev.step (f := fun _ => some ((⟨#[45]⟩ : ByteArray) ++ acc)) (fun k => ?_) ?_
      · simp only [spec_Decimal.l0]
        rw [if_pos (by omega), if_pos (by trivial), if_pos (by omega)]
      · rw [dec_zero, str_nil_append]; exact Ev.now _
    · have hd : m / 10 < 10 ^ d := by
        apply Nat.div_lt_of_lt_mul
        rw [Nat.pow_succ] at h
        omega
      have this := ih (m / 10) (strOfNums [((48 + m % 10 : Nat) : Int)] ++ acc) hd (by rw [ByteArray.size_append, strOfNums_size]; simp; omega) (by omega)
      rw [dec_pos hz, str_append_assoc]
      refine Ev.step (f := fun k => spec_Decimal.l0 k (-((m / 10 : Nat) : Int)) true (strOfNums [((48 + m % 10 : Nat) : Int)] ++ acc)) (fun k => ?_) this
      simp only [spec_Decimal.l0]
      rw [if_neg (by omega), Int.neg_tmod, Int.neg_tdiv, tmod_pos (by omega), tdiv_pos (by omega), wrap_id (x := -((m : Int) / 10)) (by omega) (by omega)]
      by_cases hm : m % 10 = 0
      · rw [if_neg (by omega), show -((m : Int) % 10) = 0 by omega, figure_eq _ (by omega) (by omega)]
        unfold figV
        rw [if_pos (by omega)]
        simp only [Option.bind_some]
        rw [if_pos (by rw [strOfNums_size]; simp; omega), show ((48 : Int) + 0) = ((48 + m % 10 : Nat) : Int) by omega]
        rfl
      · rw [if_pos (by omega), wrap_id (by omega) (by omega), Int.neg_neg, figure_eq _ (by omega) (by omega)]
        unfold figV
        rw [if_pos (by omega)]
        simp only [Option.bind_some]
        rw [if_pos (by rw [strOfNums_size]; simp; omega)]
        rfl
theorem spec_Decimal_ev (a : Int) (h0 : -9223372036854775808 ≤ a) (h1 : a ≤ 9223372036854775807) : Ev (fun k => spec_Decimal.f k a) (decV a) := by
  unfold spec_Decimal.f decV
  by_cases hz : a = 0
  · simp only [if_pos hz]
    exact Ev.now _
  · simp only [if_neg hz]
    by_cases hneg : a < 0
    · obtain ⟨m, hm⟩ := Int.eq_ofNat_of_zero_le (show 0 ≤ -a by omega)
      obtain rfl : a = -(m : Int) := by omega
      rw [decide_eq_true hneg, if_pos hneg]
      have := spec_dec_neg 20 m ⟨#[]⟩ (by omega) (by decide) (by omega)
      rw [str_append_nil] at this
      simpa using this
    · obtain ⟨m, rfl⟩ := Int.eq_ofNat_of_zero_le (show 0 ≤ a by omega)
      rw [decide_eq_false hneg, if_neg hneg]
      have := spec_dec_pos 20 m ⟨#[]⟩ (by omega) (by decide) (by omega)
      rw [str_append_nil] at this
      simpa using this
theorem impl_dec_l0 (a : Int) (s : Int) (hs : s = 1 ∨ s = -1) (d : Nat) : ∀ (m : Nat) (acc : ByteArray), m < 10 ^ d → acc.size + d ≤ 1000 → m ≤ 9223372036854775808 → (s = 1 → m ≤ 9223372036854775807) →
    Ev (fun k => impl_Decimal.l0 k a acc (s * (m : Int))) (if a < 0 then (⟨#[45]⟩ : ByteArray) ++ (strOfNums (dec m) ++ acc) else strOfNums (dec m) ++ acc) := by
  induction d with
  | zero =>
    intro m acc h hl hn hp
    rw [Nat.pow_zero] at h
    obtain rfl : m = 0 := by omega
    refine Ev.step (f := fun _ => some (if a < 0 then (⟨#[45]⟩ : ByteArray) ++ acc else acc)) (fun k => ?_) ?_
    · simp only [impl_Decimal.l0]
      rw [if_pos (by rcases hs with rfl | rfl <;> omega)]
      by_cases hneg : a < 0
      · rw [if_pos hneg, if_pos hneg, if_pos (by omega)]
      · rw [if_neg hneg, if_neg hneg]
    · rw [dec_zero, str_nil_append]; exact Ev.now _
  | succ d ih =>
    intro m acc h hl hn hp
    by_cases hz : m = 0
    · subst hz
      refine Ev.step (f := fun _ => some (if a < 0 then (⟨#[45]⟩ : ByteArray) ++ acc else acc)) (fun k => ?_) ?_
      · simp only [impl_Decimal.l0]
        rw [if_pos (by rcases hs with rfl | rfl <;> omega)]
        by_cases hneg : a < 0
        · rw [if_pos hneg, if_pos hneg, if_pos (by omega)]
        · rw [if_neg hneg, if_neg hneg]
      · rw [dec_zero, str_nil_append]; exact Ev.now _
    · have hd : m / 10 < 10 ^ d := by
        apply Nat.div_lt_of_lt_mul
        rw [Nat.pow_succ] at h
        omega
      have this := ih (m / 10) (strOfNums [((48 + m % 10 : Nat) : Int)] ++ acc) hd (by rw [ByteArray.size_append, strOfNums_size]; simp; omega) (by omega) (by omega)
      rw [dec_pos hz, str_append_assoc]
      refine Ev.step (f := fun k => impl_Decimal.l0 k a (strOfNums [((48 + m % 10 : Nat) : Int)] ++ acc) (s * ((m / 10 : Nat) : Int))) (fun k => ?_) this
      simp only [impl_Decimal.l0]
      have hq : Int.tdiv (s * (m : Int)) 10 = s * ((m / 10 : Nat) : Int) := by
        rcases hs with rfl | rfl
        · rw [Int.one_mul, Int.one_mul, tdiv_pos (by omega)]; omega
        · rw [Int.neg_one_mul, Int.neg_one_mul, Int.neg_tdiv, tdiv_pos (by omega)]; omega
      have hr : mx (Int.tmod (s * (m : Int)) 10) (wrap64 (-(Int.tmod (s * (m : Int)) 10))) = ((m % 10 : Nat) : Int) := by
        rcases hs with rfl | rfl
        · rw [Int.one_mul, tmod_pos (by omega), wrap_id (by omega) (by omega)]
          unfold mx
          split <;> omega
        · rw [Int.neg_one_mul, Int.neg_tmod, tmod_pos (by omega), wrap_id (by omega) (by omega)]
          unfold mx
          split <;> omega
      have hw : wrap64 (s * ((m / 10 : Nat) : Int)) = s * ((m / 10 : Nat) : Int) := by
        rcases hs with rfl | rfl
        · rw [wrap_id (by omega) (by omega)]
        · rw [wrap_id (by omega) (by omega)]
      rw [hq, hr, hw, if_neg (by rcases hs with rfl | rfl <;> omega), wrap_id (x := ((m % 10 : Nat) : Int) + 1) (by omega) (by omega), if_pos (by omega), if_pos (by omega), if_pos (by omega), fig_cut (m % 10) (by omega)]
      rw [if_pos (by rw [strOfNums_size]; simp; omega)]
theorem impl_Decimal_ev (a : Int) (h0 : -9223372036854775808 ≤ a) (h1 : a ≤ 9223372036854775807) : Ev (fun k => impl_Decimal.f k a) (decV a) := by
  unfold impl_Decimal.f decV
  by_cases hz : a = 0
  · simp only [if_pos hz]
    exact Ev.now _
  · simp only [if_neg hz]
    by_cases hneg : a < 0
    · obtain ⟨m, hm⟩ := Int.eq_ofNat_of_zero_le (show 0 ≤ -a by omega)
      obtain rfl : a = -(m : Int) := by omega
      have := impl_dec_l0 (-(m : Int)) (-1) (.inr rfl) 20 m ⟨#[]⟩ (by omega) (by decide) (by omega) (by omega)
      rw [str_append_nil, if_pos hneg, Int.neg_one_mul] at this
      rw [if_pos hneg]
      simpa using this
    · obtain ⟨m, rfl⟩ := Int.eq_ofNat_of_zero_le (show 0 ≤ a by omega)
      have := impl_dec_l0 (m : Int) 1 (.inl rfl) 20 m ⟨#[]⟩ (by omega) (by decide) (by omega) (by omega)
      rw [str_append_nil, if_neg hneg, Int.one_mul] at this
      rw [if_neg hneg]
      simpa using this

theorem FnExactDecimal : laws_FnExactDecimal.Pure := by
  intro a hw
  obtain ⟨h0, h1⟩ := wf64 hw
  refine Ev.rounds (g := fun k => laws_FnExactDecimal.f k a) ?_
  unfold laws_FnExactDecimal.f
  refine Ev.bind (spec_Decimal_ev a h0 h1) (Ev.bind (impl_Decimal_ev a h0 h1) ?_)
  rw [if_pos rfl]
  exact Ev.now _

end Go.Proofs.Yteaclgfgogecjaa.Pure
