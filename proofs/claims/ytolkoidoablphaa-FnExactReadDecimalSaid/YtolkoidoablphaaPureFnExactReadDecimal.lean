/- The program's ReadDecimal returns what the reference's returns, for every text; the only bound is the row's own on a text's size. -/
import Derived.Test.YtolkoidoablphaaPFnExactReadDecimalx1
import Derived.Test.YtolkoidoablphaaLib
import Derived.Test.YtolkoidoablphaaLib2
import Derived.Test.YtolkoidoablphaaLib3
namespace Go.Proofs.Ytolkoidoablphaa.Pure
open Go.RowKit Go.Proofs.Ytolkoidoablphaa.PFnExactReadDecimal Go.Proofs.YtolkoidoablphaaW.PrintWords Go.Proofs.YtolkoidoablphaaW.PrintLast Go.Proofs.Ytolkoidoablphaa.Lib
set_option linter.unusedVariables false
set_option linter.unusedSimpArgs false

theorem within_eq (x a b : Int) : impl_within.f x a b = some (decide (a ≤ x ∧ x ≤ b)) := by
  unfold impl_within.f
  by_cases h : a ≤ x
  · rw [if_pos h]; simp [h]
  · rw [if_neg h]; simp [h]
theorem figure_eq (x : Int) (h0 : 0 ≤ x) (h1 : x < 16) : spec_l01Figure.f x = some (figV x) := by
  unfold spec_l01Figure.f figV
  by_cases h : x < 10
  · rw [if_pos h, if_pos h, wrap_id (by omega) (by omega), Int.emod_eq_of_lt (by omega) (by omega)]
  · rw [if_neg h, if_neg h, wrap_id (x := 97 + x) (by omega) (by omega), wrap_id (by omega) (by omega), Int.emod_eq_of_lt (by omega) (by omega)]
    congr 1
    omega
theorem spec_dec_pos (d : Nat) : ∀ (m : Nat) (acc : ByteArray), m < 10 ^ d → acc.size + d ≤ 1000 → m ≤ 9223372036854775807 →
    Ev (fun k => spec_Decimal.l0 k (m : Int) false acc) (strOfNums (dec m) ++ acc) := by
  induction d with
  | zero =>
    intro m acc h hl hn
    rw [Nat.pow_zero] at h
    obtain rfl : m = 0 := by omega
    refine Ev.step (f := fun _ => some acc) (fun k => ?_) ?_
    · simp only [spec_Decimal.l0]
      rw [if_pos (by omega), if_neg (by simp)]
    · rw [dec_zero, str_nil_append]; exact Ev.now _
  | succ d ih =>
    intro m acc h hl hn
    by_cases hz : m = 0
    · subst hz
      refine Ev.step (f := fun _ => some acc) (fun k => ?_) ?_
      · simp only [spec_Decimal.l0]
        rw [if_pos (by omega), if_neg (by simp)]
      · rw [dec_zero, str_nil_append]; exact Ev.now _
    · have hd : m / 10 < 10 ^ d := by
        apply Nat.div_lt_of_lt_mul
        rw [Nat.pow_succ] at h
        omega
      have this := ih (m / 10) (strOfNums [((48 + m % 10 : Nat) : Int)] ++ acc) hd (by rw [ByteArray.size_append, strOfNums_size]; simp; omega) (by omega)
      rw [dec_pos hz, str_append_assoc]
      refine Ev.step (f := fun k => spec_Decimal.l0 k ((m / 10 : Nat) : Int) false (strOfNums [((48 + m % 10 : Nat) : Int)] ++ acc)) (fun k => ?_) this
      simp only [spec_Decimal.l0]
      rw [if_neg (by omega), tmod_pos (by omega), if_neg (by omega), figure_eq _ (by omega) (by omega), tdiv_pos (by omega), wrap_id (by omega) (by omega)]
      unfold figV
      rw [if_pos (by omega)]
      simp only [Option.bind_some]
      rw [if_pos (by rw [strOfNums_size]; simp; omega)]
      rfl
theorem spec_dec_neg (d : Nat) : ∀ (m : Nat) (acc : ByteArray), m < 10 ^ d → acc.size + d ≤ 1000 → m ≤ 9223372036854775808 →
    Ev (fun k => spec_Decimal.l0 k (-(m : Int)) true acc) ((⟨#[45]⟩ : ByteArray) ++ (strOfNums (dec m) ++ acc)) := by
  induction d with
  | zero =>
    intro m acc h hl hn
    rw [Nat.pow_zero] at h
    obtain rfl : m = 0 := by omega
    refine Ev.step (f := fun _ => some ((⟨#[45]⟩ : ByteArray) ++ acc)) (fun k => ?_) ?_
    · simp only [spec_Decimal.l0]
      rw [if_pos (by omega), if_pos (by trivial), if_pos (by omega)]
    · rw [dec_zero, str_nil_append]; exact Ev.now _
  | succ d ih =>
    intro m acc h hl hn
    by_cases hz : m = 0
    · subst hz
      refine Ev.step (f := fun _ => some ((⟨#[45]⟩ : ByteArray) ++ acc)) (fun k => ?_) ?_
      · simp only [spec_Decimal.l0]
        rw [if_pos (by omega), if_pos (by trivial), if_pos (by omega)]
      · rw [dec_zero, str_nil_append]; exact Ev.now _
    · have hd : m / 10 < 10 ^ d := by
        apply Nat.div_lt_of_lt_mul
        rw [Nat.pow_succ] at h
        omega
      have this := ih (m / 10) (strOfNums [((48 + m % 10 : Nat) : Int)] ++ acc) hd (by rw [ByteArray.size_append, strOfNums_size]; simp; omega) (by omega)
      rw [dec_pos hz, str_append_assoc]
      refine Ev.step (f := fun k => spec_Decimal.l0 k (-((m / 10 : Nat) : Int)) true (strOfNums [((48 + m % 10 : Nat) : Int)] ++ acc)) (fun k => ?_) this
      simp only [spec_Decimal.l0]
      rw [if_neg (by omega), Int.neg_tmod, Int.neg_tdiv, tmod_pos (by omega), tdiv_pos (by omega), wrap_id (x := -((m : Int) / 10)) (by omega) (by omega)]
      by_cases hm : m % 10 = 0
      · rw [if_neg (by omega), show -((m : Int) % 10) = 0 by omega, figure_eq _ (by omega) (by omega)]
        unfold figV
        rw [if_pos (by omega)]
        simp only [Option.bind_some]
        rw [if_pos (by rw [strOfNums_size]; simp; omega), show ((48 : Int) + 0) = ((48 + m % 10 : Nat) : Int) by omega]
        rfl
      · rw [if_pos (by omega), wrap_id (by omega) (by omega), Int.neg_neg, figure_eq _ (by omega) (by omega)]
        unfold figV
        rw [if_pos (by omega)]
        simp only [Option.bind_some]
        rw [if_pos (by rw [strOfNums_size]; simp; omega)]
        rfl
theorem spec_Decimal_ev (a : Int) (h0 : -9223372036854775808 ≤ a) (h1 : a ≤ 9223372036854775807) : Ev (fun k => spec_Decimal.f k a) (decV a) := by
  unfold spec_Decimal.f decV
  by_cases hz : a = 0
  · simp only [if_pos hz]
    exact Ev.now _
  · simp only [if_neg hz]
    by_cases hneg : a < 0
    · obtain ⟨m, hm⟩ := Int.eq_ofNat_of_zero_le (show 0 ≤ -a by omega)
      obtain rfl : a = -(m : Int) := by omega
      rw [decide_eq_true hneg, if_pos hneg]
      have := spec_dec_neg 20 m ⟨#[]⟩ (by omega) (by decide) (by omega)
      rw [str_append_nil] at this
      simpa using this
    · obtain ⟨m, rfl⟩ := Int.eq_ofNat_of_zero_le (show 0 ≤ a by omega)
      rw [decide_eq_false hneg, if_neg hneg]
      have := spec_dec_pos 20 m ⟨#[]⟩ (by omega) (by decide) (by omega)
      rw [str_append_nil] at this
      simpa using this
theorem impl_dec_l0 (a : Int) (s : Int) (hs : s = 1 ∨ s = -1) (d : Nat) : ∀ (m : Nat) (acc : ByteArray), m < 10 ^ d → acc.size + d ≤ 1000 → m ≤ 9223372036854775808 → (s = 1 → m ≤ 9223372036854775807) →
    Ev (fun k => impl_Decimal.l0 k a acc (s * (m : Int))) (if a < 0 then (⟨#[45]⟩ : ByteArray) ++ (strOfNums (dec m) ++ acc) else strOfNums (dec m) ++ acc) := by
  induction d with
  | zero =>
    intro m acc h hl hn hp
    rw [Nat.pow_zero] at h
    obtain rfl : m = 0 := by omega
    refine Ev.step (f := fun _ => some (if a < 0 then (⟨#[45]⟩ : ByteArray) ++ acc else acc)) (fun k => ?_) ?_
    · simp only [impl_Decimal.l0]
      rw [if_pos (by rcases hs with rfl | rfl <;> omega)]
      by_cases hneg : a < 0
      · rw [if_pos hneg, if_pos hneg, if_pos (by omega)]
      · rw [if_neg hneg, if_neg hneg]
    · rw [dec_zero, str_nil_append]; exact Ev.now _
  | succ d ih =>
    intro m acc h hl hn hp
    by_cases hz : m = 0
    · subst hz
      refine Ev.step (f := fun _ => some (if a < 0 then (⟨#[45]⟩ : ByteArray) ++ acc else acc)) (fun k => ?_) ?_
      · simp only [impl_Decimal.l0]
        rw [if_pos (by rcases hs with rfl | rfl <;> omega)]
        by_cases hneg : a < 0
        · rw [if_pos hneg, if_pos hneg, if_pos (by omega)]
        · rw [if_neg hneg, if_neg hneg]
      · rw [dec_zero, str_nil_append]; exact Ev.now _
    · have hd : m / 10 < 10 ^ d := by
        apply Nat.div_lt_of_lt_mul
        rw [Nat.pow_succ] at h
        omega
      have this := ih (m / 10) (strOfNums [((48 + m % 10 : Nat) : Int)] ++ acc) hd (by rw [ByteArray.size_append, strOfNums_size]; simp; omega) (by omega) (by omega)
      rw [dec_pos hz, str_append_assoc]
      refine Ev.step (f := fun k => impl_Decimal.l0 k a (strOfNums [((48 + m % 10 : Nat) : Int)] ++ acc) (s * ((m / 10 : Nat) : Int))) (fun k => ?_) this
      simp only [impl_Decimal.l0]
      have hq : Int.tdiv (s * (m : Int)) 10 = s * ((m / 10 : Nat) : Int) := by
        rcases hs with rfl | rfl
        · rw [Int.one_mul, Int.one_mul, tdiv_pos (by omega)]; omega
        · rw [Int.neg_one_mul, Int.neg_one_mul, Int.neg_tdiv, tdiv_pos (by omega)]; omega
      have hr : mx (Int.tmod (s * (m : Int)) 10) (wrap64 (-(Int.tmod (s * (m : Int)) 10))) = ((m % 10 : Nat) : Int) := by
        rcases hs with rfl | rfl
        · rw [Int.one_mul, tmod_pos (by omega), wrap_id (by omega) (by omega)]
          unfold mx
          split <;> omega
        · rw [Int.neg_one_mul, Int.neg_tmod, tmod_pos (by omega), wrap_id (by omega) (by omega)]
          unfold mx
          split <;> omega
      have hw : wrap64 (s * ((m / 10 : Nat) : Int)) = s * ((m / 10 : Nat) : Int) := by
        rcases hs with rfl | rfl
        · rw [wrap_id (by omega) (by omega)]
        · rw [wrap_id (by omega) (by omega)]
      rw [hq, hr, hw, if_neg (by rcases hs with rfl | rfl <;> omega), wrap_id (x := ((m % 10 : Nat) : Int) + 1) (by omega) (by omega), if_pos (by omega), if_pos (by omega), if_pos (by omega), fig_cut (m % 10) (by omega)]
      rw [if_pos (by rw [strOfNums_size]; simp; omega)]
theorem impl_Decimal_ev (a : Int) (h0 : -9223372036854775808 ≤ a) (h1 : a ≤ 9223372036854775807) : Ev (fun k => impl_Decimal.f k a) (decV a) := by
  unfold impl_Decimal.f decV
  by_cases hz : a = 0
  · simp only [if_pos hz]
    exact Ev.now _
  · simp only [if_neg hz]
    by_cases hneg : a < 0
    · obtain ⟨m, hm⟩ := Int.eq_ofNat_of_zero_le (show 0 ≤ -a by omega)
      obtain rfl : a = -(m : Int) := by omega
      have := impl_dec_l0 (-(m : Int)) (-1) (.inr rfl) 20 m ⟨#[]⟩ (by omega) (by decide) (by omega) (by omega)
      rw [str_append_nil, if_pos hneg, Int.neg_one_mul] at this
      rw [if_pos hneg]
      simpa using this
    · obtain ⟨m, rfl⟩ := Int.eq_ofNat_of_zero_le (show 0 ≤ a by omega)
      have := impl_dec_l0 (m : Int) 1 (.inl rfl) 20 m ⟨#[]⟩ (by omega) (by decide) (by omega) (by omega)
      rw [str_append_nil, if_neg hneg, Int.one_mul] at this
      rw [if_neg hneg]
      simpa using this
theorem spec_readdec_l0 (t : ByteArray) (hn : t.size ≤ 10) (d : Nat) : ∀ (i n : Nat), i + d = t.size → n < 10 ^ i →
    Ev (fun k => spec_ReadDecimal.l0 k t (n : Int) (i : Int)) (readDec t d i n) := by
  induction d with
  | zero =>
    intro i n hi hlt
    unfold readDec
    have hp : 10 ^ i ≤ 10 ^ 10 := Nat.pow_le_pow_right (by decide) (by omega)
    refine Ev.step (f := fun k => if (n : Int) > 1000000000 then some (0, false) else (spec_Decimal.f k (n : Int)).bind fun s => if s.toList = t.toList then some ((n : Int), true) else some (0, false)) (fun k => ?_) ?_
    · simp only [spec_ReadDecimal.l0]
      rw [if_neg (by omega)]
    · by_cases h : (n : Int) > 1000000000
      · simp only [if_pos h]
        exact Ev.now _
      · simp only [if_neg h]
        refine Ev.bind (spec_Decimal_ev _ (by omega) (by omega)) ?_
        by_cases hq : (decV (n : Int)).toList = t.toList
        · rw [if_pos hq, if_pos hq]
          exact Ev.now _
        · rw [if_neg hq, if_neg hq]
          exact Ev.now _
  | succ d ih =>
    intro i n hi hlt
    unfold readDec
    have hp : 10 ^ i ≤ 10 ^ 9 := Nat.pow_le_pow_right (by decide) (by omega)
    have hb := bt_range t (i : Int)
    have hm := byte_at t i
    rw [hm] at hb
    generalize btN t i = b at hb hm ⊢
    by_cases h1 : b < 48 ∨ b > 57
    · rw [if_pos h1]
      refine Ev.step (f := fun _ => some (0, false)) (fun k => ?_) (Ev.now _)
      simp only [spec_ReadDecimal.l0]
      rw [if_pos (by omega), if_pos (by omega), hm]
      rcases h1 with h1 | h1
      · rw [if_pos (by omega)]
      · rw [if_neg (by omega), if_pos (by omega)]
    · rw [if_neg h1]
      refine Ev.step (f := fun k => spec_ReadDecimal.l0 k t ((10 * n + (b - 48) : Nat) : Int) ((i + 1 : Nat) : Int)) (fun k => ?_) (ih (i + 1) _ (by omega) (by rw [Nat.pow_succ]; omega))
      simp only [spec_ReadDecimal.l0]
      rw [if_pos (by omega), if_pos (by omega), hm, if_neg (by omega), if_neg (by omega)]
      rw [wrap_id (x := (i : Int) + 1) (by omega) (by omega), wrap_id (x := 10 * (n : Int)) (by omega) (by omega), wrap_id (x := (b : Int)) (by omega) (by omega), wrap_id (x := 10 * (n : Int) + (b : Int)) (by omega) (by omega), wrap_id (by omega) (by omega)]
      rw [show 10 * (n : Int) + (b : Int) - 48 = ((10 * n + (b - 48) : Nat) : Int) by omega]
      rfl
theorem spec_ReadDecimal_ev (t : ByteArray) : Ev (fun k => spec_ReadDecimal.f k t) (if t.size ≤ 10 then readDec t t.size 0 0 else (0, false)) := by
  unfold spec_ReadDecimal.f
  by_cases h : (t.size : Int) > 10
  · simp only [if_pos h]
    rw [if_neg (by omega)]
    exact Ev.now _
  · simp only [if_neg h]
    rw [if_pos (by omega)]
    exact spec_readdec_l0 t (by omega) t.size 0 0 (by omega) (by decide)
theorem impl_readdec_l0 (t : ByteArray) (hn : t.size ≤ 10) (d : Nat) : ∀ (i n : Nat), i + d = t.size → n < 10 ^ i →
    Ev (fun k => impl_ReadDecimal.l0 k t (n : Int) (i : Int)) (readDec t d i n) := by
  induction d with
  | zero =>
    intro i n hi hlt
    unfold readDec
    have hp : 10 ^ i ≤ 10 ^ 10 := Nat.pow_le_pow_right (by decide) (by omega)
    refine Ev.step (f := fun k => if (n : Int) > 1000000000 then some (0, false) else (impl_Decimal.f k (n : Int)).bind fun s => if s.toList = t.toList then some ((n : Int), true) else some (0, false)) (fun k => ?_) ?_
    · simp only [impl_ReadDecimal.l0]
      rw [if_neg (by omega)]
    · by_cases h : (n : Int) > 1000000000
      · simp only [if_pos h]
        exact Ev.now _
      · simp only [if_neg h]
        refine Ev.bind (impl_Decimal_ev _ (by omega) (by omega)) ?_
        by_cases hq : (decV (n : Int)).toList = t.toList
        · rw [if_pos hq, if_pos hq]
          exact Ev.now _
        · rw [if_neg hq, if_neg hq]
          exact Ev.now _
  | succ d ih =>
    intro i n hi hlt
    unfold readDec
    have hp : 10 ^ i ≤ 10 ^ 9 := Nat.pow_le_pow_right (by decide) (by omega)
    have hb := bt_range t (i : Int)
    have hm := byte_at t i
    rw [hm] at hb
    generalize btN t i = b at hb hm ⊢
    by_cases h1 : b < 48 ∨ b > 57
    · rw [if_pos h1]
      refine Ev.step (f := fun _ => some (0, false)) (fun k => ?_) (Ev.now _)
      simp only [impl_ReadDecimal.l0]
      rw [if_pos (by omega), if_pos (by omega), hm]
      rcases h1 with h1 | h1
      · rw [if_pos (by omega)]
      · rw [if_neg (by omega), if_pos (by omega)]
    · rw [if_neg h1]
      refine Ev.step (f := fun k => impl_ReadDecimal.l0 k t ((10 * n + (b - 48) : Nat) : Int) ((i + 1 : Nat) : Int)) (fun k => ?_) (ih (i + 1) _ (by omega) (by rw [Nat.pow_succ]; omega))
      simp only [impl_ReadDecimal.l0]
      rw [if_pos (by omega), if_pos (by omega), hm, if_neg (by omega), if_neg (by omega)]
      rw [wrap_id (x := (i : Int) + 1) (by omega) (by omega), wrap_id (x := 10 * (n : Int)) (by omega) (by omega), Int.emod_eq_of_lt (a := (b : Int) - 48) (by omega) (by omega), wrap_id (by omega) (by omega)]
      rw [show 10 * (n : Int) + ((b : Int) - 48) = ((10 * n + (b - 48) : Nat) : Int) by omega]
      rfl
theorem impl_ReadDecimal_ev (t : ByteArray) : Ev (fun k => impl_ReadDecimal.f k t) (if t.size ≤ 10 then readDec t t.size 0 0 else (0, false)) := by
  unfold impl_ReadDecimal.f
  simp only [within_eq, Option.bind_some]
  by_cases h : 1 ≤ (t.size : Int) ∧ (t.size : Int) ≤ 10
  · rw [decide_eq_true h, if_pos (by omega)]
    simp only [↓reduceIte]
    exact impl_readdec_l0 t (by omega) t.size 0 0 (by omega) (by decide)
  · rw [decide_eq_false h]
    simp only [Bool.false_eq_true, ↓reduceIte]
    by_cases h2 : t.size ≤ 10
    · have hz : t.size = 0 := by omega
      rw [if_pos h2, hz, readDec_empty t hz]
      exact Ev.now _
    · rw [if_neg h2]
      exact Ev.now _

theorem FnExactReadDecimal : laws_FnExactReadDecimal.Pure := by
  intro a hn
  refine Ev.rounds (g := fun k => laws_FnExactReadDecimal.f k a) ?_
  unfold laws_FnExactReadDecimal.f
  by_cases hbig : (a.size : Int) > 1048576
  · simp only [if_pos hbig]
    exact Ev.now _
  · simp only [if_neg hbig]
    refine Ev.bind (spec_ReadDecimal_ev a) (Ev.bind (impl_ReadDecimal_ev a) ?_)
    rw [if_pos rfl, if_neg (by simp)]
    exact Ev.now _

end Go.Proofs.Ytolkoidoablphaa.Pure
