/- FnNumbers holds at every drawn code: numbers and texts come back from what writes them; the bounds are the row's own. -/
import Derived.Test.YtdabhhlfnfjojaaPFnNumbersx1
import Derived.Test.YtdabhhlfnfjojaaPFnNumbersx2
import Derived.Test.YtdabhhlfnfjojaaPFnNumbersx3
import Derived.Test.YtdabhhlfnfjojaaPFnNumbersx4
import Derived.Test.YtdabhhlfnfjojaaLib
import Derived.Test.YtdabhhlfnfjojaaLib2
import Derived.Test.YtdabhhlfnfjojaaLib3
import Derived.Test.YtdabhhlfnfjojaaLib4
import Derived.Test.YtdabhhlfnfjojaaLib5
import Derived.Test.YtdabhhlfnfjojaaLib6
import Derived.Test.YtdabhhlfnfjojaaLib7
import Derived.Test.YtdabhhlfnfjojaaLib8
import Derived.Test.YtdabhhlfnfjojaaLib9
namespace Go.Proofs.Ytdabhhlfnfjojaa.Pure
open Go.RowKit Go.Proofs.Ytdabhhlfnfjojaa.PFnNumbers Go.Proofs.YtdabhhlfnfjojaaW.PrintWords Go.Proofs.YtdabhhlfnfjojaaW.PrintLast Go.Proofs.Ytdabhhlfnfjojaa.Lib
set_option linter.unusedVariables false
set_option linter.unusedSimpArgs false

theorem within_eq (x a b : Int) : impl_within.f x a b = some (decide (a ≤ x ∧ x ≤ b)) := by
  unfold impl_within.f
  by_cases h : a ≤ x
  · rw [if_pos h]; simp [h]
  · rw [if_neg h]; simp [h]
theorem impl_var_l0 (d : Nat) : ∀ (n : Nat) (xs : List Int), n < 128 ^ d → xs.length + d ≤ 1000 → n ≤ 9223372036854775807 →
    Ev (fun k => impl_VarText.l0 k (n : Int) xs) (strOfNums (xs ++ var7 n), true) := by
  induction d with
  | zero =>
    intro n xs h hl hn
    rw [Nat.pow_zero] at h
    rw [var7_small (by omega)]
    refine Ev.step (f := fun _ => some (strOfNums (xs ++ [(n : Int)]), true)) (fun k => ?_) (Ev.now _)
    simp only [impl_VarText.l0]
    rw [if_neg (by omega), if_pos (by omega), Int.emod_eq_of_lt (by omega) (by omega)]
  | succ d ih =>
    intro n xs h hl hn
    by_cases hb : n > 127
    · rw [var7_big hb]
      have hd : n / 128 < 128 ^ d := by
        apply Nat.div_lt_of_lt_mul
        rw [Nat.pow_succ] at h
        omega
      have this := ih (n / 128) (xs ++ [((n % 128 + 128 : Nat) : Int)]) hd (by simp; omega) (by omega)
      rw [List.append_assoc] at this
      refine Ev.step (f := fun k => impl_VarText.l0 k ((n / 128 : Nat) : Int) (xs ++ [((n % 128 + 128 : Nat) : Int)])) (fun k => ?_) this
      simp only [impl_VarText.l0]
      rw [if_pos (by omega), if_pos (by omega), and127 (by omega) (by omega), or128 (by omega) (by omega), Int.emod_eq_of_lt (by omega) (by omega)]
      rfl
    · rw [var7_small hb]
      refine Ev.step (f := fun _ => some (strOfNums (xs ++ [(n : Int)]), true)) (fun k => ?_) (Ev.now _)
      simp only [impl_VarText.l0]
      rw [if_neg (by omega), if_pos (by omega), Int.emod_eq_of_lt (by omega) (by omega)]
theorem impl_VarText_ev (a : Int) : Ev (fun k => impl_VarText.f k a) (varTextV a) := by
  unfold impl_VarText.f varTextV
  simp only [within_eq, Option.bind_some]
  by_cases h : 0 ≤ a ∧ a ≤ 1000000000
  · obtain ⟨n, rfl⟩ := Int.eq_ofNat_of_zero_le h.1
    rw [decide_eq_true h, if_pos h]
    simp only [↓reduceIte, Int.toNat_natCast]
    exact impl_var_l0 10 n [] (by omega) (by simp) (by omega)
  · rw [decide_eq_false h, if_neg h]
    exact Ev.now _
theorem impl_ShortText_ev (s : ByteArray) : Ev (fun k => impl_ShortText.f k s) (shortV s) := by
  unfold impl_ShortText.f shortV
  by_cases h : (s.size : Int) > 20000
  · simp only [if_pos h]
    exact Ev.now _
  · simp only [if_neg h]
    refine Ev.bind (impl_VarText_ev s.size) ?_
    have hl := var7_length 9 s.size (by omega)
    have e : varTextV (s.size : Int) = (strOfNums (var7 s.size), true) := by
      unfold varTextV
      rw [if_pos (by omega), Int.toNat_natCast]
    rw [e, if_pos (by rw [strOfNums_size]; omega)]
    exact Ev.now _
theorem impl_dec_l0 (a : Int) (s : Int) (hs : s = 1 ∨ s = -1) (d : Nat) : ∀ (m : Nat) (acc : ByteArray), m < 10 ^ d → acc.size + d ≤ 1000 → m ≤ 9223372036854775808 → (s = 1 → m ≤ 9223372036854775807) →
    Ev (fun k => impl_Decimal.l0 k a acc (s * (m : Int))) (if a < 0 then (⟨#[45]⟩ : ByteArray) ++ (strOfNums (dec m) ++ acc) else strOfNums (dec m) ++ acc) := by
  induction d with
  | zero =>
    intro m acc h hl hn hp
    rw [Nat.pow_zero] at h
    obtain rfl : m = 0 := by omega
    refine Ev.step (f := fun _ => some (if a < 0 then (⟨#[45]⟩ : ByteArray) ++ acc else acc)) (fun k => ?_) ?_
    · simp only [impl_Decimal.l0]
      rw [if_pos (by rcases hs with rfl | rfl <;> omega)]
      by_cases hneg : a < 0
      · rw [if_pos hneg, if_pos hneg, if_pos (by omega)]
      · rw [if_neg hneg, if_neg hneg]
    · rw [dec_zero, str_nil_append]; exact Ev.now _
  | succ d ih =>
    intro m acc h hl hn hp
    by_cases hz : m = 0
    · subst hz
      refine Ev.step (f := fun _ => some (if a < 0 then (⟨#[45]⟩ : ByteArray) ++ acc else acc)) (fun k => ?_) ?_
      · simp only [impl_Decimal.l0]
        rw [if_pos (by rcases hs with rfl | rfl <;> omega)]
        by_cases hneg : a < 0
        · rw [if_pos hneg, if_pos hneg, if_pos (by omega)]
        · rw [if_neg hneg, if_neg hneg]
      · rw [dec_zero, str_nil_append]; exact Ev.now _
    · have hd : m / 10 < 10 ^ d := by
        apply Nat.div_lt_of_lt_mul
        rw [Nat.pow_succ] at h
        omega
      have this := ih (m / 10) (strOfNums [((48 + m % 10 : Nat) : Int)] ++ acc) hd (by rw [ByteArray.size_append, strOfNums_size]; simp; omega) (by omega) (by omega)
      rw [dec_pos hz, str_append_assoc]
      refine Ev.step (f := fun k => impl_Decimal.l0 k a (strOfNums [((48 + m % 10 : Nat) : Int)] ++ acc) (s * ((m / 10 : Nat) : Int))) (fun k => ?_) this
      simp only [impl_Decimal.l0]
      have hq : Int.tdiv (s * (m : Int)) 10 = s * ((m / 10 : Nat) : Int) := by
        rcases hs with rfl | rfl
        · rw [Int.one_mul, Int.one_mul, tdiv_pos (by omega)]; omega
        · rw [Int.neg_one_mul, Int.neg_one_mul, Int.neg_tdiv, tdiv_pos (by omega)]; omega
      have hr : mx (Int.tmod (s * (m : Int)) 10) (wrap64 (-(Int.tmod (s * (m : Int)) 10))) = ((m % 10 : Nat) : Int) := by
        rcases hs with rfl | rfl
        · rw [Int.one_mul, tmod_pos (by omega), wrap_id (by omega) (by omega)]
          unfold mx
          split <;> omega
        · rw [Int.neg_one_mul, Int.neg_tmod, tmod_pos (by omega), wrap_id (by omega) (by omega)]
          unfold mx
          split <;> omega
      have hw : wrap64 (s * ((m / 10 : Nat) : Int)) = s * ((m / 10 : Nat) : Int) := by
        rcases hs with rfl | rfl
        · rw [wrap_id (by omega) (by omega)]
        · rw [wrap_id (by omega) (by omega)]
      rw [hq, hr, hw, if_neg (by rcases hs with rfl | rfl <;> omega), wrap_id (x := ((m % 10 : Nat) : Int) + 1) (by omega) (by omega), if_pos (by omega), if_pos (by omega), if_pos (by omega), fig_cut (m % 10) (by omega)]
      rw [if_pos (by rw [strOfNums_size]; simp; omega)]
theorem impl_Decimal_ev (a : Int) (h0 : -9223372036854775808 ≤ a) (h1 : a ≤ 9223372036854775807) : Ev (fun k => impl_Decimal.f k a) (decV a) := by
  unfold impl_Decimal.f decV
  by_cases hz : a = 0
  · simp only [if_pos hz]
    exact Ev.now _
  · simp only [if_neg hz]
    by_cases hneg : a < 0
    · obtain ⟨m, hm⟩ := Int.eq_ofNat_of_zero_le (show 0 ≤ -a by omega)
      obtain rfl : a = -(m : Int) := by omega
      have := impl_dec_l0 (-(m : Int)) (-1) (.inr rfl) 20 m ⟨#[]⟩ (by omega) (by decide) (by omega) (by omega)
      rw [str_append_nil, if_pos hneg, Int.neg_one_mul] at this
      rw [if_pos hneg]
      simpa using this
    · obtain ⟨m, rfl⟩ := Int.eq_ofNat_of_zero_le (show 0 ≤ a by omega)
      have := impl_dec_l0 (m : Int) 1 (.inl rfl) 20 m ⟨#[]⟩ (by omega) (by decide) (by omega) (by omega)
      rw [str_append_nil, if_neg hneg, Int.one_mul] at this
      rw [if_neg hneg]
      simpa using this
theorem impl_read_l0 (t : ByteArray) (hn : t.size ≤ 140737488351232) (a : Nat) (ha : a ≤ t.size) (d : Nat) : ∀ (i n : Nat), i + d = 5 → n < 128 ^ i → a + i ≤ t.size →
    Ev (fun k => impl_ReadVar.l0 k t (a : Int) (n : Int) (i : Int)) (readV t a d i n) := by
  induction d with
  | zero =>
    intro i n hi hlt hl
    obtain rfl : i = 5 := by omega
    unfold readV
    refine Ev.step (f := fun k => impl_ReadVar.j1 k t (a : Int) (n : Int) ((5 : Nat) : Int) false) (fun k => ?_) ?_
    · simp only [impl_ReadVar.l0]
      rw [if_neg (by omega)]
    · refine Ev.step (f := fun _ => some (0, 0, false)) (fun k => ?_) (Ev.now _)
      simp only [impl_ReadVar.j1]
      rw [if_neg (by simp)]
  | succ d ih =>
    intro i n hi hlt hl
    unfold readV
    have ex0 : wrap64 ((a : Int) + (i : Int)) = ((a + i : Nat) : Int) := by rw [wrap_id (by omega) (by omega)]; omega
    by_cases h : a + i < t.size
    · rw [if_pos h]
      refine Ev.step (f := fun k => impl_ReadVar.j1 k t (a : Int) (n : Int) (i : Int) true) (fun k => ?_) ?_
      · simp only [impl_ReadVar.l0]
        rw [if_pos (by omega), ex0, decide_eq_true (by omega)]
      · have hb := bt_range t ((a + i : Nat) : Int)
        have hp5 : 128 ^ i ≤ 128 ^ 4 := Nat.pow_le_pow_right (by decide) (by omega)
        have hp1 : 1 ≤ 128 ^ i := Nat.one_le_two_pow_128 i
        have hm := byte_at t (a + i)
        rw [hm] at hb
        generalize btN t (a + i) = b at hb hm ⊢
        have hnew : n + b % 128 * 128 ^ i < 128 ^ (i + 1) := by
          rw [Nat.pow_succ]
          have := Nat.mul_le_mul_right (128 ^ i) (show b % 128 ≤ 127 by omega)
          omega
        have hbig : 128 ^ (i + 1) ≤ 128 ^ 5 := Nat.pow_le_pow_right (by decide) (by omega)
        have c1 : (0 : Int) ≤ ((a + i : Nat) : Int) := by omega
        have c2 : ((a + i : Nat) : Int) < (t.size : Int) := by omega
        have c3 : (0 : Int) ≤ wrap64 (7 * (i : Int)) := by rw [wrap_id (by omega) (by omega)]; omega
        have e : Go.bits .or .i64 (n : Int) (shl .i64 (wrap64 (Go.bits .and .u8 (b : Int) 127)) (wrap64 (7 * (i : Int)))) = ((n + b % 128 * 128 ^ i : Nat) : Int) := by
          rw [and127_u8 (by omega) (by omega), show (b : Int) % 128 = ((b % 128 : Nat) : Int) by omega, wrap_id (x := ((b % 128 : Nat) : Int)) (by omega) (by omega), wrap_id (x := 7 * (i : Int)) (by omega) (by omega)]
          exact or_shift i n (b % 128) (by omega) hlt (by omega)
        refine Ev.step (f := fun k => if b < 128 then ((impl_VarText.f k ((n + b % 128 * 128 ^ i : Nat) : Int)).bind fun s => if s.2 = true then (if s.1.toList = (t.extract a (a + i + 1)).toList then some (((n + b % 128 * 128 ^ i : Nat) : Int), ((a + i + 1 : Nat) : Int), true) else some (0, 0, false)) else some (0, 0, false)) else impl_ReadVar.l0 k t (a : Int) ((n + b % 128 * 128 ^ i : Nat) : Int) ((i + 1 : Nat) : Int)) (fun k => ?_) ?_
        · simp only [impl_ReadVar.j1]
          rw [ex0, hm]
          have ex : wrap64 (((a + i : Nat) : Int) + 1) = ((a + i + 1 : Nat) : Int) := by clear e ex0; rw [wrap_id (by omega) (by omega)]; omega
          have es : wrap64 ((i : Int) + 1) = ((i + 1 : Nat) : Int) := by clear e ex0 ex; rw [wrap_id (by omega) (by omega)]; omega
          rw [if_pos (by trivial), if_pos c1, if_pos c2, if_pos c3, e, ex, es]
          clear e ex es ex0
          by_cases h128 : b < 128
          · rw [if_neg (by omega), if_pos h128]
            congr 1
            funext s
            by_cases hs : s.2 = true
            · rw [if_pos hs, if_pos hs, if_pos (by omega), if_pos (by omega), if_pos (by omega)]
              simp only [Int.toNat_natCast]
            · rw [if_neg hs, if_neg hs]
          · rw [if_pos (by omega), if_neg h128]
        · clear e c3 ex0
          by_cases h128 : b < 128
          · simp only [if_pos h128]
            refine Ev.bind (impl_VarText_ev _) ?_
            by_cases hmax : n + b % 128 * 128 ^ i > 1000000000
            · have hv : varTextV ((n + b % 128 * 128 ^ i : Nat) : Int) = ((⟨#[]⟩ : ByteArray), false) := by
                unfold varTextV
                rw [if_neg (by omega)]
              rw [hv, if_pos hmax, if_neg (by simp)]
              exact Ev.now _
            · have hv : varTextV ((n + b % 128 * 128 ^ i : Nat) : Int) = (strOfNums (var7 (n + b % 128 * 128 ^ i)), true) := by
                unfold varTextV
                rw [if_pos (by omega), Int.toNat_natCast]
              rw [hv, if_neg hmax, if_pos rfl]
              by_cases hq : (strOfNums (var7 (n + b % 128 * 128 ^ i))).toList = (t.extract a (a + i + 1)).toList
              · rw [if_pos hq, if_pos hq]
                exact Ev.now _
              · rw [if_neg hq, if_neg hq]
                exact Ev.now _
          · simp only [if_neg h128]
            exact ih (i + 1) _ (by omega) hnew (by omega)
    · rw [if_neg h]
      refine Ev.step (f := fun k => impl_ReadVar.j1 k t (a : Int) (n : Int) (i : Int) false) (fun k => ?_) ?_
      · simp only [impl_ReadVar.l0]
        rw [if_pos (by omega), ex0, decide_eq_false (by omega)]
      · refine Ev.step (f := fun _ => some (0, 0, false)) (fun k => ?_) (Ev.now _)
        simp only [impl_ReadVar.j1]
        rw [if_neg (by simp)]
theorem impl_ReadVar_ev (t : ByteArray) (hn : t.size ≤ 140737488351232) (p : Int) : Ev (fun k => impl_ReadVar.f k t p) (readVarV t p) := by
  unfold impl_ReadVar.f readVarV
  simp only [within_eq, Option.bind_some]
  by_cases h : 0 ≤ p ∧ p ≤ (t.size : Int)
  · obtain ⟨a, rfl⟩ := Int.eq_ofNat_of_zero_le h.1
    rw [decide_eq_true h, if_pos h]
    simp only [↓reduceIte, Int.toNat_natCast]
    exact impl_read_l0 t hn a (by omega) 5 0 0 rfl (by decide) (by omega)
  · rw [decide_eq_false h, if_neg h]
    exact Ev.now _
theorem impl_ReadShort_ev (t : ByteArray) (hn : t.size ≤ 140737488351232) (p : Int) : Ev (fun k => impl_ReadShort.f k t p) (readShortV t p) := by
  unfold impl_ReadShort.f readShortV
  refine Ev.bind (impl_ReadVar_ev t hn p) ?_
  obtain ⟨h0, h1, h2, h3⟩ := readVarV_range t p
  generalize readVarV t p = r at *
  have hT : Ev (fun k => impl_ReadShort.j0 k t r.1 r.2.1 true) ((⟨#[]⟩ : ByteArray), 0, false) := by
    refine Ev.step (f := fun _ => some ((⟨#[]⟩ : ByteArray), 0, false)) (fun k => ?_) (Ev.now _)
    simp only [impl_ReadShort.j0, ↓reduceIte]
  by_cases hr : r.2.2 = true
  · simp only [if_pos hr]
    by_cases g1 : r.1 > 20000
    · simp only [if_pos g1]
      exact hT
    · simp only [if_neg g1]
      rw [wrap_id (x := (t.size : Int) - r.2.1) (by omega) (by omega)]
      by_cases g2 : r.1 > (t.size : Int) - r.2.1
      · rw [if_pos g2, decide_eq_true g2]
        exact hT
      · rw [if_neg g2, decide_eq_false g2]
        refine Ev.step (f := fun _ => some (t.extract r.2.1.toNat (r.2.1 + r.1).toNat, r.2.1 + r.1, true)) (fun k => ?_) (Ev.now _)
        simp only [impl_ReadShort.j0, Bool.false_eq_true, ↓reduceIte]
        rw [wrap_id (by omega) (by omega), if_pos (by omega), if_pos (by omega), if_pos (by omega)]
  · simp only [if_neg hr]
    exact hT
theorem impl_readdec_l0 (t : ByteArray) (hn : t.size ≤ 10) (d : Nat) : ∀ (i n : Nat), i + d = t.size → n < 10 ^ i →
    Ev (fun k => impl_ReadDecimal.l0 k t (n : Int) (i : Int)) (readDec t d i n) := by
  induction d with
  | zero =>
    intro i n hi hlt
    unfold readDec
    have hp : 10 ^ i ≤ 10 ^ 10 := Nat.pow_le_pow_right (by decide) (by omega)
    refine Ev.step (f := fun k => if (n : Int) > 1000000000 then some (0, false) else (impl_Decimal.f k (n : Int)).bind fun s => if s.toList = t.toList then some ((n : Int), true) else some (0, false)) (fun k => ?_) ?_
    · simp only [impl_ReadDecimal.l0]
      rw [if_neg (by omega)]
    · by_cases h : (n : Int) > 1000000000
      · simp only [if_pos h]
        exact Ev.now _
      · simp only [if_neg h]
        refine Ev.bind (impl_Decimal_ev _ (by omega) (by omega)) ?_
        by_cases hq : (decV (n : Int)).toList = t.toList
        · rw [if_pos hq, if_pos hq]
          exact Ev.now _
        · rw [if_neg hq, if_neg hq]
          exact Ev.now _
  | succ d ih =>
    intro i n hi hlt
    unfold readDec
    have hp : 10 ^ i ≤ 10 ^ 9 := Nat.pow_le_pow_right (by decide) (by omega)
    have hb := bt_range t (i : Int)
    have hm := byte_at t i
    rw [hm] at hb
    generalize btN t i = b at hb hm ⊢
    by_cases h1 : b < 48 ∨ b > 57
    · rw [if_pos h1]
      refine Ev.step (f := fun _ => some (0, false)) (fun k => ?_) (Ev.now _)
      simp only [impl_ReadDecimal.l0]
      rw [if_pos (by omega), if_pos (by omega), hm]
      rcases h1 with h1 | h1
      · rw [if_pos (by omega)]
      · rw [if_neg (by omega), if_pos (by omega)]
    · rw [if_neg h1]
      refine Ev.step (f := fun k => impl_ReadDecimal.l0 k t ((10 * n + (b - 48) : Nat) : Int) ((i + 1 : Nat) : Int)) (fun k => ?_) (ih (i + 1) _ (by omega) (by rw [Nat.pow_succ]; omega))
      simp only [impl_ReadDecimal.l0]
      rw [if_pos (by omega), if_pos (by omega), hm, if_neg (by omega), if_neg (by omega)]
      rw [wrap_id (x := (i : Int) + 1) (by omega) (by omega), wrap_id (x := 10 * (n : Int)) (by omega) (by omega), Int.emod_eq_of_lt (a := (b : Int) - 48) (by omega) (by omega), wrap_id (by omega) (by omega)]
      rw [show 10 * (n : Int) + ((b : Int) - 48) = ((10 * n + (b - 48) : Nat) : Int) by omega]
      rfl
theorem impl_ReadDecimal_ev (t : ByteArray) : Ev (fun k => impl_ReadDecimal.f k t) (if t.size ≤ 10 then readDec t t.size 0 0 else (0, false)) := by
  unfold impl_ReadDecimal.f
  simp only [within_eq, Option.bind_some]
  by_cases h : 1 ≤ (t.size : Int) ∧ (t.size : Int) ≤ 10
  · rw [decide_eq_true h, if_pos (by omega)]
    simp only [↓reduceIte]
    exact impl_readdec_l0 t (by omega) t.size 0 0 (by omega) (by decide)
  · rw [decide_eq_false h]
    simp only [Bool.false_eq_true, ↓reduceIte]
    by_cases h2 : t.size ≤ 10
    · have hz : t.size = 0 := by omega
      rw [if_pos h2, hz, readDec_empty t hz]
      exact Ev.now _
    · rw [if_neg h2]
      exact Ev.now _
theorem figs_at (n : Int) (h0 : 0 ≤ n) (h1 : n < 16) : bt (⟨#[48, 49, 50, 51, 52, 53, 54, 55, 56, 57, 97, 98, 99, 100, 101, 102]⟩ : ByteArray) n = figV n := by
  have key : ∀ m : Fin 16, bt (⟨#[48, 49, 50, 51, 52, 53, 54, 55, 56, 57, 97, 98, 99, 100, 101, 102]⟩ : ByteArray) (m.val : Int) = figV (m.val : Int) := by decide
  obtain ⟨m, rfl⟩ := Int.eq_ofNat_of_zero_le h0
  exact key ⟨m, by omega⟩
theorem impl_hex_l0 (t : ByteArray) (hn : t.size ≤ 20000) (d : Nat) : ∀ (acc : List Int) (i : Nat), i + d = t.size → acc.length ≤ 2 * i →
    Ev (fun k => impl_Hex.l0 k t acc (i : Int)) (strOfNums (hexFrom t d acc i), true) := by
  induction d with
  | zero =>
    intro acc i hi hl
    refine Ev.step (f := fun _ => some (strOfNums acc, true)) (fun k => ?_) (Ev.now _)
    simp only [impl_Hex.l0]
    rw [if_neg (by omega)]
  | succ d ih =>
    intro acc i hi hl
    have hbt := bt_range t (i : Int)
    have hm := byte_at t i
    rw [hm] at hbt
    have := ih (acc ++ [figV ((btN t i : Int) / 16), figV ((btN t i : Int) % 16)]) (i + 1) (by omega) (by simp; omega)
    unfold hexFrom
    generalize btN t i = c at hbt hm this ⊢
    have e : Go.bits .and .u8 (c : Int) 15 = (c : Int) % 16 := bits_mask .u8 8 (by decide) wraps_u8 4 (by decide) _ (by omega) (by omega)
    refine Ev.step (f := fun k => impl_Hex.l0 k t (acc ++ [figV ((c : Int) / 16), figV ((c : Int) % 16)]) ((i + 1 : Nat) : Int)) (fun k => ?_) this
    simp only [impl_Hex.l0]
    rw [if_pos (by omega), if_pos (by omega), hm, e, if_pos (by omega), if_pos (by omega), if_pos (by omega), if_pos (by omega), figs_at _ (by omega) (by omega), figs_at _ (by omega) (by omega)]
    simp only [Option.bind_some]
    rw [if_pos (by simp; omega), wrap_id (by omega) (by omega)]
    rfl
theorem impl_Hex_ev (t : ByteArray) (ht : t.size ≤ 140737488351232) : Ev (fun k => impl_Hex.f k t) (hexV t) := by
  unfold impl_Hex.f hexV
  by_cases h2 : (t.size : Int) > 20000
  · simp only [if_pos h2]
    exact Ev.now _
  · have e : wrap64 (2 * (t.size : Int)) = 2 * (t.size : Int) := wrap_id (by omega) (by omega)
    have h3 : 0 ≤ wrap64 (2 * (t.size : Int)) := by rw [e]; omega
    have h4 : (wrap64 (2 * (t.size : Int)) : Int).toNat ≤ 281474976710656 := by rw [e]; omega
    simp only [if_neg h2, if_pos h3, if_pos h4]
    exact impl_hex_l0 t (by omega) t.size [] 0 (by omega) (by simp)
theorem impl_value_ev (c : Nat) (hc : c ≤ 255) : Ev (fun k => impl_figure.f k (c : Int)) (valV c) := by
  unfold impl_figure.f valV
  have hf : ¬ (48 ≤ c ∧ c ≤ 57) → Ev (fun k => impl_figure.j0 k (c : Int) false) (if 97 ≤ c ∧ c ≤ 102 then (c : Int) - 87 else -1) := by
    intro _
    refine Ev.step (f := fun _ => some (if 97 ≤ c ∧ c ≤ 102 then (c : Int) - 87 else -1)) (fun k => ?_) (Ev.now _)
    simp only [impl_figure.j0, Bool.false_eq_true, ↓reduceIte]
    by_cases h : 97 ≤ c ∧ c ≤ 102
    · rw [if_pos (by omega), if_pos (by omega), if_pos h, Int.emod_eq_of_lt (by omega) (by omega)]
      congr 1
      omega
    · rw [if_neg h]
      by_cases h1 : (c : Int) ≥ 97
      · rw [if_pos h1, if_neg (by omega)]
      · rw [if_neg h1]
  by_cases h : 48 ≤ c ∧ c ≤ 57
  · rw [if_pos h]
    have h1 : (c : Int) ≥ 48 := by omega
    simp only [if_pos h1, decide_eq_true (show (c : Int) ≤ 57 by omega)]
    refine Ev.step (f := fun _ => some ((c : Int) - 48)) (fun k => ?_) (Ev.now _)
    simp only [impl_figure.j0, ↓reduceIte]
    rw [Int.emod_eq_of_lt (by omega) (by omega)]
  · rw [if_neg h]
    by_cases h1 : (c : Int) ≥ 48
    · simp only [if_pos h1, decide_eq_false (show ¬ (c : Int) ≤ 57 by omega)]
      exact hf h
    · simp only [if_neg h1]
      exact hf h
theorem impl_unhex_l0 (t : ByteArray) (hn : t.size ≤ 40000) (d : Nat) : ∀ (acc : List Int) (i : Nat), i + 2 * d = t.size → acc.length ≤ i →
    Ev (fun k => impl_Unhex.l0 k t acc (i : Int)) (unhexFrom t d acc i) := by
  induction d with
  | zero =>
    intro acc i hi hl
    refine Ev.step (f := fun _ => some (strOfNums acc, true)) (fun k => ?_) (Ev.now _)
    simp only [impl_Unhex.l0]
    rw [if_neg (by omega)]
  | succ d ih =>
    intro acc i hi hl
    have hbt := bt_range t (i : Int)
    have hm := byte_at t i
    rw [hm] at hbt
    have hbt' := bt_range t ((i + 1 : Nat) : Int)
    have hm' := byte_at t (i + 1)
    rw [hm'] at hbt'
    have := ih (acc ++ [16 * valV (btN t i) + valV (btN t (i + 1))]) (i + 2) (by omega) (by simp; omega)
    unfold unhexFrom
    generalize btN t i = c at hbt hm this ⊢
    generalize btN t (i + 1) = c' at hbt' hm' this ⊢
    have ew : wrap64 ((i : Int) + 1) = ((i + 1 : Nat) : Int) := by rw [wrap_id (by omega) (by omega)]; omega
    have ew2 : wrap64 ((i : Int) + 2) = ((i + 2 : Nat) : Int) := by rw [wrap_id (by omega) (by omega)]; omega
    have p0 : (0 : Int) ≤ ((i + 1 : Nat) : Int) := by omega
    have p1 : ((i + 1 : Nat) : Int) < (t.size : Int) := by omega
    have r1 := valV_range c
    have r2 := valV_range c'
    refine Ev.step (f := fun k => (impl_figure.f k (c : Int)).bind fun t104 => (impl_figure.f k (c' : Int)).bind fun t105 => if t104 < 0 then some (⟨#[]⟩, false) else if t105 < 0 then some (⟨#[]⟩, false) else if acc.length < 140737488355328 then impl_Unhex.l0 k t (acc ++ [(Go.bits .or .i64 (wrap64 (t104 * 16)) t105) % 256]) ((i + 2 : Nat) : Int) else none) (fun k => ?_) ?_
    · simp only [impl_Unhex.l0]
      rw [if_pos (by omega), if_pos (by omega), hm, ew]
      simp only [if_pos p0, if_pos p1, hm', ew2]
    · refine Ev.bind (impl_value_ev c (by omega)) (Ev.bind (impl_value_ev c' (by omega)) ?_)
      by_cases h1 : valV c < 0
      · rw [if_pos (.inl h1)]
        simp only [if_pos h1]
        exact Ev.now _
      · by_cases h2 : valV c' < 0
        · rw [if_pos (.inr h2)]
          simp only [if_neg h1, if_pos h2]
          exact Ev.now _
        · rw [if_neg (by omega)]
          have hl' : acc.length < 140737488355328 := by omega
          simp only [if_neg h1, if_neg h2, if_pos hl']
          rw [wrap_id (x := valV c * 16) (by omega) (by omega), or_join64 4 (by omega) (by omega) (by omega) (by omega) (by omega), Int.emod_eq_of_lt (by omega) (by omega), show valV c * 16 + valV c' = 16 * valV c + valV c' by omega]
          exact this
theorem impl_Unhex_ev (t : ByteArray) (hs : t.size ≤ 140737488351232) : Ev (fun k => impl_Unhex.f k t) (unhexV t) := by
  unfold impl_Unhex.f unhexV
  have ht : Ev (fun k => impl_Unhex.j0 k t true) (⟨#[]⟩, false) := by
    refine Ev.step (f := fun _ => some ((⟨#[]⟩ : ByteArray), false)) (fun k => ?_) (Ev.now _)
    simp only [impl_Unhex.j0, ↓reduceIte]
  by_cases h2 : ((t.size : Int) % 2) = 0
  · simp only [if_pos h2]
    by_cases h1 : (t.size : Int) > 40000
    · rw [if_pos (.inl (by omega)), decide_eq_true h1]
      exact ht
    · rw [if_neg (by omega), decide_eq_false h1]
      refine Ev.step (f := fun k => impl_Unhex.l0 k t [] 0) (fun k => ?_) (impl_unhex_l0 t (by omega) (t.size / 2) [] 0 (by omega) (by simp))
      simp only [impl_Unhex.j0, Bool.false_eq_true, ↓reduceIte]
      rw [if_pos (by rw [wrap_id (by omega) (by omega)]; omega), if_pos (by rw [wrap_id (by omega) (by omega)]; omega)]
      rfl
  · simp only [if_neg h2]
    rw [if_pos (.inr (by omega))]
    exact ht
theorem new_l0 (b : List Int) (d : Nat) : ∀ (h : Int) (i : Nat), i + d = min b.length 4000 → ∃ h', Ev (fun k => spec_l01New.l0 k b h (i : Int)) (b, 0, h') := by
  induction d with
  | zero =>
    intro h i hi
    refine ⟨h, Ev.step (f := fun _ => some (b, 0, h)) (fun k => ?_) (Ev.now _)⟩
    simp only [spec_l01New.l0]
    by_cases h1 : (i : Int) < (b.length : Int)
    · rw [if_pos h1, if_neg (by omega)]
    · rw [if_neg h1]
  | succ d ih =>
    intro h i hi
    obtain ⟨h', e⟩ := ih (Go.bits .and .i64 (wrap64 ((wrap64 ((wrap64 (h * 131)) + (wrap64 (rd b (i : Int))))) + 7)) 1073741823) (i + 1) (by omega)
    refine ⟨h', Ev.step (fun k => ?_) e⟩
    simp only [spec_l01New.l0]
    rw [if_pos (by omega), if_pos (by omega), if_pos (by omega), wrap_id (x := (i : Int) + 1) (by omega) (by omega)]
    rfl
theorem new_ev (b : List Int) : ∃ h, Ev (fun k => spec_l01New.f k b) (b, 0, h) := by
  unfold spec_l01New.f
  exact new_l0 b (min b.length 4000) _ 0 (by omega)
theorem byte_ok (b : List Int) (hb : b.length ≤ 9223372036854775807) (i h : Int) (h0 : 0 ≤ i) (h1 : i ≤ (b.length : Int)) :
    ∃ x i' h', spec_l01Byte.f b i h = some (x, i', h') ∧ (0 ≤ x ∧ x ≤ 255) ∧ 0 ≤ i' ∧ i' ≤ (b.length : Int) := by
  unfold spec_l01Byte.f
  by_cases hl : i < (b.length : Int)
  · rw [if_pos hl, if_pos h0, wrap_id (x := i + 1) (by omega) (by omega)]
    simp only [and255_i64]
    exact ⟨_, _, _, rfl, by omega, by omega, by omega⟩
  · rw [if_neg hl]
    simp only [and255_i64]
    exact ⟨_, _, _, rfl, by omega, by omega, by omega⟩
theorem below_ok (b : List Int) (hb : b.length ≤ 9223372036854775807) (i h n : Int) (h0 : 0 ≤ i) (h1 : i ≤ (b.length : Int)) :
    ∃ x i' h', spec_l01Below.f b i h n = some (x, i', h') ∧ (0 ≤ x ∧ (0 < n → x < n) ∧ (n ≤ 0 → x = 0)) ∧ 0 ≤ i' ∧ i' ≤ (b.length : Int) := by
  unfold spec_l01Below.f
  by_cases hn : n ≤ 0
  · rw [if_pos hn]
    exact ⟨_, _, _, rfl, ⟨by omega, by omega, fun _ => rfl⟩, h0, h1⟩
  · rw [if_neg hn]
    obtain ⟨x, i1, s1, e1, r1, p1, q1⟩ := byte_ok b hb i h h0 h1
    by_cases hs : n ≤ 256
    · rw [if_pos hs, e1]
      simp only [Option.bind_some]
      rw [if_neg (by omega), tmod_pos r1.1]
      have m0 := Int.emod_nonneg x (show n ≠ 0 by omega)
      have m1 := Int.emod_lt_of_pos x (show 0 < n by omega)
      exact ⟨_, _, _, rfl, ⟨m0, fun _ => m1, by omega⟩, p1, q1⟩
    · rw [if_neg hs, e1]
      obtain ⟨y, i2, s2, e2, r2, p2, q2⟩ := byte_ok b hb i1 s1 p1 q1
      obtain ⟨z, i3, s3, e3, r3, p3, q3⟩ := byte_ok b hb i2 s2 p2 q2
      obtain ⟨w, i4, s4, e4, r4, p4, q4⟩ := byte_ok b hb i3 s3 p3 q3
      simp only [Option.bind_some, e2, e3, e4]
      rw [if_neg (by omega), wrap_id (x := x * 16777216) (by omega) (by omega), wrap_id (x := y * 65536) (by omega) (by omega), wrap_id (x := z * 256) (by omega) (by omega), wrap_id (x := x * 16777216 + y * 65536) (by omega) (by omega),
        wrap_id (x := x * 16777216 + y * 65536 + z * 256) (by omega) (by omega), wrap_id (by omega) (by omega), tmod_pos (by omega)]
      have m0 := Int.emod_nonneg (x * 16777216 + y * 65536 + z * 256 + w) (show n ≠ 0 by omega)
      have m1 := Int.emod_lt_of_pos (x * 16777216 + y * 65536 + z * 256 + w) (show 0 < n by omega)
      exact ⟨_, _, _, rfl, ⟨m0, fun _ => m1, by omega⟩, p4, q4⟩
theorem pickInt_ok (b : List Int) (hb : b.length ≤ 9223372036854775807) (i h : Int) (h0 : 0 ≤ i) (h1 : i ≤ (b.length : Int)) (l : List Int) (hl : 0 < l.length) :
    ∃ x i' h', spec_l01PickInt.f b i h l = some (x, i', h') ∧ x ∈ l ∧ 0 ≤ i' ∧ i' ≤ (b.length : Int) := by
  unfold spec_l01PickInt.f
  obtain ⟨x, i1, s1, e1, r1, p1, q1⟩ := below_ok b hb i h (l.length : Int) h0 h1
  rw [e1]
  simp only [Option.bind_some]
  have hx := r1.2.1 (by omega)
  obtain ⟨j, rfl⟩ := Int.eq_ofNat_of_zero_le r1.1
  rw [if_pos (by omega), if_pos (by omega)]
  refine ⟨_, _, _, rfl, ?_, p1, q1⟩
  have e0 : rd l (j : Int) = l[j]'(by omega) := getD_at _ l j (by omega)
  rw [e0]
  exact List.getElem_mem _
theorem once_ok (b : List Int) (hb : b.length ≤ 9223372036854775807) (i h : Int) (h0 : 0 ≤ i) (h1 : i ≤ (b.length : Int)) (n : Int) :
    ∃ x i' h', spec_l01Once.f b i h n = some (x, i', h') ∧ 0 ≤ i' ∧ i' ≤ (b.length : Int) := by
  unfold spec_l01Once.f
  obtain ⟨x, i1, s1, e1, r1, p1, q1⟩ := below_ok b hb i h n h0 h1
  rw [e1]
  exact ⟨_, _, _, rfl, p1, q1⟩
theorem number_ok (b : List Int) (hb : b.length ≤ 9223372036854775807) (i h : Int) (h0 : 0 ≤ i) (h1 : i ≤ (b.length : Int)) :
    ∃ x i' h', spec_l01Number.f b i h = some (x, i', h') ∧ (-9223372036854775808 ≤ x ∧ x ≤ 9223372036854775807) ∧ 0 ≤ i' ∧ i' ≤ (b.length : Int) := by
  unfold spec_l01Number.f
  obtain ⟨x, i1, s1, e1, r1, p1, q1⟩ := below_ok b hb i h 4 h0 h1
  rw [e1]
  simp only [Option.bind_some]
  by_cases hx : x = 0
  · rw [if_pos hx]
    obtain ⟨y, i2, s2, e2, r2, p2, q2⟩ := pickInt_ok b hb i1 s1 p1 q1 ([(-1), 0, 127, 128, 16383, 16384, 1000000000, 1000000001, 9223372036854775807, (-9223372036854775808)] : List Int) (by decide)
    rw [e2]
    refine ⟨y, i2, s2, rfl, ?_, p2, q2⟩
    simp only [List.mem_cons, List.not_mem_nil, or_false] at r2
    rcases r2 with rfl | rfl | rfl | rfl | rfl | rfl | rfl | rfl | rfl | rfl <;> exact ⟨by decide, by decide⟩
  · rw [if_neg hx]
    by_cases hx1 : x = 1
    · rw [if_pos hx1]
      obtain ⟨y, i2, s2, e2, r2, p2, q2⟩ := below_ok b hb i1 s1 1000000000 p1 q1
      rw [e2]
      have := r2.2.1 (by decide)
      exact ⟨_, _, _, rfl, ⟨by omega, by omega⟩, p2, q2⟩
    · rw [if_neg hx1]
      obtain ⟨y, i2, s2, e2, r2, p2, q2⟩ := below_ok b hb i1 s1 400 p1 q1
      rw [e2]
      have := r2.2.1 (by decide)
      exact ⟨_, _, _, rfl, ⟨by omega, by omega⟩, p2, q2⟩
theorem text_l0 (b : List Int) (hb : b.length ≤ 9223372036854775807) (n : Int) (hn : n ≤ 5000) (d : Nat) : ∀ (acc : List Int) (j : Nat) (i h : Int), (n : Int) ≤ j + d → 0 ≤ i → i ≤ (b.length : Int) → acc.length = j → j ≤ n.toNat →
    ∃ s i' h', Ev (fun k => spec_l01Text.l0 k n acc (j : Int) b i h) (s, i', h') ∧ s.size = n.toNat ∧ 0 ≤ i' ∧ i' ≤ (b.length : Int) := by
  induction d with
  | zero =>
    intro acc j i h hj h0 h1 hl hjn
    refine ⟨strOfNums acc, i, h, Ev.step (f := fun _ => some (strOfNums acc, i, h)) (fun k => ?_) (Ev.now _), by rw [strOfNums_size]; omega, h0, h1⟩
    simp only [spec_l01Text.l0]
    rw [if_neg (by omega)]
  | succ d ih =>
    intro acc j i h hj h0 h1 hl hjn
    by_cases hlt : (j : Int) < n
    · obtain ⟨x, i1, s1, e1, r1, p1, q1⟩ := byte_ok b hb i h h0 h1
      obtain ⟨s, i2, s2, e, hs, p, q⟩ := ih (acc ++ [x % 256]) (j + 1) i1 s1 (by omega) p1 q1 (by simp [hl]) (by omega)
      refine ⟨s, i2, s2, Ev.step (fun k => ?_) e, hs, p, q⟩
      simp only [spec_l01Text.l0]
      rw [if_pos hlt, e1]
      simp only [Option.bind_some]
      rw [if_pos (by omega), wrap_id (by omega) (by omega)]
      rfl
    · refine ⟨strOfNums acc, i, h, Ev.step (f := fun _ => some (strOfNums acc, i, h)) (fun k => ?_) (Ev.now _), by rw [strOfNums_size]; omega, h0, h1⟩
      simp only [spec_l01Text.l0]
      rw [if_neg hlt]
theorem text_ok (b : List Int) (hb : b.length ≤ 9223372036854775807) (i h n : Int) (h0 : 0 ≤ i) (h1 : i ≤ (b.length : Int)) :
    ∃ s i' h', Ev (fun k => spec_l01Text.f k b i h n) (s, i', h') ∧ (s.size ≤ 5000 ∧ s.size ≤ n.toNat) ∧ 0 ≤ i' ∧ i' ≤ (b.length : Int) := by
  unfold spec_l01Text.f
  have hj : ∀ m : Int, m ≤ 5000 → ∃ s i' h', Ev (fun k => spec_l01Text.j0 k m b i h) (s, i', h') ∧ s.size = m.toNat ∧ 0 ≤ i' ∧ i' ≤ (b.length : Int) := by
    intro m hm
    obtain ⟨s, i', h', e, hs, p, q⟩ := text_l0 b hb m hm m.toNat [] 0 i h (by omega) h0 h1 rfl (by omega)
    refine ⟨s, i', h', Ev.step (fun k => ?_) e, hs, p, q⟩
    simp only [spec_l01Text.j0]
    rfl
  by_cases hn : n > 5000
  · simp only [if_pos hn]
    obtain ⟨s, i', h', e, hs, p, q⟩ := hj 5000 (by omega)
    exact ⟨s, i', h', e, by omega, p, q⟩
  · simp only [if_neg hn]
    obtain ⟨s, i', h', e, hs, p, q⟩ := hj n (by omega)
    exact ⟨s, i', h', e, by omega, p, q⟩
theorem long_l0 (a x : Int) (h : a ≤ 281474976710656) (d : Nat) : ∀ (l : List Int) (i : Nat), (a : Int) ≤ i + d → (l.length : Int) = a → ∃ s, Ev (fun k => spec_l01Long.l0 k a x l (i : Int)) s ∧ (s.size : Int) = a := by
  induction d with
  | zero =>
    intro l i hi hl
    refine ⟨strOfNums l, Ev.step (f := fun _ => some (strOfNums l)) (fun k => ?_) (Ev.now _), by rw [strOfNums_size]; exact hl⟩
    simp only [spec_l01Long.l0]
    rw [if_neg (by omega)]
  | succ d ih =>
    intro l i hi hl
    by_cases hlt : (i : Int) < a
    · obtain ⟨s, e, hs⟩ := ih (l.set i x) (i + 1) (by omega) (by rw [List.length_set]; exact hl)
      refine ⟨s, Ev.step (fun k => ?_) e, hs⟩
      simp only [spec_l01Long.l0]
      rw [if_pos hlt, if_pos (by omega), if_pos (by omega), wrap_id (by omega) (by omega), Int.toNat_natCast]
      rfl
    · refine ⟨strOfNums l, Ev.step (f := fun _ => some (strOfNums l)) (fun k => ?_) (Ev.now _), by rw [strOfNums_size]; exact hl⟩
      simp only [spec_l01Long.l0]
      rw [if_neg hlt]
theorem long_ok (a x : Int) (h0 : 0 ≤ a) (h : a ≤ 281474976710656) : ∃ s, Ev (fun k => spec_l01Long.f k a x) s ∧ (s.size : Int) = a := by
  unfold spec_l01Long.f
  have h2 : a.toNat ≤ 281474976710656 := by omega
  simp only [if_pos h0, if_pos h2]
  exact long_l0 a x h a.toNat _ 0 (by omega) (by rw [List.length_replicate]; omega)
theorem drawVarText_ok (b : List Int) (hb : b.length ≤ 9223372036854775807) : ∃ n, Ev (fun k => spec_DrawVarText.f k b) n ∧ (-9223372036854775808 ≤ n ∧ n ≤ 9223372036854775807) := by
  unfold spec_DrawVarText.f
  obtain ⟨h, e⟩ := new_ev b
  obtain ⟨x, i1, s1, e1, r1, p1, q1⟩ := number_ok b hb 0 h (by omega) (by omega)
  refine ⟨x, Ev.bind e ?_, r1⟩
  simp only [e1, Option.bind_some]
  exact Ev.now _
theorem drawHex_ok (b : List Int) (hb : b.length ≤ 9223372036854775807) : ∃ s, Ev (fun k => spec_DrawHex.f k b) s ∧ s.size ≤ 20001 := by
  unfold spec_DrawHex.f
  obtain ⟨h, e⟩ := new_ev b
  obtain ⟨x, i1, s1, e1, p1, q1⟩ := once_ok b hb 0 h (by omega) (by omega) 60
  have main : ∃ s, Ev (fun k => (spec_l01Once.f b 0 h 60).bind fun bt181 => (if bt181.1 = true then ((spec_l01Below.f b bt181.2.1 bt181.2.2 2).bind fun bt184 => ((spec_l01Long.f k (wrap64 (20000 + bt184.1)) 200).bind fun t187 => (some t187))) else ((spec_l01Below.f b bt181.2.1 bt181.2.2 30).bind fun bt188 => ((spec_l01Text.f k b bt188.2.1 bt188.2.2 bt188.1).bind fun bt191 => (some bt191.1))))) s ∧ s.size ≤ 20001 := by
    simp only [e1, Option.bind_some]
    cases x with
    | true =>
      simp only [↓reduceIte]
      obtain ⟨y, i2, s2, e2, r2, p2, q2⟩ := below_ok b hb i1 s1 2 p1 q1
      have := r2.2.1 (by decide)
      simp only [e2, Option.bind_some]
      rw [wrap_id (by omega) (by omega)]
      obtain ⟨s, e3, hs⟩ := long_ok (20000 + y) 200 (by omega) (by omega)
      exact ⟨s, Ev.bind e3 (Ev.now _), by omega⟩
    | false =>
      simp only [Bool.false_eq_true, ↓reduceIte]
      obtain ⟨y, i2, s2, e2, r2, p2, q2⟩ := below_ok b hb i1 s1 30 p1 q1
      simp only [e2, Option.bind_some]
      obtain ⟨s, i3, s3, e3, hs, _⟩ := text_ok b hb i2 s2 y p2 q2
      exact ⟨s, Ev.bind e3 (Ev.now _), by omega⟩
  obtain ⟨s, es, hs⟩ := main
  exact ⟨s, Ev.bind e es, hs⟩

theorem fn_j2 (b : List Int) (n : Nat) (s t : ByteArray) (ht : t.size ≤ 300) (hs : s.size ≤ 100) : Ev (fun k => laws_FnNumbers.j2 k (n : Int) s true (n : Int) (((1 + s.size : Nat)) : Int) true (n : Int) true t) true := by
  have hw : wrap64 ((s.size : Int) + 1) = ((1 + s.size : Nat) : Int) := by rw [wrap_id (by omega) (by omega)]; omega
  have e1 : shortV t = (strOfNums (var7 t.size) ++ t, true) := by unfold shortV; rw [if_neg (by omega)]
  have hv : (strOfNums (var7 t.size) ++ t).size ≤ 1000 := by
    rw [ByteArray.size_append, strOfNums_size]
    have := var7_length 4 t.size (by omega)
    omega
  have e2 : hexV t = (strOfNums (hexFrom t t.size [] 0), true) := by unfold hexV; rw [if_neg (by omega)]
  have e3 := hex_back t (by omega)
  rw [e2] at e3
  have hx := impl_Hex_ev t (by omega)
  rw [e2] at hx
  have h1 := impl_ShortText_ev t
  rw [e1] at h1
  have h2 := impl_ReadShort_ev (strOfNums (var7 t.size) ++ t) (by omega) 0
  rw [readShort_back t (by omega)] at h2
  have hl : (hexFrom t t.size [] 0).length ≤ 1000 := by
    rw [hexFrom_list t t.size [] 0 (by omega), List.nil_append, hexL_length, List.drop_zero, bytesOf_length]
    omega
  have h4 := impl_Unhex_ev (strOfNums (hexFrom t t.size [] 0)) (by rw [strOfNums_size]; omega)
  rw [e3] at h4
  refine Ev.step (fun k => by rw [laws_FnNumbers.j2]) (Ev.bind h1 (Ev.bind h2 (Ev.bind hx (Ev.bind h4 ?_))))
  simp only [↓reduceIte, hw, beq_self_eq_true]
  exact Ev.now _
theorem fn_j1 (b : List Int) (hb : b.length ≤ 9223372036854775807) (n : Nat) (hn : n ≤ 1000000000) : Ev (fun k => laws_FnNumbers.j1 k b (n : Int)) true := by
  have h1 := impl_VarText_ev (n : Int)
  have e1 : varTextV (n : Int) = (strOfNums (var7 n), true) := by unfold varTextV; rw [if_pos (by omega), Int.toNat_natCast]
  rw [e1] at h1
  have hl := var7_length 4 n (by omega)
  have hs : (strOfNums (var7 n)).size = (var7 n).length := strOfNums_size _
  have hb7 : bytesOf (strOfNums (var7 n)) = var7 n := bo_str (var7_bytes 4 n (by omega))
  generalize strOfNums (var7 n) = s at h1 hs hb7
  have hz1 : 1 + s.size ≤ 9223372036854775807 := by omega
  have hz0 : ((⟨#[120]⟩ : ByteArray) ++ s).size = 1 + s.size := by rw [ByteArray.size_append]; rfl
  have hz2 : ((⟨#[120]⟩ : ByteArray) ++ s).size + 1 ≤ 9223372036854775807 := by omega
  have h2 := impl_ReadVar_ev (((⟨#[120]⟩ : ByteArray) ++ s) ++ (⟨#[121]⟩ : ByteArray)) (by rw [ByteArray.size_append, hz0]; show 1 + s.size + 1 ≤ _; omega) 1
  have e2 := readVar_back (((⟨#[120]⟩ : ByteArray) ++ s) ++ (⟨#[121]⟩ : ByteArray)) 1 n hn [121] (by
    rw [bo_app, bo_app, hb7]
    rfl)
  rw [show ((1 : Nat) : Int) = 1 from rfl] at e2
  rw [e2, ← hs] at h2
  have h3 := impl_Decimal_ev (n : Int) (by omega) (by omega)
  obtain ⟨d0, d1⟩ := readDec_back n hn
  have h4 := impl_ReadDecimal_ev (decV (n : Int))
  rw [if_pos d0, d1] at h4
  obtain ⟨t, h5, _⟩ := drawHex_ok b hb
  refine Ev.step (fun k => by rw [laws_FnNumbers.j1]) (Ev.bind h1 ?_)
  simp only [if_pos hz1, if_pos hz2]
  refine Ev.bind h2 (Ev.bind h3 (Ev.bind h4 (Ev.bind h5 ?_)))
  by_cases ht : (t.size : Int) > 300
  · simp only [if_pos ht]
    exact fn_j2 b n s _ (by decide) (by omega)
  · simp only [if_neg ht]
    exact fn_j2 b n s _ (by omega) (by omega)
theorem FnNumbers : laws_FnNumbers.Pure := by
  intro b hb _ _
  have hb' : b.length ≤ 9223372036854775807 := by simpa [maxLen] using hb
  refine Ev.rounds (g := fun k => laws_FnNumbers.f k b) ?_
  unfold laws_FnNumbers.f laws_big.f
  simp only [Option.bind_some]
  by_cases hbig : (b.length : Int) > 1048576
  · simp only [decide_eq_true hbig, ↓reduceIte]
    exact Ev.now _
  · simp only [decide_eq_false hbig, Bool.false_eq_true, ↓reduceIte]
    obtain ⟨n, e, _⟩ := drawVarText_ok b hb'
    have hj : ∀ (n : Int) (t : Bool), (t = false → 0 ≤ n ∧ n ≤ 1000000000) → Ev (fun k => laws_FnNumbers.j0 k b n t) true := by
      intro n t ht
      cases t with
      | true =>
        refine Ev.step (f := fun k => laws_FnNumbers.j1 k b ((12345 : Nat) : Int)) (fun k => ?_) (fn_j1 b hb' 12345 (by decide))
        simp only [laws_FnNumbers.j0, ↓reduceIte]
        rfl
      | false =>
        obtain ⟨h0, h1⟩ := ht rfl
        obtain ⟨m, rfl⟩ := Int.eq_ofNat_of_zero_le h0
        refine Ev.step (f := fun k => laws_FnNumbers.j1 k b (m : Int)) (fun k => ?_) (fn_j1 b hb' m (by omega))
        simp only [laws_FnNumbers.j0, Bool.false_eq_true, ↓reduceIte]
    refine Ev.bind e ?_
    by_cases h0 : n < 0
    · simp only [if_pos h0]
      exact hj n true (fun h => by cases h)
    · simp only [if_neg h0]
      exact hj n _ (fun h => by have := of_decide_eq_false h; omega)

end Go.Proofs.Ytdabhhlfnfjojaa.Pure
