/- The program's ReadShort returns what the reference's returns, for every text and every place; the only bound is the row's own on a text's size. -/
import Derived.Test.YtolkoidoablphaaPFnExactReadShortx1
import Derived.Test.YtolkoidoablphaaPFnExactReadShortx2
import Derived.Test.YtolkoidoablphaaLib
namespace Go.Proofs.Ytolkoidoablphaa.Pure
open Go.RowKit Go.Proofs.Ytolkoidoablphaa.PFnExactReadShort Go.Proofs.YtolkoidoablphaaW.PrintWords Go.Proofs.YtolkoidoablphaaW.PrintLast Go.Proofs.Ytolkoidoablphaa.Lib
set_option linter.unusedVariables false
set_option linter.unusedSimpArgs false

theorem l01In_eq (x a b : Int) : spec_l01In.f x a b = some (decide (a ≤ x ∧ x ≤ b)) := by
  unfold spec_l01In.f
  by_cases h : a ≤ x
  · rw [if_pos h]; simp [h]
  · rw [if_neg h]; simp [h]
theorem within_eq (x a b : Int) : impl_within.f x a b = some (decide (a ≤ x ∧ x ≤ b)) := by
  unfold impl_within.f
  by_cases h : a ≤ x
  · rw [if_pos h]; simp [h]
  · rw [if_neg h]; simp [h]
theorem spec_var_l0 (d : Nat) : ∀ (n : Nat) (xs : List Int), n < 128 ^ d → xs.length + d ≤ 1000 → n ≤ 9223372036854775807 →
    Ev (fun k => spec_l01Var.l0 k (n : Int) xs) (strOfNums (xs ++ var7 n)) := by
  induction d with
  | zero =>
    intro n xs h hl hn
    rw [Nat.pow_zero] at h
    rw [var7_small (by omega)]
    refine Ev.step (f := fun _ => some (strOfNums (xs ++ [(n : Int)]))) (fun k => ?_) (Ev.now _)
    simp only [spec_l01Var.l0]
    rw [if_neg (by omega), if_pos (by omega), Int.emod_eq_of_lt (by omega) (by omega)]
  | succ d ih =>
    intro n xs h hl hn
    by_cases hb : n > 127
    · rw [var7_big hb]
      have hd : n / 128 < 128 ^ d := by
        apply Nat.div_lt_of_lt_mul
        rw [Nat.pow_succ] at h
        omega
      have this := ih (n / 128) (xs ++ [((n % 128 + 128 : Nat) : Int)]) hd (by simp; omega) (by omega)
      rw [List.append_assoc] at this
      refine Ev.step (f := fun k => spec_l01Var.l0 k ((n / 128 : Nat) : Int) (xs ++ [((n % 128 + 128 : Nat) : Int)])) (fun k => ?_) this
      simp only [spec_l01Var.l0]
      rw [if_pos (by omega), if_pos (by omega), tdiv_pos (by omega), tmod_pos (by omega), wrap_id (by omega) (by omega), wrap_id (by omega) (by omega), Int.emod_eq_of_lt (by omega) (by omega)]
      rfl
    · rw [var7_small hb]
      refine Ev.step (f := fun _ => some (strOfNums (xs ++ [(n : Int)]))) (fun k => ?_) (Ev.now _)
      simp only [spec_l01Var.l0]
      rw [if_neg (by omega), if_pos (by omega), Int.emod_eq_of_lt (by omega) (by omega)]
theorem spec_l01Var_ev (n : Nat) (hn : n ≤ 9223372036854775807) : Ev (fun k => spec_l01Var.f k (n : Int)) (strOfNums (var7 n)) :=
  spec_var_l0 10 n [] (by omega) (by simp) hn
theorem impl_var_l0 (d : Nat) : ∀ (n : Nat) (xs : List Int), n < 128 ^ d → xs.length + d ≤ 1000 → n ≤ 9223372036854775807 →
    Ev (fun k => impl_VarText.l0 k (n : Int) xs) (strOfNums (xs ++ var7 n), true) := by
  induction d with
  | zero =>
    intro n xs h hl hn
    rw [Nat.pow_zero] at h
    rw [var7_small (by omega)]
    refine Ev.step (f := fun _ => some (strOfNums (xs ++ [(n : Int)]), true)) (fun k => ?_) (Ev.now _)
    simp only [impl_VarText.l0]
    rw [if_neg (by omega), if_pos (by omega), Int.emod_eq_of_lt (by omega) (by omega)]
  | succ d ih =>
    intro n xs h hl hn
    by_cases hb : n > 127
    · rw [var7_big hb]
      have hd : n / 128 < 128 ^ d := by
        apply Nat.div_lt_of_lt_mul
        rw [Nat.pow_succ] at h
        omega
      have this := ih (n / 128) (xs ++ [((n % 128 + 128 : Nat) : Int)]) hd (by simp; omega) (by omega)
      rw [List.append_assoc] at this
      refine Ev.step (f := fun k => impl_VarText.l0 k ((n / 128 : Nat) : Int) (xs ++ [((n % 128 + 128 : Nat) : Int)])) (fun k => ?_) this
      simp only [impl_VarText.l0]
      rw [if_pos (by omega), if_pos (by omega), and127 (by omega) (by omega), or128 (by omega) (by omega), Int.emod_eq_of_lt (by omega) (by omega)]
      rfl
    · rw [var7_small hb]
      refine Ev.step (f := fun _ => some (strOfNums (xs ++ [(n : Int)]), true)) (fun k => ?_) (Ev.now _)
      simp only [impl_VarText.l0]
      rw [if_neg (by omega), if_pos (by omega), Int.emod_eq_of_lt (by omega) (by omega)]
theorem impl_VarText_ev (a : Int) : Ev (fun k => impl_VarText.f k a) (varTextV a) := by
  unfold impl_VarText.f varTextV
  simp only [within_eq, Option.bind_some]
  by_cases h : 0 ≤ a ∧ a ≤ 1000000000
  · obtain ⟨n, rfl⟩ := Int.eq_ofNat_of_zero_le h.1
    rw [decide_eq_true h, if_pos h]
    simp only [↓reduceIte, Int.toNat_natCast]
    exact impl_var_l0 10 n [] (by omega) (by simp) (by omega)
  · rw [decide_eq_false h, if_neg h]
    exact Ev.now _
theorem spec_read_l0 (t : ByteArray) (hn : t.size ≤ 140737488351232) (a : Nat) (ha : a ≤ t.size) (d : Nat) : ∀ (i n : Nat), i + d = 5 → n < 128 ^ i → a + i ≤ t.size →
    Ev (fun k => spec_ReadVar.l0 k t (a : Int) (n : Int) ((128 ^ i : Nat) : Int) ((a + i : Nat) : Int)) (readV t a d i n) := by
  induction d with
  | zero =>
    intro i n hi hlt hl
    obtain rfl : i = 5 := by omega
    unfold readV
    refine Ev.step (f := fun k => spec_ReadVar.j1 k t (a : Int) (n : Int) ((128 ^ 5 : Nat) : Int) ((a + 5 : Nat) : Int) false) (fun k => ?_) ?_
    · simp only [spec_ReadVar.l0]
      by_cases h : ((a + 5 : Nat) : Int) < (t.size : Int)
      · rw [if_pos h, wrap_id (by omega) (by omega), decide_eq_false (by omega)]
      · rw [if_neg h]
    · refine Ev.step (f := fun _ => some (0, 0, false)) (fun k => ?_) (Ev.now _)
      simp only [spec_ReadVar.j1]
      rw [if_neg (by simp)]
  | succ d ih =>
    intro i n hi hlt hl
    unfold readV
    by_cases h : a + i < t.size
    · rw [if_pos h]
      refine Ev.step (f := fun k => spec_ReadVar.j1 k t (a : Int) (n : Int) ((128 ^ i : Nat) : Int) ((a + i : Nat) : Int) true) (fun k => ?_) ?_
      · simp only [spec_ReadVar.l0]
        rw [if_pos (by omega), wrap_id (by omega) (by omega), decide_eq_true (by omega)]
      · have hb := bt_range t ((a + i : Nat) : Int)
        have hp5 : 128 ^ i ≤ 128 ^ 4 := Nat.pow_le_pow_right (by decide) (by omega)
        have hp1 : 1 ≤ 128 ^ i := Nat.one_le_two_pow_128 i
        have hm := byte_at t (a + i)
        rw [hm] at hb
        generalize btN t (a + i) = b at hb hm ⊢
        have hnew : n + b % 128 * 128 ^ i < 128 ^ (i + 1) := by
          rw [Nat.pow_succ]
          have := Nat.mul_le_mul_right (128 ^ i) (show b % 128 ≤ 127 by omega)
          omega
        have c1 : (0 : Int) ≤ ((a + i : Nat) : Int) := by omega
        have c2 : ((a + i : Nat) : Int) < (t.size : Int) := by omega
        have e : wrap64 ((n : Int) + wrap64 (Int.tmod (wrap64 (b : Int)) 128 * ((128 ^ i : Nat) : Int))) = ((n + b % 128 * 128 ^ i : Nat) : Int) := by
          have hc : (b % 128 : Nat) * 128 ^ i ≤ 127 * 128 ^ i := Nat.mul_le_mul_right _ (by omega)
          rw [wrap_id (x := (b : Int)) (by omega) (by omega), tmod_pos (by omega), show (b : Int) % 128 = ((b % 128 : Nat) : Int) by omega, ← Int.natCast_mul, wrap_id (x := ((b % 128 * 128 ^ i : Nat) : Int)) (by omega) (by omega), wrap_id (by omega) (by omega)]
          omega
        have hbig : 128 ^ (i + 1) ≤ 128 ^ 5 := Nat.pow_le_pow_right (by decide) (by omega)
        refine Ev.step (f := fun k => if b < 128 then (if n + b % 128 * 128 ^ i > 1000000000 then some (0, 0, false) else (spec_l01Var.f k ((n + b % 128 * 128 ^ i : Nat) : Int)).bind fun s => if s.toList = (t.extract a (a + i + 1)).toList then some (((n + b % 128 * 128 ^ i : Nat) : Int), ((a + i + 1 : Nat) : Int), true) else some (0, 0, false)) else spec_ReadVar.l0 k t (a : Int) ((n + b % 128 * 128 ^ i : Nat) : Int) ((128 ^ (i + 1) : Nat) : Int) ((a + (i + 1) : Nat) : Int)) (fun k => ?_) ?_
        · simp only [spec_ReadVar.j1]
          rw [hm]
          have ex : wrap64 (((a + i : Nat) : Int) + 1) = ((a + i + 1 : Nat) : Int) := by clear e; rw [wrap_id (by omega) (by omega)]; omega
          have es : wrap64 (((128 ^ i : Nat) : Int) * 128) = ((128 ^ (i + 1) : Nat) : Int) := by
            clear e ex
            rw [Nat.pow_succ, Int.natCast_mul, wrap_id (by omega) (by omega)]
            rfl
          rw [if_pos (by trivial), if_pos c1, if_pos c2, e, ex, es]
          clear e ex es
          by_cases h128 : b < 128
          · rw [if_pos (by omega), if_pos h128]
            by_cases hmax : n + b % 128 * 128 ^ i > 1000000000
            · rw [if_pos (by omega), if_pos hmax]
            · rw [if_neg (by omega), if_neg hmax]
              congr 1
              funext s
              rw [if_pos (by omega), if_pos (by omega), if_pos (by omega)]
              simp only [Int.toNat_natCast]
          · rw [if_neg (by omega), if_neg h128]
            rfl
        · clear e
          by_cases h128 : b < 128
          · simp only [if_pos h128]
            by_cases hmax : n + b % 128 * 128 ^ i > 1000000000
            · simp only [if_pos hmax]
              exact Ev.now _
            · simp only [if_neg hmax]
              refine Ev.bind (spec_l01Var_ev _ (by omega)) ?_
              by_cases hq : (strOfNums (var7 (n + b % 128 * 128 ^ i))).toList = (t.extract a (a + i + 1)).toList
              · rw [if_pos hq, if_pos hq]
                exact Ev.now _
              · rw [if_neg hq, if_neg hq]
                exact Ev.now _
          · simp only [if_neg h128]
            exact ih (i + 1) _ (by omega) hnew (by omega)
    · rw [if_neg h]
      refine Ev.step (f := fun k => spec_ReadVar.j1 k t (a : Int) (n : Int) ((128 ^ i : Nat) : Int) ((a + i : Nat) : Int) false) (fun k => ?_) ?_
      · simp only [spec_ReadVar.l0]
        rw [if_neg (by omega)]
      · refine Ev.step (f := fun _ => some (0, 0, false)) (fun k => ?_) (Ev.now _)
        simp only [spec_ReadVar.j1]
        rw [if_neg (by simp)]
theorem spec_ReadVar_ev (t : ByteArray) (hn : t.size ≤ 140737488351232) (p : Int) : Ev (fun k => spec_ReadVar.f k t p) (readVarV t p) := by
  unfold spec_ReadVar.f readVarV
  simp only [l01In_eq, Option.bind_some]
  by_cases h : 0 ≤ p ∧ p ≤ (t.size : Int)
  · obtain ⟨a, rfl⟩ := Int.eq_ofNat_of_zero_le h.1
    rw [decide_eq_true h, if_pos h]
    simp only [↓reduceIte, Int.toNat_natCast]
    exact spec_read_l0 t hn a (by omega) 5 0 0 rfl (by decide) (by omega)
  · rw [decide_eq_false h, if_neg h]
    exact Ev.now _
theorem impl_read_l0 (t : ByteArray) (hn : t.size ≤ 140737488351232) (a : Nat) (ha : a ≤ t.size) (d : Nat) : ∀ (i n : Nat), i + d = 5 → n < 128 ^ i → a + i ≤ t.size →
    Ev (fun k => impl_ReadVar.l0 k t (a : Int) (n : Int) (i : Int)) (readV t a d i n) := by
  induction d with
  | zero =>
    intro i n hi hlt hl
    obtain rfl : i = 5 := by omega
    unfold readV
    refine Ev.step (f := fun k => impl_ReadVar.j1 k t (a : Int) (n : Int) ((5 : Nat) : Int) false) (fun k => ?_) ?_
    · simp only [impl_ReadVar.l0]
      rw [if_neg (by omega)]
    · refine Ev.step (f := fun _ => some (0, 0, false)) (fun k => ?_) (Ev.now _)
      simp only [impl_ReadVar.j1]
      rw [if_neg (by simp)]
  | succ d ih =>
    intro i n hi hlt hl
    unfold readV
    have ex0 : wrap64 ((a : Int) + (i : Int)) = ((a + i : Nat) : Int) := by rw [wrap_id (by omega) (by omega)]; omega
    by_cases h : a + i < t.size
    · rw [if_pos h]
      refine Ev.step (f := fun k => impl_ReadVar.j1 k t (a : Int) (n : Int) (i : Int) true) (fun k => ?_) ?_
      · simp only [impl_ReadVar.l0]
        rw [if_pos (by omega), ex0, decide_eq_true (by omega)]
      · have hb := bt_range t ((a + i : Nat) : Int)
        have hp5 : 128 ^ i ≤ 128 ^ 4 := Nat.pow_le_pow_right (by decide) (by omega)
        have hp1 : 1 ≤ 128 ^ i := Nat.one_le_two_pow_128 i
        have hm := byte_at t (a + i)
        rw [hm] at hb
        generalize btN t (a + i) = b at hb hm ⊢
        have hnew : n + b % 128 * 128 ^ i < 128 ^ (i + 1) := by
          rw [Nat.pow_succ]
          have := Nat.mul_le_mul_right (128 ^ i) (show b % 128 ≤ 127 by omega)
          omega
        have hbig : 128 ^ (i + 1) ≤ 128 ^ 5 := Nat.pow_le_pow_right (by decide) (by omega)
        have c1 : (0 : Int) ≤ ((a + i : Nat) : Int) := by omega
        have c2 : ((a + i : Nat) : Int) < (t.size : Int) := by omega
        have c3 : (0 : Int) ≤ wrap64 (7 * (i : Int)) := by rw [wrap_id (by omega) (by omega)]; omega
        have e : Go.bits .or .i64 (n : Int) (shl .i64 (wrap64 (Go.bits .and .u8 (b : Int) 127)) (wrap64 (7 * (i : Int)))) = ((n + b % 128 * 128 ^ i : Nat) : Int) := by
          rw [and127_u8 (by omega) (by omega), show (b : Int) % 128 = ((b % 128 : Nat) : Int) by omega, wrap_id (x := ((b % 128 : Nat) : Int)) (by omega) (by omega), wrap_id (x := 7 * (i : Int)) (by omega) (by omega)]
          exact or_shift i n (b % 128) (by omega) hlt (by omega)
        refine Ev.step (f := fun k => if b < 128 then ((impl_VarText.f k ((n + b % 128 * 128 ^ i : Nat) : Int)).bind fun s => if s.2 = true then (if s.1.toList = (t.extract a (a + i + 1)).toList then some (((n + b % 128 * 128 ^ i : Nat) : Int), ((a + i + 1 : Nat) : Int), true) else some (0, 0, false)) else some (0, 0, false)) else impl_ReadVar.l0 k t (a : Int) ((n + b % 128 * 128 ^ i : Nat) : Int) ((i + 1 : Nat) : Int)) (fun k => ?_) ?_
        · simp only [impl_ReadVar.j1]
          rw [ex0, hm]
          have ex : wrap64 (((a + i : Nat) : Int) + 1) = ((a + i + 1 : Nat) : Int) := by clear e ex0; rw [wrap_id (by omega) (by omega)]; omega
          have es : wrap64 ((i : Int) + 1) = ((i + 1 : Nat) : Int) := by clear e ex0 ex; rw [wrap_id (by omega) (by omega)]; omega
          rw [if_pos (by trivial), if_pos c1, if_pos c2, if_pos c3, e, ex, es]
          clear e ex es ex0
          by_cases h128 : b < 128
          · rw [if_neg (by omega), if_pos h128]
            congr 1
            funext s
            by_cases hs : s.2 = true
            · rw [if_pos hs, if_pos hs, if_pos (by omega), if_pos (by omega), if_pos (by omega)]
              simp only [Int.toNat_natCast]
            · rw [if_neg hs, if_neg hs]
          · rw [if_pos (by omega), if_neg h128]
        · clear e c3 ex0
          by_cases h128 : b < 128
          · simp only [if_pos h128]
            refine Ev.bind (impl_VarText_ev _) ?_
            by_cases hmax : n + b % 128 * 128 ^ i > 1000000000
            · have hv : varTextV ((n + b % 128 * 128 ^ i : Nat) : Int) = ((⟨#[]⟩ : ByteArray), false) := by
                unfold varTextV
                rw [if_neg (by omega)]
              rw [hv, if_pos hmax, if_neg (by simp)]
              exact Ev.now _
            · have hv : varTextV ((n + b % 128 * 128 ^ i : Nat) : Int) = (strOfNums (var7 (n + b % 128 * 128 ^ i)), true) := by
                unfold varTextV
                rw [if_pos (by omega), Int.toNat_natCast]
              rw [hv, if_neg hmax, if_pos rfl]
              by_cases hq : (strOfNums (var7 (n + b % 128 * 128 ^ i))).toList = (t.extract a (a + i + 1)).toList
              · rw [if_pos hq, if_pos hq]
                exact Ev.now _
              · rw [if_neg hq, if_neg hq]
                exact Ev.now _
          · simp only [if_neg h128]
            exact ih (i + 1) _ (by omega) hnew (by omega)
    · rw [if_neg h]
      refine Ev.step (f := fun k => impl_ReadVar.j1 k t (a : Int) (n : Int) (i : Int) false) (fun k => ?_) ?_
      · simp only [impl_ReadVar.l0]
        rw [if_pos (by omega), ex0, decide_eq_false (by omega)]
      · refine Ev.step (f := fun _ => some (0, 0, false)) (fun k => ?_) (Ev.now _)
        simp only [impl_ReadVar.j1]
        rw [if_neg (by simp)]
theorem impl_ReadVar_ev (t : ByteArray) (hn : t.size ≤ 140737488351232) (p : Int) : Ev (fun k => impl_ReadVar.f k t p) (readVarV t p) := by
  unfold impl_ReadVar.f readVarV
  simp only [within_eq, Option.bind_some]
  by_cases h : 0 ≤ p ∧ p ≤ (t.size : Int)
  · obtain ⟨a, rfl⟩ := Int.eq_ofNat_of_zero_le h.1
    rw [decide_eq_true h, if_pos h]
    simp only [↓reduceIte, Int.toNat_natCast]
    exact impl_read_l0 t hn a (by omega) 5 0 0 rfl (by decide) (by omega)
  · rw [decide_eq_false h, if_neg h]
    exact Ev.now _
theorem spec_ReadShort_ev (t : ByteArray) (hn : t.size ≤ 140737488351232) (p : Int) : Ev (fun k => spec_ReadShort.f k t p) (readShortV t p) := by
  unfold spec_ReadShort.f readShortV
  refine Ev.bind (spec_ReadVar_ev t hn p) ?_
  obtain ⟨h0, h1, h2, h3⟩ := readVarV_range t p
  generalize readVarV t p = r at *
  by_cases hr : r.2.2 = true
  · rw [if_pos hr, if_pos hr]
    by_cases g1 : r.1 > 20000
    · rw [if_pos g1, if_pos g1]
      exact Ev.now _
    · rw [if_neg g1, if_neg g1, wrap_id (x := (t.size : Int) - r.2.1) (by omega) (by omega)]
      by_cases g2 : r.1 > (t.size : Int) - r.2.1
      · rw [if_pos g2, if_pos g2]
        exact Ev.now _
      · rw [if_neg g2, if_neg g2, wrap_id (by omega) (by omega), if_pos (by omega), if_pos (by omega), if_pos (by omega)]
        exact Ev.now _
  · rw [if_neg hr, if_neg hr]
    exact Ev.now _
theorem impl_ReadShort_ev (t : ByteArray) (hn : t.size ≤ 140737488351232) (p : Int) : Ev (fun k => impl_ReadShort.f k t p) (readShortV t p) := by
  unfold impl_ReadShort.f readShortV
  refine Ev.bind (impl_ReadVar_ev t hn p) ?_
  obtain ⟨h0, h1, h2, h3⟩ := readVarV_range t p
  generalize readVarV t p = r at *
  by_cases hr : r.2.2 = true
  · rw [if_pos hr, if_pos hr]
    by_cases g1 : r.1 > 20000
    · rw [if_pos g1, if_pos g1]
      exact Ev.now _
    · rw [if_neg g1, if_neg g1, wrap_id (x := (t.size : Int) - r.2.1) (by omega) (by omega)]
      by_cases g2 : r.1 > (t.size : Int) - r.2.1
      · rw [if_pos g2, if_pos g2]
        exact Ev.now _
      · rw [if_neg g2, if_neg g2, wrap_id (by omega) (by omega), if_pos (by omega), if_pos (by omega), if_pos (by omega)]
        exact Ev.now _
  · rw [if_neg hr, if_neg hr]
    exact Ev.now _

theorem FnExactReadShort : laws_FnExactReadShort.Pure := by
  intro a p hn hp
  refine Ev.rounds (g := fun k => laws_FnExactReadShort.f k a p) ?_
  unfold laws_FnExactReadShort.f
  by_cases hbig : (a.size : Int) > 1048576
  · simp only [if_pos hbig]
    exact Ev.now _
  · simp only [if_neg hbig]
    refine Ev.bind (spec_ReadShort_ev a hn p) (Ev.bind (impl_ReadShort_ev a hn p) ?_)
    rw [if_pos rfl, if_pos rfl, if_neg (by simp)]
    exact Ev.now _

end Go.Proofs.Ytolkoidoablphaa.Pure
