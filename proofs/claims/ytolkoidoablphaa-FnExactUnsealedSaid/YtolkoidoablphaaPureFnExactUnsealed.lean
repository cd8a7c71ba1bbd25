/- The program's Unsealed returns what the reference's returns, for every text; the only bound is the row's own on a text's size. -/
import Derived.Test.YtolkoidoablphaaPFnExactUnsealedx1
import Derived.Test.YtolkoidoablphaaPFnExactUnsealedx2
import Derived.Test.YtolkoidoablphaaLib
namespace Go.Proofs.Ytolkoidoablphaa.Pure
open Go.RowKit Go.Proofs.Ytolkoidoablphaa.PFnExactUnsealed Go.Proofs.YtolkoidoablphaaW.PrintWords Go.Proofs.YtolkoidoablphaaW.PrintLast Go.Proofs.Ytolkoidoablphaa.Lib
set_option linter.unusedVariables false
set_option linter.unusedSimpArgs false

theorem within_eq (x a b : Int) : impl_within.f x a b = some (decide (a ≤ x ∧ x ≤ b)) := by
  unfold impl_within.f
  by_cases h : a ≤ x
  · rw [if_pos h]; simp [h]
  · rw [if_neg h]; simp [h]
theorem spec_sum_l1 (t : ByteArray) (i : Int) (r : Int) (n : Nat) : ∀ (j x : Int), 0 ≤ j → j + n = 8 → 0 ≤ x → x < 4294967296 →
    Ev (fun k => spec_SumMore.l0 k (sumIter n x) t (wrap64 (i + 1))) r → Ev (fun k => spec_SumMore.l1 k x t i j) r := by
  induction n with
  | zero =>
    intro j x h0 hj _ _ h
    refine Ev.step (f := fun k => spec_SumMore.l0 k x t (wrap64 (i + 1))) (fun k => ?_) h
    simp only [spec_SumMore.l1]
    rw [if_neg (by omega)]
  | succ n ih =>
    intro j x h0 hj hx0 hx1 h
    have hs := sumStep_range hx0 hx1
    refine Ev.step (f := fun k => spec_SumMore.l1 k (sumStep x) t i (j + 1)) (fun k => ?_) (ih (j + 1) _ (by omega) (by omega) hs.1 hs.2 h)
    simp only [spec_SumMore.l1]
    have e : x / 2 % 4294967296 = x / 2 := by omega
    rw [if_pos (by omega), wrap_id (x := j + 1) (by omega) (by omega), tmod_pos hx0, tdiv_pos hx0, e]
    unfold sumStep
    by_cases hp : x % 2 = 1
    · rw [if_pos hp, if_pos hp]
    · rw [if_neg hp, if_neg hp]
theorem spec_sum_l0 (t : ByteArray) (hn : t.size ≤ 140737488351232) (d : Nat) : ∀ (i : Nat) (x : Int), i + d = t.size → 0 ≤ x → x < 4294967296 →
    Ev (fun k => spec_SumMore.l0 k x t (i : Int)) (sumL x ((bytesOf t).drop i)) := by
  induction d with
  | zero =>
    intro i x hi _ _
    obtain rfl : i = t.size := by omega
    rw [bytes_end]
    refine Ev.step (f := fun _ => some x) (fun k => ?_) (Ev.now _)
    simp only [spec_SumMore.l0]
    rw [if_neg (by omega)]
  | succ d ih =>
    intro i x hi h0 h1
    have hlt : i < t.size := by omega
    have hb := bt_range t (i : Int)
    rw [bytes_drop t i hlt]
    refine Ev.step (f := fun k => spec_SumMore.l1 k (Go.bits .xor .u32 x (bt t i)) t i 0) (fun k => ?_) (spec_sum_l1 t i _ 8 0 _ (by omega) (by omega) (xor_range _ _).1 (xor_range _ _).2 ?_)
    · simp only [spec_SumMore.l0]
      rw [if_pos (by omega), if_pos (by omega), Int.emod_eq_of_lt hb.1 (by omega)]
    · have h2 := sumByte_range x (bt t i)
      have := ih (i + 1) (sumByte x (bt t i)) (by omega) h2.1 h2.2
      rw [wrap_id (by omega) (by omega)]
      exact this
theorem spec_SumMore_ev (s : Int) (t : ByteArray) (hn : t.size ≤ 140737488351232) (h0 : 0 ≤ s) (h1 : s < 4294967296) : Ev (fun k => spec_SumMore.f k s t) (sumL s (bytesOf t)) :=
  spec_sum_l0 t hn t.size 0 s (by omega) h0 h1
theorem impl_sum_l1 (t : ByteArray) (i : Int) (r : Int) (n : Nat) : ∀ (j x : Int), 0 ≤ j → j + n = 8 → 0 ≤ x → x < 4294967296 →
    Ev (fun k => impl_SumMore.l0 k (sumIter n x) t (wrap64 (i + 1))) r → Ev (fun k => impl_SumMore.l1 k x t i j) r := by
  induction n with
  | zero =>
    intro j x h0 hj _ _ h
    refine Ev.step (f := fun k => impl_SumMore.l0 k x t (wrap64 (i + 1))) (fun k => ?_) h
    simp only [impl_SumMore.l1]
    rw [if_neg (by omega)]
  | succ n ih =>
    intro j x h0 hj hx0 hx1 h
    have hs := sumStep_range hx0 hx1
    refine Ev.step (f := fun k => impl_SumMore.l1 k (sumStep x) t i (j + 1)) (fun k => ?_) (ih (j + 1) _ (by omega) (by omega) hs.1 hs.2 h)
    simp only [impl_SumMore.l1]
    rw [if_pos (by omega), wrap_id (x := j + 1) (by omega) (by omega), and1_u32 hx0 hx1]
    unfold sumStep
    by_cases hp : x % 2 = 1
    · rw [if_pos hp, if_pos hp]
    · rw [if_neg hp, if_neg hp]
theorem impl_sum_l0 (t : ByteArray) (hn : t.size ≤ 140737488351232) (d : Nat) : ∀ (i : Nat) (x : Int), i + d = t.size → 0 ≤ x → x < 4294967296 →
    Ev (fun k => impl_SumMore.l0 k x t (i : Int)) (sumL x ((bytesOf t).drop i)) := by
  induction d with
  | zero =>
    intro i x hi _ _
    obtain rfl : i = t.size := by omega
    rw [bytes_end]
    refine Ev.step (f := fun _ => some x) (fun k => ?_) (Ev.now _)
    simp only [impl_SumMore.l0]
    rw [if_neg (by omega)]
  | succ d ih =>
    intro i x hi h0 h1
    have hlt : i < t.size := by omega
    have hb := bt_range t (i : Int)
    rw [bytes_drop t i hlt]
    refine Ev.step (f := fun k => impl_SumMore.l1 k (Go.bits .xor .u32 x (bt t i)) t i 0) (fun k => ?_) (impl_sum_l1 t i _ 8 0 _ (by omega) (by omega) (xor_range _ _).1 (xor_range _ _).2 ?_)
    · simp only [impl_SumMore.l0]
      rw [if_pos (by omega), if_pos (by omega), Int.emod_eq_of_lt hb.1 (by omega)]
    · have h2 := sumByte_range x (bt t i)
      have := ih (i + 1) (sumByte x (bt t i)) (by omega) h2.1 h2.2
      rw [wrap_id (by omega) (by omega)]
      exact this
theorem impl_SumMore_ev (s : Int) (t : ByteArray) (hn : t.size ≤ 140737488351232) (h0 : 0 ≤ s) (h1 : s < 4294967296) : Ev (fun k => impl_SumMore.f k s t) (sumL s (bytesOf t)) :=
  impl_sum_l0 t hn t.size 0 s (by omega) h0 h1
theorem spec_SumOf_ev (t : ByteArray) (hn : t.size ≤ 140737488351232) : Ev (fun k => spec_SumOf.f k t) (sumL 4294967295 (bytesOf t)) := by
  unfold spec_SumOf.f
  exact Ev.bind (spec_SumMore_ev _ t hn (by decide) (by decide)) (Ev.now _)
theorem impl_SumOf_ev (t : ByteArray) (hn : t.size ≤ 140737488351232) : Ev (fun k => impl_SumOf.f k t) (sumL 4294967295 (bytesOf t)) := by
  unfold impl_SumOf.f
  exact Ev.bind (impl_SumMore_ev _ t hn (by decide) (by decide)) (Ev.now _)
theorem spec_four_eq (s : Int) : spec_l02Four.f s = some (fourV s) := rfl
theorem spec_Unsealed_ev (t : ByteArray) (hn : t.size ≤ 140737488351232) : Ev (fun k => spec_Unsealed.f k t) (unsealedV t) := by
  unfold spec_Unsealed.f
  rw [wrap_id (by omega) (by omega)]
  by_cases h : (t.size : Int) - 4 < 0
  · simp only [if_pos h]
    unfold unsealedV
    rw [if_neg (by omega)]
    exact Ev.now _
  · simp only [if_neg h]
    by_cases h2 : (t.size : Int) - 4 > 20000
    · simp only [if_pos h2]
      unfold unsealedV
      rw [if_neg (by omega)]
      exact Ev.now _
    · simp only [if_neg h2]
      obtain ⟨n, hsz⟩ : ∃ n, t.size = n + 4 := ⟨t.size - 4, by omega⟩
      have e : (t.size : Int) - 4 = (n : Int) := by omega
      rw [e]
      have p1 : (0 : Int) ≤ (n : Int) := by omega
      have p2 : (n : Int) ≤ (t.size : Int) := by omega
      simp only [Int.toNat_natCast, if_pos p1, if_pos p2]
      refine Ev.bind (spec_SumOf_ev _ (by rw [ByteArray.size_extract]; omega)) ?_
      have hr := sumL_range (bytesOf (t.extract 0 n)) 4294967295 (by decide) (by decide)
      simp only [spec_four_eq, Option.bind_some]
      have hv : unsealedV t = if sumL 4294967295 (bytesOf (t.extract 0 n)) = fourAtV t n then (t.extract 0 n, true) else ((⟨#[]⟩ : ByteArray), false) := by
        unfold unsealedV
        rw [if_pos (by omega), show t.size - 4 = n by omega]
      rw [hv]
      have hk := four_bytes t n hsz _ hr.1 hr.2
      by_cases hq : (t.extract n t.size).toList = (fourV (sumL 4294967295 (bytesOf (t.extract 0 n)))).toList
      · rw [if_pos hq, if_pos (hk.1 hq)]
        exact Ev.now _
      · rw [if_neg hq, if_neg (fun h3 => hq (hk.2 h3))]
        exact Ev.now _
theorem impl_fourAt_eq (t : ByteArray) (n : Nat) (hsz : t.size = n + 4) (hn : t.size ≤ 140737488351232) : impl_fourAt.f t (n : Int) = some (fourAtV t n) := by
  unfold impl_fourAt.f
  rw [wrap_id (x := (n : Int) + 1) (by omega) (by omega), wrap_id (x := (n : Int) + 2) (by omega) (by omega), wrap_id (x := (n : Int) + 3) (by omega) (by omega)]
  have h0 := bt_range t (n : Int)
  have h1 := bt_range t ((n : Int) + 1)
  have h2 := bt_range t ((n : Int) + 2)
  have h3 := bt_range t ((n : Int) + 3)
  rw [if_pos (by omega), if_pos (by omega), if_pos (by omega), if_pos (by omega), if_pos (by omega), if_pos (by omega), if_pos (by omega), if_pos (by omega)]
  unfold fourAtV
  generalize bt t (n : Int) = b0 at *
  generalize bt t ((n : Int) + 1) = b1 at *
  generalize bt t ((n : Int) + 2) = b2 at *
  generalize bt t ((n : Int) + 3) = b3 at *
  rw [wrap_id (x := b0) (by omega) (by omega), wrap_id (x := b1) (by omega) (by omega), wrap_id (x := b2) (by omega) (by omega), wrap_id (x := b3) (by omega) (by omega)]
  rw [wrap_id (x := b0 * 16777216) (by omega) (by omega), wrap_id (x := b1 * 65536) (by omega) (by omega), wrap_id (x := b2 * 256) (by omega) (by omega)]
  have e1 := or_join64 24 (x := b0 * 16777216) (y := b1 * 65536) (by omega) (by omega) (by omega) (by omega) (by omega)
  have e2 := or_join64 16 (x := b0 * 16777216 + b1 * 65536) (y := b2 * 256) (by omega) (by omega) (by omega) (by omega) (by omega)
  have e3 := or_join64 8 (x := b0 * 16777216 + b1 * 65536 + b2 * 256) (y := b3) (by omega) (by omega) (by omega) (by omega) (by omega)
  rw [e1, e2, e3]
theorem impl_Unsealed_ev (t : ByteArray) (hn : t.size ≤ 140737488351232) : Ev (fun k => impl_Unsealed.f k t) (unsealedV t) := by
  unfold impl_Unsealed.f unsealedV
  rw [wrap_id (by omega) (by omega)]
  simp only [within_eq, Option.bind_some]
  by_cases h : 0 ≤ (t.size : Int) - 4 ∧ (t.size : Int) - 4 ≤ 20000
  · rw [decide_eq_true h, if_pos h]
    simp only [↓reduceIte]
    obtain ⟨n, hsz⟩ : ∃ n, t.size = n + 4 := ⟨t.size - 4, by omega⟩
    have e : (t.size : Int) - 4 = (n : Int) := by omega
    rw [e]
    have p1 : (0 : Int) ≤ (n : Int) := by omega
    have p2 : (n : Int) ≤ (t.size : Int) := by omega
    simp only [Int.toNat_natCast, if_pos p1, if_pos p2]
    refine Ev.bind (impl_SumOf_ev _ (by rw [ByteArray.size_extract]; omega)) ?_
    have hr := sumL_range (bytesOf (t.extract 0 n)) 4294967295 (by decide) (by decide)
    simp only [impl_fourAt_eq t n hsz hn, Option.bind_some]
    rw [wrap_id (by omega) (by omega), show t.size - 4 = n by omega]
    by_cases hq : sumL 4294967295 (bytesOf (t.extract 0 n)) = fourAtV t n
    · rw [if_pos hq, if_pos hq]
      exact Ev.now _
    · rw [if_neg hq, if_neg hq]
      exact Ev.now _
  · rw [decide_eq_false h, if_neg h]
    exact Ev.now _

theorem FnExactUnsealed : laws_FnExactUnsealed.Pure := by
  intro a hn
  refine Ev.rounds (g := fun k => laws_FnExactUnsealed.f k a) ?_
  unfold laws_FnExactUnsealed.f
  by_cases hbig : (a.size : Int) > 1048576
  · simp only [if_pos hbig]
    exact Ev.now _
  · simp only [if_neg hbig]
    refine Ev.bind (spec_Unsealed_ev a hn) (Ev.bind (impl_Unsealed_ev a hn) ?_)
    rw [if_pos rfl, if_neg (by simp)]
    exact Ev.now _

end Go.Proofs.Ytolkoidoablphaa.Pure
