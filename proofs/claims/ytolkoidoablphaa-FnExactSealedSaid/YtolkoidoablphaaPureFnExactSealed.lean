/- The program's Sealed returns what the reference's returns, for every text; the only bound is the row's own on a text's size. -/
import Derived.Test.YtolkoidoablphaaPFnExactSealedx1
import Derived.Test.YtolkoidoablphaaLib
namespace Go.Proofs.Ytolkoidoablphaa.Pure
open Go.RowKit Go.Proofs.Ytolkoidoablphaa.PFnExactSealed Go.Proofs.YtolkoidoablphaaW.PrintWords Go.Proofs.YtolkoidoablphaaW.PrintLast Go.Proofs.Ytolkoidoablphaa.Lib
set_option linter.unusedVariables false
set_option linter.unusedSimpArgs false

theorem spec_sum_l1 (t : ByteArray) (i : Int) (r : Int) (n : Nat) : ∀ (j x : Int), 0 ≤ j → j + n = 8 → 0 ≤ x → x < 4294967296 →
    Ev (fun k => spec_SumMore.l0 k (sumIter n x) t (wrap64 (i + 1))) r → Ev (fun k => spec_SumMore.l1 k x t i j) r := by
  induction n with
  | zero =>
    intro j x h0 hj _ _ h
    refine Ev.step (f := fun k => spec_SumMore.l0 k x t (wrap64 (i + 1))) (fun k => ?_) h
    simp only [spec_SumMore.l1]
    rw [if_neg (by omega)]
  | succ n ih =>
    intro j x h0 hj hx0 hx1 h
    have hs := sumStep_range hx0 hx1
    refine Ev.step (f := fun k => spec_SumMore.l1 k (sumStep x) t i (j + 1)) (fun k => ?_) (ih (j + 1) _ (by omega) (by omega) hs.1 hs.2 h)
    simp only [spec_SumMore.l1]
    have e : x / 2 % 4294967296 = x / 2 := by omega
    rw [if_pos (by omega), wrap_id (x := j + 1) (by omega) (by omega), tmod_pos hx0, tdiv_pos hx0, e]
    unfold sumStep
    by_cases hp : x % 2 = 1
    · rw [if_pos hp, if_pos hp]
    · rw [if_neg hp, if_neg hp]
theorem spec_sum_l0 (t : ByteArray) (hn : t.size ≤ 140737488351232) (d : Nat) : ∀ (i : Nat) (x : Int), i + d = t.size → 0 ≤ x → x < 4294967296 →
    Ev (fun k => spec_SumMore.l0 k x t (i : Int)) (sumL x ((bytesOf t).drop i)) := by
  induction d with
  | zero =>
    intro i x hi _ _
    obtain rfl : i = t.size := by omega
    rw [bytes_end]
    refine Ev.step (f := fun _ => some x) (fun k => ?_) (Ev.now _)
    simp only [spec_SumMore.l0]
    rw [if_neg (by omega)]
  | succ d ih =>
    intro i x hi h0 h1
    have hlt : i < t.size := by omega
    have hb := bt_range t (i : Int)
    rw [bytes_drop t i hlt]
    refine Ev.step (f := fun k => spec_SumMore.l1 k (Go.bits .xor .u32 x (bt t i)) t i 0) (fun k => ?_) (spec_sum_l1 t i _ 8 0 _ (by omega) (by omega) (xor_range _ _).1 (xor_range _ _).2 ?_)
    · simp only [spec_SumMore.l0]
      rw [if_pos (by omega), if_pos (by omega), Int.emod_eq_of_lt hb.1 (by omega)]
    · have h2 := sumByte_range x (bt t i)
      have := ih (i + 1) (sumByte x (bt t i)) (by omega) h2.1 h2.2
      rw [wrap_id (by omega) (by omega)]
      exact this
theorem spec_SumMore_ev (s : Int) (t : ByteArray) (hn : t.size ≤ 140737488351232) (h0 : 0 ≤ s) (h1 : s < 4294967296) : Ev (fun k => spec_SumMore.f k s t) (sumL s (bytesOf t)) :=
  spec_sum_l0 t hn t.size 0 s (by omega) h0 h1
theorem impl_sum_l1 (t : ByteArray) (i : Int) (r : Int) (n : Nat) : ∀ (j x : Int), 0 ≤ j → j + n = 8 → 0 ≤ x → x < 4294967296 →
    Ev (fun k => impl_SumMore.l0 k (sumIter n x) t (wrap64 (i + 1))) r → Ev (fun k => impl_SumMore.l1 k x t i j) r := by
  induction n with
  | zero =>
    intro j x h0 hj _ _ h
    refine Ev.step (f := fun k => impl_SumMore.l0 k x t (wrap64 (i + 1))) (fun k => ?_) h
    simp only [impl_SumMore.l1]
    rw [if_neg (by omega)]
  | succ n ih =>
    intro j x h0 hj hx0 hx1 h
    have hs := sumStep_range hx0 hx1
    refine Ev.step (f := fun k => impl_SumMore.l1 k (sumStep x) t i (j + 1)) (fun k => ?_) (ih (j + 1) _ (by omega) (by omega) hs.1 hs.2 h)
    simp only [impl_SumMore.l1]
    rw [if_pos (by omega), wrap_id (x := j + 1) (by omega) (by omega), and1_u32 hx0 hx1]
    unfold sumStep
    by_cases hp : x % 2 = 1
    · rw [if_pos hp, if_pos hp]
    · rw [if_neg hp, if_neg hp]
theorem impl_sum_l0 (t : ByteArray) (hn : t.size ≤ 140737488351232) (d : Nat) : ∀ (i : Nat) (x : Int), i + d = t.size → 0 ≤ x → x < 4294967296 →
    Ev (fun k => impl_SumMore.l0 k x t (i : Int)) (sumL x ((bytesOf t).drop i)) := by
  induction d with
  | zero =>
    intro i x hi _ _
    obtain rfl : i = t.size := by omega
    rw [bytes_end]
    refine Ev.step (f := fun _ => some x) (fun k => ?_) (Ev.now _)
    simp only [impl_SumMore.l0]
    rw [if_neg (by omega)]
  | succ d ih =>
    intro i x hi h0 h1
    have hlt : i < t.size := by omega
    have hb := bt_range t (i : Int)
    rw [bytes_drop t i hlt]
    refine Ev.step (f := fun k => impl_SumMore.l1 k (Go.bits .xor .u32 x (bt t i)) t i 0) (fun k => ?_) (impl_sum_l1 t i _ 8 0 _ (by omega) (by omega) (xor_range _ _).1 (xor_range _ _).2 ?_)
    · simp only [impl_SumMore.l0]
      rw [if_pos (by omega), if_pos (by omega), Int.emod_eq_of_lt hb.1 (by omega)]
    · have h2 := sumByte_range x (bt t i)
      have := ih (i + 1) (sumByte x (bt t i)) (by omega) h2.1 h2.2
      rw [wrap_id (by omega) (by omega)]
      exact this
theorem impl_SumMore_ev (s : Int) (t : ByteArray) (hn : t.size ≤ 140737488351232) (h0 : 0 ≤ s) (h1 : s < 4294967296) : Ev (fun k => impl_SumMore.f k s t) (sumL s (bytesOf t)) :=
  impl_sum_l0 t hn t.size 0 s (by omega) h0 h1
theorem spec_SumOf_ev (t : ByteArray) (hn : t.size ≤ 140737488351232) : Ev (fun k => spec_SumOf.f k t) (sumL 4294967295 (bytesOf t)) := by
  unfold spec_SumOf.f
  exact Ev.bind (spec_SumMore_ev _ t hn (by decide) (by decide)) (Ev.now _)
theorem impl_SumOf_ev (t : ByteArray) (hn : t.size ≤ 140737488351232) : Ev (fun k => impl_SumOf.f k t) (sumL 4294967295 (bytesOf t)) := by
  unfold impl_SumOf.f
  exact Ev.bind (impl_SumMore_ev _ t hn (by decide) (by decide)) (Ev.now _)
theorem spec_four_eq (s : Int) : spec_l02Four.f s = some (fourV s) := rfl
theorem impl_four_eq (s : Int) : impl_four.f s = some (fourV s) := rfl
theorem spec_Sealed_ev (t : ByteArray) (hn : t.size ≤ 140737488351232) : Ev (fun k => spec_Sealed.f k t) (sealedV t) := by
  unfold spec_Sealed.f sealedV
  by_cases h : (t.size : Int) > 20000
  · simp only [if_pos h]
    exact Ev.now _
  · simp only [if_neg h]
    refine Ev.bind (spec_SumOf_ev t hn) ?_
    simp only [spec_four_eq, Option.bind_some]
    rw [if_pos (by rw [fourV_size]; omega)]
    exact Ev.now _
theorem impl_Sealed_ev (t : ByteArray) (hn : t.size ≤ 140737488351232) : Ev (fun k => impl_Sealed.f k t) (sealedV t) := by
  unfold impl_Sealed.f sealedV
  by_cases h : (t.size : Int) > 20000
  · simp only [if_pos h]
    exact Ev.now _
  · simp only [if_neg h]
    refine Ev.bind (impl_SumOf_ev t hn) ?_
    have hr := sumL_range (bytesOf t) 4294967295 (by decide) (by decide)
    simp only [impl_four_eq, Option.bind_some]
    rw [wrap_id (by omega) (by omega), if_pos (by rw [fourV_size]; omega)]
    exact Ev.now _

theorem FnExactSealed : laws_FnExactSealed.Pure := by
  intro a hn
  refine Ev.rounds (g := fun k => laws_FnExactSealed.f k a) ?_
  unfold laws_FnExactSealed.f
  by_cases hbig : (a.size : Int) > 1048576
  · simp only [if_pos hbig]
    exact Ev.now _
  · simp only [if_neg hbig]
    refine Ev.bind (spec_Sealed_ev a hn) (Ev.bind (impl_Sealed_ev a hn) ?_)
    rw [if_pos rfl, if_neg (by simp)]
    exact Ev.now _

end Go.Proofs.Ytolkoidoablphaa.Pure
