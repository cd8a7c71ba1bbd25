import Derived.Test.YtjlffencbaifeaaLib
namespace Go.Proofs.Ytjlffencbaifeaa.Lib
open Go.RowKit Go.Proofs.YtjlffencbaifeaaW.PrintWords
set_option linter.unusedVariables false

/-! ### loops over lists -/
theorem ev_down {P : Nat → Prop} (n : Nat) (hend : P n) (hstep : ∀ i, i < n → P (i + 1) → P i) : P 0 := by
  have key : ∀ d i, i + d = n → P i := by
    intro d
    induction d with
    | zero => intro i hi; obtain rfl : i = n := by omega
              exact hend
    | succ d ih => intro i hi; exact hstep i (by omega) (ih (i + 1) (by omega))
  exact key n 0 (by omega)
theorem getD_at {α : Type} (z : α) (l : List α) (i : Nat) (h : i < l.length) : l.getD ((i : Int)).toNat z = l[i] := by
  rw [Int.toNat_natCast, List.getD_eq_getElem?_getD, List.getElem?_eq_getElem h]
  rfl
theorem set_step {α β : Type} (f : α → β) (z : β) (l : List α) (i : Nat) (h : i < l.length) (v : β) (hv : v = f l[i]) :
    ((l.take i).map f ++ List.replicate (l.length - i) z).set i v = (l.take (i + 1)).map f ++ List.replicate (l.length - (i + 1)) z := by
  have hl : ((l.take i).map f).length = i := by simp; omega
  rw [List.set_append_right _ _ (by omega), hl, Nat.sub_self, show l.length - i = (l.length - (i + 1)) + 1 by omega, List.replicate_succ, List.set_cons_zero, List.take_succ_eq_append_getElem h, List.map_append, hv]
  simp
/-! ### flags -/
theorem and1_i64 (x : Int) : Go.bits .and .i64 x 1 = x % 2 := by
  have e : Go.bits .and .i64 x 1 = IntKind.i64.wrap (((BitVec.ofInt 64 x &&& BitVec.ofInt 64 1).toNat : Nat) : Int) := rfl
  rw [e, BitVec.toNat_and, BitVec.toNat_ofInt, show (BitVec.ofInt 64 1).toNat = 1 from rfl, Nat.and_one_is_mod, IntKind.wrap_i64]
  omega
theorem tmod2_zero (x : Int) : Int.tmod x 2 = 0 ↔ x % 2 = 0 := by
  constructor
  · intro h
    exact Int.emod_eq_zero_of_dvd (Int.dvd_of_tmod_eq_zero h)
  · intro h
    exact Int.tmod_eq_zero_of_dvd (Int.dvd_of_emod_eq_zero h)
theorem tmod2_one (x : Int) (h : ¬ Int.tmod x 2 = 0) : x % 2 = 1 := by
  have : ¬ x % 2 = 0 := fun h2 => h ((tmod2_zero x).2 h2)
  omega
theorem pow_small3 (i : Nat) (h : i < 3) : (1 : Int) ≤ 2 ^ i ∧ (2 : Int) ^ i ≤ 4 := by
  rcases (show i = 0 ∨ i = 1 ∨ i = 2 by omega) with rfl | rfl | rfl <;> decide
theorem shl_small3 (x : Int) (i : Nat) (h : i < 3) (h0 : 0 ≤ x) (h1 : x ≤ 1000) : shl .i64 x (i : Int) = x * 2 ^ i := by
  unfold shl
  have : min (i : Int).toNat IntKind.i64.bits = i := by
    simp only [IntKind.bits]
    omega
  rw [this, IntKind.wrap_i64]
  rcases (show i = 0 ∨ i = 1 ∨ i = 2 by omega) with rfl | rfl | rfl <;> omega
def flagsFrom : Nat → Nat → Int → List Int → Int
  | 0, _, n, _ => n
  | d + 1, i, n, vs => if h : i < vs.length then flagsFrom d (i + 1) (n + (vs[i] % 2) * 2 ^ i) vs else n
def flagsOfV (vs : List Int) : Int := flagsFrom 3 0 0 vs
theorem flagsOf_all {α : Type} (E : List α → Nat → Int → Int → Prop) (g : α → Int)
    (step : ∀ (l : List α) (i : Nat), i < 3 → ∀ (hi : i < l.length) (n r : Int), 0 ≤ n → n ≤ 100 → E l (i + 1) (n + (g l[i] % 2) * 2 ^ i) r → E l i n r)
    (stop : ∀ (l : List α) (i : Nat), 3 ≤ i ∨ l.length ≤ i → i ≤ 3 → ∀ n, E l i n n) (l : List α) : E l 0 0 (flagsOfV (l.map g)) := by
  have key : ∀ (d i : Nat) (n : Int), i + d = 3 → 0 ≤ n → n ≤ 7 * i → E l i n (flagsFrom d i n (l.map g)) := by
    intro d
    induction d with
    | zero =>
      intro i n hi _ _
      exact stop l i (.inl (by omega)) (by omega) n
    | succ d ih =>
      intro i n hi h0 h1
      unfold flagsFrom
      by_cases h : i < l.length
      · rw [dif_pos (by simpa using h)]
        have hp := pow_small3 i (by omega)
        have hr : 0 ≤ g l[i] % 2 ∧ g l[i] % 2 < 2 := by omega
        have hm : (g l[i] % 2) * 2 ^ i ≤ 1 * 4 := Int.mul_le_mul (by omega) hp.2 (by omega) (by omega)
        have hm0 : 0 ≤ (g l[i] % 2) * 2 ^ i := Int.mul_nonneg hr.1 (by omega)
        refine step l i (by omega) h n _ h0 (by omega) ?_
        have := ih (i + 1) (n + (g l[i] % 2) * 2 ^ i) (by omega) (by omega) (by omega)
        simpa using this
      · rw [dif_neg (by simpa using h)]
        exact stop l i (.inr (by omega)) (by omega) n
  exact key 3 0 0 rfl (by omega) (by omega)
end Go.Proofs.Ytjlffencbaifeaa.Lib
