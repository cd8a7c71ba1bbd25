/- The program's Hex returns what the reference's returns, for every text; the bounds are the row's own. -/
import Derived.Test.YteaclgfgogecjaaPFnExactHexx1
import Derived.Test.YteaclgfgogecjaaLib
import Derived.Test.YteaclgfgogecjaaLib2
import Derived.Test.YteaclgfgogecjaaLib3
import Derived.Test.YteaclgfgogecjaaLib4
import Derived.Test.YteaclgfgogecjaaLib5
import Derived.Test.YteaclgfgogecjaaLib6
namespace Go.Proofs.Yteaclgfgogecjaa.Pure
open Go.RowKit Go.Proofs.Yteaclgfgogecjaa.PFnExactHex Go.Proofs.YteaclgfgogecjaaW.PrintWords Go.Proofs.YteaclgfgogecjaaW.PrintLast Go.Proofs.Yteaclgfgogecjaa.Lib
set_option linter.unusedVariables false
set_option linter.unusedSimpArgs false

theorem figure_eq (x : Int) (h0 : 0 ≤ x) (h1 : x < 16) : spec_l01Figure.f x = some (figV x) := by
  unfold spec_l01Figure.f figV
  by_cases h : x < 10
  · rw [if_pos h, if_pos h, wrap_id (by omega) (by omega), Int.emod_eq_of_lt (by omega) (by omega)]
  · rw [if_neg h, if_neg h, wrap_id (x := 97 + x) (by omega) (by omega), wrap_id (by omega) (by omega), Int.emod_eq_of_lt (by omega) (by omega)]
    congr 1
    omega
def figV (n : Int) : Int := if n < 10 then 48 + n else 87 + n
def hexFrom (t : ByteArray) : Nat → List Int → Nat → List Int
  | 0, acc, _ => acc
  | d + 1, acc, i => hexFrom t d (acc ++ [figV ((btN t i : Int) / 16), figV ((btN t i : Int) % 16)]) (i + 1)
theorem fig_eq (n : Int) (h0 : 0 ≤ n) (h1 : n < 16) : spec_l01Figure.f n = some (figV n) := by
  unfold spec_l01Figure.f figV
  by_cases h : n < 10
  · rw [if_pos h, if_pos h, wrap_id (by omega) (by omega), Int.emod_eq_of_lt (by omega) (by omega)]
  · rw [if_neg h, if_neg h, wrap_id (x := 97 + n) (by omega) (by omega), wrap_id (by omega) (by omega), Int.emod_eq_of_lt (by omega) (by omega)]
    congr 1
    omega
theorem spec_hex_l0 (t : ByteArray) (hn : t.size ≤ 20000) (d : Nat) : ∀ (acc : List Int) (i : Nat), i + d = t.size → acc.length ≤ 2 * i →
    Ev (fun k => spec_Hex.l0 k t acc (i : Int)) (strOfNums (hexFrom t d acc i), true) := by
  induction d with
  | zero =>
    intro acc i hi hl
    refine Ev.step (f := fun _ => some (strOfNums acc, true)) (fun k => ?_) (Ev.now _)
    simp only [spec_Hex.l0]
    rw [if_neg (by omega)]
  | succ d ih =>
    intro acc i hi hl
    have hbt := bt_range t (i : Int)
    have hm := byte_at t i
    rw [hm] at hbt
    have := ih (acc ++ [figV ((btN t i : Int) / 16), figV ((btN t i : Int) % 16)]) (i + 1) (by omega) (by simp; omega)
    unfold hexFrom
    generalize btN t i = c at hbt hm this ⊢
    refine Ev.step (f := fun k => spec_Hex.l0 k t (acc ++ [figV ((c : Int) / 16), figV ((c : Int) % 16)]) ((i + 1 : Nat) : Int)) (fun k => ?_) this
    simp only [spec_Hex.l0]
    rw [if_pos (by omega), if_pos (by omega), hm, wrap_id (x := (c : Int)) (by omega) (by omega), tdiv_pos (by omega), tmod_pos (by omega), wrap_id (x := (c : Int) / 16) (by omega) (by omega), fig_eq _ (by omega) (by omega), fig_eq _ (by omega) (by omega)]
    simp only [Option.bind_some]
    rw [if_pos (by simp; omega), wrap_id (by omega) (by omega)]
    rfl
theorem figs_at (n : Int) (h0 : 0 ≤ n) (h1 : n < 16) : bt (⟨#[48, 49, 50, 51, 52, 53, 54, 55, 56, 57, 97, 98, 99, 100, 101, 102]⟩ : ByteArray) n = figV n := by
  have key : ∀ m : Fin 16, bt (⟨#[48, 49, 50, 51, 52, 53, 54, 55, 56, 57, 97, 98, 99, 100, 101, 102]⟩ : ByteArray) (m.val : Int) = figV (m.val : Int) := by decide
  obtain ⟨m, rfl⟩ := Int.eq_ofNat_of_zero_le h0
  exact key ⟨m, by omega⟩
theorem impl_hex_l0 (t : ByteArray) (hn : t.size ≤ 20000) (d : Nat) : ∀ (acc : List Int) (i : Nat), i + d = t.size → acc.length ≤ 2 * i →
    Ev (fun k => impl_Hex.l0 k t acc (i : Int)) (strOfNums (hexFrom t d acc i), true) := by
  induction d with
  | zero =>
    intro acc i hi hl
    refine Ev.step (f := fun _ => some (strOfNums acc, true)) (fun k => ?_) (Ev.now _)
    simp only [impl_Hex.l0]
    rw [if_neg (by omega)]
  | succ d ih =>
    intro acc i hi hl
    have hbt := bt_range t (i : Int)
    have hm := byte_at t i
    rw [hm] at hbt
    have := ih (acc ++ [figV ((btN t i : Int) / 16), figV ((btN t i : Int) % 16)]) (i + 1) (by omega) (by simp; omega)
    unfold hexFrom
    generalize btN t i = c at hbt hm this ⊢
    have e : Go.bits .and .u8 (c : Int) 15 = (c : Int) % 16 := bits_mask .u8 8 (by decide) wraps_u8 4 (by decide) _ (by omega) (by omega)
    refine Ev.step (f := fun k => impl_Hex.l0 k t (acc ++ [figV ((c : Int) / 16), figV ((c : Int) % 16)]) ((i + 1 : Nat) : Int)) (fun k => ?_) this
    simp only [impl_Hex.l0]
    rw [if_pos (by omega), if_pos (by omega), hm, e, if_pos (by omega), if_pos (by omega), if_pos (by omega), if_pos (by omega), figs_at _ (by omega) (by omega), figs_at _ (by omega) (by omega)]
    simp only [Option.bind_some]
    rw [if_pos (by simp; omega), wrap_id (by omega) (by omega)]
    rfl

theorem FnExactHex : laws_FnExactHex.Pure := by
  intro t _
  refine Ev.rounds (g := fun k => laws_FnExactHex.f k t) ?_
  unfold laws_FnExactHex.f
  by_cases h : (t.size : Int) > 1048576
  · simp only [if_pos h]
    exact Ev.now _
  · simp only [if_neg h]
    have main : ∃ r, Ev (fun k => spec_Hex.f k t) r ∧ Ev (fun k => impl_Hex.f k t) r := by
      unfold spec_Hex.f impl_Hex.f
      by_cases h2 : (t.size : Int) > 20000
      · simp only [if_pos h2]
        exact ⟨_, Ev.now _, Ev.now _⟩
      · have e : wrap64 (2 * (t.size : Int)) = 2 * (t.size : Int) := wrap_id (by omega) (by omega)
        have h3 : 0 ≤ wrap64 (2 * (t.size : Int)) := by rw [e]; omega
        have h4 : (wrap64 (2 * (t.size : Int)) : Int).toNat ≤ 281474976710656 := by rw [e]; omega
        simp only [if_neg h2, if_pos h3, if_pos h4]
        exact ⟨_, spec_hex_l0 t (by omega) t.size [] 0 (by omega) (by simp), impl_hex_l0 t (by omega) t.size [] 0 (by omega) (by simp)⟩
    obtain ⟨r, hs, hi⟩ := main
    refine Ev.bind hs (Ev.bind hi ?_)
    simp only [↓reduceIte, bne_self_eq_false, Bool.false_eq_true]
    exact Ev.now _

end Go.Proofs.Yteaclgfgogecjaa.Pure
