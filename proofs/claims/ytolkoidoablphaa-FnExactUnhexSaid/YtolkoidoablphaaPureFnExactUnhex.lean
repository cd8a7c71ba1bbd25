/- The program's Unhex returns what the reference's returns, for every text; the bounds are the row's own. -/
import Derived.Test.YtolkoidoablphaaPFnExactUnhexx1
import Derived.Test.YtolkoidoablphaaLib
import Derived.Test.YtolkoidoablphaaLib2
import Derived.Test.YtolkoidoablphaaLib3
import Derived.Test.YtolkoidoablphaaLib4
import Derived.Test.YtolkoidoablphaaLib5
import Derived.Test.YtolkoidoablphaaLib6
namespace Go.Proofs.Ytolkoidoablphaa.Pure
open Go.RowKit Go.Proofs.Ytolkoidoablphaa.PFnExactUnhex Go.Proofs.YtolkoidoablphaaW.PrintWords Go.Proofs.YtolkoidoablphaaW.PrintLast Go.Proofs.Ytolkoidoablphaa.Lib
set_option linter.unusedVariables false
set_option linter.unusedSimpArgs false

def valV (c : Nat) : Int := if 48 ≤ c ∧ c ≤ 57 then (c : Int) - 48 else if 97 ≤ c ∧ c ≤ 102 then (c : Int) - 87 else -1
theorem valV_range (c : Nat) : -1 ≤ valV c ∧ valV c ≤ 15 := by
  unfold valV
  split
  · omega
  · split <;> omega
theorem spec_value_ev (c : Nat) (hc : c ≤ 255) : Ev (fun k => spec_l01Value.f k (c : Int)) (valV c) := by
  unfold spec_l01Value.f valV
  have hf : ¬ (48 ≤ c ∧ c ≤ 57) → Ev (fun k => spec_l01Value.j0 k (c : Int) false) (if 97 ≤ c ∧ c ≤ 102 then (c : Int) - 87 else -1) := by
    intro _
    refine Ev.step (f := fun _ => some (if 97 ≤ c ∧ c ≤ 102 then (c : Int) - 87 else -1)) (fun k => ?_) (Ev.now _)
    simp only [spec_l01Value.j0, Bool.false_eq_true, ↓reduceIte]
    by_cases h : 97 ≤ c ∧ c ≤ 102
    · rw [if_pos (by omega), if_pos (by omega), if_pos h, wrap_id (x := (c : Int)) (by omega) (by omega), wrap_id (x := (c : Int) - 97) (by omega) (by omega), wrap_id (by omega) (by omega)]
      congr 1
      omega
    · rw [if_neg h]
      by_cases h1 : (c : Int) ≥ 97
      · rw [if_pos h1, if_neg (by omega)]
      · rw [if_neg h1]
  by_cases h : 48 ≤ c ∧ c ≤ 57
  · rw [if_pos h]
    have h1 : (c : Int) ≥ 48 := by omega
    simp only [if_pos h1, decide_eq_true (show (c : Int) ≤ 57 by omega)]
    refine Ev.step (f := fun _ => some ((c : Int) - 48)) (fun k => ?_) (Ev.now _)
    simp only [spec_l01Value.j0, ↓reduceIte]
    rw [wrap_id (x := (c : Int)) (by omega) (by omega), wrap_id (by omega) (by omega)]
  · rw [if_neg h]
    by_cases h1 : (c : Int) ≥ 48
    · simp only [if_pos h1, decide_eq_false (show ¬ (c : Int) ≤ 57 by omega)]
      exact hf h
    · simp only [if_neg h1]
      exact hf h
theorem impl_value_ev (c : Nat) (hc : c ≤ 255) : Ev (fun k => impl_figure.f k (c : Int)) (valV c) := by
  unfold impl_figure.f valV
  have hf : ¬ (48 ≤ c ∧ c ≤ 57) → Ev (fun k => impl_figure.j0 k (c : Int) false) (if 97 ≤ c ∧ c ≤ 102 then (c : Int) - 87 else -1) := by
    intro _
    refine Ev.step (f := fun _ => some (if 97 ≤ c ∧ c ≤ 102 then (c : Int) - 87 else -1)) (fun k => ?_) (Ev.now _)
    simp only [impl_figure.j0, Bool.false_eq_true, ↓reduceIte]
    by_cases h : 97 ≤ c ∧ c ≤ 102
    · rw [if_pos (by omega), if_pos (by omega), if_pos h, Int.emod_eq_of_lt (by omega) (by omega)]
      congr 1
      omega
    · rw [if_neg h]
      by_cases h1 : (c : Int) ≥ 97
      · rw [if_pos h1, if_neg (by omega)]
      · rw [if_neg h1]
  by_cases h : 48 ≤ c ∧ c ≤ 57
  · rw [if_pos h]
    have h1 : (c : Int) ≥ 48 := by omega
    simp only [if_pos h1, decide_eq_true (show (c : Int) ≤ 57 by omega)]
    refine Ev.step (f := fun _ => some ((c : Int) - 48)) (fun k => ?_) (Ev.now _)
    simp only [impl_figure.j0, ↓reduceIte]
    rw [Int.emod_eq_of_lt (by omega) (by omega)]
  · rw [if_neg h]
    by_cases h1 : (c : Int) ≥ 48
    · simp only [if_pos h1, decide_eq_false (show ¬ (c : Int) ≤ 57 by omega)]
      exact hf h
    · simp only [if_neg h1]
      exact hf h
def unhexFrom (t : ByteArray) : Nat → List Int → Nat → ByteArray × Bool
  | 0, acc, _ => (strOfNums acc, true)
  | d + 1, acc, i => if valV (btN t i) < 0 ∨ valV (btN t (i + 1)) < 0 then (⟨#[]⟩, false) else unhexFrom t d (acc ++ [16 * valV (btN t i) + valV (btN t (i + 1))]) (i + 2)
theorem spec_unhex_l0 (t : ByteArray) (hn : t.size ≤ 40000) (d : Nat) : ∀ (acc : List Int) (i : Nat), i + 2 * d = t.size → acc.length ≤ i →
    Ev (fun k => spec_Unhex.l0 k t acc (i : Int)) (unhexFrom t d acc i) := by
  induction d with
  | zero =>
    intro acc i hi hl
    refine Ev.step (f := fun _ => some (strOfNums acc, true)) (fun k => ?_) (Ev.now _)
    simp only [spec_Unhex.l0]
    rw [if_neg (by omega)]
  | succ d ih =>
    intro acc i hi hl
    have hbt := bt_range t (i : Int)
    have hm := byte_at t i
    rw [hm] at hbt
    have hbt' := bt_range t ((i + 1 : Nat) : Int)
    have hm' := byte_at t (i + 1)
    rw [hm'] at hbt'
    have := ih (acc ++ [16 * valV (btN t i) + valV (btN t (i + 1))]) (i + 2) (by omega) (by simp; omega)
    unfold unhexFrom
    generalize btN t i = c at hbt hm this ⊢
    generalize btN t (i + 1) = c' at hbt' hm' this ⊢
    have ew : wrap64 ((i : Int) + 1) = ((i + 1 : Nat) : Int) := by rw [wrap_id (by omega) (by omega)]; omega
    have ew2 : wrap64 ((i : Int) + 2) = ((i + 2 : Nat) : Int) := by rw [wrap_id (by omega) (by omega)]; omega
    have p0 : (0 : Int) ≤ ((i + 1 : Nat) : Int) := by omega
    have p1 : ((i + 1 : Nat) : Int) < (t.size : Int) := by omega
    have r1 := valV_range c
    have r2 := valV_range c'
    refine Ev.step (f := fun k => (spec_l01Value.f k (c : Int)).bind fun t104 => (spec_l01Value.f k (c' : Int)).bind fun t105 => if t104 < 0 then some (⟨#[]⟩, false) else if t105 < 0 then some (⟨#[]⟩, false) else if acc.length < 140737488355328 then spec_Unhex.l0 k t (acc ++ [(wrap64 (wrap64 (16 * t104) + t105)) % 256]) ((i + 2 : Nat) : Int) else none) (fun k => ?_) ?_
    · simp only [spec_Unhex.l0]
      rw [if_pos (by omega), if_pos (by omega), hm, ew]
      simp only [if_pos p0, if_pos p1, hm', ew2]
    · refine Ev.bind (spec_value_ev c (by omega)) (Ev.bind (spec_value_ev c' (by omega)) ?_)
      by_cases h1 : valV c < 0
      · rw [if_pos (.inl h1)]
        simp only [if_pos h1]
        exact Ev.now _
      · by_cases h2 : valV c' < 0
        · rw [if_pos (.inr h2)]
          simp only [if_neg h1, if_pos h2]
          exact Ev.now _
        · rw [if_neg (by omega)]
          have hl' : acc.length < 140737488355328 := by omega
          simp only [if_neg h1, if_neg h2, if_pos hl']
          rw [wrap_id (x := 16 * valV c) (by omega) (by omega), wrap_id (by omega) (by omega), Int.emod_eq_of_lt (by omega) (by omega)]
          exact this
def unhexV (t : ByteArray) : ByteArray × Bool := if t.size > 40000 ∨ t.size % 2 ≠ 0 then (⟨#[]⟩, false) else unhexFrom t (t.size / 2) [] 0
theorem spec_Unhex_ev (t : ByteArray) : Ev (fun k => spec_Unhex.f k t) (unhexV t) := by
  unfold spec_Unhex.f unhexV
  have ht : Ev (fun k => spec_Unhex.j0 k t true) (⟨#[]⟩, false) := by
    refine Ev.step (f := fun _ => some ((⟨#[]⟩ : ByteArray), false)) (fun k => ?_) (Ev.now _)
    simp only [spec_Unhex.j0, ↓reduceIte]
  by_cases h1 : (t.size : Int) > 40000
  · rw [if_pos (.inl (by omega))]
    simp only [if_pos h1]
    exact ht
  · simp only [if_neg h1]
    by_cases h2 : t.size % 2 = 0
    · rw [if_neg (by omega)]
      have e : (((t.size : Int) % 2) != 0) = false := by rw [bne_eq_false_iff_eq]; omega
      rw [e]
      refine Ev.step (f := fun k => spec_Unhex.l0 k t [] 0) (fun k => ?_) (spec_unhex_l0 t (by omega) (t.size / 2) [] 0 (by omega) (by simp))
      simp only [spec_Unhex.j0, Bool.false_eq_true, ↓reduceIte]
    · rw [if_pos (.inr h2)]
      have e : (((t.size : Int) % 2) != 0) = true := by rw [bne_iff_ne]; omega
      rw [e]
      exact ht
theorem impl_unhex_l0 (t : ByteArray) (hn : t.size ≤ 40000) (d : Nat) : ∀ (acc : List Int) (i : Nat), i + 2 * d = t.size → acc.length ≤ i →
    Ev (fun k => impl_Unhex.l0 k t acc (i : Int)) (unhexFrom t d acc i) := by
  induction d with
  | zero =>
    intro acc i hi hl
    refine Ev.step (f := fun _ => some (strOfNums acc, true)) (fun k => ?_) (Ev.now _)
    simp only [impl_Unhex.l0]
    rw [if_neg (by omega)]
  | succ d ih =>
    intro acc i hi hl
    have hbt := bt_range t (i : Int)
    have hm := byte_at t i
    rw [hm] at hbt
    have hbt' := bt_range t ((i + 1 : Nat) : Int)
    have hm' := byte_at t (i + 1)
    rw [hm'] at hbt'
    have := ih (acc ++ [16 * valV (btN t i) + valV (btN t (i + 1))]) (i + 2) (by omega) (by simp; omega)
    unfold unhexFrom
    generalize btN t i = c at hbt hm this ⊢
    generalize btN t (i + 1) = c' at hbt' hm' this ⊢
    have ew : wrap64 ((i : Int) + 1) = ((i + 1 : Nat) : Int) := by rw [wrap_id (by omega) (by omega)]; omega
    have ew2 : wrap64 ((i : Int) + 2) = ((i + 2 : Nat) : Int) := by rw [wrap_id (by omega) (by omega)]; omega
    have p0 : (0 : Int) ≤ ((i + 1 : Nat) : Int) := by omega
    have p1 : ((i + 1 : Nat) : Int) < (t.size : Int) := by omega
    have r1 := valV_range c
    have r2 := valV_range c'
    refine Ev.step (f := fun k => (impl_figure.f k (c : Int)).bind fun t104 => (impl_figure.f k (c' : Int)).bind fun t105 => if t104 < 0 then some (⟨#[]⟩, false) else if t105 < 0 then some (⟨#[]⟩, false) else if acc.length < 140737488355328 then impl_Unhex.l0 k t (acc ++ [(Go.bits .or .i64 (wrap64 (t104 * 16)) t105) % 256]) ((i + 2 : Nat) : Int) else none) (fun k => ?_) ?_
    · simp only [impl_Unhex.l0]
      rw [if_pos (by omega), if_pos (by omega), hm, ew]
      simp only [if_pos p0, if_pos p1, hm', ew2]
    · refine Ev.bind (impl_value_ev c (by omega)) (Ev.bind (impl_value_ev c' (by omega)) ?_)
      by_cases h1 : valV c < 0
      · rw [if_pos (.inl h1)]
        simp only [if_pos h1]
        exact Ev.now _
      · by_cases h2 : valV c' < 0
        · rw [if_pos (.inr h2)]
          simp only [if_neg h1, if_pos h2]
          exact Ev.now _
        · rw [if_neg (by omega)]
          have hl' : acc.length < 140737488355328 := by omega
          simp only [if_neg h1, if_neg h2, if_pos hl']
          rw [wrap_id (x := valV c * 16) (by omega) (by omega), or_join64 4 (by omega) (by omega) (by omega) (by omega) (by omega), Int.emod_eq_of_lt (by omega) (by omega), show valV c * 16 + valV c' = 16 * valV c + valV c' by omega]
          exact this
theorem impl_Unhex_ev (t : ByteArray) (hs : t.size ≤ 140737488351232) : Ev (fun k => impl_Unhex.f k t) (unhexV t) := by
  unfold impl_Unhex.f unhexV
  have ht : Ev (fun k => impl_Unhex.j0 k t true) (⟨#[]⟩, false) := by
    refine Ev.step (f := fun _ => some ((⟨#[]⟩ : ByteArray), false)) (fun k => ?_) (Ev.now _)
    simp only [impl_Unhex.j0, ↓reduceIte]
  by_cases h2 : ((t.size : Int) % 2) = 0
  · simp only [if_pos h2]
    by_cases h1 : (t.size : Int) > 40000
    · rw [if_pos (.inl (by omega)), decide_eq_true h1]
      exact ht
    · rw [if_neg (by omega), decide_eq_false h1]
      refine Ev.step (f := fun k => impl_Unhex.l0 k t [] 0) (fun k => ?_) (impl_unhex_l0 t (by omega) (t.size / 2) [] 0 (by omega) (by simp))
      simp only [impl_Unhex.j0, Bool.false_eq_true, ↓reduceIte]
      rw [if_pos (by rw [wrap_id (by omega) (by omega)]; omega), if_pos (by rw [wrap_id (by omega) (by omega)]; omega)]
      rfl
  · simp only [if_neg h2]
    rw [if_pos (.inr (by omega))]
    exact ht

theorem FnExactUnhex : laws_FnExactUnhex.Pure := by
  intro t ht
  refine Ev.rounds (g := fun k => laws_FnExactUnhex.f k t) ?_
  unfold laws_FnExactUnhex.f
  by_cases h : (t.size : Int) > 1048576
  · simp only [if_pos h]
    exact Ev.now _
  · simp only [if_neg h]
    refine Ev.bind (spec_Unhex_ev t) (Ev.bind (impl_Unhex_ev t ht) ?_)
    simp only [↓reduceIte, bne_self_eq_false, Bool.false_eq_true]
    exact Ev.now _

end Go.Proofs.Ytolkoidoablphaa.Pure
