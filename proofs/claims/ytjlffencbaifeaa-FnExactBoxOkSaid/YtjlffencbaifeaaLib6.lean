import Derived.Test.YtjlffencbaifeaaLib5
import Derived.Test.YtjlffencbaifeaaPW
namespace Go.Proofs.Ytjlffencbaifeaa.Lib
open Go.RowKit Go.Proofs.YtjlffencbaifeaaW.PrintWords
set_option linter.unusedVariables false
/-! ### loops over a list -/
theorem anyE {α : Type} (p : α → Bool) (l : List α) (F : Nat → Nat → Option Bool) (hend : Ev (fun k => F k l.length) false)
    (hstep : ∀ i (h : i < l.length) (r : Bool), Ev (fun k => F k (i + 1)) r → Ev (fun k => F k i) (p l[i] || r)) : Ev (fun k => F k 0) (l.any p) := by
  have key := ev_down (P := fun i => Ev (fun k => F k i) ((l.drop i).any p)) l.length ?_ ?_
  · simpa using key
  · simpa using hend
  · intro i hi h
    rw [List.drop_eq_getElem_cons hi, List.any_cons]
    exact hstep i hi _ h
theorem allE {α : Type} (p : α → Bool) (b : Bool) (l : List α) (F : Nat → Nat → Option Bool) (hend : Ev (fun k => F k l.length) b)
    (hstep : ∀ i (h : i < l.length) (r : Bool), Ev (fun k => F k (i + 1)) r → Ev (fun k => F k i) (p l[i] && r)) : Ev (fun k => F k 0) (l.all p && b) := by
  have key := ev_down (P := fun i => Ev (fun k => F k i) ((l.drop i).all p && b)) l.length ?_ ?_
  · simpa using key
  · simpa using hend
  · intro i hi h
    rw [List.drop_eq_getElem_cons hi, List.all_cons, Bool.and_assoc]
    exact hstep i hi _ h
/-- All of a list, each with its place and all before it. -/
def allAt {α : Type} (p : Nat → α → Bool) : Nat → List α → Bool
  | _, [] => true
  | i, x :: l => p i x && allAt p (i + 1) l
theorem allAtE {α : Type} (p : Nat → α → Bool) (b : Bool) (l : List α) (F : Nat → Nat → Option Bool) (hend : Ev (fun k => F k l.length) b)
    (hstep : ∀ i (h : i < l.length) (r : Bool), Ev (fun k => F k (i + 1)) r → Ev (fun k => F k i) (p i l[i] && r)) : Ev (fun k => F k 0) (allAt p 0 l && b) := by
  have key := ev_down (P := fun i => Ev (fun k => F k i) (allAt p i (l.drop i) && b)) l.length ?_ ?_
  · simpa using key
  · simpa [allAt] using hend
  · intro i hi h
    rw [List.drop_eq_getElem_cons hi]
    simp only [allAt, Bool.and_assoc]
    exact hstep i hi _ h
theorem findE {α : Type} (p : α → Bool) (l : List α) (F : Nat → Nat → Option Int) (hend : Ev (fun k => F k l.length) (-1))
    (hstep : ∀ i (h : i < l.length) (r : Int), (p l[i] = false → Ev (fun k => F k (i + 1)) r) → Ev (fun k => F k i) (if p l[i] = true then (i : Int) else r)) : Ev (fun k => F k 0) (idxBy p l) := by
  have key := ev_down (P := fun i => (∀ (j : Nat), j < i → ∀ (x : α), l[j]? = some x → p x = false) → Ev (fun k => F k i) (idxBy p l)) l.length ?_ ?_
  · exact key (fun j hj => absurd hj (Nat.not_lt_zero _))
  · intro hn
    rw [idxBy_miss p l (fun j x hx => hn j (List.getElem?_eq_some_iff.1 hx).1 x hx)]
    exact hend
  · intro i hi h hn
    by_cases hp : p l[i] = true
    · have := hstep i hi (idxBy p l) (fun h => by rw [hp] at h; cases h)
      rw [if_pos hp] at this
      rw [idxBy_hit p l i hi hn hp]
      exact this
    · have := hstep i hi (idxBy p l) (fun hf => h (fun j hj x hx => by
        rcases Nat.lt_or_ge j i with hlt | hge
        · exact hn j hlt x hx
        · obtain rfl : j = i := by omega
          rw [List.getElem?_eq_getElem hi] at hx
          rw [← Option.some.inj hx]
          exact hf))
      rw [if_neg hp] at this
      exact this
theorem idxBy_any {α : Type} (p : α → Bool) (l : List α) : (0 ≤ idxBy p l) ↔ l.any p = true := by
  unfold idxBy
  cases h : l.findIdx? p with
  | none =>
    have := List.findIdx?_eq_none_iff.1 h
    simp only [List.any_eq_true]
    constructor
    · intro h; omega
    · rintro ⟨x, hx, hp⟩
      rw [this x hx] at hp
      cases hp
  | some i =>
    obtain ⟨hi, hp, _⟩ := List.findIdx?_eq_some_iff_getElem.1 h
    simp only [List.any_eq_true]
    exact ⟨fun _ => ⟨_, List.getElem_mem hi, hp⟩, fun _ => by omega⟩
theorem idxBy_lt {α : Type} (p : α → Bool) (l : List α) : idxBy p l < (l.length : Int) ∧ -1 ≤ idxBy p l := by
  unfold idxBy
  cases h : l.findIdx? p with
  | none => simp only; omega
  | some i =>
    obtain ⟨hi, hp, _⟩ := List.findIdx?_eq_some_iff_getElem.1 h
    simp only; omega
theorem any_or {α : Type} (p q : α → Bool) (l : List α) : l.any (fun x => p x || q x) = (l.any p || l.any q) := by
  induction l with
  | nil => rfl
  | cons a l ih => simp only [List.any_cons, ih]; cases p a <;> cases q a <;> simp
end Go.Proofs.Ytjlffencbaifeaa.Lib
