/- Steps of a region whose order is open, taken one by one: an operation that yields; one that its guard passes over; a call. No program in it. -/
import Derived.Test.YtjfjpabfkembcaaHTac
import Derived.Deep.RegionHeld3
namespace Go.Proofs.Ytjfjpabfkembcaa.H
open Go.RowKit
set_option linter.unusedVariables false
section
variable {P : Program} {ops : Array Oper} {Q : Exit → Act → World → Prop} {S : World → Prop}
theorem rT (i N : Nat) {fuel : Nat} {l l' : Array Bool} {a a' : Act} {w : World} {oi : Oper} {v : Value} (hS : S w) (h : wpAnyH P .any ops Q S fuel l' a' w)
    (hi : ops[i]? = some oi := by exact rfl) (hN : oi.dst = some N := by exact rfl) (hs : Region.noSelect ops = true := by kernel_rfl) (hf : Region.free .any ops l i = true := by kernel_rfl) (hr : (Region.ready .any ops l).contains i = true := by kernel_rfl)
    (hQ : ∀ c a w, Q (.panic c) (a.put oi.dst v) w → Q (.panic c) a w := by exact fun _ _ _ h => h)
    (hy : YieldsIf P ops S oi v a := by (refine Or.inl ⟨by kernel_rfl, ?_⟩; intro w' hs_; (repeat (have hs1_ := And.left hs_; (try (have hl_ := Loc.cells hs1_)); replace hs_ := And.right hs_)); go_simp; with_reducible rfl))
    (hl : l.setIfInBounds i true = l' := by rfl)
    (ha : a.put (some N) v = a' := by (simp only [Act.put, List.setIfInBounds_toArray, List.set_cons_zero, List.set_cons_succ]; rfl)) : wpAnyH P .any ops Q S (fuel + 1) l a w :=
  wpAnyH_take hi hs hf hr hQ hy hS (by rw [hl, hN, ha]; exact h)
theorem rU (i N : Nat) {fuel : Nat} {l l' : Array Bool} {a a' : Act} {w : World} {oi : Oper} (hS : S w) (h : wpAnyH P .any ops Q S fuel l' a' w)
    (hi : ops[i]? = some oi := by exact rfl) (hN : oi.dst = some N := by exact rfl) (hs : Region.noSelect ops = true := by kernel_rfl) (hf : Region.free .any ops l i = true := by kernel_rfl) (hr : (Region.ready .any ops l).contains i = true := by kernel_rfl)
    (hQ : ∀ c a w, Q (.panic c) (a.put oi.dst undef) w → Q (.panic c) a w := by exact fun _ _ _ h => h)
    (hy : Region.wanted oi (yielded ops a.tmps) = false := by kernel_rfl)
    (hl : l.setIfInBounds i true = l' := by rfl)
    (ha : a.put (some N) undef = a' := by (simp only [Act.put, List.setIfInBounds_toArray, List.set_cons_zero, List.set_cons_succ]; rfl)) : wpAnyH P .any ops Q S (fuel + 1) l a w :=
  wpAnyH_take hi hs hf hr hQ (Or.inr ⟨hy, rfl⟩) hS (by rw [hl, hN, ha]; exact h)
end
end Go.Proofs.Ytjfjpabfkembcaa.H
