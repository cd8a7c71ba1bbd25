/- An element of a row that a call owns, replaced whole by one that lies apart. No program in it. -/
import Derived.Test.YtjfjpabfkembcaaHHas
namespace Go.Proofs.Ytjfjpabfkembcaa.H
open Go.RowKit
set_option linter.unusedVariables false
theorem owRow_replace {α : Type} {e sz : Nat} {R : World → List Nat → List Value → α → Prop} {K : World → List Value → α → Prop} (o : Ow sz R K) {w : World} {D Dx : List Nat} {v : Value} {l : List α} {cs : List Value} {x : α}
    (h : owRow e sz R w D v l) (hN : D.Nodup) (i : Nat) (hi : i < l.length) (hsz : 0 < sz) (hNx : Dx.Nodup) (hoff : ∀ b ∈ Dx, b ∉ D) :
    ∃ g c, v = .slice (some ⟨g, 0, none⟩) l.length c ∧ g ∈ D ∧ (∀ j, j < sz → ∃ u, w.cell? ⟨g, i * sz + j, none⟩ = some u) ∧ (∀ j, w.frozen? ⟨g, j, none⟩ = false) ∧
      ∀ w1, Below w.heap.size w w1 → R w1 Dx cs x → ∃ D', owRow e sz R (sets w1 g (i * sz) cs) D' v (l.set i x) ∧ D'.Nodup ∧ ∀ b ∈ D', b ∈ D ∨ b ∈ Dx := by
  obtain ⟨g, c, Di, xi, hv, hgD, hgi, hDi, hnd, hRi, hcell, hfr, ⟨cur, hcur⟩, F⟩ := owRow_focus o h hN i hi hsz
  have hxi := o.len hRi
  have hgl : g < w.heap.size := (Array.getElem?_eq_some_iff.1 hcur).1
  refine ⟨g, c, hv, hgD, fun j hj => ⟨_, hcell j _ (List.getElem?_eq_getElem (by omega))⟩, hfr, fun w1 hb hR => ?_⟩
  have hcs := o.len hR
  have hgx : g ∉ Dx := fun k => hoff g k hgD
  have hseg : Seg g (i * sz) (i * sz + sz) w w1 := (Seg.refl hcur).keep (hb.block g hgl)
  exact F (sets w1 g (i * sz) cs) Dx cs x (fun b hbD hbg _ => (sets_far g cs _ w1 b hbg).trans (hb.block b (owRow_lt o h b hbD))) (sets_seg g _ _ cs _ w w1 hseg (Nat.le_refl _) (by omega))
    (sets_cell g cs _ w1 (fun j hj => ⟨_, (hb.cell (p := ⟨g, i * sz + j, none⟩) hgl).trans (hcell j _ (List.getElem?_eq_getElem (by omega)))⟩)) (o.mov hR fun b hbx => sets_far g cs _ w1 b (fun e => hgx (e ▸ hbx))) hNx
    (fun b hbx => .inr (hoff b hbx))
theorem setsc7 (w : World) (g : Nat) (v0 v1 v2 v3 v4 v5 v6 : Value) : ((((((w.setCell ⟨g, 0, none⟩ v0).setCell ⟨g, 1, none⟩ v1).setCell ⟨g, 2, none⟩ v2).setCell ⟨g, 3, none⟩ v3).setCell ⟨g, 4, none⟩ v4).setCell ⟨g, 5, none⟩ v5).setCell ⟨g, 6, none⟩ v6 = sets w g 0 [v0, v1, v2, v3, v4, v5, v6] := rfl
theorem setsc4 (w : World) (g : Nat) (v0 v1 v2 v3 : Value) : (((w.setCell ⟨g, 0, none⟩ v0).setCell ⟨g, 1, none⟩ v1).setCell ⟨g, 2, none⟩ v2).setCell ⟨g, 3, none⟩ v3 = sets w g 0 [v0, v1, v2, v3] := rfl
theorem owRow_sets {α : Type} {e sz s : Nat} {R : World → List Nat → List Value → α → Prop} {K : World → List Value → α → Prop} (o : Ow s R K) {w : World} {D : List Nat} {v : Value} {l : List α} (h : owRow e sz R w D v l)
    {g : Nat} (hg : g ∉ D) (cs : List Value) (k : Nat) : owRow e sz R (sets w g k cs) D v l := owRow_mov o h fun b hb => sets_far g cs k w b (fun e => hg (e ▸ hb))
theorem setsk7 (w : World) (g k : Nat) (v0 v1 v2 v3 v4 v5 v6 : Value) : ((((((w.setCell ⟨g, k, none⟩ v0).setCell ⟨g, k + 1, none⟩ v1).setCell ⟨g, k + 2, none⟩ v2).setCell ⟨g, k + 3, none⟩ v3).setCell ⟨g, k + 4, none⟩ v4).setCell ⟨g, k + 5, none⟩ v5).setCell ⟨g, k + 6, none⟩ v6 = sets w g k [v0, v1, v2, v3, v4, v5, v6] := rfl
theorem Loc.sets2 {w : World} {b g o : Nat} {cs : Array Value} {t : TypeId} (h : Loc w b cs t) (hne : b ≠ g) (vs : List Value) : Loc (sets w g o vs) b cs t := (sets_far g vs o w b hne).trans h
theorem below_sets2 {w0 w : World} {g : Nat} (h : Below w0.heap.size w0 w) (hg : w0.heap.size ≤ g) : ∀ (vs : List Value) (o : Nat), Below w0.heap.size w0 (H.sets w g o vs) := fun vs o => by
  induction vs generalizing w o with
  | nil => exact h
  | cons u us ih => exact ih (below_set h (p := ⟨g, o, none⟩) hg u) (o + 1)
theorem New.sets2 {w0 w : World} {D : List Nat} (h : New w0 w D) (g o : Nat) (vs : List Value) : New w0 (sets w g o vs) D := h.mono (by rw [sets_size]; exact Nat.le_refl _)
end Go.Proofs.Ytjfjpabfkembcaa.H
