/- A row with one element cut out of it. No program in it. -/
import Derived.Test.YtjfjpabfkembcaaHOwn3
import Derived.Laws.IdiomCopy
namespace Go.Proofs.Ytjfjpabfkembcaa.H
open Go.RowKit
set_option linter.unusedVariables false
theorem setCells_sets (g : Nat) : ∀ (vs : List Value) (o : Nat) (w : World), w.setCells g o vs = sets w g o vs
  | [], _, _ => rfl
  | u :: us, o, w => setCells_sets g us (o + 1) _
theorem owRow_cut {α : Type} {e sz : Nat} {R : World → List Nat → List Value → α → Prop} {K : World → List Value → α → Prop} (o : Ow sz R K) {w : World} {D : List Nat} {v : Value} {l : List α} (h : owRow e sz R w D v l) (hN : D.Nodup)
    (i : Nat) (hi : i < l.length) :
    ∃ (g c : Nat) (xs : List Value), v = .slice (some ⟨g, 0, none⟩) l.length c ∧ g ∈ D ∧ l.length ≤ c ∧ c ≤ maxLen ∧ xs.length = l.length * sz ∧ (∀ u ∈ xs, u.oneCell' = true) ∧ (∀ j u, xs[j]? = some u → w.cell? ⟨g, j, none⟩ = some u) ∧ (∀ j, w.frozen? ⟨g, j, none⟩ = false) ∧
      (∃ cur, w.heap[g]? = some (.cells cur e (0, 0))) ∧
      ∀ w', (∀ b ∈ D, b ≠ g → w'.heap[b]? = w.heap[b]?) → Seg g 0 (l.length * sz) w w' → (∀ j, j < (l.length - 1) * sz → w'.cell? ⟨g, j, none⟩ = (xs.take (i * sz) ++ xs.drop ((i + 1) * sz))[j]?) →
        ∃ D', owRow e sz R w' D' (.slice (some ⟨g, 0, none⟩) (l.length - 1) c) (l.eraseIdx i) ∧ D'.Nodup ∧ ∀ b ∈ D', b ∈ D := by
  obtain ⟨xs, Dr, h1, hD, h3⟩ := h
  have hone := owEl_ones (fun hR => o.one hR) h3
  obtain ⟨Da, Di, Db, xa, xi, xb, e1, e2, e3, e4, e5, e6, e7⟩ := owEl_split (fun hR => o.len hR) i hi h3
  rcases h1.2 with ⟨_, hn⟩ | ⟨g, cap, cur, hv, hb0, hh, hnc, hm, hs, ht⟩
  · omega
  have hob : v.ownBlock = some g := by rw [hv]; rfl
  have hDD : D = g :: (Da ++ (Di ++ Db)) := by rw [hD, hob, e1]; rfl
  have hND := hN
  rw [hDD] at hND
  simp only [List.nodup_cons, List.nodup_append, List.mem_append, not_or] at hND
  obtain ⟨⟨ga, gi, gb⟩, na, ⟨ni, nb, dib⟩, dai⟩ := hND
  have hxl : xs.length = l.length * sz := h1.1
  have hil : (i + 1) * sz ≤ l.length * sz := Nat.mul_le_mul_right _ hi
  have hsub : (l.length - 1) * sz + sz = l.length * sz := by rw [← Nat.succ_mul]; congr 1; omega
  have hcell : ∀ j u, xs[j]? = some u → w.cell? ⟨g, j, none⟩ = some u := fun j u hu => by
    have := h1.cells (g := g) hob j u hu
    rw [add_zero_] at this
    exact this
  refine ⟨g, cap, xs, hv, by rw [hDD]; simp, hnc, hm, hxl, hone, hcell, fun j => frozen_of_row w g j cur e hh, ⟨cur, hh⟩, fun w' hkeep hseg hnew => ?_⟩
  obtain ⟨c1, c2, e', s1, s2, s3, s4⟩ := hseg
  rw [hh] at s1
  injection s1 with s1
  injection s1 with s1 s1e
  subst s1 s1e
  have hle : (l.eraseIdx i).length = l.length - 1 := List.length_eraseIdx_of_lt hi
  have hcutl : xs.take (i * sz) ++ xs.drop ((i + 1) * sz) = xa ++ xb := by
    have h2 : (i + 1) * sz = (xa ++ xi).length := by rw [List.length_append, e3, e4, Nat.succ_mul]
    rw [e2, ← e3, List.take_left, h2, ← List.append_assoc, List.drop_left]
  have hcl : (xa ++ xb).length = (l.length - 1) * sz := by
    have := congrArg List.length e2
    simp only [List.length_append] at this ⊢
    omega
  have hmv : ∀ {E : List Nat} {ys : List Value} {m : List α}, (∀ b ∈ E, b ∈ D ∧ b ≠ g) → owEl (R w) E ys m → owEl (R w') E ys m := fun hE hm => owEl_imp hm fun D1 cs y hs' _ hR => o.mov hR fun b hb => by
    obtain ⟨k1, k2⟩ := hE b (hs' b hb)
    exact hkeep b k1 k2
  refine ⟨g :: (Da ++ Db), ⟨xa ++ xb, Da ++ Db, ⟨by rw [hcl, hle], .inr ⟨g, cap, c2, by rw [hle], hb0, s2, by rw [hle]; omega, hm, by rw [s3]; exact hs, ?_⟩⟩, rfl, ?_⟩, ?_, fun b hb => ?_⟩
  · rw [hle, ← hcutl]
    apply List.ext_getElem?
    intro q
    by_cases hq : q < (l.length - 1) * sz
    · rw [List.getElem?_take_of_lt hq, Array.getElem?_toList, ← hnew q hq, cell_of_row w' g q c2 e (0, 0) s2]
    · rw [List.getElem?_eq_none (by rw [List.length_take]; omega), List.getElem?_eq_none (by rw [hcutl, hcl]; omega)]
  · rw [List.eraseIdx_eq_take_drop_succ]
    exact owEl_append (hmv (fun b hb => ⟨by rw [hDD]; simp [hb], fun h => ga (h ▸ hb)⟩) e5) (hmv (fun b hb => ⟨by rw [hDD]; simp [hb], fun h => gb (h ▸ hb)⟩) e7)
  · simp only [List.nodup_cons, List.nodup_append, List.mem_append, not_or]
    exact ⟨⟨ga, gb⟩, na, nb, fun a ha b hb hab => dai a ha b (.inr hb) hab⟩
  · rw [hDD]
    simp only [List.mem_cons, List.mem_append] at hb ⊢
    rcases hb with h | h | h
    · exact .inl h
    · exact .inr (.inl h)
    · exact .inr (.inr (.inr h))
/-- The same shape under a name: what is left where a row's elements behind i move up by one, and the last one's cells are written anew. -/
theorem cut_world {w : World} {g i n sz : Nat} {xs zs : List Value} {cur : Array Value} {e : TypeId} (hi : i < n) (hx : xs.length = n * sz) (hz : zs.length = sz) (hh : w.heap[g]? = some (.cells cur e (0, 0))) (hc : ∀ j u, xs[j]? = some u → w.cell? ⟨g, j, none⟩ = some u) :
    Seg g 0 (n * sz) w (sets (sets w g (i * sz) (xs.drop ((i + 1) * sz))) g ((n - 1) * sz) zs) ∧
    ∀ j, j < (n - 1) * sz → (sets (sets w g (i * sz) (xs.drop ((i + 1) * sz))) g ((n - 1) * sz) zs).cell? ⟨g, j, none⟩ = (xs.take (i * sz) ++ xs.drop ((i + 1) * sz))[j]? := by
  have hil : (i + 1) * sz ≤ n * sz := Nat.mul_le_mul_right _ hi
  have hsub : (n - 1) * sz + sz = n * sz := by rw [← Nat.succ_mul]; congr 1; omega
  have hii : (i + 1) * sz = i * sz + sz := Nat.succ_mul _ _
  have hdl : (xs.drop ((i + 1) * sz)).length = n * sz - (i + 1) * sz := by rw [List.length_drop, hx]
  refine ⟨sets_seg g 0 (n * sz) zs _ w _ (sets_seg g 0 (n * sz) _ _ w w (Seg.refl hh) (Nat.zero_le _) (by omega)) (Nat.zero_le _) (by omega), fun j hj => ?_⟩
  rw [sets_cell_lt g zs _ _ j hj]
  by_cases h : j < i * sz
  · rw [sets_cell_lt g _ _ _ j h, List.getElem?_append_left (by rw [List.length_take]; omega), List.getElem?_take_of_lt h, List.getElem?_eq_getElem (show j < xs.length by omega)]
    exact hc j _ (List.getElem?_eq_getElem (by omega))
  · have hl2 : (xs.take (i * sz)).length = i * sz := by rw [List.length_take]; omega
    rw [List.getElem?_append_right (by omega), hl2, List.getElem?_eq_getElem (show j - i * sz < (xs.drop ((i + 1) * sz)).length by omega)]
    have := sets_cell g (xs.drop ((i + 1) * sz)) (i * sz) w (fun q hq => ⟨_, hc (i * sz + q) _ (List.getElem?_eq_getElem (by omega))⟩) (j - i * sz) _ (List.getElem?_eq_getElem (by omega))
    rw [show i * sz + (j - i * sz) = j by omega] at this
    exact this
end Go.Proofs.Ytjfjpabfkembcaa.H
