/- A region whose order is open and in which number z, a store, may change what the others read: S is shown behind each operation till z has come. No program in it. -/
import Derived.Test.YtjfjpabfkembcaaHRegZ
import Derived.Test.YtjfjpabfkembcaaHHas
namespace Go.Proofs.Ytjfjpabfkembcaa.H
open Go.RowKit
set_option linter.unusedVariables false
section
variable {P : Program} {ops : Array Oper} {Q : Exit → Act → World → Prop} {S : World → Prop} {z : Nat}
/-- Whatever is picked next; S is known behind it while z has not come. -/
def anyY (P : Program) (ops : Array Oper) (Q : Exit → Act → World → Prop) (S : World → Prop) (z : Nat) : Nat → Array Bool → Act → World → Prop
  | 0, l, a, w => Region.ready .any ops l = [] ∧ Q .normal a w
  | n + 1, l, a, w => (Region.ready .any ops l = [] → Q .normal a w) ∧
      ∀ i, i ∈ Region.ready .any ops l → wpOp P ops Q i (fun a' w' => (i ≠ z → l.getD z true = false → S w') ∧ anyY P ops Q S z n (l.setIfInBounds i true) a' w') a w
theorem anyY_any : ∀ (n : Nat) (l : Array Bool) (a : Act) (w : World), anyY P ops Q S z n l a w → wpAny P .any ops Q n l a w
  | 0, _, _, _, h => h
  | n + 1, _, _, _, ⟨h0, h1⟩ => ⟨h0, fun i hi => wpOp_mono (fun a' w' hh => anyY_any n _ a' w' hh.2) (h1 i hi)⟩
theorem unlisted {i j : Nat} {l : Array Bool} (h : (l.setIfInBounds j true).getD i true = false) : i ≠ j ∧ l.getD i true = false := by
  rcases Decidable.em (j = i) with e | e
  · subst e
    simp at h
  · rw [getD_set_ne true e] at h
    exact ⟨fun h => e h.symm, h⟩
/-- An operation may be taken first: if it yields its value in every world that meets S and z waits for it, or if it yields its value in whatever world. -/
theorem anyY_early {i : Nat} {oi : Oper} {v : Value} {S' : World → Prop} (hi : ops[i]? = some oi) (hsel : ∀ (j : Nat) (o : Oper) cs b, ops[j]? = some o → o.op ≠ .select cs b)
    (hQ : ∀ c a w, Q (.panic c) (a.put oi.dst v) w → Q (.panic c) a w) (hiz : i ≠ z) (hz : waitsZ ops z i = true ∧ S' = S ∨ S' = fun _ => True) :
    ∀ (n : Nat) (l : Array Bool) (a : Act) (w : World),
      (∀ j oj, ops[j]? = some oj → j ≠ i → l.getD j true = false → (∀ e ∈ oj.after, Region.binds .any e = true → e.on ≠ i) → oi.apart ops oj = true) →
      i ∈ Region.ready .any ops l → YieldsIf P ops S' oi v a → (l.getD z true = false → S w) → (waitsZ ops z i = true → S' = S → l.getD z true = false) →
      anyY P ops Q S z n (l.setIfInBounds i true) (a.put oi.dst v) w → anyY P ops Q S z (n + 1) l a w := by
  have here : ∀ (l : Array Bool) (w : World), (l.getD z true = false → S w) → (waitsZ ops z i = true → S' = S → l.getD z true = false) → S' w := fun l w hS hl => by
    rcases hz with ⟨h1, h2⟩ | h2
    · rw [h2]; exact hS (hl h1 h2)
    · rw [h2]; trivial
  intro n
  induction n with
  | zero =>
    intro l a w _ hr hy hS hl H
    refine ⟨fun h => absurd hr (by rw [h]; simp), fun j hj => ?_⟩
    rcases Decidable.em (j = i) with e | e
    · subst e
      exact hy.wpOp hi (here l w hS hl) ⟨fun _ h => hS h, H⟩
    · exact absurd (ready_mono hj e) (by rw [H.1]; simp)
  | succ n ih =>
    intro l a w hfree hr hy hS hl H
    refine ⟨fun h => absurd hr (by rw [h]; simp), fun j hj => ?_⟩
    rcases Decidable.em (j = i) with e | e
    · subst e
      exact hy.wpOp hi (here l w hS hl) ⟨fun _ h => hS h, H⟩
    · have hjz : waitsZ ops z i = true → j ≠ z := fun h e' => waitsZ_spec h (mem_ready.1 hr).1 (e' ▸ hj)
      obtain ⟨hjun, oj, hoj, _⟩ := mem_ready.1 hj
      have hap := hfree j oj hoj e hjun (ready_un hr hj hoj)
      refine wpOp_mono ?_ (wpOp_putIf hoj hap (fun cs b => hsel i oi cs b hi) (fun cs b => hsel j oj cs b hoj) hQ hy (H.2 j (ready_mono hj e)))
      rintro a' w' ⟨hy', hS', H'⟩
      have hS2 : j ≠ z → l.getD z true = false → S w' := fun h1 h2 => hS' h1 (by rw [getD_set_ne true hiz]; exact h2)
      refine ⟨hS2, ih _ a' w' (fun k ok hk hki hun hno => hfree k ok hk hki (unlisted hun).2 hno) (ready_mono hr (Ne.symm e)) hy' (fun h => hS2 (unlisted h).1.symm (unlisted h).2) (fun h1 h2 => ?_) ?_⟩
      · rw [getD_set_ne true (hjz h1)]; exact hl h1 h2
      · rw [Array.setIfInBounds_comm _ _ e]
        exact H'
/-- One step taken early. -/
theorem yT (i N : Nat) {n : Nat} {l l' : Array Bool} {a a' : Act} {w : World} {oi : Oper} {v : Value} (hS : S w) (h : anyY P ops Q S z n l' a' w)
    (hi : ops[i]? = some oi := by exact rfl) (hN : oi.dst = some N := by exact rfl) (hs : Region.noSelect ops = true := by kernel_rfl) (hf : Region.free .any ops l i = true := by kernel_rfl) (hr : (Region.ready .any ops l).contains i = true := by kernel_rfl)
    (hiz : i ≠ z := by decide) (hz : waitsZ ops z i = true := by kernel_rfl)
    (hQ : ∀ c a w, Q (.panic c) (a.put oi.dst v) w → Q (.panic c) a w := by exact fun _ _ _ h => h)
    (hy : YieldsIf P ops S oi v a := by (refine Or.inl ⟨by kernel_rfl, ?_⟩; intro w' hs_; (repeat (have hs1_ := And.left hs_; (try (have hl_ := Loc.cells hs1_)); replace hs_ := And.right hs_)); (try (have hl_ := Loc.cells hs_)); go_simp; with_reducible rfl))
    (hl : l.setIfInBounds i true = l' := by rfl)
    (ha : a.put (some N) v = a' := by (simp only [Act.put, List.setIfInBounds_toArray, List.set_cons_zero, List.set_cons_succ]; rfl)) (hzz : l.getD z true = false := by rfl) : anyY P ops Q S z (n + 1) l a w :=
  anyY_early (S' := S) hi (Region.noSelect_spec hs) hQ hiz (.inl ⟨hz, rfl⟩) n l a w (Region.free_spec hi hf) (by simpa using hr) hy (fun _ => hS) (fun _ _ => hzz) (by rw [hl, hN, ha]; exact h)
/-- One that yields its value in whatever world. -/
theorem yP (i N : Nat) {n : Nat} {l l' : Array Bool} {a a' : Act} {w : World} {oi : Oper} {v : Value} (hS : S w) (h : anyY P ops Q S z n l' a' w)
    (hi : ops[i]? = some oi := by exact rfl) (hN : oi.dst = some N := by exact rfl) (hs : Region.noSelect ops = true := by kernel_rfl) (hf : Region.free .any ops l i = true := by kernel_rfl) (hr : (Region.ready .any ops l).contains i = true := by kernel_rfl)
    (hiz : i ≠ z := by decide)
    (hQ : ∀ c a w, Q (.panic c) (a.put oi.dst v) w → Q (.panic c) a w := by exact fun _ _ _ h => h)
    (hy : YieldsIf P ops (fun _ => True) oi v a := by (refine Or.inl ⟨by kernel_rfl, ?_⟩; intro w' _; go_simp; with_reducible rfl))
    (hnS : waitsZ ops z i = false := by kernel_rfl)
    (hl : l.setIfInBounds i true = l' := by rfl)
    (ha : a.put (some N) v = a' := by (simp only [Act.put, List.setIfInBounds_toArray, List.set_cons_zero, List.set_cons_succ]; rfl)) : anyY P ops Q S z (n + 1) l a w :=
  anyY_early (S' := fun _ => True) hi (Region.noSelect_spec hs) hQ hiz (.inr rfl) n l a w (Region.free_spec hi hf) (by simpa using hr) hy (fun _ => hS) (fun h => absurd h (by rw [hnS]; simp)) (by rw [hl, hN, ha]; exact h)
/-- One that its guard passes over. -/
theorem yU (i N : Nat) {n : Nat} {l l' : Array Bool} {a a' : Act} {w : World} {oi : Oper} (hS : S w) (h : anyY P ops Q S z n l' a' w)
    (hi : ops[i]? = some oi := by exact rfl) (hN : oi.dst = some N := by exact rfl) (hs : Region.noSelect ops = true := by kernel_rfl) (hf : Region.free .any ops l i = true := by kernel_rfl) (hr : (Region.ready .any ops l).contains i = true := by kernel_rfl)
    (hiz : i ≠ z := by decide) (hz : waitsZ ops z i = true := by kernel_rfl)
    (hQ : ∀ c a w, Q (.panic c) (a.put oi.dst undef) w → Q (.panic c) a w := by exact fun _ _ _ h => h)
    (hy : Region.wanted oi (yielded ops a.tmps) = false := by kernel_rfl)
    (hl : l.setIfInBounds i true = l' := by rfl)
    (ha : a.put (some N) undef = a' := by (simp only [Act.put, List.setIfInBounds_toArray, List.set_cons_zero, List.set_cons_succ]; rfl)) (hzz : l.getD z true = false := by rfl) : anyY P ops Q S z (n + 1) l a w :=
  anyY_early (S' := S) hi (Region.noSelect_spec hs) hQ hiz (.inl ⟨hz, rfl⟩) n l a w (Region.free_spec hi hf) (by simpa using hr) (Or.inr ⟨hy, rfl⟩) (fun _ => hS) (fun _ _ => hzz) (by rw [hl, hN, ha]; exact h)
def allY (P : Program) (ops : Array Oper) (Q : Exit → Act → World → Prop) (S : World → Prop) (z n : Nat) (l : Array Bool) (a : Act) (w : World) (rs : List Nat) : Prop :=
  ∀ i ∈ rs, wpOp P ops Q i (fun a' w' => (i ≠ z → l.getD z true = false → S w') ∧ anyY P ops Q S z n (l.setIfInBounds i true) a' w') a w
theorem yReady {rs : List Nat} {n : Nat} {l : Array Bool} {a : Act} {w : World} (hr : Region.ready .any ops l = rs) (hne : rs ≠ []) (h : allY P ops Q S z n l a w rs) : anyY P ops Q S z (n + 1) l a w :=
  ⟨fun h0 => absurd (hr ▸ h0) hne, fun i hi => h i (hr ▸ hi)⟩
theorem yNil {n : Nat} {l : Array Bool} {a : Act} {w : World} : allY P ops Q S z n l a w [] := fun _ h => absurd h (by simp)
/-- An operation ahead of z comes up. -/
theorem yOne {n : Nat} {l : Array Bool} {a : Act} {w : World} {i : Nat} {o : Oper} {rs : List Nat} (ho : ops[i]? = some o)
    (h : ∀ K' : Act → World → Prop, Shut (∀ a w, S w → (S w → anyY P ops Q S z n (l.setIfInBounds i true) a w) → K' a w) → if Region.wanted o (yielded ops a.tmps) = true then Oper.wp P o a w K' Q else K' (a.put o.dst undef) w)
    (hs : allY P ops Q S z n l a w rs) : allY P ops Q S z n l a w (i :: rs) := fun j hj => by
  rcases List.mem_cons.1 hj with e | hj
  · subst e
    exact wpOp_step ho (fun K' hK => h K' (fun a w hS hW => hK a w ⟨fun _ _ => hS, hW hS⟩))
  · exact hs j hj
/-- z comes up, or what comes behind it: nothing is owed behind it. -/
theorem yLast {n : Nat} {l : Array Bool} {a : Act} {w : World} {i : Nat} {o : Oper} {rs : List Nat} (hz : i = z ∨ l.getD z true = true) (ho : ops[i]? = some o)
    (h : ∀ K' : Act → World → Prop, Shut (∀ a w, anyY P ops Q S z n (l.setIfInBounds i true) a w → K' a w) → if Region.wanted o (yielded ops a.tmps) = true then Oper.wp P o a w K' Q else K' (a.put o.dst undef) w)
    (hs : allY P ops Q S z n l a w rs) : allY P ops Q S z n l a w (i :: rs) := fun j hj => by
  rcases List.mem_cons.1 hj with e | hj
  · subst e
    exact wpOp_step ho (fun K' hK => h K' (fun a w hW => hK a w ⟨fun h1 h2 => (hz.elim (fun h => absurd h h1) (fun h => by rw [h] at h2; cases h2)), hW⟩))
  · exact hs j hj
theorem yDone {l : Array Bool} {a : Act} {w : World} (hr : Region.ready .any ops l = []) (h : Q .normal a w) : ∀ n, anyY P ops Q S z n l a w
  | 0 => ⟨hr, h⟩
  | n + 1 => ⟨fun _ => h, fun i hi => absurd hi (by rw [hr]; simp)⟩
theorem yBegin {id : Nat} {a : Act} {w : World} (hm : P.follows .mixedOrders = true) (hS : S w.drew) (h : S w.drew → anyY P ops Q S z ops.size (Array.replicate ops.size false) a w.drew) : (Code.region id ops true).wp P Q a w :=
  wp_region_any hm (anyY_any _ _ _ _ (h hS))
end
/-! ### a struct stored into a block cell by cell -/
def putAll : Array Value → Nat → List Value → Array Value
  | arr, _, [] => arr
  | arr, o, u :: us => putAll (arr.setIfInBounds o u) (o + 1) us
theorem sets_loc {g : Nat} {t : TypeId} : ∀ (cs : List Value) (o : Nat) (w : World) (arr : Array Value), Loc w g arr t → Loc (sets w g o cs) g (putAll arr o cs) t
  | [], _, _, _, h => h
  | u :: us, o, _, _, h => sets_loc us (o + 1) _ _ (h.put o u)
theorem Loc.sets {w : World} {b g o : Nat} {cs : Array Value} {t : TypeId} (h : Loc w b cs t) (hne : b ≠ g) (vs : List Value) : Loc (sets w g o vs) b cs t := (sets_far g vs o w b hne).trans h
theorem below_sets {w0 w : World} {g : Nat} (h : Below w0.heap.size w0 w) (hg : w0.heap.size ≤ g) : ∀ (vs : List Value) (o : Nat), Below w0.heap.size w0 (H.sets w g o vs) := fun vs o => by
  induction vs generalizing w o with
  | nil => exact h
  | cons u us ih => exact ih (below_set h (p := ⟨g, o, none⟩) hg u) (o + 1)
theorem putAll7 (a0 a1 a2 a3 a4 a5 a6 z0 z1 z2 z3 z4 z5 z6 : Value) : putAll #[z0, z1, z2, z3, z4, z5, z6] 0 [a0, a1, a2, a3, a4, a5, a6] = [a0, a1, a2, a3, a4, a5, a6].toArray := by simp [putAll]
theorem HasBox.stored {w0 w : World} {B : Nat} {D : List Nat} {x : Box} {a0 a1 a2 a3 a4 a5 a6 z0 z1 z2 z3 z4 z5 z6 : Value} (ho : owBox w D [a0, a1, a2, a3, a4, a5, a6] x) (hn : New w0 w D) (hl : Loc w B #[z0, z1, z2, z3, z4, z5, z6] 32) (hB : B ∉ D) (hb : w0.heap.size ≤ B) :
    HasBox w0 (sets w B 0 [a0, a1, a2, a3, a4, a5, a6]) B D x :=
  HasBox.make ho hn (by rw [sets_size]; exact Nat.le_refl _) (fun b hb => sets_far B _ 0 w b (fun e => hB (e ▸ hb))) (by have h := sets_loc [a0, a1, a2, a3, a4, a5, a6] 0 w _ hl; rw [putAll7] at h; exact h) hB hb
end Go.Proofs.Ytjfjpabfkembcaa.H
