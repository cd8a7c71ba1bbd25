/- A region whose order is open and whose last operation (number z) may change what the others read: S is shown behind each operation but z. No program in it. -/
import Derived.Test.YtjfjpabfkembcaaHReg
namespace Go.Proofs.Ytjfjpabfkembcaa.H
open Go.RowKit
set_option linter.unusedVariables false
section
variable {P : Program} {ops : Array Oper} {Q : Exit → Act → World → Prop} {S : World → Prop} {z : Nat}

/-- Whatever is picked next; S is known behind it unless it was z. -/
def anyZ (P : Program) (ops : Array Oper) (Q : Exit → Act → World → Prop) (S : World → Prop) (z : Nat) : Nat → Array Bool → Act → World → Prop
  | 0, l, a, w => Region.ready .any ops l = [] ∧ Q .normal a w
  | n + 1, l, a, w => (Region.ready .any ops l = [] → Q .normal a w) ∧
      ∀ i, i ∈ Region.ready .any ops l → wpOp P ops Q i (fun a' w' => (i ≠ z → S w') ∧ anyZ P ops Q S z n (l.setIfInBounds i true) a' w') a w
theorem anyZ_any : ∀ (n : Nat) (l : Array Bool) (a : Act) (w : World), anyZ P ops Q S z n l a w → wpAny P .any ops Q n l a w
  | 0, _, _, _, h => h
  | n + 1, _, _, _, ⟨h0, h1⟩ => ⟨h0, fun i hi => wpOp_mono (fun a' w' hh => anyZ_any n _ a' w' hh.2) (h1 i hi)⟩
/-- z waits for i. -/
def waitsZ (ops : Array Oper) (z i : Nat) : Bool :=
  match ops[z]? with
  | none => true
  | some o => o.after.any fun e => Region.binds .any e && e.on == i
theorem waitsZ_spec {i : Nat} {l : Array Bool} (h : waitsZ ops z i = true) (hi : l.getD i true = false) : z ∉ Region.ready .any ops l := fun hz => by
  obtain ⟨_, o, ho, hall⟩ := mem_ready.1 hz
  simp only [waitsZ, ho] at h
  obtain ⟨e, he, hb⟩ := Array.any_eq_true'.1 h
  simp only [Bool.and_eq_true, beq_iff_eq] at hb
  have h1 := hall e he hb.1
  rw [hb.2] at h1
  rcases Nat.lt_or_ge i l.size with h' | h'
  · simp [h'] at hi h1; rw [hi] at h1; cases h1
  · simp [Array.getElem?_eq_none h'] at h1
theorem ready_un {i j : Nat} {l : Array Bool} (hi : i ∈ Region.ready .any ops l) (hj : j ∈ Region.ready .any ops l) {oj : Oper} (ho : ops[j]? = some oj) : ∀ e ∈ oj.after, Region.binds .any e = true → e.on ≠ i := fun e he hb hei => by
  obtain ⟨_, o, ho', hall⟩ := mem_ready.1 hj
  rw [ho] at ho'
  injection ho' with ho'
  subst ho'
  have h1 := hall e he hb
  have h0 := (mem_ready.1 hi).1
  rw [hei] at h1
  rcases Nat.lt_or_ge i l.size with h' | h'
  · simp [h'] at h0 h1; rw [h0] at h1; cases h1
  · simp [Array.getElem?_eq_none h'] at h1
/-- An operation that yields its value in every world that meets S may be taken first, if z waits for it. -/
theorem anyZ_early {i : Nat} {oi : Oper} {v : Value} (hi : ops[i]? = some oi) (hsel : ∀ (j : Nat) (o : Oper) cs b, ops[j]? = some o → o.op ≠ .select cs b)
    (hQ : ∀ c a w, Q (.panic c) (a.put oi.dst v) w → Q (.panic c) a w) (hz : waitsZ ops z i = true) :
    ∀ (n : Nat) (l : Array Bool) (a : Act) (w : World),
      (∀ j oj, ops[j]? = some oj → j ≠ i → l.getD j true = false → (∀ e ∈ oj.after, Region.binds .any e = true → e.on ≠ i) → oi.apart ops oj = true) →
      i ∈ Region.ready .any ops l → YieldsIf P ops S oi v a → S w →
      anyZ P ops Q S z n (l.setIfInBounds i true) (a.put oi.dst v) w → anyZ P ops Q S z (n + 1) l a w := by
  intro n
  induction n with
  | zero =>
    intro l a w _ hr hy hS H
    refine ⟨fun h => absurd hr (by rw [h]; simp), fun j hj => ?_⟩
    rcases Decidable.em (j = i) with e | e
    · subst e
      exact hy.wpOp hi hS ⟨fun _ => hS, H⟩
    · exact absurd (ready_mono hj e) (by rw [H.1]; simp)
  | succ n ih =>
    intro l a w hfree hr hy hS H
    refine ⟨fun h => absurd hr (by rw [h]; simp), fun j hj => ?_⟩
    rcases Decidable.em (j = i) with e | e
    · subst e
      exact hy.wpOp hi hS ⟨fun _ => hS, H⟩
    · have hjz : j ≠ z := fun e' => waitsZ_spec hz (mem_ready.1 hr).1 (e' ▸ hj)
      obtain ⟨hjun, oj, hoj, _⟩ := mem_ready.1 hj
      have hap := hfree j oj hoj e hjun (ready_un hr hj hoj)
      refine wpOp_mono ?_ (wpOp_putIf hoj hap (fun cs b => hsel i oi cs b hi) (fun cs b => hsel j oj cs b hoj) hQ hy (H.2 j (ready_mono hj e)))
      rintro a' w' ⟨hy', hS', H'⟩
      refine ⟨hS', ih _ a' w' (fun k ok hk hki hun hno => hfree k ok hk hki ?_ hno) (ready_mono hr (Ne.symm e)) hy' (hS' hjz) ?_⟩
      · rcases Decidable.em (j = k) with e' | e'
        · exact e' ▸ hjun
        · rwa [getD_set_ne true e'] at hun
      · rw [Array.setIfInBounds_comm _ _ e]
        exact H'
/-- One step taken early. -/
theorem zT (i N : Nat) {n : Nat} {l l' : Array Bool} {a a' : Act} {w : World} {oi : Oper} {v : Value} (hS : S w) (h : anyZ P ops Q S z n l' a' w)
    (hi : ops[i]? = some oi := by exact rfl) (hN : oi.dst = some N := by exact rfl) (hs : Region.noSelect ops = true := by kernel_rfl) (hf : Region.free .any ops l i = true := by kernel_rfl) (hr : (Region.ready .any ops l).contains i = true := by kernel_rfl)
    (hz : waitsZ ops z i = true := by kernel_rfl)
    (hQ : ∀ c a w, Q (.panic c) (a.put oi.dst v) w → Q (.panic c) a w := by exact fun _ _ _ h => h)
    (hy : YieldsIf P ops S oi v a := by (refine Or.inl ⟨by kernel_rfl, ?_⟩; intro w' hs_; (repeat (have hs1_ := And.left hs_; (try (have hl_ := Loc.cells hs1_)); replace hs_ := And.right hs_)); (try (have hl_ := Loc.cells hs_)); go_simp; with_reducible rfl))
    (hl : l.setIfInBounds i true = l' := by rfl)
    (ha : a.put (some N) v = a' := by (simp only [Act.put, List.setIfInBounds_toArray, List.set_cons_zero, List.set_cons_succ]; rfl)) : anyZ P ops Q S z (n + 1) l a w :=
  anyZ_early hi (Region.noSelect_spec hs) hQ hz n l a w (Region.free_spec hi hf) (by simpa using hr) hy hS (by rw [hl, hN, ha]; exact h)
/-- One that its guard passes over. -/
theorem zU (i N : Nat) {n : Nat} {l l' : Array Bool} {a a' : Act} {w : World} {oi : Oper} (hS : S w) (h : anyZ P ops Q S z n l' a' w)
    (hi : ops[i]? = some oi := by exact rfl) (hN : oi.dst = some N := by exact rfl) (hs : Region.noSelect ops = true := by kernel_rfl) (hf : Region.free .any ops l i = true := by kernel_rfl) (hr : (Region.ready .any ops l).contains i = true := by kernel_rfl)
    (hz : waitsZ ops z i = true := by kernel_rfl)
    (hQ : ∀ c a w, Q (.panic c) (a.put oi.dst undef) w → Q (.panic c) a w := by exact fun _ _ _ h => h)
    (hy : Region.wanted oi (yielded ops a.tmps) = false := by kernel_rfl)
    (hl : l.setIfInBounds i true = l' := by rfl)
    (ha : a.put (some N) undef = a' := by (simp only [Act.put, List.setIfInBounds_toArray, List.set_cons_zero, List.set_cons_succ]; rfl)) : anyZ P ops Q S z (n + 1) l a w :=
  anyZ_early hi (Region.noSelect_spec hs) hQ hz n l a w (Region.free_spec hi hf) (by simpa using hr) (Or.inr ⟨hy, rfl⟩) hS (by rw [hl, hN, ha]; exact h)
def allZ (P : Program) (ops : Array Oper) (Q : Exit → Act → World → Prop) (S : World → Prop) (z n : Nat) (l : Array Bool) (a : Act) (w : World) (rs : List Nat) : Prop :=
  ∀ i ∈ rs, wpOp P ops Q i (fun a' w' => (i ≠ z → S w') ∧ anyZ P ops Q S z n (l.setIfInBounds i true) a' w') a w
theorem zReady {rs : List Nat} {n : Nat} {l : Array Bool} {a : Act} {w : World} (hr : Region.ready .any ops l = rs) (hne : rs ≠ []) (h : allZ P ops Q S z n l a w rs) : anyZ P ops Q S z (n + 1) l a w :=
  ⟨fun h0 => absurd (hr ▸ h0) hne, fun i hi => h i (hr ▸ hi)⟩
theorem zNil {n : Nat} {l : Array Bool} {a : Act} {w : World} : allZ P ops Q S z n l a w [] := fun _ h => absurd h (by simp)
/-- An operation other than z comes up. -/
theorem zOne {n : Nat} {l : Array Bool} {a : Act} {w : World} {i : Nat} {o : Oper} {rs : List Nat} (hz : i ≠ z) (ho : ops[i]? = some o)
    (h : ∀ K' : Act → World → Prop, Shut (∀ a w, S w → (S w → anyZ P ops Q S z n (l.setIfInBounds i true) a w) → K' a w) → if Region.wanted o (yielded ops a.tmps) = true then Oper.wp P o a w K' Q else K' (a.put o.dst undef) w)
    (hs : allZ P ops Q S z n l a w rs) : allZ P ops Q S z n l a w (i :: rs) := fun j hj => by
  rcases List.mem_cons.1 hj with e | hj
  · subst e
    exact wpOp_step ho (fun K' hK => h K' (fun a w hS hW => hK a w ⟨fun _ => hS, hW hS⟩))
  · exact hs j hj
/-- z comes up: nothing is owed behind it. -/
theorem zLast {n : Nat} {l : Array Bool} {a : Act} {w : World} {o : Oper} {rs : List Nat} (ho : ops[z]? = some o)
    (h : ∀ K' : Act → World → Prop, Shut (∀ a w, anyZ P ops Q S z n (l.setIfInBounds z true) a w → K' a w) → if Region.wanted o (yielded ops a.tmps) = true then Oper.wp P o a w K' Q else K' (a.put o.dst undef) w)
    (hs : allZ P ops Q S z n l a w rs) : allZ P ops Q S z n l a w (z :: rs) := fun j hj => by
  rcases List.mem_cons.1 hj with e | hj
  · subst e
    exact wpOp_step ho (fun K' hK => h K' (fun a w hW => hK a w ⟨fun h => absurd rfl h, hW⟩))
  · exact hs j hj
theorem zDone {l : Array Bool} {a : Act} {w : World} (hr : Region.ready .any ops l = []) (h : Q .normal a w) : ∀ n, anyZ P ops Q S z n l a w
  | 0 => ⟨hr, h⟩
  | n + 1 => ⟨fun _ => h, fun i hi => absurd hi (by rw [hr]; simp)⟩
theorem zBegin {id : Nat} {a : Act} {w : World} (hm : P.follows .mixedOrders = true) (hS : S w.drew) (h : S w.drew → anyZ P ops Q S z ops.size (Array.replicate ops.size false) a w.drew) : (Code.region id ops true).wp P Q a w :=
  wp_region_any hm (anyZ_any _ _ _ _ (h hS))
end
/-! ### movers of what is held -/
theorem Loc.drew' {w : World} {b : Nat} {cs : Array Value} {t : TypeId} (h : Loc w b cs t) : Loc w.drew b cs t := h
theorem cell_alloc' {w : World} {p : Addr} {v : Value} (h : w.cell? p = some v) (o : Obj) : (w.alloc o).cell? p = some v := cell_b ((Below.refl _ w).alloc (Nat.le_refl _) o) h
end Go.Proofs.Ytjfjpabfkembcaa.H
