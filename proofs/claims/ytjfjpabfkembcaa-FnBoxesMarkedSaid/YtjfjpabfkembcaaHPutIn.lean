/- A number put into an ascending list: by sorting, or between those below and those above. No program in it. -/
import Derived.Test.YtjfjpabfkembcaaHPure2
import Derived.Lib.SlicesCompact
namespace Go.Proofs.Ytjfjpabfkembcaa.H
open Go.RowKit
set_option linter.unusedVariables false
def sortL (l : List Int) : List Int := l.mergeSort fun x y => decide (x ≤ y)
def addedL (l : List Int) (x : Int) : List Int := Lib.compact (sortL (l ++ [x]))
theorem putIn_mem {l : List Int} {x y : Int} : y ∈ putIn x l ↔ (y ∈ l ∨ y = x) := by
  unfold putIn
  simp only [List.mem_append, List.mem_filter, List.mem_cons, decide_eq_true_eq]
  constructor
  · rintro (⟨h, _⟩ | rfl | ⟨h, _⟩)
    · exact .inl h
    · exact .inr rfl
    · exact .inl h
  · rintro (h | rfl)
    · rcases Int.lt_trichotomy y x with h1 | rfl | h1
      · exact .inl ⟨h, h1⟩
      · exact .inr (.inl rfl)
      · exact .inr (.inr ⟨h, h1⟩)
    · exact .inr (.inl rfl)
theorem putIn_sorted {l : List Int} {x : Int} (hs : l.Pairwise (· < ·)) : (putIn x l).Pairwise (· < ·) := by
  unfold putIn
  rw [List.pairwise_append]
  refine ⟨hs.filter _, ?_, ?_⟩
  · rw [List.pairwise_cons]
    exact ⟨fun y hy => by simpa using (List.mem_filter.1 hy).2, hs.filter _⟩
  · intro a ha b hb
    have h1 : a < x := by simpa using (List.mem_filter.1 ha).2
    rcases List.mem_cons.1 hb with rfl | hb
    · exact h1
    · have h2 : x < b := by simpa using (List.mem_filter.1 hb).2
      omega
theorem putIn_perm {l : List Int} {x : Int} (hx : x ∉ l) : (putIn x l).Perm (l ++ [x]) := by
  unfold putIn
  have h1 : l.filter (fun y => decide (x < y)) = l.filter (fun y => !decide (y < x)) := by
    apply List.filter_congr
    intro y hy
    have : y ≠ x := fun e => hx (e ▸ hy)
    by_cases h : y < x
    · rw [decide_eq_true h, decide_eq_false (by omega)]; rfl
    · rw [decide_eq_false h, decide_eq_true (by omega)]; rfl
  rw [h1]
  refine List.perm_middle.trans ?_
  refine (List.Perm.cons x (List.filter_append_perm (fun y => decide (y < x)) l)).trans ?_
  exact (List.perm_append_comm (l₁ := l) (l₂ := [x])).symm
theorem compact_lt {l : List Int} (hs : l.Pairwise (· < ·)) : Lib.compact l = l := by
  apply Lib.compact_all
  intro j hj
  unfold Lib.keeps
  rw [decide_eq_true_eq]
  by_cases h0 : j = 0
  · exact .inl h0
  · right
    have h1 := List.pairwise_iff_getElem.1 hs (j - 1) j (by omega) hj (by omega)
    rw [getElem!_pos l.toArray j (by simpa using hj), getElem!_pos l.toArray (j - 1) (by simp; omega)]
    simp only [List.getElem_toArray]
    omega
theorem addedL_putIn {l : List Int} {x : Int} (hs : l.Pairwise (· < ·)) (hx : x ∉ l) : addedL l x = putIn x l := by
  have hp := putIn_sorted (x := x) hs
  have : sortL (l ++ [x]) = putIn x l := by
    refine List.Perm.eq_of_pairwise (le := fun a b : Int => a ≤ b) (fun a b _ _ h1 h2 => by omega) ?_ ?_ ?_
    · have := List.pairwise_mergeSort (le := fun a b : Int => decide (a ≤ b)) (fun a b c h1 h2 => by simp at *; omega) (fun a b => by simp; omega) (l ++ [x])
      exact this.imp (fun h => by simpa using h)
    · exact hp.imp (fun h => by omega)
    · exact (List.mergeSort_perm _ _).trans (putIn_perm hx).symm
  unfold addedL
  rw [this]
  exact compact_lt hp
theorem has_mem {x : Int} : ∀ {l : List Int}, has x l = true ↔ x ∈ l
  | [] => by simp [has]
  | y :: l => by
    unfold has
    rw [Bool.or_eq_true, decide_eq_true_eq, has_mem, List.mem_cons]
    exact ⟨fun h => h.imp (fun e => e.symm) id, fun h => h.imp (fun e => e.symm) id⟩
theorem gidsAll_sorted : ∀ {l : List Int} {p : Option Int}, gidsAll p l = true → l.Pairwise (· < ·) ∧ (∀ y ∈ l, above p y = true)
  | [], _, _ => ⟨List.Pairwise.nil, by simp⟩
  | x :: l, p, h => by
    unfold gidsAll at h
    simp only [Bool.and_eq_true] at h
    obtain ⟨⟨_, hp⟩, h2⟩ := h
    obtain ⟨h3, h4⟩ := gidsAll_sorted h2
    have h5 : ∀ y ∈ l, x < y := fun y hy => by have := h4 y hy; simpa [above] using this
    refine ⟨List.pairwise_cons.2 ⟨h5, h3⟩, fun y hy => ?_⟩
    rcases List.mem_cons.1 hy with rfl | hy
    · exact hp
    · cases p with
      | none => rfl
      | some z =>
        have h6 := h5 y hy
        have h7 : z < x := by simpa [above] using hp
        show decide (z < y) = true
        rw [decide_eq_true_eq]
        omega
theorem box_gone {b : Box} (h : boxOk b = true) : b.go.Pairwise (· < ·) ∧ b.go.length ≤ 40 := by
  unfold boxOk boxHead gidsOk at h
  simp only [Bool.and_eq_true, decide_eq_true_eq] at h
  exact ⟨(gidsAll_sorted h.1.2.1).1, by have := h.1.2.2; omega⟩
theorem mailsIn_each {b : Box} : ∀ {l : List Mail} {i : Int} {p : Option Int}, mailsIn b i p l = true → ∀ j (hj : j < l.length), ∃ q, mailIn b (i + j) q l[j] = true
  | [], _, _, _, j, hj => by simp at hj
  | m :: l, i, p, h, 0, _ => by
    unfold mailsIn at h
    rw [Bool.and_eq_true] at h
    exact ⟨p, by rw [show i + ((0 : Nat) : Int) = i by omega]; exact h.1⟩
  | m :: l, i, p, h, j + 1, hj => by
    unfold mailsIn at h
    rw [Bool.and_eq_true] at h
    obtain ⟨q, hq⟩ := mailsIn_each h.2 j (by simpa using hj)
    exact ⟨q, by rw [show i + ((j + 1 : Nat) : Int) = i + 1 + (j : Int) by omega]; exact hq⟩
theorem mailAtFrom_get (g : Int) : ∀ (l : List Mail) (i : Int), 0 ≤ i → 0 ≤ mailAtFrom g i l → ∃ k : Nat, ∃ hk : k < l.length, mailAtFrom g i l = i + k ∧ l[k].g = g
  | [], i, _, h => by simp [mailAtFrom] at h
  | m :: l, i, hi, h => by
    unfold mailAtFrom at h ⊢
    by_cases e : m.g = g
    · rw [if_pos e]
      exact ⟨0, by simp, by simp, e⟩
    · rw [if_neg e] at h ⊢
      obtain ⟨k, hk, h1, h2⟩ := mailAtFrom_get g l (i + 1) (by omega) h
      exact ⟨k + 1, by simpa using hk, by rw [h1]; push_cast; omega, by simpa using h2⟩
theorem mailAt_get {l : List Mail} {g : Int} {k : Nat} (h : mailAt l g = (k : Int)) : ∃ hk : k < l.length, l[k].g = g := by
  obtain ⟨k2, hk, h1, h2⟩ := mailAtFrom_get g l 0 (by omega) (by unfold mailAt at h; omega)
  have : k2 = k := by unfold mailAt at h; omega
  subst this
  exact ⟨hk, h2⟩
theorem box_fresh {b : Box} {g : Int} {k : Nat} (hb : boxOk b = true) (h : mailAt b.ml g = (k : Int)) : g ∉ b.go := by
  obtain ⟨hk, hg⟩ := mailAt_get h
  unfold boxOk at hb
  rw [Bool.and_eq_true] at hb
  obtain ⟨q, hq⟩ := mailsIn_each hb.2 k hk
  unfold mailIn at hq
  simp only [Bool.and_eq_true, Bool.not_eq_true'] at hq
  intro hm
  have := has_mem.2 hm
  rw [← hg, hq.2] at this
  cases this
/-- What TakeOut answers where it takes out. -/
theorem takeOut_yes {b : Box} {g : Int} {k : Nat} (hb : boxOk b = true) (hk : mailAt b.ml g = (k : Int)) (hl : b.go.length < 40) :
    takeOut b g = ({ b with ml := b.ml.eraseIdx k, go := addedL b.go g }, true) := by
  unfold takeOut
  rw [hb, hk, decide_eq_true (show (0 : Int) ≤ (k : Int) by omega), decide_eq_true hl, addedL_putIn (box_gone hb).1 (box_fresh hb hk)]
  rfl
end Go.Proofs.Ytjfjpabfkembcaa.H
