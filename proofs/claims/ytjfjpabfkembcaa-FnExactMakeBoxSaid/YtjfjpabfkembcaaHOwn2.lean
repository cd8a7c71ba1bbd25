/- More movers of rows that a call owns. No program in it. -/
import Derived.Test.YtjfjpabfkembcaaHTac
namespace Go.Proofs.Ytjfjpabfkembcaa.H
open Go.RowKit
set_option linter.unusedVariables false
theorem owRow_grown {α : Type} {e sz s : Nat} {R : World → List Nat → List Value → α → Prop} {K : World → List Value → α → Prop} (o : Ow s R K) {w w' : World} {D : List Nat} {v : Value} {l : List α} {row : Option Nat}
    (h : owRow e sz R w D v l) (hg : w.grownBy w' row) (hd : ∀ b ∈ D, some b ≠ row) : owRow e sz R w' D v l := owRow_mov o h fun b hb => hg.block b (owRow_lt o h b hb) (hd b hb)
/-- One element more, and which blocks may bear it. -/
theorem owRow_snoc' {α : Type} {e sz : Nat} {R : World → List Nat → List Value → α → Prop} {K : World → List Value → α → Prop} (o : Ow sz R K) {w0 w : World} {D Dx : List Nat} {v : Value} {l : List α} {cs : List Value} {x : α}
    (h : owRow e sz R w D v l) (hx : R w Dx cs x) (hn : New w0 w (D ++ Dx)) (hs : w0.heap.size ≤ w.heap.size) :
    ∃ xs, w.ownsRow 0 e sz v l.length xs ∧ ∀ v' w', w'.ownsRow 0 e sz v' (l.length + 1) (xs ++ cs) → w.grownBy w' v.ownBlock → (v'.ownBlock = v.ownBlock ∨ v'.ownBlock = some w.heap.size) →
      ∃ D', owRow e sz R w' D' v' (l ++ [x]) ∧ New w0 w' D' ∧ ∀ b ∈ D', b ∈ D ++ Dx ∨ b = w.heap.size := by
  obtain ⟨xs, Di, h1, rfl, h3⟩ := h
  refine ⟨xs, h1, fun v' w' ho hg hat => ?_⟩
  have hsame : ∀ b, b ∈ Di ++ Dx → w'.heap[b]? = w.heap[b]? := by
    intro b hb
    refine hg.block b ?_ fun e => ?_
    · refine (hn.2 b ?_).2
      simp at hb ⊢
      rcases hb with hb | hb <;> simp [hb]
    · have hd := hn.1
      rw [← e, List.append_assoc] at hd
      simp only [Option.toList_some, List.nodup_append, List.mem_singleton] at hd
      exact (hd.2.2 b rfl b (by simpa using hb)) rfl
  have hlt2 : ∀ b ∈ v'.ownBlock.toList, w0.heap.size ≤ b ∧ b < w'.heap.size := fun b hb => by
    have hb' : v'.ownBlock = some b := by simpa using hb
    refine ⟨?_, (ho.lt _ hb').2⟩
    rcases hat with hat | hat
    · rw [hat] at hb'
      exact (hn.2 b (by rw [hb']; simp)).1
    · rw [hat] at hb'
      injection hb' with hb'
      omega
  refine ⟨v'.ownBlock.toList ++ (Di ++ Dx), ⟨xs ++ cs, Di ++ Dx, by rw [List.length_append, List.length_singleton]; exact ho, rfl,
    owEl_append (owEl_imp h3 fun D1 cs' y hs' _ hR => o.mov hR fun b hb => hsame b (by simp [hs' b hb])) (owEl_one (o.mov hx fun b hb => hsame b (by simp [hb])))⟩, ⟨?_, fun b hb => ?_⟩, fun b hb => ?_⟩
  · have hnd := hn.1
    rw [List.append_assoc] at hnd
    rcases hat with hat | hat
    · rw [hat]; exact hnd
    · rw [hat]
      simp only [Option.toList_some, List.singleton_append, List.nodup_cons]
      refine ⟨fun hb => ?_, (List.nodup_append.1 hnd).2.1⟩
      have := (hn.2 _ (by rw [List.append_assoc, List.mem_append]; exact .inr hb)).2
      omega
  · rw [List.mem_append] at hb
    rcases hb with hb | hb
    · exact hlt2 b hb
    · have := hn.2 b (by rw [List.append_assoc, List.mem_append]; exact .inr hb)
      have := hg.size
      omega
  · rw [List.mem_append] at hb
    rcases hb with hb | hb
    · have hb' : v'.ownBlock = some b := by simpa using hb
      rcases hat with hat | hat
      · rw [hat] at hb'
        left; rw [hb']; simp
      · rw [hat] at hb'
        injection hb' with hb'
        exact .inr hb'.symm
    · left; rw [List.append_assoc, List.mem_append]; exact .inr hb
theorem New.left {w0 w : World} {D D' : List Nat} (h : New w0 w (D ++ D')) : New w0 w D := ⟨(List.nodup_append.1 h.1).1, fun b hb => h.2 b (by simp [hb])⟩
theorem New.right {w0 w : World} {D D' : List Nat} (h : New w0 w (D ++ D')) : New w0 w D' := ⟨(List.nodup_append.1 h.1).2.1, fun b hb => h.2 b (by simp [hb])⟩
theorem New.both {w0 w : World} {D D' : List Nat} (h : New w0 w D) (h' : New w0 w D') (hd : ∀ b ∈ D, b ∉ D') : New w0 w (D ++ D') :=
  ⟨List.nodup_append.2 ⟨h.1, h'.1, fun a ha b hb e => hd a ha (e ▸ hb)⟩, fun b hb => by rw [List.mem_append] at hb; exact hb.elim (h.2 b) (h'.2 b)⟩
theorem New.off {w0 w : World} {D D' : List Nat} (h : New w0 w (D ++ D')) : ∀ b ∈ D, b ∉ D' := fun b hb hb' => (List.nodup_append.1 h.1).2.2 b hb b hb' rfl
end Go.Proofs.Ytjfjpabfkembcaa.H
