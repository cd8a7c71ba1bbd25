/- A row of bytes of one's own, made of a text, one byte of it set. -/
import Derived.Test.YtjfjpabfkembcaaHTurn2
import Derived.Test.YtjfjpabfkembcaaHText
import Derived.Laws.IdiomStrings
namespace Go.Proofs.Ytjfjpabfkembcaa.H
open Go.RowKit
set_option linter.unusedVariables false
set_option linter.unusedSimpArgs false
def HasRow (w : World) (g : Nat) (l : List Int) : Prop := g < w.heap.size ∧ ∀ j (h : j < l.length), w.cell? ⟨g, j, none⟩ = some (.int .u8 l[j]) ∧ w.frozen? ⟨g, j, none⟩ = false
theorem HasRow.mov {w w' : World} {g : Nat} {l : List Int} (h : HasRow w g l) (hb : Below w.heap.size w w') : HasRow w' g l :=
  ⟨Nat.lt_of_lt_of_le h.1 hb.size, fun j hj => ⟨cell_b hb (h.2 j hj).1, (World.frozen?_of_block (hb.block g h.1)).trans (h.2 j hj).2⟩⟩
theorem HasRow.set {w : World} {g : Nat} {l : List Int} (h : HasRow w g l) {i : Nat} (hi : i < l.length) (c : Int) : HasRow (w.setCell ⟨g, i, none⟩ (.int .u8 c)) g (l.set i c) := by
  refine ⟨by have := h.1; rwa [World.size_setCell], fun j hj => ?_⟩
  rw [List.length_set] at hj
  refine ⟨?_, by rw [World.frozen?_setCell]; exact (h.2 j hj).2⟩
  by_cases e : i = j
  · subst e
    rw [World.cell?_setCell_same _ _ _ (h.2 i hi).1, List.getElem_set_self]
  · rw [World.cell?_setCell_other _ _ _ _ (by intro q; injection q with _ q; exact e q), (h.2 j hj).1, List.getElem_set_ne e]
theorem HasRow.rd {w : World} {g cap : Nat} {l : List Int} (h : HasRow w g l) (hc : l.length ≤ cap) (hm : l.length ≤ 9223372036854775807) : rdBytes w (.slice (some ⟨g, 0, none⟩) l.length cap) l := by
  refine ⟨_, _, rfl, hc, hm, (fun h => by cases h), fun i x hx => ⟨_, _, rfl, rfl, fun j u hu => ?_⟩⟩
  have hj : j = 0 := by
    have := (List.getElem?_eq_some_iff.1 hu).1
    simp at this
    exact this
  subst hj
  have hu' : Value.int .u8 x = u := by simpa using hu
  obtain ⟨hi, rfl⟩ := List.getElem?_eq_some_iff.1 hx
  rw [add_zero_, Nat.mul_one, Nat.add_zero, (h.2 i hi).1, hu']
/-- []byte(t) -/
theorem to_bytes (w : World) (t : ByteArray) : ∃ cap w', (convert 9 64 (.string t)).run Try.prog w = .ok (.slice (some ⟨w.heap.size, 0, none⟩) t.size cap) w' ∧ t.size ≤ cap ∧ HasRow w' w.heap.size (nums t) ∧ Below w.heap.size w w' := by
  have h := run_bytes_of_string (P := Try.prog) w 9 64 5 t Try.underlying9 Try.underlying64 Try.underlying5
  refine ⟨_, _, h, grownCap_ge _ _ _ _, ⟨?_, fun j hj => ⟨?_, ?_⟩⟩, ?_⟩
  · simp
  · rw [nums_len] at hj
    rw [nums_at t j hj]
    have hr := bytesRow_at t (grownCap w t.size 0 5) j hj
    exact (cell_of_row _ _ _ _ _ _ (heap_alloc_new w.drew _)).trans hr
  · rw [nums_len] at hj
    have hs : t.size ≤ (bytesRow t (grownCap w t.size 0 5)).size := by
      unfold bytesRow
      rw [Array.size_append, Array.size_map]
      exact Nat.le_add_right _ _
    refine (World.frozen?_alloc_mark w.drew _ 5 _ _ j).trans ?_
    rw [Bool.and_eq_false_iff]
    left
    exact decide_eq_false (by omega)
  · exact below_alloc (below_drew (Below.refl _ _)) _
end Go.Proofs.Ytjfjpabfkembcaa.H
