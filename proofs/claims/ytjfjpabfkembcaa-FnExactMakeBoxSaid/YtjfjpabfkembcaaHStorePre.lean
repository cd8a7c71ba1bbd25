/- What comes before a box; mails that are met for the first time. -/
import Derived.Test.YtjfjpabfkembcaaHAt2
import Derived.Test.YtjfjpabfkembcaaHLate
import Derived.Test.YtjfjpabfkembcaaHRegZ
import Derived.Test.YtjfjpabfkembcaaHL06Copy
namespace Go.Proofs.Ytjfjpabfkembcaa.H
open Go.RowKit
set_option linter.unusedVariables false
set_option linter.unusedSimpArgs false

/-- Texts and names that fit a length. -/
def txBox (b : Box) : Prop := b.nm.size ≤ 9223372036854775807 ∧ ∀ m ∈ b.ml, m.tx.size ≤ 9223372036854775807
theorem tx_of_tm {b : Box} (h : tmBox b) : txBox b := ⟨by have := h.1; omega, fun m hm => by have : m.tx.size ≤ 140737488351232 := h.2 m hm; omega⟩
def prevG (l : List Box) (i : Nat) : Option Int := if i = 0 then none else (l[i - 1]?).map (·.g)
theorem prevG_pos {l : List Box} {i : Nat} (hi : 0 < i) (h : i - 1 < l.length) : prevG l i = some l[i - 1].g := by simp [prevG, h, show i ≠ 0 by omega]
theorem boxesIn_at {s : Store} {seen : List Int} {i : Nat} (h : i < s.bx.length) : boxesIn s (i : Nat) (prevG s.bx i) seen (s.bx.drop i) =
    (boxIn s i (prevG s.bx i) s.bx[i] && (match freshMails seen s.bx[i].ml with | none => false | some z => boxesIn s ((i + 1 : Nat) : Int) (prevG s.bx (i + 1)) z (s.bx.drop (i + 1)))) := by
  have e : prevG s.bx (i + 1) = some s.bx[i].g := by simp [prevG, h]
  rw [List.drop_eq_getElem_cons h, e]
  push_cast
  rfl
theorem fresh_at {seen : List Int} {l : List Mail} {k : Nat} (h : k < l.length) : freshMails seen (l.drop k) = if has l[k].g seen then none else freshMails (seen ++ [l[k].g]) (l.drop (k + 1)) := by
  rw [List.drop_eq_getElem_cons h]; rfl
theorem boxOk_len {m : Box} (h : boxOk m = true) : m.ml.length ≤ 10 := by
  unfold boxOk boxHead at h
  simp only [Bool.and_eq_true, decide_eq_true_eq] at h
  exact h.1.1.2
/-- An owned row of numbers owns its block alone. -/
theorem ow_blocks_ {w : World} : ∀ {l : List Int} {D : List Nat} {xs : List Value}, owEl (owInt w) D xs l → D = []
  | [], _, _, h => h.1
  | _ :: _, _, _, ⟨D1, D2, c1, c2, e1, _, hx, ht⟩ => by rw [e1, hx.1, ow_blocks_ ht]; rfl
theorem ow_blocks {w : World} {D : List Nat} {v : Value} {l : List Int} (h : owInts w D v l) : D = v.ownBlock.toList := by
  obtain ⟨xs, Di, _, h2, h3⟩ := h
  rw [h2, ow_blocks_ h3, List.append_nil]
theorem grown_new {w' : World} {D D' : List Nat} {A : Option Addr} {n c g cap n' H B : Nat} {l : List Int} (hB : B ∉ D) (ho : owInts w' D' (.slice (some ⟨g, 0, none⟩) n' cap) l)
    (hat : (Value.slice A n c).ownBlock = some g ∨ g = H) (hH : B < H) (hD : D = (Value.slice A n c).ownBlock.toList) (hx : B ∈ D') : False := by
  rw [ow_blocks ho] at hx
  have hx : B = g := by simpa [Value.ownBlock] using hx
  rcases hat with h | h
  · exact hB (by rw [hD, h, hx]; simp)
  · omega
end Go.Proofs.Ytjfjpabfkembcaa.H
