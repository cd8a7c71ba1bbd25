import Derived.Test.YtjlffencbaifeaaWMore
/-! Words of this session's own that the patched print uses beside the kit's. -/
namespace Go.Proofs.YtjlffencbaifeaaW.PrintWords
open Go.RowKit
set_option linter.unusedVariables false
theorem sv_R {α : Type} {d : Kd α} {e : Nat} {w : World} {base : Nat} {ok : Nat → Prop} {v : Value} {xs : List α} (h : Aside0 (Kd.R d e w base ok v xs)) : ∃ A n c, v = .slice A n c := by
  obtain ⟨A, c, h⟩ := Kd.R_slice h.out
  exact ⟨A, _, c, h⟩
theorem sv_S {α : Type} {d : Kd α} {e : Nat} {w : World} {base : Nat} {ok : Nat → Prop} {v : Value} {xs : List α} (h : Aside0 (Kd.S d e w base ok v xs)) : ∃ A n c, v = .slice A n c := by
  obtain ⟨A, c, h⟩ := Kd.R_slice (Kd.S_R h.out)
  exact ⟨A, _, c, h⟩
theorem sv_N {α : Type} {d : Kd α} {e : Nat} {w : World} {base : Nat} {ok : Nat → Prop} {v : Value} {xs : List α} (h : Aside0 (Kd.N d e w base ok v xs)) : ∃ A n c, v = .slice A n c := by
  obtain ⟨A, c, h⟩ := Kd.N_slice h.out
  exact ⟨A, _, c, h⟩
theorem sv_Q {α : Type} {d : Kd α} {e : Nat} {w : World} {base : Nat} {ok : Nat → Prop} {v : Value} {xs : List α} (h : Aside0 (Kd.Q d e w base ok v xs)) : ∃ A n c, v = .slice A n c := by
  obtain ⟨A, c, h, _⟩ := Kd.Q_slice h.out
  exact ⟨A, _, c, h⟩
theorem sv_V {α : Type} {d : Kd α} {e : Nat} {w : World} {base : Nat} {ok : Nat → Prop} {v : Value} {xs : List α} (h : Aside0 (Kd.V d e w base ok v xs)) : ∃ A n c, v = .slice A n c := by
  obtain ⟨A, c, h⟩ := Kd.V_slice h.out
  exact ⟨A, _, c, h⟩
/-- The place of the first that p holds of; -1 without one. -/
def idxBy {α : Type} (p : α → Bool) (l : List α) : Int := match l.findIdx? p with | some i => (i : Int) | none => -1
theorem idxBy_hit {α : Type} (p : α → Bool) (l : List α) (i : Nat) (hi : i < l.length) (hn : ∀ (j : Nat), j < i → ∀ (x : α), l[j]? = some x → p x = false) (h : p l[i] = true) : idxBy p l = (i : Int) := by
  unfold idxBy
  have : l.findIdx? p = some i := by
    rw [List.findIdx?_eq_some_iff_getElem]
    refine ⟨hi, h, fun j hj => ?_⟩
    have := hn j hj l[j] (List.getElem?_eq_getElem (by omega))
    simp [this]
  rw [this]
theorem idxBy_miss {α : Type} (p : α → Bool) (l : List α) (hn : ∀ (j : Nat) (x : α), l[j]? = some x → p x = false) : idxBy p l = -1 := by
  unfold idxBy
  have : l.findIdx? p = none := by
    rw [List.findIdx?_eq_none_iff]
    intro x hx
    obtain ⟨j, hj, rfl⟩ := List.mem_iff_getElem.1 hx
    exact hn j _ (List.getElem?_eq_getElem hj)
  rw [this]
theorem pw_ext_same (t : ByteArray) (n : Nat) : t.extract n n = ByteArray.empty := by simp
end Go.Proofs.YtjlffencbaifeaaW.PrintWords
