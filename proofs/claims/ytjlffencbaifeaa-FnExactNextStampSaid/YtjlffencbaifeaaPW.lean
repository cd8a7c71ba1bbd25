import Derived.Test.YtjlffencbaifeaaWMore
/-! Words of this session's own that the patched print uses beside the kit's. -/
namespace Go.Proofs.YtjlffencbaifeaaW.PrintWords
open Go.RowKit
set_option linter.unusedVariables false
theorem sv_R {α : Type} {d : Kd α} {e : Nat} {w : World} {base : Nat} {ok : Nat → Prop} {v : Value} {xs : List α} (h : Aside0 (Kd.R d e w base ok v xs)) : ∃ A n c, v = .slice A n c := by
  obtain ⟨A, c, h⟩ := Kd.R_slice h.out
  exact ⟨A, _, c, h⟩
theorem sv_S {α : Type} {d : Kd α} {e : Nat} {w : World} {base : Nat} {ok : Nat → Prop} {v : Value} {xs : List α} (h : Aside0 (Kd.S d e w base ok v xs)) : ∃ A n c, v = .slice A n c := by
  obtain ⟨A, c, h⟩ := Kd.R_slice (Kd.S_R h.out)
  exact ⟨A, _, c, h⟩
theorem sv_N {α : Type} {d : Kd α} {e : Nat} {w : World} {base : Nat} {ok : Nat → Prop} {v : Value} {xs : List α} (h : Aside0 (Kd.N d e w base ok v xs)) : ∃ A n c, v = .slice A n c := by
  obtain ⟨A, c, h⟩ := Kd.N_slice h.out
  exact ⟨A, _, c, h⟩
theorem sv_Q {α : Type} {d : Kd α} {e : Nat} {w : World} {base : Nat} {ok : Nat → Prop} {v : Value} {xs : List α} (h : Aside0 (Kd.Q d e w base ok v xs)) : ∃ A n c, v = .slice A n c := by
  obtain ⟨A, c, h, _⟩ := Kd.Q_slice h.out
  exact ⟨A, _, c, h⟩
theorem sv_V {α : Type} {d : Kd α} {e : Nat} {w : World} {base : Nat} {ok : Nat → Prop} {v : Value} {xs : List α} (h : Aside0 (Kd.V d e w base ok v xs)) : ∃ A n c, v = .slice A n c := by
  obtain ⟨A, c, h⟩ := Kd.V_slice h.out
  exact ⟨A, _, c, h⟩
theorem pw_ext_same (t : ByteArray) (n : Nat) : t.extract n n = ByteArray.empty := by simp
end Go.Proofs.YtjlffencbaifeaaW.PrintWords
