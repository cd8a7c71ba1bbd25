/- A variable's block, carried from world to world; what a call hands back. -/
import Derived.Test.YtjfjpabfkembcaaHEq
import Derived.Test.YtjfjpabfkembcaaHTo2
import Derived.Test.YtjfjpabfkembcaaHHeld
import Derived.Test.YtjfjpabfkembcaaHSz
namespace Go.Proofs.Ytjfjpabfkembcaa.H
open Go.RowKit
set_option linter.unusedVariables false

theorem store_slices {w : World} {D : List Nat} {g t : Int} {v2 v3 : Value} {s : Store} (h : owStore w D [.int .i64 g, .int .i64 t, v2, v3] s) :
    ∃ A2 c2 A3 c3 D1 D2, v2 = .slice A2 s.bx.length c2 ∧ v3 = .slice A3 s.go.length c3 ∧ D = D1 ++ D2 ∧ owBoxes w D1 v2 s.bx ∧ owInts w D2 v3 s.go := by
  obtain ⟨mv, gv, D1, D2, e, hD, h1, h2⟩ := h
  simp only [List.cons.injEq, and_true] at e
  obtain ⟨_, _, rfl, rfl⟩ := e
  obtain ⟨A2, c2, rfl⟩ := cell_own ow_box h1
  obtain ⟨A3, c3, rfl⟩ := cell_own ow_int h2
  exact ⟨_, _, _, _, D1, D2, rfl, rfl, hD, h1, h2⟩
theorem box_parts {w : World} {D : List Nat} {g t y nx : Int} {nm : ByteArray} {v2 v3 : Value} {b : Box} (h : owBox w D [.int .i64 g, .string nm, .int .i64 t, .int .i64 y, .int .i64 nx, v2, v3] b) :
    ∃ A2 c2 A3 c3 D1 D2, v2 = .slice A2 b.ml.length c2 ∧ v3 = .slice A3 b.go.length c3 ∧ D = D1 ++ D2 ∧ owMails w D1 v2 b.ml ∧ owInts w D2 v3 b.go := by
  obtain ⟨mv, gv, D1, D2, e, hD, h1, h2⟩ := h
  simp only [List.cons.injEq, and_true] at e
  obtain ⟨_, _, _, _, _, rfl, rfl⟩ := e
  obtain ⟨A2, c2, rfl⟩ := cell_own ow_mail h1
  obtain ⟨A3, c3, rfl⟩ := cell_own ow_int h2
  exact ⟨_, _, _, _, D1, D2, rfl, rfl, hD, h1, h2⟩
end Go.Proofs.Ytjfjpabfkembcaa.H
