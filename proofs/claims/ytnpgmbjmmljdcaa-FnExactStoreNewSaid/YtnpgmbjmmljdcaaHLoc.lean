/- A variable's block, carried from world to world; what a call hands back. -/
import Derived.Test.YtnpgmbjmmljdcaaHEq
import Derived.Test.YtnpgmbjmmljdcaaHTo2
import Derived.Test.YtnpgmbjmmljdcaaHHeld
import Derived.Test.YtnpgmbjmmljdcaaHSz
namespace Go.Proofs.Ytnpgmbjmmljdcaa.H
open Go.RowKit
set_option linter.unusedVariables false

def Loc (w : World) (b : Nat) (cs : Array Value) (t : TypeId) : Prop := w.heap[b]? = some (.cells cs t (0, 0))
theorem Loc.lt {w : World} {b : Nat} {cs : Array Value} {t : TypeId} (h : Loc w b cs t) : b < w.heap.size := (Array.getElem?_eq_some_iff.1 h).1
theorem Loc.new (w : World) (cs : Array Value) (t : TypeId) : Loc (w.alloc (.cells cs t)) w.heap.size cs t := heap_alloc_new w _
theorem Loc.alloc {w : World} {b : Nat} {cs : Array Value} {t : TypeId} (h : Loc w b cs t) (o : Obj) : Loc (w.alloc o) b cs t := (Below.heap_alloc w o b h.lt).trans h
theorem Loc.below {w w' : World} {b : Nat} {cs : Array Value} {t : TypeId} (h : Loc w b cs t) (hb : Below w.heap.size w w') : Loc w' b cs t := (hb.block b h.lt).trans h
theorem Loc.keep {w w' : World} {b : Nat} {cs : Array Value} {t : TypeId} {D : List Nat} (h : Loc w b cs t) (hb : Keep D w w') (hn : b ∉ D) : Loc w' b cs t := (hb.block b h.lt hn).trans h
theorem Loc.set {w : World} {b : Nat} {cs : Array Value} {t : TypeId} (h : Loc w b cs t) {p : Addr} (hp : b ≠ p.block) (u : Value) : Loc (w.setCell p u) b cs t := (Below.heap_setCell w p u b hp).trans h
theorem Loc.cells {w : World} {b : Nat} {cs : Array Value} {t : TypeId} (h : Loc w b cs t) : ∀ j, w.cell? ⟨b, j, none⟩ = cs[j]? := fun j => cell_of_row w b j cs t (0, 0) h
theorem Loc.free {w : World} {b : Nat} {cs : Array Value} {t : TypeId} (h : Loc w b cs t) : ∀ j, w.frozen? ⟨b, j, none⟩ = false := fun j => frozen_of_row w b j cs t h

theorem store_slices {w : World} {D : List Nat} {g t : Int} {v2 v3 : Value} {s : Store} (h : owStore w D [.int .i64 g, .int .i64 t, v2, v3] s) :
    ∃ A2 c2 A3 c3 D1 D2, v2 = .slice A2 s.bx.length c2 ∧ v3 = .slice A3 s.go.length c3 ∧ D = D1 ++ D2 ∧ owBoxes w D1 v2 s.bx ∧ owInts w D2 v3 s.go := by
  obtain ⟨mv, gv, D1, D2, e, hD, h1, h2⟩ := h
  simp only [List.cons.injEq, and_true] at e
  obtain ⟨_, _, rfl, rfl⟩ := e
  obtain ⟨A2, c2, rfl⟩ := cell_own ow_box h1
  obtain ⟨A3, c3, rfl⟩ := cell_own ow_int h2
  exact ⟨_, _, _, _, D1, D2, rfl, rfl, hD, h1, h2⟩
theorem box_parts {w : World} {D : List Nat} {g t y nx : Int} {nm : ByteArray} {v2 v3 : Value} {b : Box} (h : owBox w D [.int .i64 g, .string nm, .int .i64 t, .int .i64 y, .int .i64 nx, v2, v3] b) :
    ∃ A2 c2 A3 c3 D1 D2, v2 = .slice A2 b.ml.length c2 ∧ v3 = .slice A3 b.go.length c3 ∧ D = D1 ++ D2 ∧ owMails w D1 v2 b.ml ∧ owInts w D2 v3 b.go := by
  obtain ⟨mv, gv, D1, D2, e, hD, h1, h2⟩ := h
  simp only [List.cons.injEq, and_true] at e
  obtain ⟨_, _, _, _, _, rfl, rfl⟩ := e
  obtain ⟨A2, c2, rfl⟩ := cell_own ow_mail h1
  obtain ⟨A3, c3, rfl⟩ := cell_own ow_int h2
  exact ⟨_, _, _, _, D1, D2, rfl, rfl, hD, h1, h2⟩
end Go.Proofs.Ytnpgmbjmmljdcaa.H
