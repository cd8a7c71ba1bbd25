/- Small words of the walks on boxes and stores. No program in it. -/
import Derived.Test.YtjfjpabfkembcaaHPure
import Derived.Test.YtjfjpabfkembcaaHOwn
import Derived.WalkKit
import Derived.KernelRfl
import Derived.Deep.LoopGhost
import Derived.Deep.QuietTactic
import Derived.BigQuiet
import Derived.Outline
import Derived.IntWalk
namespace Go.Proofs.Ytjfjpabfkembcaa.H
open Go.RowKit
set_option linter.unusedVariables false

theorem ret_i {a b : Int} (h : a = b) : Ending.returned (.int .i64 a) = .returned (.int .i64 b) := by rw [h]
theorem ret_b {a b : Bool} (h : a = b) : Ending.returned (.bool a) = .returned (.bool b) := by rw [h]
theorem below_step {w0 w w' : World} (h : Below w0.heap.size w0 w) (hb : Below w.heap.size w w') : Below w0.heap.size w0 w' := h.trans (hb.mono h.size)
theorem below_alloc {w0 w : World} (h : Below w0.heap.size w0 w) (o : Obj) : Below w0.heap.size w0 (w.alloc o) := h.alloc h.size o
theorem below_drew {w0 w : World} (h : Below w0.heap.size w0 w) : Below w0.heap.size w0 w.drew := h.drew
theorem below_drewN {w0 w : World} (h : Below w0.heap.size w0 w) (n : Nat) : Below w0.heap.size w0 (w.drewN n) := ⟨h.os, h.tape, h.output, h.size, h.block⟩
theorem below_set {w0 w : World} (h : Below w0.heap.size w0 w) {p : Addr} (hp : w0.heap.size ≤ p.block) (u : Value) : Below w0.heap.size w0 (w.setCell p u) := h.setCell hp u
/-- A cell that was there is there behind a call. -/
theorem cell_b {w w' : World} (hb : Below w.heap.size w w') {p : Addr} {v : Value} (h : w.cell? p = some v) : w'.cell? p = some v := (hb.cell (World.block_lt_of_cell? w p h)).trans h
theorem rd_one {α : Type} {sz : Nat} {K : World → List Value → α → Prop} {w : World} {v : Value} {l : List α} (h : rdRow sz K w v l) : v.oneCell' = true := by
  obtain ⟨A, c, rfl, _⟩ := rd_len h
  rfl
theorem bcell {W w1 : World} (hb : Below W.heap.size W w1) : (∀ b o, b < W.heap.size → w1.cell? ⟨b, o, none⟩ = W.cell? ⟨b, o, none⟩) ∧ (∀ b o, b < W.heap.size → w1.frozen? ⟨b, o, none⟩ = W.frozen? ⟨b, o, none⟩) :=
  ⟨fun b o h => hb.cell (p := ⟨b, o, none⟩) h, fun b o h => hb.frozen (p := ⟨b, o, none⟩) h⟩
/-- The first blocks of a call are there still. -/
theorem lt3 {a b : Nat} (h : a + 3 ≤ b) : a < b ∧ a + 1 < b ∧ a + 1 + 1 < b := by omega
theorem add0 (ad : Addr) : ad.add 0 = ad := by unfold Addr.add; simp
theorem slice_g {g g' n n' c c' : Nat} (h : Value.slice (some ⟨g, 0, none⟩) n c = .slice (some ⟨g', 0, none⟩) n' c') : g' = g := by
  injection h with h1
  injection h1 with h1
  injection h1 with h1
  exact h1.symm
def Loc (w : World) (b : Nat) (cs : Array Value) (t : TypeId) : Prop := w.heap[b]? = some (.cells cs t (0, 0))
theorem Loc.lt {w : World} {b : Nat} {cs : Array Value} {t : TypeId} (h : Loc w b cs t) : b < w.heap.size := (Array.getElem?_eq_some_iff.1 h).1
theorem Loc.new (w : World) (cs : Array Value) (t : TypeId) : Loc (w.alloc (.cells cs t)) w.heap.size cs t := heap_alloc_new w _
theorem Loc.alloc {w : World} {b : Nat} {cs : Array Value} {t : TypeId} (h : Loc w b cs t) (o : Obj) : Loc (w.alloc o) b cs t := (Below.heap_alloc w o b h.lt).trans h
theorem Loc.below {w w' : World} {b : Nat} {cs : Array Value} {t : TypeId} (h : Loc w b cs t) (hb : Below w.heap.size w w') : Loc w' b cs t := (hb.block b h.lt).trans h
theorem Loc.keep {w w' : World} {b : Nat} {cs : Array Value} {t : TypeId} {D : List Nat} (h : Loc w b cs t) (hb : Keep D w w') (hn : b ∉ D) : Loc w' b cs t := (hb.block b h.lt hn).trans h
theorem Loc.set {w : World} {b : Nat} {cs : Array Value} {t : TypeId} (h : Loc w b cs t) {p : Addr} (hp : b ≠ p.block) (u : Value) : Loc (w.setCell p u) b cs t := (Below.heap_setCell w p u b hp).trans h
theorem Loc.drew {w : World} {b : Nat} {cs : Array Value} {t : TypeId} (h : Loc w b cs t) : Loc w.drew b cs t := h
theorem Loc.cells {w : World} {b : Nat} {cs : Array Value} {t : TypeId} (h : Loc w b cs t) : ∀ j, w.cell? ⟨b, j, none⟩ = cs[j]? := fun j => cell_of_row w b j cs t (0, 0) h
theorem Loc.free {w : World} {b : Nat} {cs : Array Value} {t : TypeId} (h : Loc w b cs t) : ∀ j, w.frozen? ⟨b, j, none⟩ = false := fun j => frozen_of_row w b j cs t h

/-- What is left of an allowance. -/
def isSz (n : Nat) (a r : Int) : Prop := ((n : Int) ≤ a ∧ r = a - n) ∨ (a < n ∧ r = -1)
def RetSz (n : Nat) (a : Int) (w : World) (e : Ending) (w' : World) : Prop := ∃ r, e = .returned (.int .i64 r) ∧ isSz n a r ∧ Below w.heap.size w w'
end Go.Proofs.Ytjfjpabfkembcaa.H
