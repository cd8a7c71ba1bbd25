/- A variable that holds a box, a store or a mail which the call owns. No program in it. -/
import Derived.Test.YtjfjpabfkembcaaHOwn2
import Derived.Test.YtjfjpabfkembcaaHAddMail
import Derived.Test.YtjfjpabfkembcaaHMark
import Derived.Test.YtjfjpabfkembcaaHCopySt2
namespace Go.Proofs.Ytjfjpabfkembcaa.H
open Go.RowKit
set_option linter.unusedVariables false
theorem owRow_keep {α : Type} {e sz s : Nat} {R : World → List Nat → List Value → α → Prop} {K : World → List Value → α → Prop} (o : Ow s R K) {w w' : World} {D Dx : List Nat} {v : Value} {l : List α} (h : owRow e sz R w D v l)
    (hk : Keep Dx w w') (hd : ∀ b ∈ D, b ∉ Dx) : owRow e sz R w' D v l := owRow_mov o h fun b hb => hk.block b (owRow_lt o h b hb) (hd b hb)
theorem New.apart {w0 w1 w2 w3 : World} {D D' : List Nat} (h : New w0 w1 D) (h' : New w2 w3 D') (hs : w1.heap.size ≤ w2.heap.size) : (∀ b ∈ D, b ∉ D') ∧ (∀ b ∈ D', b ∉ D) :=
  ⟨fun b hb hb' => by have := (h.2 b hb).2; have := (h'.2 b hb').1; omega, fun b hb hb' => by have := (h.2 b hb').2; have := (h'.2 b hb).1; omega⟩
theorem New.keepBelow {w0 w1 w w' : World} {D : List Nat} (h : New w0 w1 D) (hk : Keep D w w') {W : World} (hB : Below W.heap.size W w) (hs : W.heap.size ≤ w0.heap.size) : Below W.heap.size W w' :=
  hB.trans (hk.below (w0 := W) (fun b hb => by have := (h.2 b hb).1; omega) hB.size)

def HasBox (w0 w : World) (B : Nat) (D : List Nat) (x : Box) : Prop := ∃ A0 c0 A1 c1 D0 D1, D = D0 ++ D1 ∧ Loc w B #[.int .i64 x.g, .string x.nm, .int .i64 x.t, .int .i64 x.b, .int .i64 x.nx, .slice A0 x.ml.length c0, .slice A1 x.go.length c1] 32 ∧
  owMails w D0 (.slice A0 x.ml.length c0) x.ml ∧ owInts w D1 (.slice A1 x.go.length c1) x.go ∧ New w0 w D ∧ B ∉ D ∧ w0.heap.size ≤ B
theorem HasBox.move {w0 w w' : World} {B : Nat} {D : List Nat} {x : Box} (h : HasBox w0 w B D x) (hs : w.heap.size ≤ w'.heap.size) (hm : ∀ b, (b = B ∨ b ∈ D) → b < w.heap.size → w'.heap[b]? = w.heap[b]?) : HasBox w0 w' B D x := by
  obtain ⟨A0, c0, A1, c1, D0, D1, rfl, hl, h0, h1, hn, hB, hb⟩ := h
  refine ⟨A0, c0, A1, c1, D0, D1, rfl, (hm B (.inl rfl) hl.lt).trans hl, owRow_mov ow_mail h0 fun b hb' => ?_, owRow_mov ow_int h1 fun b hb' => ?_, hn.mono hs, hB, hb⟩
  · exact hm b (.inr (by simp [hb'])) (hn.2 b (by simp [hb'])).2
  · exact hm b (.inr (by simp [hb'])) (hn.2 b (by simp [hb'])).2
theorem HasBox.below {w0 w w' : World} {B : Nat} {D : List Nat} {x : Box} (h : HasBox w0 w B D x) (hb : Below w.heap.size w w') : HasBox w0 w' B D x := h.move hb.size fun b _ hlt => hb.block b hlt
theorem HasBox.keep {w0 w w' : World} {B : Nat} {D E : List Nat} {x : Box} (h : HasBox w0 w B D x) (hk : Keep E w w') (hB : B ∉ E) (hD : ∀ b ∈ D, b ∉ E) : HasBox w0 w' B D x :=
  h.move hk.size fun b hb hlt => hk.block b hlt (hb.elim (fun e => e ▸ hB) (hD b))
theorem HasBox.drew {w0 w : World} {B : Nat} {D : List Nat} {x : Box} (h : HasBox w0 w B D x) : HasBox w0 w.drew B D x := h.move (Nat.le_refl _) fun _ _ _ => rfl
theorem HasBox.alloc {w0 w : World} {B : Nat} {D : List Nat} {x : Box} (h : HasBox w0 w B D x) (o : Obj) : HasBox w0 (w.alloc o) B D x := h.below ((Below.refl _ w).alloc (Nat.le_refl _) o)
theorem HasBox.set {w0 w : World} {B : Nat} {D : List Nat} {x : Box} (h : HasBox w0 w B D x) {p : Addr} (hp : p.block ≠ B) (hD : p.block ∉ D) (u : Value) : HasBox w0 (w.setCell p u) B D x :=
  h.move (by simp [World.setCell]) fun b hb _ => Below.heap_setCell w p u b (hb.elim (fun e he => hp (he ▸ e)) fun hb he => hD (he ▸ hb))
theorem HasBox.lt {w0 w : World} {B : Nat} {D : List Nat} {x : Box} (h : HasBox w0 w B D x) : B < w.heap.size := by
  obtain ⟨A0, c0, A1, c1, D0, D1, _, hl, _⟩ := h
  exact hl.lt
theorem HasBox.new {w0 w : World} {B : Nat} {D : List Nat} {x : Box} (h : HasBox w0 w B D x) : New w0 w D := by
  obtain ⟨A0, c0, A1, c1, D0, D1, _, _, _, _, hn, _⟩ := h
  exact hn
theorem HasBox.off {w0 w : World} {B : Nat} {D : List Nat} {x : Box} (h : HasBox w0 w B D x) : B ∉ D ∧ w0.heap.size ≤ B := by
  obtain ⟨A0, c0, A1, c1, D0, D1, _, _, _, _, _, hn⟩ := h
  exact hn
/-- What is new since then lies apart from it. -/
theorem HasBox.apart {w0 w w1 w2 : World} {B : Nat} {D D' : List Nat} {x : Box} (h : HasBox w0 w B D x) (h' : New w1 w2 D') (hs : w.heap.size ≤ w1.heap.size) : B ∉ D' ∧ ∀ b ∈ D, b ∉ D' :=
  ⟨fun hb => by have := (h'.2 _ hb).1; have := h.lt; omega, (h.new.apart h' hs).1⟩
theorem HasBox.make {w0 w w1 : World} {B : Nat} {D : List Nat} {x : Box} {cs : List Value} (ho : owBox w D cs x) (hn : New w0 w D) (hs : w.heap.size ≤ w1.heap.size) (hm : ∀ b ∈ D, w1.heap[b]? = w.heap[b]?) (hl : Loc w1 B cs.toArray 32) (hB : B ∉ D) (hb : w0.heap.size ≤ B) : HasBox w0 w1 B D x := by
  obtain ⟨mv, gv, D0, D1, rfl, rfl, h0, h1⟩ := ho
  obtain ⟨A0, c0, rfl⟩ := cell_own ow_mail h0
  obtain ⟨A1, c1, rfl⟩ := cell_own ow_int h1
  exact ⟨A0, c0, A1, c1, D0, D1, rfl, hl, owRow_mov ow_mail h0 fun b hb => hm b (by simp [hb]), owRow_mov ow_int h1 fun b hb => hm b (by simp [hb]), hn.mono hs, hB, hb⟩
/-- Laid into a new block behind the call that made it. -/
theorem HasBox.made {w0 w : World} {D : List Nat} {x : Box} {cs : List Value} (ho : owBox w D cs x) (hn : New w0 w D) (hs : w0.heap.size ≤ w.heap.size) : HasBox w0 (w.alloc (.cells cs.toArray 32)) w.heap.size D x :=
  HasBox.make ho hn (by simp) (fun b hb => Below.heap_alloc w _ b (hn.2 b hb).2) (Loc.new w _ _) (fun hb => by have := (hn.2 _ hb).2; omega) hs
theorem HasBox.from {w0 w1 w : World} {B : Nat} {D : List Nat} {x : Box} (h : HasBox w1 w B D x) (hs : w0.heap.size ≤ w1.heap.size) : HasBox w0 w B D x := by
  obtain ⟨A0, c0, A1, c1, D0, D1, e, hl, h0, h1, hn, hB, hb⟩ := h
  exact ⟨A0, c0, A1, c1, D0, D1, e, hl, h0, h1, hn.from hs, hB, by omega⟩

def HasStore (w0 w : World) (B : Nat) (D : List Nat) (x : Store) : Prop := ∃ A0 c0 A1 c1 D0 D1, D = D0 ++ D1 ∧ Loc w B #[.int .i64 x.by_, .int .i64 x.tm, .slice A0 x.bx.length c0, .slice A1 x.go.length c1] 45 ∧
  owBoxes w D0 (.slice A0 x.bx.length c0) x.bx ∧ owInts w D1 (.slice A1 x.go.length c1) x.go ∧ New w0 w D ∧ B ∉ D ∧ w0.heap.size ≤ B
theorem HasStore.move {w0 w w' : World} {B : Nat} {D : List Nat} {x : Store} (h : HasStore w0 w B D x) (hs : w.heap.size ≤ w'.heap.size) (hm : ∀ b, (b = B ∨ b ∈ D) → b < w.heap.size → w'.heap[b]? = w.heap[b]?) : HasStore w0 w' B D x := by
  obtain ⟨A0, c0, A1, c1, D0, D1, rfl, hl, h0, h1, hn, hB, hb⟩ := h
  refine ⟨A0, c0, A1, c1, D0, D1, rfl, (hm B (.inl rfl) hl.lt).trans hl, owRow_mov ow_box h0 fun b hb' => ?_, owRow_mov ow_int h1 fun b hb' => ?_, hn.mono hs, hB, hb⟩
  · exact hm b (.inr (by simp [hb'])) (hn.2 b (by simp [hb'])).2
  · exact hm b (.inr (by simp [hb'])) (hn.2 b (by simp [hb'])).2
theorem HasStore.below {w0 w w' : World} {B : Nat} {D : List Nat} {x : Store} (h : HasStore w0 w B D x) (hb : Below w.heap.size w w') : HasStore w0 w' B D x := h.move hb.size fun b _ hlt => hb.block b hlt
theorem HasStore.keep {w0 w w' : World} {B : Nat} {D E : List Nat} {x : Store} (h : HasStore w0 w B D x) (hk : Keep E w w') (hB : B ∉ E) (hD : ∀ b ∈ D, b ∉ E) : HasStore w0 w' B D x :=
  h.move hk.size fun b hb hlt => hk.block b hlt (hb.elim (fun e => e ▸ hB) (hD b))
theorem HasStore.drew {w0 w : World} {B : Nat} {D : List Nat} {x : Store} (h : HasStore w0 w B D x) : HasStore w0 w.drew B D x := h.move (Nat.le_refl _) fun _ _ _ => rfl
theorem HasStore.alloc {w0 w : World} {B : Nat} {D : List Nat} {x : Store} (h : HasStore w0 w B D x) (o : Obj) : HasStore w0 (w.alloc o) B D x := h.below ((Below.refl _ w).alloc (Nat.le_refl _) o)
theorem HasStore.set {w0 w : World} {B : Nat} {D : List Nat} {x : Store} (h : HasStore w0 w B D x) {p : Addr} (hp : p.block ≠ B) (hD : p.block ∉ D) (u : Value) : HasStore w0 (w.setCell p u) B D x :=
  h.move (by simp [World.setCell]) fun b hb _ => Below.heap_setCell w p u b (hb.elim (fun e he => hp (he ▸ e)) fun hb he => hD (he ▸ hb))
theorem HasStore.lt {w0 w : World} {B : Nat} {D : List Nat} {x : Store} (h : HasStore w0 w B D x) : B < w.heap.size := by
  obtain ⟨A0, c0, A1, c1, D0, D1, _, hl, _⟩ := h
  exact hl.lt
theorem HasStore.new {w0 w : World} {B : Nat} {D : List Nat} {x : Store} (h : HasStore w0 w B D x) : New w0 w D := by
  obtain ⟨A0, c0, A1, c1, D0, D1, _, _, _, _, hn, _⟩ := h
  exact hn
theorem HasStore.off {w0 w : World} {B : Nat} {D : List Nat} {x : Store} (h : HasStore w0 w B D x) : B ∉ D ∧ w0.heap.size ≤ B := by
  obtain ⟨A0, c0, A1, c1, D0, D1, _, _, _, _, _, hn⟩ := h
  exact hn
/-- What is new since then lies apart from it. -/
theorem HasStore.apart {w0 w w1 w2 : World} {B : Nat} {D D' : List Nat} {x : Store} (h : HasStore w0 w B D x) (h' : New w1 w2 D') (hs : w.heap.size ≤ w1.heap.size) : B ∉ D' ∧ ∀ b ∈ D, b ∉ D' :=
  ⟨fun hb => by have := (h'.2 _ hb).1; have := h.lt; omega, (h.new.apart h' hs).1⟩
theorem HasStore.make {w0 w w1 : World} {B : Nat} {D : List Nat} {x : Store} {cs : List Value} (ho : owStore w D cs x) (hn : New w0 w D) (hs : w.heap.size ≤ w1.heap.size) (hm : ∀ b ∈ D, w1.heap[b]? = w.heap[b]?) (hl : Loc w1 B cs.toArray 45) (hB : B ∉ D) (hb : w0.heap.size ≤ B) : HasStore w0 w1 B D x := by
  obtain ⟨mv, gv, D0, D1, rfl, rfl, h0, h1⟩ := ho
  obtain ⟨A0, c0, rfl⟩ := cell_own ow_box h0
  obtain ⟨A1, c1, rfl⟩ := cell_own ow_int h1
  exact ⟨A0, c0, A1, c1, D0, D1, rfl, hl, owRow_mov ow_box h0 fun b hb => hm b (by simp [hb]), owRow_mov ow_int h1 fun b hb => hm b (by simp [hb]), hn.mono hs, hB, hb⟩
/-- Laid into a new block behind the call that made it. -/
theorem HasStore.made {w0 w : World} {D : List Nat} {x : Store} {cs : List Value} (ho : owStore w D cs x) (hn : New w0 w D) (hs : w0.heap.size ≤ w.heap.size) : HasStore w0 (w.alloc (.cells cs.toArray 45)) w.heap.size D x :=
  HasStore.make ho hn (by simp) (fun b hb => Below.heap_alloc w _ b (hn.2 b hb).2) (Loc.new w _ _) (fun hb => by have := (hn.2 _ hb).2; omega) hs
theorem HasStore.from {w0 w1 w : World} {B : Nat} {D : List Nat} {x : Store} (h : HasStore w1 w B D x) (hs : w0.heap.size ≤ w1.heap.size) : HasStore w0 w B D x := by
  obtain ⟨A0, c0, A1, c1, D0, D1, e, hl, h0, h1, hn, hB, hb⟩ := h
  exact ⟨A0, c0, A1, c1, D0, D1, e, hl, h0, h1, hn.from hs, hB, by omega⟩
end Go.Proofs.Ytjfjpabfkembcaa.H
