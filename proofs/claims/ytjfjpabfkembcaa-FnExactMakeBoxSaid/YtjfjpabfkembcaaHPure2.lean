/- What the functions that change boxes and stores answer, as plain Lean functions. No program in it. -/
import Derived.Test.YtjfjpabfkembcaaHPure
namespace Go.Proofs.Ytjfjpabfkembcaa.H
open Go.RowKit
set_option linter.unusedVariables false

def putIn (g : Int) (l : List Int) : List Int := l.filter (fun x => decide (x < g)) ++ g :: l.filter (fun x => decide (g < x))
def takeOut (b : Box) (g : Int) : Box × Bool :=
  if boxOk b && decide (0 ≤ mailAt b.ml g) && decide (b.go.length < 40) then ({ b with ml := b.ml.eraseIdx (mailAt b.ml g).toNat, go := putIn g b.go }, true) else (b, false)
def orElse (o s : Store) : Store × Bool := if storeOk o then (o, true) else (s, false)
def addBox (x : Box) (l : List Box) : List Box := l.filter (fun b => decide (b.g < x.g)) ++ x :: l.filter (fun b => decide (x.g < b.g))
def makeBox (s : Store) (g : Int) (nm : ByteArray) : Store × Bool :=
  if storeOk s && !knows s g && decide (boxNamed s.bx nm < 0) then orElse { s with tm := s.tm + 1, bx := addBox ⟨g, nm, s.tm + 1, s.by_, 1, [], []⟩ s.bx } s else (s, false)
def renamed (nm : ByteArray) (t y : Int) (b : Box) : Box := { b with nm := nm, t := t, b := y }
def renameBox (s : Store) (g : Int) (nm : ByteArray) : Store × Bool :=
  if storeOk s && decide (0 ≤ boxAt s.bx g) && decide (boxNamed s.bx nm < 0) then
    orElse { s with tm := s.tm + 1, bx := s.bx.modify (boxAt s.bx g).toNat (renamed nm (s.tm + 1) s.by_) } s
  else (s, false)
def stamped (s : Store) (k : Nat) (r : Box × Bool) : Store × Bool := if r.2 then orElse { s with tm := s.tm + 1, bx := s.bx.set k r.1 } s else (s, false)
def putMail (s : Store) (box g f : Int) (tx : ByteArray) : Store × Bool :=
  if storeOk s && !knows s g && decide (0 ≤ boxAt s.bx box) then
    (match s.bx[(boxAt s.bx box).toNat]? with
     | none => (s, false)
     | some b => stamped s (boxAt s.bx box).toNat (addMail b g f tx (s.tm + 1) s.by_))
  else (s, false)
def markMail (s : Store) (box g f : Int) : Store × Bool :=
  if storeOk s && decide (0 ≤ boxAt s.bx box) then
    (match s.bx[(boxAt s.bx box).toNat]? with
     | none => (s, false)
     | some b => stamped s (boxAt s.bx box).toNat (flagMail b g f (s.tm + 1) s.by_))
  else (s, false)

theorem mailAtFrom_lt (g : Int) : ∀ (l : List Mail) (i : Int), 0 ≤ i → mailAtFrom g i l = -1 ∨ (i ≤ mailAtFrom g i l ∧ mailAtFrom g i l < i + l.length)
  | [], i, _ => .inl rfl
  | m :: l, i, h => by
    unfold mailAtFrom
    split
    · right; simp; omega
    · rcases mailAtFrom_lt g l (i + 1) (by omega) with h1 | ⟨h1, h2⟩
      · exact .inl h1
      · right; simp; omega
theorem mailAt_lt {l : List Mail} {g : Int} (h : 0 ≤ mailAt l g) : (mailAt l g).toNat < l.length := by
  rcases mailAtFrom_lt g l 0 (Int.le_refl _) with h1 | ⟨h1, h2⟩
  · unfold mailAt at h; omega
  · unfold mailAt at *; omega
theorem boxAtFrom_lt (g : Int) : ∀ (l : List Box) (i : Int), 0 ≤ i → boxAtFrom g i l = -1 ∨ (i ≤ boxAtFrom g i l ∧ boxAtFrom g i l < i + l.length)
  | [], i, _ => .inl rfl
  | m :: l, i, h => by
    unfold boxAtFrom
    split
    · right; simp; omega
    · rcases boxAtFrom_lt g l (i + 1) (by omega) with h1 | ⟨h1, h2⟩
      · exact .inl h1
      · right; simp; omega
theorem boxAt_lt {l : List Box} {g : Int} (h : 0 ≤ boxAt l g) : (boxAt l g).toNat < l.length := by
  rcases boxAtFrom_lt g l 0 (Int.le_refl _) with h1 | ⟨h1, h2⟩
  · unfold boxAt at h; omega
  · unfold boxAt at *; omega
end Go.Proofs.Ytjfjpabfkembcaa.H
