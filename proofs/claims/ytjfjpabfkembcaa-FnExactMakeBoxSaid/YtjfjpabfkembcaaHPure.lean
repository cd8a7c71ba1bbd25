/- What the functions on registers, flags, mails, boxes and stores answer, as plain Lean functions; sizes; marks. No program in it. -/
import Derived.Test.YtjfjpabfkembcaaHBase
namespace Go.Proofs.Ytjfjpabfkembcaa.H
open Go.RowKit
set_option linter.unusedVariables false

def isIn (x lo hi : Int) : Bool := decide (lo ≤ x) && decide (x ≤ hi)
def stampOk (t b : Int) : Bool := isIn t 0 100000 && isIn b 0 2
def regOk (r : Reg) : Bool := stampOk r.t r.b && isIn r.v 0 1000000000
def later (t b t' b' : Int) : Bool := decide (t' < t) || (decide (t = t') && decide (b' < b))
def putReg (r : Reg) (n t b : Int) : Reg := if later t b r.t r.b && regOk ⟨n, t, b⟩ then ⟨n, t, b⟩ else r
def bitAt (n : Int) (i : Nat) : Int := n / 2 ^ i % 2
def flagsNew (n t b : Int) : List Reg := [⟨bitAt n 0, t, b⟩, ⟨bitAt n 1, t, b⟩, ⟨bitAt n 2, t, b⟩]
def flagOk (r : Reg) : Bool := regOk r && decide (r.v ≤ 1)
def flagsAll : List Reg → Bool
  | [] => true
  | r :: l => flagOk r && flagsAll l
def flagsOk (l : List Reg) : Bool := flagsAll l && decide (l.length = 3)
def setFrom (n t b : Int) : Nat → List Reg → List Reg
  | _, [] => []
  | i, r :: l => (if r.v = bitAt n i then r else putReg r (bitAt n i) t b) :: setFrom n t b (i + 1) l
def setFlags (l : List Reg) (n t b : Int) : List Reg := if flagsOk l && isIn n 0 7 then setFrom n t b 0 l else l
def mailOk (m : Mail) : Bool := isIn m.g 1 9999 && isIn m.u 1 9999 && flagsOk m.fl && decide (m.tx.size ≤ 60)
def charOk (c : UInt8) : Bool := (decide (97 ≤ (c.toNat : Int)) && decide ((c.toNat : Int) ≤ 122)) || (decide (48 ≤ (c.toNat : Int)) && decide ((c.toNat : Int) ≤ 57))
def nameAll : List UInt8 → Bool
  | [] => true
  | c :: l => charOk c && nameAll l
def nameOk (s : ByteArray) : Bool := nameAll s.data.toList && isIn (s.size : Int) 1 12
/-- Is a number above the one before? -/
def above : Option Int → Int → Bool
  | none, _ => true
  | some y, x => decide (y < x)
def gidsAll (p : Option Int) : List Int → Bool
  | [] => true
  | x :: l => isIn x 1 9999 && above p x && gidsAll (some x) l
def gidsOk (l : List Int) (most : Int) : Bool := gidsAll none l && decide ((l.length : Int) ≤ most)
def has (x : Int) : List Int → Bool
  | [] => false
  | y :: l => decide (y = x) || has x l
def mailAtFrom (g : Int) : Int → List Mail → Int
  | _, [] => -1
  | i, m :: l => if m.g = g then i else mailAtFrom g (i + 1) l
def mailAt (l : List Mail) (g : Int) : Int := mailAtFrom g 0 l
def boxAtFrom (g : Int) : Int → List Box → Int
  | _, [] => -1
  | i, m :: l => if m.g = g then i else boxAtFrom g (i + 1) l
def boxAt (l : List Box) (g : Int) : Int := boxAtFrom g 0 l
def boxNamedFrom (s : ByteArray) : Int → List Box → Int
  | _, [] => -1
  | i, m :: l => if (m.nm.toList == s.toList) = true then i else boxNamedFrom s (i + 1) l
def boxNamed (l : List Box) (s : ByteArray) : Int := boxNamedFrom s 0 l
/-- A mail at its place; p: the Uid of the one before. -/
def mailIn (b : Box) (i : Int) (p : Option Int) (m : Mail) : Bool :=
  mailOk m && decide (m.u < b.nx) && above p m.u && decide (mailAt b.ml m.g = i) && !has m.g b.go
def mailsIn (b : Box) : Int → Option Int → List Mail → Bool
  | _, _, [] => true
  | i, p, m :: l => mailIn b i p m && mailsIn b (i + 1) (some m.u) l
def boxHead (b : Box) : Bool := isIn b.g 1 9999 && nameOk b.nm && stampOk b.t b.b && isIn b.nx 1 10000 && decide (b.ml.length ≤ 10) && gidsOk b.go 40
def boxOk (b : Box) : Bool := boxHead b && mailsIn b 0 none b.ml
def lateRegs (time : Int) : List Reg → Bool
  | [] => false
  | r :: l => decide (time < r.t) || lateRegs time l
def lateMails (time : Int) : List Mail → Bool
  | [] => false
  | m :: l => lateRegs time m.fl || lateMails time l
def late (b : Box) (time : Int) : Bool := lateMails time b.ml || decide (time < b.t)
def freshMails : List Int → List Mail → Option (List Int)
  | s, [] => some s
  | s, m :: l => if has m.g s then none else freshMails (s ++ [m.g]) l
def boxIn (s : Store) (i : Int) (p : Option Int) (b : Box) : Bool :=
  boxOk b && above p b.g && decide (boxNamed s.bx b.nm = i) && !has b.g s.go && !late b s.tm
def boxesIn (s : Store) : Int → Option Int → List Int → List Box → Bool
  | _, _, _, [] => true
  | i, p, seen, b :: l => boxIn s i p b && (match freshMails seen b.ml with | none => false | some seen' => boxesIn s (i + 1) (some b.g) seen' l)
def storeHead (s : Store) : Bool := isIn s.by_ 1 2 && isIn s.tm 0 100000 && decide (s.bx.length ≤ 5) && gidsOk s.go 20
def storeOk (s : Store) : Bool := storeHead s && boxesIn s 0 none [] s.bx
def knowsIn (g : Int) : List Box → Bool
  | [] => false
  | b :: l => decide (b.g = g) || decide (0 ≤ mailAt b.ml g) || has g b.go || knowsIn g l
def knows (s : Store) (g : Int) : Bool := knowsIn g s.bx || has g s.go

/-! ### what is done -/
def addMail (b : Box) (g f : Int) (tx : ByteArray) (t y : Int) : Box × Bool :=
  if boxOk b && decide (mailAt b.ml g < 0) && !has g b.go && isIn f 0 7 then
    (let o : Box := { b with ml := b.ml ++ [⟨g, b.nx, flagsNew f t y, tx⟩], nx := b.nx + 1 }
     if boxOk o then (o, true) else (b, false))
  else (b, false)
def setAt (l : List Mail) (k : Nat) (f : Mail → Mail) : List Mail := l.modify k f
def flagMail (b : Box) (g n t y : Int) : Box × Bool :=
  if boxOk b && decide (0 ≤ mailAt b.ml g) && isIn n 0 7 && stampOk t y then ({ b with ml := b.ml.modify (mailAt b.ml g).toNat fun m => { m with fl := setFlags m.fl n t y } }, true) else (b, false)

/-! ### sizes -/
def szMail (m : Mail) : Nat := m.fl.length + m.tx.size
def szMails0 : List Mail → Nat
  | [] => 0
  | m :: l => szMail m + szMails0 l
def szMails (l : List Mail) : Nat := l.length + szMails0 l
def szBox (b : Box) : Nat := b.nm.size + szMails b.ml + b.go.length
def szBoxes0 : List Box → Nat
  | [] => 0
  | b :: l => szBox b + szBoxes0 l
def szBoxes (l : List Box) : Nat := l.length + szBoxes0 l
def szStore (s : Store) : Nat := szBoxes s.bx + s.go.length
def szAns (n : Nat) (left : Int) : Int := if (n : Int) ≤ left then left - n else -1

/-! ### marks -/
def cMail (m : Mail) : Int := 3 + 3 * m.fl.length
def cMails : List Mail → Int
  | [] => 0
  | m :: l => cMail m + cMails l
def cBox (b : Box) : Int := 5 + cMails b.ml + b.go.length
def cBoxes : List Box → Int
  | [] => 0
  | b :: l => cBox b + cBoxes l
def digs : Nat → Nat → List UInt8
  | 0, _ => []
  | f + 1, k => if k = 0 then [] else digs f (k / 10) ++ [UInt8.ofNat (48 + k % 10)]
def mtext (k : Int) : ByteArray := if k ≤ 0 then ⟨#[109, 48]⟩ else ⟨(109 :: digs 30 k.toNat).toArray⟩
def mkRegs : Int → List Reg → List Reg
  | _, [] => []
  | k, _ :: l => ⟨k, k + 1, k + 2⟩ :: mkRegs (k + 3) l
def mkInts : Int → List Int → List Int
  | _, [] => []
  | k, _ :: l => k :: mkInts (k + 1) l
def mkMails : Int → List Mail → List Mail
  | _, [] => []
  | k, m :: l => ⟨k, k + 1, mkRegs (k + 2) m.fl, mtext (k + 2 + 3 * m.fl.length)⟩ :: mkMails (k + cMail m) l
def mkBoxes : Int → List Box → List Box
  | _, [] => []
  | k, b :: l => ⟨k, mtext (k + 1), k + 2, k + 3, k + 4, mkMails (k + 5) b.ml, mkInts (k + 5 + cMails b.ml) b.go⟩ :: mkBoxes (k + cBox b) l
end Go.Proofs.Ytjfjpabfkembcaa.H
