/- The data of the statements on boxes and stores as Lean lists, what it means that memory reads as them (rd..) and that a call owns the memory of them (ow..), and the movers of both. No program in it. -/
import Derived.Below
import Derived.Deep.Draws
import Derived.Deep.AppendLies
import Derived.Maps.AppendAt
import Derived.OwnWalk
import Derived.Laws.MakeOwn
import Derived.Laws.OwnMore
import Derived.Laws.Rows
import Derived.RowKit3
namespace Go.Proofs.Ytjfjpabfkembcaa.H
open Go.RowKit
set_option linter.unusedVariables false

structure Aside (p : Prop) : Prop where mk :: (out : p)

structure Reg where
  v : Int
  t : Int
  b : Int
structure Mail where
  g : Int
  u : Int
  fl : List Reg
  tx : ByteArray
structure Box where
  g : Int
  nm : ByteArray
  t : Int
  b : Int
  nx : Int
  ml : List Mail
  go : List Int
structure Store where
  by_ : Int
  tm : Int
  bx : List Box
  go : List Int

/-! ### reading -/
def rdRow {α : Type} (sz : Nat) (K : World → List Value → α → Prop) (w : World) (v : Value) (l : List α) : Prop :=
  ∃ A c, v = .slice A l.length c ∧ l.length ≤ c ∧ l.length ≤ 9223372036854775807 ∧ (A = none → c = 0) ∧
    ∀ i x, l[i]? = some x → ∃ ad cs, A = some ad ∧ K w cs x ∧ ∀ j u, cs[j]? = some u → w.cell? (ad.add (i * sz + j)) = some u
def rdInt (_ : World) (cs : List Value) (x : Int) : Prop := cs = [.int .i64 x]
def rdReg (_ : World) (cs : List Value) (x : Reg) : Prop := cs = [.int .i64 x.v, .int .i64 x.t, .int .i64 x.b]
abbrev rdInts := rdRow 1 rdInt
abbrev rdRegs := rdRow 3 rdReg
def rdMail (w : World) (cs : List Value) (x : Mail) : Prop := ∃ fv, cs = [.int .i64 x.g, .int .i64 x.u, fv, .string x.tx] ∧ rdRegs w fv x.fl
abbrev rdMails := rdRow 4 rdMail
def rdBox (w : World) (cs : List Value) (x : Box) : Prop :=
  ∃ mv gv, cs = [.int .i64 x.g, .string x.nm, .int .i64 x.t, .int .i64 x.b, .int .i64 x.nx, mv, gv] ∧ rdMails w mv x.ml ∧ rdInts w gv x.go
abbrev rdBoxes := rdRow 7 rdBox
def rdStore (w : World) (cs : List Value) (x : Store) : Prop :=
  ∃ bv gv, cs = [.int .i64 x.by_, .int .i64 x.tm, bv, gv] ∧ rdBoxes w bv x.bx ∧ rdInts w gv x.go

/-- What is read in a world stays read while the old blocks stay. -/
structure Mov {α : Type} (K : World → List Value → α → Prop) : Prop where
  mov : ∀ {w w' : World} {cs x}, Below w.heap.size w w' → K w cs x → K w' cs x
theorem rdRow_mov {α : Type} {sz : Nat} {K : World → List Value → α → Prop} (hK : Mov K) {w w' : World} {v : Value} {l : List α} (hb : Below w.heap.size w w') (h : rdRow sz K w v l) : rdRow sz K w' v l := by
  obtain ⟨A, c, e, h1, h2, h0, h3⟩ := h
  refine ⟨A, c, e, h1, h2, h0, fun i x hx => ?_⟩
  obtain ⟨ad, cs, ea, hk, hc⟩ := h3 i x hx
  refine ⟨ad, cs, ea, hK.mov hb hk, fun j u hu => ?_⟩
  have := hc j u hu
  exact (hb.cell (World.block_lt_of_cell? w _ this)).trans this
theorem rdInt_mov : Mov rdInt := ⟨fun _ h => h⟩
theorem rdReg_mov : Mov rdReg := ⟨fun _ h => h⟩
theorem rdMail_mov : Mov rdMail := ⟨fun hb ⟨fv, e, h⟩ => ⟨fv, e, rdRow_mov rdReg_mov hb h⟩⟩
theorem rdBox_mov : Mov rdBox := ⟨fun hb ⟨mv, gv, e, h, k⟩ => ⟨mv, gv, e, rdRow_mov rdMail_mov hb h, rdRow_mov rdInt_mov hb k⟩⟩
theorem rdStore_mov : Mov rdStore := ⟨fun hb ⟨mv, gv, e, h, k⟩ => ⟨mv, gv, e, rdRow_mov rdBox_mov hb h, rdRow_mov rdInt_mov hb k⟩⟩
theorem rdInts_mov {w w' : World} {v : Value} {l} (hb : Below w.heap.size w w') (h : rdInts w v l) : rdInts w' v l := rdRow_mov rdInt_mov hb h
theorem rdRegs_mov {w w' : World} {v : Value} {l} (hb : Below w.heap.size w w') (h : rdRegs w v l) : rdRegs w' v l := rdRow_mov rdReg_mov hb h
theorem rdMails_mov {w w' : World} {v : Value} {l} (hb : Below w.heap.size w w') (h : rdMails w v l) : rdMails w' v l := rdRow_mov rdMail_mov hb h
theorem rdBoxes_mov {w w' : World} {v : Value} {l} (hb : Below w.heap.size w w') (h : rdBoxes w v l) : rdBoxes w' v l := rdRow_mov rdBox_mov hb h

theorem rd_len {α : Type} {sz : Nat} {K : World → List Value → α → Prop} {w : World} {v : Value} {l : List α} (h : rdRow sz K w v l) : ∃ A c, v = .slice A l.length c ∧ l.length ≤ c ∧ l.length ≤ 9223372036854775807 := by
  obtain ⟨A, c, e, h1, h2, _, _⟩ := h
  exact ⟨A, c, e, h1, h2⟩
theorem rd_form {α : Type} {sz : Nat} {K : World → List Value → α → Prop} {w : World} {v : Value} {l : List α} (h : rdRow sz K w v l) : (v = .slice none 0 0 ∧ l = []) ∨ ∃ ad c, v = .slice (some ad) l.length c := by
  obtain ⟨A, c, e, h1, h2, h0, _⟩ := h
  cases A with
  | none =>
    have hc := h0 rfl
    subst hc
    have hl : l = [] := List.eq_nil_of_length_eq_zero (by omega)
    subst hl
    exact .inl ⟨e, rfl⟩
  | some ad => exact .inr ⟨ad, c, e⟩

theorem blk_add (a : Addr) (n : Nat) : (a.add n).block = a.block := by unfold Addr.add; split <;> rfl
theorem add_fld (ad : Addr) (k j : Nat) (h : 0 < j) : ad.add (k + j) = ⟨(ad.add k).block, (ad.add k).off + j, none⟩ := by
  unfold Addr.add
  by_cases hk : k = 0
  · subst hk; simp [show j ≠ 0 by omega]
  · simp [hk, Nat.add_assoc]

theorem rd_at {α : Type} {sz : Nat} {K : World → List Value → α → Prop} {w : World} {A : Option Addr} {n c : Nat} {l : List α} (h : rdRow sz K w (.slice A n c) l) (i : Nat) (hi : i < l.length) :
    ∃ ad cs, A = some ad ∧ K w cs l[i] ∧ ∀ j u, cs[j]? = some u → w.cell? (ad.add (i * sz + j)) = some u := by
  obtain ⟨A', c', e, _, _, _, h3⟩ := h
  obtain ⟨ad, cs, rfl, hk, hc⟩ := h3 i _ (List.getElem?_eq_getElem hi)
  injection e with e1 e2 e3
  subst e1
  exact ⟨ad, cs, rfl, hk, hc⟩
theorem rdInts_at {w : World} {A : Option Addr} {n c : Nat} {l : List Int} (h : rdInts w (.slice A n c) l) (i : Nat) (hi : i < l.length) :
    ∃ ad, A = some ad ∧ w.cell? (ad.add i) = some (.int .i64 l[i]) := by
  obtain ⟨ad, cs, rfl, rfl, hc⟩ := rd_at h i hi
  exact ⟨ad, rfl, by have := hc 0 _ rfl; rwa [Nat.mul_one, Nat.add_zero] at this⟩
theorem rdRegs_at {w : World} {A : Option Addr} {n c : Nat} {l : List Reg} (h : rdRegs w (.slice A n c) l) (i : Nat) (hi : i < l.length) :
    ∃ ad, A = some ad ∧ w.cell? (ad.add (i * 3)) = some (.int .i64 l[i].v) ∧ w.cell? ⟨(ad.add (i * 3)).block, (ad.add (i * 3)).off + 1, none⟩ = some (.int .i64 l[i].t) ∧
      w.cell? ⟨(ad.add (i * 3)).block, (ad.add (i * 3)).off + 2, none⟩ = some (.int .i64 l[i].b) := by
  obtain ⟨ad, cs, rfl, rfl, hc⟩ := rd_at h i hi
  exact ⟨ad, rfl, hc 0 _ rfl, by rw [← add_fld _ _ 1 (by omega)]; exact hc 1 _ rfl, by rw [← add_fld _ _ 2 (by omega)]; exact hc 2 _ rfl⟩
theorem rdMails_at {w : World} {A : Option Addr} {n c : Nat} {l : List Mail} (h : rdMails w (.slice A n c) l) (i : Nat) (hi : i < l.length) :
    ∃ ad fv, A = some ad ∧ w.cell? (ad.add (i * 4)) = some (.int .i64 l[i].g) ∧ w.cell? ⟨(ad.add (i * 4)).block, (ad.add (i * 4)).off + 1, none⟩ = some (.int .i64 l[i].u) ∧
      w.cell? ⟨(ad.add (i * 4)).block, (ad.add (i * 4)).off + 2, none⟩ = some fv ∧ w.cell? ⟨(ad.add (i * 4)).block, (ad.add (i * 4)).off + 3, none⟩ = some (.string l[i].tx) ∧ rdRegs w fv l[i].fl := by
  obtain ⟨ad, cs, rfl, ⟨fv, rfl, hf⟩, hc⟩ := rd_at h i hi
  exact ⟨ad, fv, rfl, hc 0 _ rfl, by rw [← add_fld _ _ 1 (by omega)]; exact hc 1 _ rfl, by rw [← add_fld _ _ 2 (by omega)]; exact hc 2 _ rfl, by rw [← add_fld _ _ 3 (by omega)]; exact hc 3 _ rfl, hf⟩
theorem rdBoxes_at {w : World} {A : Option Addr} {n c : Nat} {l : List Box} (h : rdBoxes w (.slice A n c) l) (i : Nat) (hi : i < l.length) :
    ∃ ad mv gv, A = some ad ∧ w.cell? (ad.add (i * 7)) = some (.int .i64 l[i].g) ∧ w.cell? ⟨(ad.add (i * 7)).block, (ad.add (i * 7)).off + 1, none⟩ = some (.string l[i].nm) ∧
      w.cell? ⟨(ad.add (i * 7)).block, (ad.add (i * 7)).off + 2, none⟩ = some (.int .i64 l[i].t) ∧ w.cell? ⟨(ad.add (i * 7)).block, (ad.add (i * 7)).off + 3, none⟩ = some (.int .i64 l[i].b) ∧
      w.cell? ⟨(ad.add (i * 7)).block, (ad.add (i * 7)).off + 4, none⟩ = some (.int .i64 l[i].nx) ∧ w.cell? ⟨(ad.add (i * 7)).block, (ad.add (i * 7)).off + 5, none⟩ = some mv ∧
      w.cell? ⟨(ad.add (i * 7)).block, (ad.add (i * 7)).off + 6, none⟩ = some gv ∧ rdMails w mv l[i].ml ∧ rdInts w gv l[i].go := by
  obtain ⟨ad, cs, rfl, ⟨mv, gv, rfl, hm, hg⟩, hc⟩ := rd_at h i hi
  exact ⟨ad, mv, gv, rfl, hc 0 _ rfl, by rw [← add_fld _ _ 1 (by omega)]; exact hc 1 _ rfl, by rw [← add_fld _ _ 2 (by omega)]; exact hc 2 _ rfl, by rw [← add_fld _ _ 3 (by omega)]; exact hc 3 _ rfl,
    by rw [← add_fld _ _ 4 (by omega)]; exact hc 4 _ rfl, by rw [← add_fld _ _ 5 (by omega)]; exact hc 5 _ rfl, by rw [← add_fld _ _ 6 (by omega)]; exact hc 6 _ rfl, hm, hg⟩

/-! ### owning -/
def owEl {α : Type} (R : List Nat → List Value → α → Prop) : List Nat → List Value → List α → Prop
  | D, xs, [] => D = [] ∧ xs = []
  | D, xs, x :: l => ∃ D1 D2 c1 c2, D = D1 ++ D2 ∧ xs = c1 ++ c2 ∧ R D1 c1 x ∧ owEl R D2 c2 l
def owRow {α : Type} (e sz : Nat) (R : World → List Nat → List Value → α → Prop) (w : World) (D : List Nat) (v : Value) (l : List α) : Prop :=
  ∃ xs Di, w.ownsRow 0 e sz v l.length xs ∧ D = v.ownBlock.toList ++ Di ∧ owEl (R w) Di xs l
def owInt (_ : World) (D : List Nat) (cs : List Value) (x : Int) : Prop := D = [] ∧ cs = [.int .i64 x]
def owReg (_ : World) (D : List Nat) (cs : List Value) (x : Reg) : Prop := D = [] ∧ cs = [.int .i64 x.v, .int .i64 x.t, .int .i64 x.b]
abbrev owInts := owRow 3 1 owInt
abbrev owRegs := owRow 136 3 owReg
def owMail (w : World) (D : List Nat) (cs : List Value) (x : Mail) : Prop := ∃ fv, cs = [.int .i64 x.g, .int .i64 x.u, fv, .string x.tx] ∧ owRegs w D fv x.fl
abbrev owMails := owRow 58 4 owMail
def owBox (w : World) (D : List Nat) (cs : List Value) (x : Box) : Prop :=
  ∃ mv gv D1 D2, cs = [.int .i64 x.g, .string x.nm, .int .i64 x.t, .int .i64 x.b, .int .i64 x.nx, mv, gv] ∧ D = D1 ++ D2 ∧ owMails w D1 mv x.ml ∧ owInts w D2 gv x.go
abbrev owBoxes := owRow 32 7 owBox
def owStore (w : World) (D : List Nat) (cs : List Value) (x : Store) : Prop :=
  ∃ bv gv D1 D2, cs = [.int .i64 x.by_, .int .i64 x.tm, bv, gv] ∧ D = D1 ++ D2 ∧ owBoxes w D1 bv x.bx ∧ owInts w D2 gv x.go

/-- A kind that is owned: what it says hangs on its blocks alone; these are there; its cells are many enough. -/
structure Ow {α : Type} (sz : Nat) (R : World → List Nat → List Value → α → Prop) (K : World → List Value → α → Prop) : Prop where
  mov : ∀ {w w' : World} {D cs x}, R w D cs x → (∀ b ∈ D, w'.heap[b]? = w.heap[b]?) → R w' D cs x
  blk : ∀ {w : World} {D cs x}, R w D cs x → ∀ b ∈ D, ∃ cur e, w.heap[b]? = some (.cells cur e (0, 0))
  len : ∀ {w : World} {D cs x}, R w D cs x → cs.length = sz
  one : ∀ {w : World} {D cs x}, R w D cs x → ∀ u ∈ cs, u.oneCell' = true
  rd : ∀ {w : World} {D cs x}, R w D cs x → K w cs x

theorem own_mov {w w1 : World} {base : Nat} {e : TypeId} {size n : Nat} {v : Value} {xs : List Value} (h : w.ownsRow base e size v n xs) (hm : ∀ k, v.ownBlock = some k → w1.heap[k]? = w.heap[k]?) : w1.ownsRow base e size v n xs := by
  obtain ⟨h1, h2⟩ := h
  refine ⟨h1, ?_⟩
  rcases h2 with h2 | ⟨g, cap, cur, rfl, hg, hh, r⟩
  · exact .inl h2
  · exact .inr ⟨g, cap, cur, rfl, hg, (hm g (by simp [Value.ownBlock])).trans hh, r⟩
theorem owEl_imp {α : Type} {R R' : List Nat → List Value → α → Prop} : ∀ {l : List α} {D : List Nat} {xs : List Value}, owEl R D xs l → (∀ D1 cs x, (∀ b ∈ D1, b ∈ D) → x ∈ l → R D1 cs x → R' D1 cs x) → owEl R' D xs l
  | [], _, _, h, _ => h
  | x :: l, D, xs, ⟨D1, D2, c1, c2, hD, hx, hR, ht⟩, hi => ⟨D1, D2, c1, c2, hD, hx, hi D1 c1 x (fun b hb => by rw [hD]; simp [hb]) (by simp) hR,
      owEl_imp ht fun D' cs y hs hy => hi D' cs y (fun b hb => by rw [hD]; simp [hs b hb]) (by simp [hy])⟩
theorem owEl_len {α : Type} {R : List Nat → List Value → α → Prop} {sz : Nat} (hR : ∀ {D cs x}, R D cs x → cs.length = sz) : ∀ {l : List α} {D xs}, owEl R D xs l → xs.length = l.length * sz
  | [], _, _, h => by simp [h.2]
  | x :: l, _, _, ⟨D1, D2, c1, c2, hD, hx, h1, ht⟩ => by
    rw [hx, List.length_append, hR h1, owEl_len hR ht, List.length_cons, Nat.succ_mul]
    omega
theorem owEl_all {α : Type} {R : List Nat → List Value → α → Prop} {p : Nat → Prop} (hR : ∀ {D cs x}, R D cs x → ∀ b ∈ D, p b) : ∀ {l : List α} {D xs}, owEl R D xs l → ∀ b ∈ D, p b
  | [], _, _, h => by simp [h.1]
  | x :: l, _, _, ⟨D1, D2, c1, c2, hD, hx, h1, ht⟩ => by
    intro b hb
    rw [hD, List.mem_append] at hb
    exact hb.elim (hR h1 b) (owEl_all hR ht b)
theorem owEl_ones {α : Type} {R : List Nat → List Value → α → Prop} (hR : ∀ {D cs x}, R D cs x → ∀ u ∈ cs, u.oneCell' = true) : ∀ {l : List α} {D xs}, owEl R D xs l → ∀ u ∈ xs, u.oneCell' = true
  | [], _, _, h => by simp [h.2]
  | x :: l, _, _, ⟨D1, D2, c1, c2, hD, hx, h1, ht⟩ => by
    intro b hb
    rw [hx, List.mem_append] at hb
    exact hb.elim (hR h1 b) (owEl_ones hR ht b)
theorem owEl_append {α : Type} {R : List Nat → List Value → α → Prop} : ∀ {l l' : List α} {D D' xs xs'}, owEl R D xs l → owEl R D' xs' l' → owEl R (D ++ D') (xs ++ xs') (l ++ l')
  | [], _, _, _, _, _, h, h' => by simpa [h.1, h.2] using h'
  | x :: l, _, _, _, _, _, ⟨D1, D2, c1, c2, hD, hx, h1, ht⟩, h' => ⟨D1, _, c1, _, by rw [hD, List.append_assoc], by rw [hx, List.append_assoc], h1, owEl_append ht h'⟩
theorem owEl_one {α : Type} {R : List Nat → List Value → α → Prop} {D : List Nat} {cs : List Value} {x : α} (h : R D cs x) : owEl R D cs [x] := ⟨D, [], cs, [], by simp, by simp, h, rfl, rfl⟩
/-- The element at i, with what is before and behind. -/
theorem owEl_split {α : Type} {R : List Nat → List Value → α → Prop} {sz : Nat} (hR : ∀ {D cs x}, R D cs x → cs.length = sz) : ∀ {l : List α} {D xs} (i : Nat) (hi : i < l.length), owEl R D xs l →
    ∃ Da Di Db xa xi xb, D = Da ++ (Di ++ Db) ∧ xs = xa ++ (xi ++ xb) ∧ xa.length = i * sz ∧ xi.length = sz ∧ owEl R Da xa (l.take i) ∧ R Di xi l[i] ∧ owEl R Db xb (l.drop (i + 1))
  | x :: l, _, _, 0, _, ⟨D1, D2, c1, c2, hD, hx, h1, ht⟩ => ⟨[], D1, D2, [], c1, c2, hD, hx, by simp, hR h1, ⟨rfl, rfl⟩, h1, ht⟩
  | x :: l, _, _, i + 1, hi, ⟨D1, D2, c1, c2, hD, hx, h1, ht⟩ => by
    obtain ⟨Da, Di, Db, xa, xi, xb, e1, e2, e3, e4, e5, e6, e7⟩ := owEl_split hR i (by simpa using hi) ht
    refine ⟨D1 ++ Da, Di, Db, c1 ++ xa, xi, xb, by rw [hD, e1]; simp, by rw [hx, e2]; simp, by rw [List.length_append, hR h1, e3, Nat.succ_mul]; omega, e4, ⟨D1, Da, c1, xa, rfl, rfl, h1, e5⟩, e6, e7⟩

theorem owRow_mov {α : Type} {e sz s : Nat} {R : World → List Nat → List Value → α → Prop} {K : World → List Value → α → Prop} (o : Ow s R K) {w w' : World} {D : List Nat} {v : Value} {l : List α} (h : owRow e sz R w D v l)
    (hb : ∀ b ∈ D, w'.heap[b]? = w.heap[b]?) : owRow e sz R w' D v l := by
  obtain ⟨xs, Di, h1, h2, h3⟩ := h
  refine ⟨xs, Di, own_mov h1 (fun k hk => hb k (by rw [h2, hk]; simp)), h2, owEl_imp h3 fun D1 cs x hs _ hR => o.mov hR fun b hb' => hb b (by rw [h2]; simp [hs b hb'])⟩
theorem owRow_blk {α : Type} {e sz s : Nat} {R : World → List Nat → List Value → α → Prop} {K : World → List Value → α → Prop} (o : Ow s R K) {w : World} {D : List Nat} {v : Value} {l : List α} (h : owRow e sz R w D v l) :
    ∀ b ∈ D, ∃ cur e, w.heap[b]? = some (.cells cur e (0, 0)) := by
  obtain ⟨xs, Di, h1, h2, h3⟩ := h
  intro b hb
  rw [h2, List.mem_append] at hb
  rcases hb with hb | hb
  · rcases h1.2 with ⟨rfl, _⟩ | ⟨g, cap, cur, rfl, _, hh, _⟩
    · simp [Value.ownBlock] at hb
    · have : b = g := by simpa [Value.ownBlock] using hb
      subst this
      exact ⟨cur, e, hh⟩
  · exact owEl_all (p := fun b => ∃ cur e, w.heap[b]? = some (.cells cur e (0, 0))) (fun hR => o.blk hR) h3 b hb
theorem owRow_lt {α : Type} {e sz s : Nat} {R : World → List Nat → List Value → α → Prop} {K : World → List Value → α → Prop} (o : Ow s R K) {w : World} {D : List Nat} {v : Value} {l : List α} (h : owRow e sz R w D v l) :
    ∀ b ∈ D, b < w.heap.size := fun b hb => by
  obtain ⟨cur, e, hh⟩ := owRow_blk o h b hb
  exact (Array.getElem?_eq_some_iff.1 hh).1
theorem owRow_rd {α : Type} {e sz : Nat} {R : World → List Nat → List Value → α → Prop} {K : World → List Value → α → Prop} (o : Ow sz R K) {w : World} {D : List Nat} {v : Value} {l : List α} (h : owRow e sz R w D v l) : rdRow sz K w v l := by
  obtain ⟨xs, Di, h1, h2, h3⟩ := h
  have hx := owEl_len (fun hR => o.len hR) h3
  rcases h1.2 with ⟨rfl, hn⟩ | ⟨g, cap, cur, rfl, _, hh, hnc, hm, hs, ht⟩
  · have : l = [] := List.eq_nil_of_length_eq_zero hn
    subst this
    exact ⟨none, 0, rfl, Nat.le_refl _, by simp, fun _ => rfl, fun i x hx => by simp at hx⟩
  · refine ⟨some ⟨g, 0, none⟩, cap, rfl, hnc, by simp only [maxLen] at hm; omega, (fun h => by cases h), fun i x hi => ?_⟩
    have hlt : i < l.length := (List.getElem?_eq_some_iff.1 hi).1
    obtain ⟨Da, Dj, Db, xa, xi, xb, e1, e2, e3, e4, e5, e6, e7⟩ := owEl_split (fun hR => o.len hR) i hlt h3
    have hxi : l[i] = x := (List.getElem?_eq_some_iff.1 hi).2
    refine ⟨_, xi, rfl, by rw [← hxi]; exact o.rd e6, fun j u hu => ?_⟩
    refine h1.cells (g := g) rfl (i * sz + j) u ?_
    rw [e2, List.getElem?_append_right (by omega), e3, show i * sz + j - i * sz = j by omega, List.getElem?_append_left (List.getElem?_eq_some_iff.1 hu).1]
    exact hu
theorem own_one {w : World} {base : Nat} {e : TypeId} {size n : Nat} {v : Value} {xs : List Value} (h : w.ownsRow base e size v n xs) : v.oneCell' = true := by
  rcases h.2 with ⟨rfl, _⟩ | ⟨g, cap, cur, rfl, _⟩ <;> rfl
theorem ow_int : Ow 1 owInt rdInt where
  mov h _ := h
  blk h := by simp [h.1]
  len h := by rw [h.2]; rfl
  one h u hu := by rw [h.2] at hu; rw [List.mem_singleton.1 hu]; rfl
  rd h := h.2
theorem ow_reg : Ow 3 owReg rdReg where
  mov h _ := h
  blk h := by simp [h.1]
  len h := by rw [h.2]; rfl
  one h u hu := by rw [h.2] at hu; simp at hu; rcases hu with rfl | rfl | rfl <;> rfl
  rd h := h.2
theorem ow_mail : Ow 4 owMail rdMail where
  mov := fun ⟨fv, h1, h2⟩ hb => ⟨fv, h1, owRow_mov ow_reg h2 hb⟩
  blk := fun ⟨fv, h1, h2⟩ => owRow_blk ow_reg h2
  len := fun ⟨fv, h1, h2⟩ => by rw [h1]; rfl
  one := fun ⟨fv, h1, h2⟩ u hu => by
    obtain ⟨_, _, h3, _⟩ := h2
    rw [h1] at hu; simp at hu; rcases hu with rfl | rfl | rfl | rfl
    · rfl
    · rfl
    · exact own_one h3
    · rfl
  rd := fun ⟨fv, h1, h2⟩ => ⟨fv, h1, owRow_rd ow_reg h2⟩
theorem ow_box : Ow 7 owBox rdBox where
  mov := fun ⟨mv, gv, D1, D2, h1, h2, h3, h4⟩ hb => ⟨mv, gv, D1, D2, h1, h2, owRow_mov ow_mail h3 (fun b h => hb b (by rw [h2]; simp [h])), owRow_mov ow_int h4 (fun b h => hb b (by rw [h2]; simp [h]))⟩
  blk := fun ⟨mv, gv, D1, D2, h1, h2, h3, h4⟩ b hb => by
    rw [h2, List.mem_append] at hb
    exact hb.elim (owRow_blk ow_mail h3 b) (owRow_blk ow_int h4 b)
  len := fun ⟨mv, gv, D1, D2, h1, h2, h3, h4⟩ => by rw [h1]; rfl
  one := fun ⟨mv, gv, D1, D2, h1, h2, h3, h4⟩ u hu => by
    obtain ⟨_, _, h5, _⟩ := h3
    obtain ⟨_, _, h6, _⟩ := h4
    rw [h1] at hu; simp at hu; rcases hu with rfl | rfl | rfl | rfl | rfl | rfl | rfl
    · rfl
    · rfl
    · rfl
    · rfl
    · rfl
    · exact own_one h5
    · exact own_one h6
  rd := fun ⟨mv, gv, D1, D2, h1, h2, h3, h4⟩ => ⟨mv, gv, h1, owRow_rd ow_mail h3, owRow_rd ow_int h4⟩
theorem ow_store : Ow 4 owStore rdStore where
  mov := fun ⟨mv, gv, D1, D2, h1, h2, h3, h4⟩ hb => ⟨mv, gv, D1, D2, h1, h2, owRow_mov ow_box h3 (fun b h => hb b (by rw [h2]; simp [h])), owRow_mov ow_int h4 (fun b h => hb b (by rw [h2]; simp [h]))⟩
  blk := fun ⟨mv, gv, D1, D2, h1, h2, h3, h4⟩ b hb => by
    rw [h2, List.mem_append] at hb
    exact hb.elim (owRow_blk ow_box h3 b) (owRow_blk ow_int h4 b)
  len := fun ⟨mv, gv, D1, D2, h1, h2, h3, h4⟩ => by rw [h1]; rfl
  one := fun ⟨mv, gv, D1, D2, h1, h2, h3, h4⟩ u hu => by
    obtain ⟨_, _, h5, _⟩ := h3
    obtain ⟨_, _, h6, _⟩ := h4
    rw [h1] at hu; simp at hu; rcases hu with rfl | rfl | rfl | rfl
    · rfl
    · rfl
    · exact own_one h5
    · exact own_one h6
  rd := fun ⟨mv, gv, D1, D2, h1, h2, h3, h4⟩ => ⟨mv, gv, h1, owRow_rd ow_box h3, owRow_rd ow_int h4⟩

/-- The blocks D are new since w0, and differ. -/
def New (w0 w : World) (D : List Nat) : Prop := D.Nodup ∧ ∀ b ∈ D, w0.heap.size ≤ b ∧ b < w.heap.size
end Go.Proofs.Ytjfjpabfkembcaa.H
