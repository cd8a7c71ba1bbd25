/- The cursor of a draw: what it holds, and how it is carried over what else is done. No program in it. -/
import Derived.Test.YtjfjpabfkembcaaHLoc
namespace Go.Proofs.Ytjfjpabfkembcaa.H
open Go.RowKit
set_option linter.unusedVariables false
def rdByte (_ : World) (cs : List Value) (x : Int) : Prop := cs = [.int .u8 x]
abbrev rdBytes := rdRow 1 rdByte
theorem rdByte_mov : Mov rdByte := ⟨fun _ h => h⟩
theorem rdBytes_mov {w w' : World} {v : Value} {l} (hb : Below w.heap.size w w') (h : rdBytes w v l) : rdBytes w' v l := rdRow_mov rdByte_mov hb h
theorem rdBytes_at {w : World} {A : Option Addr} {n c : Nat} {l : List Int} (h : rdBytes w (.slice A n c) l) (i : Nat) (hi : i < l.length) :
    ∃ ad, A = some ad ∧ w.cell? (ad.add i) = some (.int .u8 l[i]) := by
  obtain ⟨ad, cs, rfl, rfl, hc⟩ := rd_at h i hi
  exact ⟨ad, rfl, by have := hc 0 _ rfl; rwa [Nat.mul_one, Nat.add_zero] at this⟩
theorem cell_far2 {w : World} {q p : Addr} {v : Value} (h : w.cell? q = some v) (hne : q.block ≠ p.block) (u : Value) : (w.setCell p u).cell? q = some v :=
  (World.cell?_setCell_other w p q u (fun e => hne (by rw [e]))).trans h

/-- The cursor lies at C, made since W; the bytes it goes over lie in W. -/
def HasCur (W w : World) (C : Nat) : Prop := ∃ (A : Option Addr) (c : Nat) (code : List Int) (i : Nat) (h : Int), Loc w C #[.slice A code.length c, .int .i64 i, .int .i64 h] 175 ∧ W.heap.size ≤ C ∧
  rdBytes W (.slice A code.length c) code ∧ i ≤ code.length ∧ Below W.heap.size W w
theorem HasCur.keep {W w w' : World} {C : Nat} {E : List Nat} (h : HasCur W w C) (hk : Keep E w w') (hC : C ∉ E) (hE : ∀ b ∈ E, W.heap.size ≤ b) : HasCur W w' C := by
  obtain ⟨A, c, code, i, g, hl, hs, hr, hi, hb⟩ := h
  exact ⟨A, c, code, i, g, (hk.block C hl.lt hC).trans hl, hs, hr, hi, hb.trans (hk.below hE hb.size)⟩
theorem HasCur.below {W w w' : World} {C : Nat} (h : HasCur W w C) (hb : Below w.heap.size w w') : HasCur W w' C := h.keep (E := []) (Keep.of_below hb) (by simp) (by simp)
theorem HasCur.low {W w : World} {C : Nat} (h : HasCur W w C) : Below W.heap.size W w := by
  obtain ⟨_, _, _, _, _, _, _, _, _, hb⟩ := h
  exact hb
theorem HasCur.lt {W w : World} {C : Nat} (h : HasCur W w C) : C < w.heap.size := by
  obtain ⟨_, _, _, _, _, hl, _⟩ := h
  exact hl.lt
theorem HasCur.ge {W w : World} {C : Nat} (h : HasCur W w C) : W.heap.size ≤ C := by
  obtain ⟨_, _, _, _, _, _, hs, _⟩ := h
  exact hs
theorem HasCur.alloc {W w : World} {C : Nat} (h : HasCur W w C) (o : Obj) : HasCur W (w.alloc o) C := h.below ((Below.refl _ w).alloc (Nat.le_refl _) o)
theorem HasCur.drew {W w : World} {C : Nat} (h : HasCur W w C) : HasCur W w.drew C := h.below (below_drew (Below.refl _ _))
theorem HasCur.set {W w : World} {C : Nat} (h : HasCur W w C) {p : Addr} (hC : p.block ≠ C) (hp : W.heap.size ≤ p.block) (u : Value) : HasCur W (w.setCell p u) C :=
  h.keep (E := [p.block]) ((Keep.refl _ w).set (by simp) u) (by simp; exact fun e => hC e.symm) (by simpa using hp)
/-- What a call that goes on with the cursor at C leaves. -/
def Went (W w w' : World) (C : Nat) : Prop := HasCur W w' C ∧ Keep [C] w w' ∧ C < w.heap.size
theorem Went.cur {W w w' : World} {C : Nat} (h : Went W w w' C) : HasCur W w' C := h.1
theorem Went.refl {W w : World} {C : Nat} (h : HasCur W w C) : Went W w w C := ⟨h, Keep.refl _ _, h.lt⟩
theorem Went.trans {W w w' w'' : World} {C : Nat} (h : Went W w w' C) (h' : Went W w' w'' C) : Went W w w'' C := ⟨h'.1, h.2.1.trans h'.2.1, h.2.2⟩
theorem Went.below {W w w' w'' : World} {C : Nat} (h : Went W w w' C) (hb : Below w'.heap.size w' w'') : Went W w w'' C := ⟨h.1.below hb, h.2.1.trans (Keep.of_below hb), h.2.2⟩
theorem Went.alloc {W w w' : World} {C : Nat} (h : Went W w w' C) (o : Obj) : Went W w (w'.alloc o) C := h.below ((Below.refl _ w').alloc (Nat.le_refl _) o)
theorem Went.drew {W w w' : World} {C : Nat} (h : Went W w w' C) : Went W w w'.drew C := h.below (below_drew (Below.refl _ _))
theorem Went.drewN {W w w' : World} {C : Nat} (h : Went W w w' C) (n : Nat) : Went W w (w'.drewN n) C := h.below (below_drewN (Below.refl _ _) n)
theorem Went.keep {W w w' w'' : World} {C : Nat} {E : List Nat} (h : Went W w w' C) (hk : Keep E w' w'') (hE : ∀ b ∈ E, w.heap.size ≤ b) : Went W w w'' C := by
  have h1 := h.1.ge
  have h2 := h.2.2
  refine ⟨h.1.keep hk (fun hC => by have := hE C hC; omega) (fun b hb => by have := hE b hb; omega), ⟨hk.os.trans h.2.1.os, hk.tape.trans h.2.1.tape, hk.output.trans h.2.1.output, Nat.le_trans h.2.1.size hk.size, fun k hk' hn => ?_⟩, h2⟩
  exact (hk.block k (Nat.lt_of_lt_of_le hk' h.2.1.size) (fun hb => by have := hE k hb; omega)).trans (h.2.1.block k hk' hn)
theorem Went.set {W w w' : World} {C : Nat} (h : Went W w w' C) {p : Addr} (hp : w.heap.size ≤ p.block) (u : Value) : Went W w (w'.setCell p u) C :=
  h.keep (E := [p.block]) ((Keep.refl _ w').set (by simp) u) (by simpa using hp)
/-- A block of one's own, carried over a call that goes on with the cursor. -/
theorem Loc.went {W w w' : World} {C b : Nat} {cs : Array Value} {t : TypeId} (h : Loc w b cs t) (hw : Went W w w' C) (hne : b ≠ C) : Loc w' b cs t := h.keep hw.2.1 (by simpa using hne)
theorem owRow_went {α : Type} {e sz s : Nat} {R : World → List Nat → List Value → α → Prop} {K : World → List Value → α → Prop} (o : Ow s R K) {W w w' : World} {C : Nat} {D : List Nat} {v : Value} {l : List α} (h : owRow e sz R w D v l)
    (hw : Went W w w' C) (hd : C ∉ D) : owRow e sz R w' D v l := owRow_mov o h fun b hb => hw.2.1.block b (owRow_lt o h b hb) (by simp; exact fun e => hd (e ▸ hb))
theorem cell_went {W w w' : World} {C : Nat} {p : Addr} {v : Value} (h : w.cell? p = some v) (hw : Went W w w' C) (hne : p.block ≠ C) : w'.cell? p = some v := by
  have hlt := World.block_lt_of_cell? w p h
  have := hw.2.1.block p.block hlt (by simpa using hne)
  rw [← h]
  unfold World.cell?
  rw [this]
theorem Went.size {W w w' : World} {C : Nat} (h : Went W w w' C) : w.heap.size ≤ w'.heap.size := h.2.1.size
/-- Since W0 only what is new has changed. -/
theorem Went.low {W0 W w w' : World} {C : Nat} (h : Went W w w' C) (hb : Below W0.heap.size W0 w) (hC : W0.heap.size ≤ C) : Below W0.heap.size W0 w' := hb.trans (h.2.1.below (by simpa using hC) hb.size)
/-- What hangs on the blocks D alone. -/
def Rests (D : List Nat) (w : World) (K : World → Prop) : Prop := ∀ w', (∀ b ∈ D, w'.heap[b]? = w.heap[b]?) → K w'
theorem Rests.now {D : List Nat} {w : World} {K : World → Prop} (h : Rests D w K) : K w := h w fun _ _ => rfl
theorem Rests.move {D : List Nat} {w w1 : World} {K : World → Prop} (h : Rests D w K) (hm : ∀ b ∈ D, w1.heap[b]? = w.heap[b]?) : Rests D w1 K := fun w' hw' => h w' fun b hb => (hw' b hb).trans (hm b hb)
theorem Rests.below {D : List Nat} {w0 w w1 : World} {K : World → Prop} (h : Rests D w K) (hn : New w0 w D) (hb : Below w.heap.size w w1) : Rests D w1 K := h.move fun b hb' => hb.block b (hn.2 b hb').2
theorem Rests.went {D : List Nat} {W w0 w w1 : World} {C : Nat} {K : World → Prop} (h : Rests D w K) (hn : New w0 w D) (hw : Went W w w1 C) (hC : C ∉ D) : Rests D w1 K :=
  h.move fun b hb' => hw.2.1.block b (hn.2 b hb').2 (by simp; exact fun e => hC (e ▸ hb'))
theorem Rests.of_ow {α : Type} {e sz : Nat} {R : World → List Nat → List Value → α → Prop} {K : World → List Value → α → Prop} (o : Ow sz R K) {w : World} {D : List Nat} {v : Value} {l : List α} (h : owRow e sz R w D v l) :
    Rests D w (fun w => rdRow sz K w v l) := fun w' hm => owRow_rd o (owRow_mov o h hm)
/-- A literal list of numbers. -/
theorem rdInts_lit (w : World) (g : Nat) (hg : g = w.heap.size) (l : List Int) (hl : l.length ≤ 1000) (e : TypeId) : rdInts (w.alloc (.cells (l.map (fun x => Value.int .i64 x)).toArray e)) (.slice (some ⟨g, 0, none⟩) l.length l.length) l := by
  subst hg
  refine ⟨_, _, rfl, Nat.le_refl _, by omega, (fun h => by cases h), fun i x hx => ⟨_, _, rfl, rfl, fun j u hu => ?_⟩⟩
  have hj : j = 0 := by
    have := (List.getElem?_eq_some_iff.1 hu).1
    simp at this
    exact this
  subst hj
  have hu' : Value.int .i64 x = u := by simpa using hu
  rw [add_zero_, cell_of_row _ _ _ _ e (0, 0) (heap_alloc_new w _), ← hu']
  simp [hx]

theorem and255 (x : Int) : 0 ≤ bits .and .i64 x 255 ∧ bits .and .i64 x 255 ≤ 255 := by
  have e : bits .and .i64 x 255 = IntKind.i64.wrap (((BitVec.ofInt 64 x &&& BitVec.ofInt 64 255).toNat : Nat) : Int) := rfl
  rw [e, BitVec.toNat_and, show (BitVec.ofInt 64 255).toNat = 255 from rfl, IntKind.wrap_i64]
  have := @Nat.and_le_right (BitVec.ofInt 64 x).toNat 255
  omega
end Go.Proofs.Ytjfjpabfkembcaa.H
