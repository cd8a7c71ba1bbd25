/- What an argument's data says: that memory reads as lists of plain data. Written by this session, in part by a program. -/
import Derived.Test.YtjfjpabfkembcaaProg
import Derived.Test.YtjfjpabfkembcaaHBase
import Derived.KernelRfl
import Derived.Deep.Slices
import Derived.SizedLaws
import Derived.ChangeArms
import Derived.WideShapes
namespace Go.Proofs.Ytjfjpabfkembcaa.H
open Go.RowKit
set_option linter.unusedVariables false

/-! ### what an argument's data says: its kind (Kd.K) and its bounds -/
structure Opens {α : Type} (P : Program) (t : TypeId) (sz : Nat) (K : World → List Value → α → Prop) (G : α → Prop) : Prop where
  sz : P.cellsOf t = sz
  opens : ∀ {H : Type} (enc : TypeId × Value → H) (W : World) (fuel : Nat) (cs : List Value) (x : DataW H × List MemPlace),
    DataW.trod enc P W 0 (fun _ => true) true fuel t cs = some x → (∀ n ∈ x.1.weights P t, n ≤ reachBytes) → ∃ a, K W cs a ∧ G a

theorem opens_int {P : Program} {t : TypeId} (ht : P.underlying t = some (.int .i64)) (hs : P.cellsOf t = 1) :
    Opens P t 1 rdInt (fun x => (Lit.int .i64 x).wf = true) where
  sz := hs
  opens := by
    intro H enc W fuel cs x h _
    obtain ⟨n, rfl, rfl, hw⟩ := DataW.trod_int ht h
    exact ⟨n, rfl, hw⟩
theorem opens_string {P : Program} {t : TypeId} (ht : P.underlying t = some .string) (hs : P.cellsOf t = 1) :
    Opens P t 1 (fun _ cs s => cs = [.string s]) (fun s => s.size ≤ 140737488351232) where
  sz := hs
  opens := by
    intro H enc W fuel cs x h hw
    obtain ⟨s, rfl, rfl, _⟩ := DataW.trod_string ht h
    refine ⟨s, rfl, ?_⟩
    have z := hw s.data.toList.length (by simp [DataW.weights])
    rw [Array.length_toList] at z
    exact z

theorem list_choose {α : Type} (Q : Nat → α → Prop) (n : Nat) (h : ∀ i, i < n → ∃ y, Q i y) :
    ∃ xs : List α, xs.length = n ∧ ∀ i x, xs[i]? = some x → Q i x := by
  induction n with
  | zero => exact ⟨[], rfl, fun i x hx => by simp at hx⟩
  | succ n ih =>
    obtain ⟨xs, hl, hq⟩ := ih (fun i hi => h i (by omega))
    obtain ⟨y, hy⟩ := h n (by omega)
    refine ⟨xs ++ [y], by simp [hl], fun i x hx => ?_⟩
    rcases Nat.lt_or_ge i xs.length with hlt | hge
    · rw [List.getElem?_append_left hlt] at hx
      exact hq i x hx
    · have hi : i = xs.length := by
        have := (List.getElem?_eq_some_iff.1 hx).1
        rw [List.length_append, List.length_singleton] at this
        omega
      subst hi
      have hx' : y = x := by simpa using hx
      subst hx'
      rw [hl]
      exact hy
theorem weightsAll_mem {H : Type} {P : Program} {e : TypeId} {d : DataW H} {q : Nat} (hq : q ∈ d.weights P e) : ∀ {l : List (DataW H)}, d ∈ l → q ∈ DataW.weightsAll P e l
  | [], h => by simp at h
  | x :: l, h => by
    rw [DataW.weightsAll, List.mem_append]
    rcases List.mem_cons.1 h with h | h
    · subst h
      exact .inl hq
    · exact .inr (weightsAll_mem hq h)
theorem opens_slice {α : Type} {P : Program} {t e : TypeId} {sz : Nat} {K : World → List Value → α → Prop} {G : α → Prop} (ht : P.underlying t = some (.slice e)) (hs : P.cellsOf t = 1) (ho : Opens P e sz K G) :
    Opens P t 1 (fun W cs xs => ∃ v, cs = [v] ∧ rdRow sz K W v xs) (fun xs => ∀ x ∈ xs, G x) where
  sz := hs
  opens := by
    intro H enc W fuel cs x h hw
    rcases Go.Deep.open_slice ht h with ⟨rfl, rfl⟩ | ⟨a, len, cap, m, n, D, Pl, rfl, _, hl, hm, hmm, rfl, hi⟩
    · exact ⟨[], ⟨_, rfl, none, 0, rfl, Nat.le_refl _, by simp, fun _ => rfl, fun i x hx => by simp at hx⟩, by simp⟩
    · have hmm' : m = cap := by rw [hmm]; rfl
      have hall : ∀ i, i < len → ∃ y, G y ∧ ∃ c, c.length = sz ∧ K W c y ∧ ∀ j u, c[j]? = some u → W.cell? (a.add (i * sz + j)) = some u := by
        intro i hlt
        obtain ⟨cs', hc, htr⟩ := hi i (by omega)
        obtain ⟨y, hk, hg⟩ := ho.opens enc W n cs' _ htr (fun q hq => hw q (by
          simp only [DataW.weights, ht]
          refine List.mem_cons_of_mem _ (List.mem_append_left _ (weightsAll_mem hq ?_))
          exact List.mem_map.2 ⟨i, List.mem_range.2 hlt, rfl⟩))
        obtain ⟨_, hcl, hat⟩ := World.cells?_some hc
        refine ⟨y, hg, cs', by rw [hcl, ho.sz], hk, fun j u hu => ?_⟩
        have hj : j < cs'.length := (List.getElem?_eq_some_iff.1 hu).1
        have h1 := hat j (by omega)
        rw [Go.Deep.add_add, ho.sz] at h1
        rw [h1, hu]
      obtain ⟨xs, hxl, hxs⟩ := list_choose _ len hall
      have hcap : len ≤ 9223372036854775807 := by
        simp only [maxLen] at hm
        omega
      refine ⟨xs, ⟨_, rfl, some a, cap, by rw [hxl], by omega, by omega, (fun h => by cases h), fun j p hj => ?_⟩, fun y hy => ?_⟩
      · obtain ⟨_, c, h1, h2, h3⟩ := hxs j p hj
        exact ⟨a, c, rfl, h2, h3⟩
      · obtain ⟨i, hi', rfl⟩ := List.mem_iff_getElem.1 hy
        exact (hxs i _ (List.getElem?_eq_getElem hi')).1
theorem agg_of {cs : Array Value} {l : List Value} (h : (Value.agg cs).cells.toList = l) : cs = l.toArray := by
  subst h
  simp [Value.cells]
theorem slice_of {A B : Option Addr} {n m c d : Nat} (h : (Value.slice A n c).cells.toList = [.slice B m d]) : B = A ∧ m = n ∧ d = c := by
  simp [Value.cells] at h
  exact ⟨h.1.symm, h.2.1.symm, h.2.2.symm⟩
theorem cells3 : Try.prog.cellsOf 3 = 1 := by kernel_rfl
theorem cells9 : Try.prog.cellsOf 9 = 1 := by kernel_rfl
theorem cells23 : Try.prog.cellsOf 23 = 2 := by kernel_rfl
theorem cells168 : Try.prog.cellsOf 168 = 3 := by kernel_rfl
theorem cells54 : Try.prog.cellsOf 54 = 4 := by kernel_rfl
theorem cells27 : Try.prog.cellsOf 27 = 7 := by kernel_rfl
theorem cells41 : Try.prog.cellsOf 41 = 4 := by kernel_rfl
theorem cells25 : Try.prog.cellsOf 25 = 1 := by kernel_rfl
theorem cells52 : Try.prog.cellsOf 52 = 1 := by kernel_rfl
theorem cells24 : Try.prog.cellsOf 24 = 1 := by kernel_rfl
theorem cells39 : Try.prog.cellsOf 39 = 1 := by kernel_rfl
set_option maxRecDepth 100000 in
theorem op23 {H : Type} (enc : TypeId × Value → H) (W : World) (fuel : Nat) (cs : List Value) (x : DataW H × List MemPlace)
    (h : DataW.trod enc Try.prog W 0 (fun _ => true) true fuel 23 cs = some x) (hw : ∀ n ∈ x.1.weights Try.prog 23, n ≤ reachBytes) :
    ∃ t b : Int, cs = [.int .i64 t, .int .i64 b] := by
  obtain ⟨xs, n, _, rfl, hlen, hxl, hf⟩ := DataW.trod_struct Try.underlying23 h
  rw [cells23] at hlen
  match cs, hlen, xs, hxl, hf, hw with
  | [v0, v1], _, [y0, y1], _, hf, hw =>
    have f0 := hf 0 _ rfl
    change DataW.trod enc Try.prog W 0 (fun _ => true) true n 3 (([v0, v1].drop 0).take (Try.prog.cellsOf 3)) = some y0 at f0
    rw [cells3] at f0
    replace f0 : DataW.trod enc Try.prog W 0 (fun _ => true) true n 3 [v0] = some y0 := f0
    have u0 : ∀ q ∈ y0.1.weights Try.prog 3, q ≤ reachBytes := fun q hq => hw q (by
      simp only [DataW.weights, Try.underlying23]
      exact DataW.weights_mem_each (j := 0) rfl rfl q hq)
    have f1 := hf 1 _ rfl
    change DataW.trod enc Try.prog W 0 (fun _ => true) true n 3 (([v0, v1].drop 1).take (Try.prog.cellsOf 3)) = some y1 at f1
    rw [cells3] at f1
    replace f1 : DataW.trod enc Try.prog W 0 (fun _ => true) true n 3 [v1] = some y1 := f1
    have u1 : ∀ q ∈ y1.1.weights Try.prog 3, q ≤ reachBytes := fun q hq => hw q (by
      simp only [DataW.weights, Try.underlying23]
      exact DataW.weights_mem_each (j := 1) rfl rfl q hq)
    obtain ⟨a0, e0, w0⟩ := (opens_int Try.underlying3 cells3).opens enc W n _ _ f0 u0
    replace e0 : [v0] = [.int .i64 a0] := e0
    simp only [List.cons.injEq, and_true] at e0
    obtain rfl := e0
    obtain ⟨a1, e1, w1⟩ := (opens_int Try.underlying3 cells3).opens enc W n _ _ f1 u1
    replace e1 : [v1] = [.int .i64 a1] := e1
    simp only [List.cons.injEq, and_true] at e1
    obtain rfl := e1
    exact ⟨_, _, rfl⟩
set_option maxRecDepth 100000 in
theorem op168 {H : Type} (enc : TypeId × Value → H) (W : World) (fuel : Nat) (cs : List Value) (x : DataW H × List MemPlace)
    (h : DataW.trod enc Try.prog W 0 (fun _ => true) true fuel 168 cs = some x) (hw : ∀ n ∈ x.1.weights Try.prog 168, n ≤ reachBytes) :
    ∃ a : Reg, rdReg W cs a ∧ True := by
  obtain ⟨xs, n, _, rfl, hlen, hxl, hf⟩ := DataW.trod_struct Try.underlying168 h
  rw [cells168] at hlen
  match cs, hlen, xs, hxl, hf, hw with
  | [v0, v1, v2], _, [y0, y1], _, hf, hw =>
    have f0 := hf 0 _ rfl
    change DataW.trod enc Try.prog W 0 (fun _ => true) true n 3 (([v0, v1, v2].drop 0).take (Try.prog.cellsOf 3)) = some y0 at f0
    rw [cells3] at f0
    replace f0 : DataW.trod enc Try.prog W 0 (fun _ => true) true n 3 [v0] = some y0 := f0
    have u0 : ∀ q ∈ y0.1.weights Try.prog 3, q ≤ reachBytes := fun q hq => hw q (by
      simp only [DataW.weights, Try.underlying168]
      exact DataW.weights_mem_each (j := 0) rfl rfl q hq)
    have f1 := hf 1 _ rfl
    change DataW.trod enc Try.prog W 0 (fun _ => true) true n 23 (([v0, v1, v2].drop 1).take (Try.prog.cellsOf 23)) = some y1 at f1
    rw [cells23] at f1
    replace f1 : DataW.trod enc Try.prog W 0 (fun _ => true) true n 23 [v1, v2] = some y1 := f1
    have u1 : ∀ q ∈ y1.1.weights Try.prog 23, q ≤ reachBytes := fun q hq => hw q (by
      simp only [DataW.weights, Try.underlying168]
      exact DataW.weights_mem_each (j := 1) rfl rfl q hq)
    obtain ⟨a0, e0, w0⟩ := (opens_int Try.underlying3 cells3).opens enc W n _ _ f0 u0
    replace e0 : [v0] = [.int .i64 a0] := e0
    simp only [List.cons.injEq, and_true] at e0
    obtain rfl := e0
    obtain ⟨a1, b1, e1⟩ := op23 enc W n _ _ f1 u1
    simp only [List.cons.injEq, and_true] at e1
    obtain ⟨rfl, rfl⟩ := e1
    exact ⟨⟨a0, a1, b1⟩, rfl, trivial⟩
theorem opens168 : Opens Try.prog 168 3 rdReg (fun _ => True) := ⟨cells168, fun enc W fuel cs x h hw => op168 enc W fuel cs x h hw⟩
def tmMail (m : Mail) : Prop := m.tx.size ≤ 140737488351232
def tmBox (b : Box) : Prop := b.nm.size ≤ 140737488351232 ∧ ∀ m ∈ b.ml, tmMail m
def tmStore (s : Store) : Prop := ∀ b ∈ s.bx, tmBox b
set_option maxRecDepth 100000 in
theorem op54 {H : Type} (enc : TypeId × Value → H) (W : World) (fuel : Nat) (cs : List Value) (x : DataW H × List MemPlace)
    (h : DataW.trod enc Try.prog W 0 (fun _ => true) true fuel 54 cs = some x) (hw : ∀ n ∈ x.1.weights Try.prog 54, n ≤ reachBytes) :
    ∃ a : Mail, rdMail W cs a ∧ tmMail a := by
  obtain ⟨xs, n, _, rfl, hlen, hxl, hf⟩ := DataW.trod_struct Try.underlying54 h
  rw [cells54] at hlen
  match cs, hlen, xs, hxl, hf, hw with
  | [v0, v1, v2, v3], _, [y0, y1, y2, y3], _, hf, hw =>
    have f0 := hf 0 _ rfl
    change DataW.trod enc Try.prog W 0 (fun _ => true) true n 3 (([v0, v1, v2, v3].drop 0).take (Try.prog.cellsOf 3)) = some y0 at f0
    rw [cells3] at f0
    replace f0 : DataW.trod enc Try.prog W 0 (fun _ => true) true n 3 [v0] = some y0 := f0
    have u0 : ∀ q ∈ y0.1.weights Try.prog 3, q ≤ reachBytes := fun q hq => hw q (by
      simp only [DataW.weights, Try.underlying54]
      exact DataW.weights_mem_each (j := 0) rfl rfl q hq)
    have f1 := hf 1 _ rfl
    change DataW.trod enc Try.prog W 0 (fun _ => true) true n 3 (([v0, v1, v2, v3].drop 1).take (Try.prog.cellsOf 3)) = some y1 at f1
    rw [cells3] at f1
    replace f1 : DataW.trod enc Try.prog W 0 (fun _ => true) true n 3 [v1] = some y1 := f1
    have u1 : ∀ q ∈ y1.1.weights Try.prog 3, q ≤ reachBytes := fun q hq => hw q (by
      simp only [DataW.weights, Try.underlying54]
      exact DataW.weights_mem_each (j := 1) rfl rfl q hq)
    have f2 := hf 2 _ rfl
    change DataW.trod enc Try.prog W 0 (fun _ => true) true n 52 (([v0, v1, v2, v3].drop 2).take (Try.prog.cellsOf 52)) = some y2 at f2
    rw [cells52] at f2
    replace f2 : DataW.trod enc Try.prog W 0 (fun _ => true) true n 52 [v2] = some y2 := f2
    have u2 : ∀ q ∈ y2.1.weights Try.prog 52, q ≤ reachBytes := fun q hq => hw q (by
      simp only [DataW.weights, Try.underlying54]
      exact DataW.weights_mem_each (j := 2) rfl rfl q hq)
    have f3 := hf 3 _ rfl
    change DataW.trod enc Try.prog W 0 (fun _ => true) true n 9 (([v0, v1, v2, v3].drop 3).take (Try.prog.cellsOf 9)) = some y3 at f3
    rw [cells9] at f3
    replace f3 : DataW.trod enc Try.prog W 0 (fun _ => true) true n 9 [v3] = some y3 := f3
    have u3 : ∀ q ∈ y3.1.weights Try.prog 9, q ≤ reachBytes := fun q hq => hw q (by
      simp only [DataW.weights, Try.underlying54]
      exact DataW.weights_mem_each (j := 3) rfl rfl q hq)
    obtain ⟨a0, e0, w0⟩ := (opens_int Try.underlying3 cells3).opens enc W n _ _ f0 u0
    replace e0 : [v0] = [.int .i64 a0] := e0
    simp only [List.cons.injEq, and_true] at e0
    obtain rfl := e0
    obtain ⟨a1, e1, w1⟩ := (opens_int Try.underlying3 cells3).opens enc W n _ _ f1 u1
    replace e1 : [v1] = [.int .i64 a1] := e1
    simp only [List.cons.injEq, and_true] at e1
    obtain rfl := e1
    obtain ⟨a2, ⟨q2, e2, r2⟩, w2⟩ := (opens_slice Try.underlying52 cells52 opens168).opens enc W n _ _ f2 u2
    simp only [List.cons.injEq, and_true] at e2
    obtain rfl := e2
    obtain ⟨a3, e3, w3⟩ := (opens_string Try.underlying9 cells9).opens enc W n _ _ f3 u3
    replace e3 : [v3] = [.string a3] := e3
    simp only [List.cons.injEq, and_true] at e3
    obtain rfl := e3
    exact ⟨⟨a0, a1, a2, a3⟩, ⟨_, rfl, r2⟩, w3⟩
theorem opens54 : Opens Try.prog 54 4 rdMail tmMail := ⟨cells54, fun enc W fuel cs x h hw => op54 enc W fuel cs x h hw⟩
set_option maxRecDepth 100000 in
theorem op27 {H : Type} (enc : TypeId × Value → H) (W : World) (fuel : Nat) (cs : List Value) (x : DataW H × List MemPlace)
    (h : DataW.trod enc Try.prog W 0 (fun _ => true) true fuel 27 cs = some x) (hw : ∀ n ∈ x.1.weights Try.prog 27, n ≤ reachBytes) :
    ∃ a : Box, rdBox W cs a ∧ tmBox a := by
  obtain ⟨xs, n, _, rfl, hlen, hxl, hf⟩ := DataW.trod_struct Try.underlying27 h
  rw [cells27] at hlen
  match cs, hlen, xs, hxl, hf, hw with
  | [v0, v1, v2, v3, v4, v5, v6], _, [y0, y1, y2, y3, y4, y5], _, hf, hw =>
    have f0 := hf 0 _ rfl
    change DataW.trod enc Try.prog W 0 (fun _ => true) true n 3 (([v0, v1, v2, v3, v4, v5, v6].drop 0).take (Try.prog.cellsOf 3)) = some y0 at f0
    rw [cells3] at f0
    replace f0 : DataW.trod enc Try.prog W 0 (fun _ => true) true n 3 [v0] = some y0 := f0
    have u0 : ∀ q ∈ y0.1.weights Try.prog 3, q ≤ reachBytes := fun q hq => hw q (by
      simp only [DataW.weights, Try.underlying27]
      exact DataW.weights_mem_each (j := 0) rfl rfl q hq)
    have f1 := hf 1 _ rfl
    change DataW.trod enc Try.prog W 0 (fun _ => true) true n 9 (([v0, v1, v2, v3, v4, v5, v6].drop 1).take (Try.prog.cellsOf 9)) = some y1 at f1
    rw [cells9] at f1
    replace f1 : DataW.trod enc Try.prog W 0 (fun _ => true) true n 9 [v1] = some y1 := f1
    have u1 : ∀ q ∈ y1.1.weights Try.prog 9, q ≤ reachBytes := fun q hq => hw q (by
      simp only [DataW.weights, Try.underlying27]
      exact DataW.weights_mem_each (j := 1) rfl rfl q hq)
    have f2 := hf 2 _ rfl
    change DataW.trod enc Try.prog W 0 (fun _ => true) true n 23 (([v0, v1, v2, v3, v4, v5, v6].drop 2).take (Try.prog.cellsOf 23)) = some y2 at f2
    rw [cells23] at f2
    replace f2 : DataW.trod enc Try.prog W 0 (fun _ => true) true n 23 [v2, v3] = some y2 := f2
    have u2 : ∀ q ∈ y2.1.weights Try.prog 23, q ≤ reachBytes := fun q hq => hw q (by
      simp only [DataW.weights, Try.underlying27]
      exact DataW.weights_mem_each (j := 2) rfl rfl q hq)
    have f3 := hf 3 _ rfl
    change DataW.trod enc Try.prog W 0 (fun _ => true) true n 3 (([v0, v1, v2, v3, v4, v5, v6].drop 4).take (Try.prog.cellsOf 3)) = some y3 at f3
    rw [cells3] at f3
    replace f3 : DataW.trod enc Try.prog W 0 (fun _ => true) true n 3 [v4] = some y3 := f3
    have u3 : ∀ q ∈ y3.1.weights Try.prog 3, q ≤ reachBytes := fun q hq => hw q (by
      simp only [DataW.weights, Try.underlying27]
      exact DataW.weights_mem_each (j := 3) rfl rfl q hq)
    have f4 := hf 4 _ rfl
    change DataW.trod enc Try.prog W 0 (fun _ => true) true n 24 (([v0, v1, v2, v3, v4, v5, v6].drop 5).take (Try.prog.cellsOf 24)) = some y4 at f4
    rw [cells24] at f4
    replace f4 : DataW.trod enc Try.prog W 0 (fun _ => true) true n 24 [v5] = some y4 := f4
    have u4 : ∀ q ∈ y4.1.weights Try.prog 24, q ≤ reachBytes := fun q hq => hw q (by
      simp only [DataW.weights, Try.underlying27]
      exact DataW.weights_mem_each (j := 4) rfl rfl q hq)
    have f5 := hf 5 _ rfl
    change DataW.trod enc Try.prog W 0 (fun _ => true) true n 25 (([v0, v1, v2, v3, v4, v5, v6].drop 6).take (Try.prog.cellsOf 25)) = some y5 at f5
    rw [cells25] at f5
    replace f5 : DataW.trod enc Try.prog W 0 (fun _ => true) true n 25 [v6] = some y5 := f5
    have u5 : ∀ q ∈ y5.1.weights Try.prog 25, q ≤ reachBytes := fun q hq => hw q (by
      simp only [DataW.weights, Try.underlying27]
      exact DataW.weights_mem_each (j := 5) rfl rfl q hq)
    obtain ⟨a0, e0, w0⟩ := (opens_int Try.underlying3 cells3).opens enc W n _ _ f0 u0
    replace e0 : [v0] = [.int .i64 a0] := e0
    simp only [List.cons.injEq, and_true] at e0
    obtain rfl := e0
    obtain ⟨a1, e1, w1⟩ := (opens_string Try.underlying9 cells9).opens enc W n _ _ f1 u1
    replace e1 : [v1] = [.string a1] := e1
    simp only [List.cons.injEq, and_true] at e1
    obtain rfl := e1
    obtain ⟨a2, b2, e2⟩ := op23 enc W n _ _ f2 u2
    simp only [List.cons.injEq, and_true] at e2
    obtain ⟨rfl, rfl⟩ := e2
    obtain ⟨a3, e3, w3⟩ := (opens_int Try.underlying3 cells3).opens enc W n _ _ f3 u3
    replace e3 : [v4] = [.int .i64 a3] := e3
    simp only [List.cons.injEq, and_true] at e3
    obtain rfl := e3
    obtain ⟨a4, ⟨q4, e4, r4⟩, w4⟩ := (opens_slice Try.underlying24 cells24 opens54).opens enc W n _ _ f4 u4
    simp only [List.cons.injEq, and_true] at e4
    obtain rfl := e4
    obtain ⟨a5, ⟨q5, e5, r5⟩, w5⟩ := (opens_slice Try.underlying25 cells25 (opens_int Try.underlying3 cells3)).opens enc W n _ _ f5 u5
    simp only [List.cons.injEq, and_true] at e5
    obtain rfl := e5
    exact ⟨⟨a0, a1, a2, b2, a3, a4, a5⟩, ⟨_, _, rfl, r4, r5⟩, w1, w4⟩
theorem opens27 : Opens Try.prog 27 7 rdBox tmBox := ⟨cells27, fun enc W fuel cs x h hw => op27 enc W fuel cs x h hw⟩
set_option maxRecDepth 100000 in
theorem op41 {H : Type} (enc : TypeId × Value → H) (W : World) (fuel : Nat) (cs : List Value) (x : DataW H × List MemPlace)
    (h : DataW.trod enc Try.prog W 0 (fun _ => true) true fuel 41 cs = some x) (hw : ∀ n ∈ x.1.weights Try.prog 41, n ≤ reachBytes) :
    ∃ a : Store, rdStore W cs a ∧ tmStore a := by
  obtain ⟨xs, n, _, rfl, hlen, hxl, hf⟩ := DataW.trod_struct Try.underlying41 h
  rw [cells41] at hlen
  match cs, hlen, xs, hxl, hf, hw with
  | [v0, v1, v2, v3], _, [y0, y1, y2, y3], _, hf, hw =>
    have f0 := hf 0 _ rfl
    change DataW.trod enc Try.prog W 0 (fun _ => true) true n 3 (([v0, v1, v2, v3].drop 0).take (Try.prog.cellsOf 3)) = some y0 at f0
    rw [cells3] at f0
    replace f0 : DataW.trod enc Try.prog W 0 (fun _ => true) true n 3 [v0] = some y0 := f0
    have u0 : ∀ q ∈ y0.1.weights Try.prog 3, q ≤ reachBytes := fun q hq => hw q (by
      simp only [DataW.weights, Try.underlying41]
      exact DataW.weights_mem_each (j := 0) rfl rfl q hq)
    have f1 := hf 1 _ rfl
    change DataW.trod enc Try.prog W 0 (fun _ => true) true n 3 (([v0, v1, v2, v3].drop 1).take (Try.prog.cellsOf 3)) = some y1 at f1
    rw [cells3] at f1
    replace f1 : DataW.trod enc Try.prog W 0 (fun _ => true) true n 3 [v1] = some y1 := f1
    have u1 : ∀ q ∈ y1.1.weights Try.prog 3, q ≤ reachBytes := fun q hq => hw q (by
      simp only [DataW.weights, Try.underlying41]
      exact DataW.weights_mem_each (j := 1) rfl rfl q hq)
    have f2 := hf 2 _ rfl
    change DataW.trod enc Try.prog W 0 (fun _ => true) true n 39 (([v0, v1, v2, v3].drop 2).take (Try.prog.cellsOf 39)) = some y2 at f2
    rw [cells39] at f2
    replace f2 : DataW.trod enc Try.prog W 0 (fun _ => true) true n 39 [v2] = some y2 := f2
    have u2 : ∀ q ∈ y2.1.weights Try.prog 39, q ≤ reachBytes := fun q hq => hw q (by
      simp only [DataW.weights, Try.underlying41]
      exact DataW.weights_mem_each (j := 2) rfl rfl q hq)
    have f3 := hf 3 _ rfl
    change DataW.trod enc Try.prog W 0 (fun _ => true) true n 25 (([v0, v1, v2, v3].drop 3).take (Try.prog.cellsOf 25)) = some y3 at f3
    rw [cells25] at f3
    replace f3 : DataW.trod enc Try.prog W 0 (fun _ => true) true n 25 [v3] = some y3 := f3
    have u3 : ∀ q ∈ y3.1.weights Try.prog 25, q ≤ reachBytes := fun q hq => hw q (by
      simp only [DataW.weights, Try.underlying41]
      exact DataW.weights_mem_each (j := 3) rfl rfl q hq)
    obtain ⟨a0, e0, w0⟩ := (opens_int Try.underlying3 cells3).opens enc W n _ _ f0 u0
    replace e0 : [v0] = [.int .i64 a0] := e0
    simp only [List.cons.injEq, and_true] at e0
    obtain rfl := e0
    obtain ⟨a1, e1, w1⟩ := (opens_int Try.underlying3 cells3).opens enc W n _ _ f1 u1
    replace e1 : [v1] = [.int .i64 a1] := e1
    simp only [List.cons.injEq, and_true] at e1
    obtain rfl := e1
    obtain ⟨a2, ⟨q2, e2, r2⟩, w2⟩ := (opens_slice Try.underlying39 cells39 opens27).opens enc W n _ _ f2 u2
    simp only [List.cons.injEq, and_true] at e2
    obtain rfl := e2
    obtain ⟨a3, ⟨q3, e3, r3⟩, w3⟩ := (opens_slice Try.underlying25 cells25 (opens_int Try.underlying3 cells3)).opens enc W n _ _ f3 u3
    simp only [List.cons.injEq, and_true] at e3
    obtain rfl := e3
    exact ⟨⟨a0, a1, a2, a3⟩, ⟨_, _, rfl, r2, r3⟩, w2⟩
end Go.Proofs.Ytjfjpabfkembcaa.H
