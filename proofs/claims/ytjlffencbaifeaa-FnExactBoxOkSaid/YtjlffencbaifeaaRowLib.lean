import Derived.Test.YtjlffencbaifeaaWMore
import Derived.Deep.Slices
import Derived.SizedLaws
import Derived.ChangeArms
import Derived.WideShapes
namespace Go.Proofs.Ytjlffencbaifeaa.RowLib
open Go.RowKit Go.Proofs.YtjlffencbaifeaaW.PrintWords
set_option linter.unusedVariables false

/-! ### what an argument's data says: its kind (Kd.K) and its bounds -/
structure Opens {α : Type} (P : Program) (t : TypeId) (d : Kd α) (G : α → Prop) : Prop where
  sz : P.cellsOf t = d.sz
  opens : ∀ {H : Type} (enc : TypeId × Value → H) (W : World) (fuel : Nat) (cs : List Value) (x : DataW H × List MemPlace),
    DataW.trod enc P W 0 (fun _ => true) true fuel t cs = some x → (∀ n ∈ x.1.weights P t, n ≤ reachBytes) → ∃ a, d.K W a cs ∧ G a

theorem opens_int {P : Program} {t : TypeId} {k : IntKind} (ht : P.underlying t = some (.int k)) (hs : P.cellsOf t = 1) :
    Opens P t (Kd.int k) (fun x => (Lit.int k x).wf = true) where
  sz := hs
  opens := by
    intro H enc W fuel cs x h _
    obtain ⟨n, rfl, rfl, hw⟩ := DataW.trod_int ht h
    exact ⟨n, rfl, hw⟩
theorem opens_bool {P : Program} {t : TypeId} (ht : P.underlying t = some .bool) (hs : P.cellsOf t = 1) :
    Opens P t Kd.bool (fun _ => True) where
  sz := hs
  opens := by
    intro H enc W fuel cs x h _
    obtain ⟨n, rfl, rfl⟩ := DataW.trod_bool ht h
    exact ⟨n, rfl, trivial⟩
theorem opens_string {P : Program} {t : TypeId} (ht : P.underlying t = some .string) (hs : P.cellsOf t = 1) :
    Opens P t Kd.string (fun s => s.size ≤ 140737488351232) where
  sz := hs
  opens := by
    intro H enc W fuel cs x h hw
    obtain ⟨s, rfl, rfl, _⟩ := DataW.trod_string ht h
    refine ⟨s, rfl, ?_⟩
    have z := hw s.data.toList.length (by simp [DataW.weights])
    rw [Array.length_toList] at z
    exact z

theorem list_choose {α : Type} (Q : Nat → α → Prop) (n : Nat) (h : ∀ i, i < n → ∃ y, Q i y) :
    ∃ xs : List α, xs.length = n ∧ ∀ i x, xs[i]? = some x → Q i x := by
  induction n with
  | zero => exact ⟨[], rfl, fun i x hx => by simp at hx⟩
  | succ n ih =>
    obtain ⟨xs, hl, hq⟩ := ih (fun i hi => h i (by omega))
    obtain ⟨y, hy⟩ := h n (by omega)
    refine ⟨xs ++ [y], by simp [hl], fun i x hx => ?_⟩
    rcases Nat.lt_or_ge i xs.length with hlt | hge
    · rw [List.getElem?_append_left hlt] at hx
      exact hq i x hx
    · have hi : i = xs.length := by
        have := (List.getElem?_eq_some_iff.1 hx).1
        rw [List.length_append, List.length_singleton] at this
        omega
      subst hi
      have hx' : y = x := by simpa using hx
      subst hx'
      rw [hl]
      exact hy
theorem weightsAll_mem {H : Type} {P : Program} {e : TypeId} {d : DataW H} {q : Nat} (hq : q ∈ d.weights P e) : ∀ {l : List (DataW H)}, d ∈ l → q ∈ DataW.weightsAll P e l
  | [], h => by simp at h
  | x :: l, h => by
    rw [DataW.weightsAll, List.mem_append]
    rcases List.mem_cons.1 h with h | h
    · subst h
      exact .inl hq
    · exact .inr (weightsAll_mem hq h)
theorem opens_slice {α : Type} {P : Program} {t e : TypeId} {d : Kd α} {G : α → Prop} (ht : P.underlying t = some (.slice e)) (hs : P.cellsOf t = 1) (ho : Opens P e d G) :
    Opens P t (Kd.slice e d) (fun xs => xs.length * P.bytesOf e ≤ 140737488351232 ∧ xs.length ≤ 9223372036854775807 ∧ ∀ x ∈ xs, G x) where
  sz := hs
  opens := by
    intro H enc W fuel cs x h hw
    rcases Go.Deep.open_slice ht h with ⟨rfl, rfl⟩ | ⟨a, len, cap, m, n, D, Pl, rfl, _, hl, hm, hmm, rfl, hi⟩
    · exact ⟨[], ⟨none, 0, rfl, Nat.le_refl _, rfl, by simp, fun hp => absurd hp (Nat.lt_irrefl 0)⟩, by simp, by simp, by simp⟩
    · have hmm' : m = cap := by rw [hmm]; rfl
      have hall : ∀ i, i < len → ∃ y, G y ∧ ∃ c, c.length = d.sz ∧ d.K W y c ∧ ∀ j u, c[j]? = some u → W.cell? (a.add (i * d.sz + j)) = some u := by
        intro i hlt
        obtain ⟨cs', hc, htr⟩ := hi i (by omega)
        obtain ⟨y, hk, hg⟩ := ho.opens enc W n cs' _ htr (fun q hq => hw q (by
          simp only [DataW.weights, ht]
          refine List.mem_cons_of_mem _ (List.mem_append_left _ (weightsAll_mem hq ?_))
          exact List.mem_map.2 ⟨i, List.mem_range.2 hlt, rfl⟩))
        obtain ⟨_, hcl, hat⟩ := World.cells?_some hc
        refine ⟨y, hg, cs', by rw [hcl, ho.sz], hk, fun j u hu => ?_⟩
        have hj : j < cs'.length := (List.getElem?_eq_some_iff.1 hu).1
        have h1 := hat j (by omega)
        rw [Go.Deep.add_add, ho.sz] at h1
        rw [h1, hu]
      obtain ⟨xs, hxl, hxs⟩ := list_choose _ len hall
      have hwl := hw ((((List.range len).map D).length + ((List.range (m - len)).map fun j => D (len + j)).length) * P.bytesOf e) (by
        simp only [DataW.weights, ht]
        exact List.mem_cons_self)
      rw [List.length_map, List.length_range] at hwl
      have hle : len * P.bytesOf e ≤ reachBytes := Nat.le_trans (Nat.mul_le_mul_right _ (Nat.le_add_right _ _)) hwl
      have hcap : len ≤ 9223372036854775807 := by
        simp only [maxLen] at hm
        omega
      refine ⟨xs, ⟨some a, cap, by rw [hxl], by omega, rfl, by omega, fun _ => ⟨a, rfl, fun j p hj => ?_⟩⟩, by rw [hxl]; exact hle, by omega, fun y hy => ?_⟩
      · obtain ⟨_, c, h1, h2, h3⟩ := hxs j p hj
        exact ⟨c, h1, h2, h3⟩
      · obtain ⟨i, hi', rfl⟩ := List.mem_iff_getElem.1 hy
        exact (hxs i _ (List.getElem?_eq_getElem hi')).1
theorem agg_of {cs : Array Value} {l : List Value} (h : (Value.agg cs).cells.toList = l) : cs = l.toArray := by
  subst h
  simp [Value.cells]
theorem slice_of {A B : Option Addr} {n m c d : Nat} (h : (Value.slice A n c).cells.toList = [.slice B m d]) : B = A ∧ m = n ∧ d = c := by
  simp [Value.cells] at h
  exact ⟨h.1.symm, h.2.1.symm, h.2.2.symm⟩
end Go.Proofs.Ytjlffencbaifeaa.RowLib
