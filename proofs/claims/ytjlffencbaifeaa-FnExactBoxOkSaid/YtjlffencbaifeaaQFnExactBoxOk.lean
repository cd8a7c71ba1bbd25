/- What the arguments of the law FnExactBoxOk are, opened out of their data; its pure statement and its walk. Written by this session's rowgen.py. -/
import Derived.Test.YtjlffencbaifeaaPFnExactBoxOkx8
import Derived.Test.YtjlffencbaifeaaRowLib
namespace Go.Proofs.Ytjlffencbaifeaa.PFnExactBoxOk
open Go.RowKit Go.Proofs.YtjlffencbaifeaaW.PrintWords Go.Proofs.Ytjlffencbaifeaa.RowLib
set_option linter.unusedVariables false
set_option linter.unusedSimpArgs false
theorem cells3 : Try.prog.cellsOf 3 = 1 := by kernel_rfl
theorem cells9 : Try.prog.cellsOf 9 = 1 := by kernel_rfl
theorem cells51 : Try.prog.cellsOf 51 = 2 := by kernel_rfl
theorem cells152 : Try.prog.cellsOf 152 = 3 := by kernel_rfl
theorem cells129 : Try.prog.cellsOf 129 = 1 := by kernel_rfl
theorem cells131 : Try.prog.cellsOf 131 = 4 := by kernel_rfl
theorem cells52 : Try.prog.cellsOf 52 = 1 := by kernel_rfl
theorem cells31 : Try.prog.cellsOf 31 = 1 := by kernel_rfl
theorem cells54 : Try.prog.cellsOf 54 = 7 := by kernel_rfl
set_option maxRecDepth 100000 in
theorem op51 {H : Type} (enc : TypeId × Value → H) (W : World) (fuel : Nat) (cs : List Value) (x : DataW H × List MemPlace)
    (h : DataW.trod enc Try.prog W 0 (fun _ => true) true fuel 51 cs = some x) (hw : ∀ n ∈ x.1.weights Try.prog 51, n ≤ reachBytes) :
    ∃ (a_0 : Int) (a_1 : Int), cs = [.int .i64 a_0, .int .i64 a_1] ∧ ((Lit.int .i64 a_0).wf = true) ∧ ((Lit.int .i64 a_1).wf = true) := by
  obtain ⟨xs, n, _, rfl, hlen, hxl, hf⟩ := DataW.trod_struct Try.underlying51 h
  rw [cells51] at hlen
  match cs, hlen, xs, hxl, hf, hw with
  | [v0, v1], _, [y0, y1], _, hf, hw =>
    have f0 := hf 0 _ rfl
    change DataW.trod enc Try.prog W 0 (fun _ => true) true n 3 (([v0, v1].drop 0).take (Try.prog.cellsOf 3)) = some y0 at f0
    rw [cells3] at f0
    replace f0 : DataW.trod enc Try.prog W 0 (fun _ => true) true n 3 [v0] = some y0 := f0
    have u0 : ∀ q ∈ y0.1.weights Try.prog 3, q ≤ reachBytes := fun q hq => hw q (by
      simp only [DataW.weights, Try.underlying51]
      exact DataW.weights_mem_each (j := 0) rfl rfl q hq)
    have f1 := hf 1 _ rfl
    change DataW.trod enc Try.prog W 0 (fun _ => true) true n 3 (([v0, v1].drop 1).take (Try.prog.cellsOf 3)) = some y1 at f1
    rw [cells3] at f1
    replace f1 : DataW.trod enc Try.prog W 0 (fun _ => true) true n 3 [v1] = some y1 := f1
    have u1 : ∀ q ∈ y1.1.weights Try.prog 3, q ≤ reachBytes := fun q hq => hw q (by
      simp only [DataW.weights, Try.underlying51]
      exact DataW.weights_mem_each (j := 1) rfl rfl q hq)
    obtain ⟨a_0, e0, w_0⟩ := (opens_int Try.underlying3 cells3).opens enc W n _ _ f0 u0
    replace e0 : [v0] = [.int .i64 a_0] := e0
    simp only [List.cons.injEq, and_true] at e0
    obtain rfl := e0
    obtain ⟨a_1, e1, w_1⟩ := (opens_int Try.underlying3 cells3).opens enc W n _ _ f1 u1
    replace e1 : [v1] = [.int .i64 a_1] := e1
    simp only [List.cons.injEq, and_true] at e1
    obtain rfl := e1
    exact ⟨a_0, a_1, rfl, w_0, w_1⟩
set_option maxRecDepth 100000 in
theorem op152 {H : Type} (enc : TypeId × Value → H) (W : World) (fuel : Nat) (cs : List Value) (x : DataW H × List MemPlace)
    (h : DataW.trod enc Try.prog W 0 (fun _ => true) true fuel 152 cs = some x) (hw : ∀ n ∈ x.1.weights Try.prog 152, n ≤ reachBytes) :
    ∃ (a_0 : Int) (a_1_0 : Int) (a_1_1 : Int), cs = [.int .i64 a_0, .int .i64 a_1_0, .int .i64 a_1_1] ∧ ((Lit.int .i64 a_0).wf = true) ∧ ((Lit.int .i64 a_1_0).wf = true) ∧ ((Lit.int .i64 a_1_1).wf = true) := by
  obtain ⟨xs, n, _, rfl, hlen, hxl, hf⟩ := DataW.trod_struct Try.underlying152 h
  rw [cells152] at hlen
  match cs, hlen, xs, hxl, hf, hw with
  | [v0, v1, v2], _, [y0, y1], _, hf, hw =>
    have f0 := hf 0 _ rfl
    change DataW.trod enc Try.prog W 0 (fun _ => true) true n 3 (([v0, v1, v2].drop 0).take (Try.prog.cellsOf 3)) = some y0 at f0
    rw [cells3] at f0
    replace f0 : DataW.trod enc Try.prog W 0 (fun _ => true) true n 3 [v0] = some y0 := f0
    have u0 : ∀ q ∈ y0.1.weights Try.prog 3, q ≤ reachBytes := fun q hq => hw q (by
      simp only [DataW.weights, Try.underlying152]
      exact DataW.weights_mem_each (j := 0) rfl rfl q hq)
    have f1 := hf 1 _ rfl
    change DataW.trod enc Try.prog W 0 (fun _ => true) true n 51 (([v0, v1, v2].drop 1).take (Try.prog.cellsOf 51)) = some y1 at f1
    rw [cells51] at f1
    replace f1 : DataW.trod enc Try.prog W 0 (fun _ => true) true n 51 [v1, v2] = some y1 := f1
    have u1 : ∀ q ∈ y1.1.weights Try.prog 51, q ≤ reachBytes := fun q hq => hw q (by
      simp only [DataW.weights, Try.underlying152]
      exact DataW.weights_mem_each (j := 1) rfl rfl q hq)
    obtain ⟨a_0, e0, w_0⟩ := (opens_int Try.underlying3 cells3).opens enc W n _ _ f0 u0
    replace e0 : [v0] = [.int .i64 a_0] := e0
    simp only [List.cons.injEq, and_true] at e0
    obtain rfl := e0
    obtain ⟨a_1_0, a_1_1, e1, w_1_0, w_1_1⟩ := op51 enc W n _ _ f1 u1
    simp only [List.cons.injEq, and_true] at e1
    obtain ⟨rfl, rfl⟩ := e1
    exact ⟨a_0, a_1_0, a_1_1, rfl, w_0, w_1_0, w_1_1⟩
def G152 (x : S152) : Prop := ((Lit.int .i64 x.f0).wf = true) ∧ (((Lit.int .i64 x.f1.f0).wf = true) ∧ ((Lit.int .i64 x.f1.f1).wf = true))
theorem opens152 : Opens Try.prog 152 k152 G152 where
  sz := cells152
  opens := by
    intro H enc W fuel cs x h hw
    obtain ⟨a_0, a_1_0, a_1_1, rfl, w_0, w_1_0, w_1_1⟩ := op152 enc W fuel cs x h hw
    exact ⟨(⟨a_0, (⟨a_1_0, a_1_1⟩ : S51)⟩ : S152), k152_mk W _ , ⟨w_0, ⟨w_1_0, w_1_1⟩⟩⟩
set_option maxRecDepth 100000 in
theorem op131 {H : Type} (enc : TypeId × Value → H) (W : World) (fuel : Nat) (cs : List Value) (x : DataW H × List MemPlace)
    (h : DataW.trod enc Try.prog W 0 (fun _ => true) true fuel 131 cs = some x) (hw : ∀ n ∈ x.1.weights Try.prog 131, n ≤ reachBytes) :
    ∃ (a_0 : Int) (a_1 : Int) (A_2 : Option Addr) (c_2 : Nat) (l_2 : List (S152)) (a_3 : ByteArray), cs = [.int .i64 a_0, .int .i64 a_1, .slice A_2 l_2.length c_2, .string a_3] ∧ ((Lit.int .i64 a_0).wf = true) ∧ ((Lit.int .i64 a_1).wf = true) ∧ Kd.C k152 W A_2 l_2.length l_2 ∧ l_2.length ≤ c_2 ∧ (l_2.length * Try.prog.bytesOf 152 ≤ 140737488351232 ∧ l_2.length ≤ 9223372036854775807 ∧ ∀ q ∈ l_2, G152 q) ∧ (a_3.size ≤ 140737488351232) := by
  obtain ⟨xs, n, _, rfl, hlen, hxl, hf⟩ := DataW.trod_struct Try.underlying131 h
  rw [cells131] at hlen
  match cs, hlen, xs, hxl, hf, hw with
  | [v0, v1, v2, v3], _, [y0, y1, y2, y3], _, hf, hw =>
    have f0 := hf 0 _ rfl
    change DataW.trod enc Try.prog W 0 (fun _ => true) true n 3 (([v0, v1, v2, v3].drop 0).take (Try.prog.cellsOf 3)) = some y0 at f0
    rw [cells3] at f0
    replace f0 : DataW.trod enc Try.prog W 0 (fun _ => true) true n 3 [v0] = some y0 := f0
    have u0 : ∀ q ∈ y0.1.weights Try.prog 3, q ≤ reachBytes := fun q hq => hw q (by
      simp only [DataW.weights, Try.underlying131]
      exact DataW.weights_mem_each (j := 0) rfl rfl q hq)
    have f1 := hf 1 _ rfl
    change DataW.trod enc Try.prog W 0 (fun _ => true) true n 3 (([v0, v1, v2, v3].drop 1).take (Try.prog.cellsOf 3)) = some y1 at f1
    rw [cells3] at f1
    replace f1 : DataW.trod enc Try.prog W 0 (fun _ => true) true n 3 [v1] = some y1 := f1
    have u1 : ∀ q ∈ y1.1.weights Try.prog 3, q ≤ reachBytes := fun q hq => hw q (by
      simp only [DataW.weights, Try.underlying131]
      exact DataW.weights_mem_each (j := 1) rfl rfl q hq)
    have f2 := hf 2 _ rfl
    change DataW.trod enc Try.prog W 0 (fun _ => true) true n 129 (([v0, v1, v2, v3].drop 2).take (Try.prog.cellsOf 129)) = some y2 at f2
    rw [cells129] at f2
    replace f2 : DataW.trod enc Try.prog W 0 (fun _ => true) true n 129 [v2] = some y2 := f2
    have u2 : ∀ q ∈ y2.1.weights Try.prog 129, q ≤ reachBytes := fun q hq => hw q (by
      simp only [DataW.weights, Try.underlying131]
      exact DataW.weights_mem_each (j := 2) rfl rfl q hq)
    have f3 := hf 3 _ rfl
    change DataW.trod enc Try.prog W 0 (fun _ => true) true n 9 (([v0, v1, v2, v3].drop 3).take (Try.prog.cellsOf 9)) = some y3 at f3
    rw [cells9] at f3
    replace f3 : DataW.trod enc Try.prog W 0 (fun _ => true) true n 9 [v3] = some y3 := f3
    have u3 : ∀ q ∈ y3.1.weights Try.prog 9, q ≤ reachBytes := fun q hq => hw q (by
      simp only [DataW.weights, Try.underlying131]
      exact DataW.weights_mem_each (j := 3) rfl rfl q hq)
    obtain ⟨a_0, e0, w_0⟩ := (opens_int Try.underlying3 cells3).opens enc W n _ _ f0 u0
    replace e0 : [v0] = [.int .i64 a_0] := e0
    simp only [List.cons.injEq, and_true] at e0
    obtain rfl := e0
    obtain ⟨a_1, e1, w_1⟩ := (opens_int Try.underlying3 cells3).opens enc W n _ _ f1 u1
    replace e1 : [v1] = [.int .i64 a_1] := e1
    simp only [List.cons.injEq, and_true] at e1
    obtain rfl := e1
    obtain ⟨l_2, ⟨A_2, c_2, e2, hc_2, hr_2⟩, w_2⟩ := (opens_slice Try.underlying129 cells129 opens152).opens enc W n _ _ f2 u2
    simp only [List.cons.injEq, and_true] at e2
    obtain rfl := e2
    obtain ⟨a_3, e3, w_3⟩ := (opens_string Try.underlying9 cells9).opens enc W n _ _ f3 u3
    replace e3 : [v3] = [.string a_3] := e3
    simp only [List.cons.injEq, and_true] at e3
    obtain rfl := e3
    exact ⟨a_0, a_1, A_2, c_2, l_2, a_3, rfl, w_0, w_1, hr_2, hc_2, w_2, w_3⟩
def G131 (x : S131) : Prop := ((Lit.int .i64 x.f0).wf = true) ∧ ((Lit.int .i64 x.f1).wf = true) ∧ (x.f2.length * Try.prog.bytesOf 152 ≤ 140737488351232 ∧ x.f2.length ≤ 9223372036854775807 ∧ ∀ q ∈ x.f2, G152 q) ∧ (x.f3.size ≤ 140737488351232)
theorem opens131 : Opens Try.prog 131 k131 G131 where
  sz := cells131
  opens := by
    intro H enc W fuel cs x h hw
    obtain ⟨a_0, a_1, A_2, c_2, l_2, a_3, rfl, w_0, w_1, hr_2, hc_2, w_2, w_3⟩ := op131 enc W fuel cs x h hw
    exact ⟨(⟨a_0, a_1, l_2, a_3⟩ : S131), k131_mk W _ hc_2 hr_2, ⟨w_0, w_1, w_2, w_3⟩⟩
set_option maxRecDepth 100000 in
theorem op54 {H : Type} (enc : TypeId × Value → H) (W : World) (fuel : Nat) (cs : List Value) (x : DataW H × List MemPlace)
    (h : DataW.trod enc Try.prog W 0 (fun _ => true) true fuel 54 cs = some x) (hw : ∀ n ∈ x.1.weights Try.prog 54, n ≤ reachBytes) :
    ∃ (a_0 : Int) (a_1 : ByteArray) (a_2_0 : Int) (a_2_1 : Int) (a_3 : Int) (A_4 : Option Addr) (c_4 : Nat) (l_4 : List (S131)) (A_5 : Option Addr) (c_5 : Nat) (l_5 : List (Int)), cs = [.int .i64 a_0, .string a_1, .int .i64 a_2_0, .int .i64 a_2_1, .int .i64 a_3, .slice A_4 l_4.length c_4, .slice A_5 l_5.length c_5] ∧ ((Lit.int .i64 a_0).wf = true) ∧ (a_1.size ≤ 140737488351232) ∧ ((Lit.int .i64 a_2_0).wf = true) ∧ ((Lit.int .i64 a_2_1).wf = true) ∧ ((Lit.int .i64 a_3).wf = true) ∧ Kd.C k131 W A_4 l_4.length l_4 ∧ l_4.length ≤ c_4 ∧ (l_4.length * Try.prog.bytesOf 131 ≤ 140737488351232 ∧ l_4.length ≤ 9223372036854775807 ∧ ∀ q ∈ l_4, G131 q) ∧ Kd.C (Kd.int .i64) W A_5 l_5.length l_5 ∧ l_5.length ≤ c_5 ∧ (l_5.length * Try.prog.bytesOf 3 ≤ 140737488351232 ∧ l_5.length ≤ 9223372036854775807 ∧ ∀ q ∈ l_5, (Lit.int .i64 q).wf = true) := by
  obtain ⟨xs, n, _, rfl, hlen, hxl, hf⟩ := DataW.trod_struct Try.underlying54 h
  rw [cells54] at hlen
  match cs, hlen, xs, hxl, hf, hw with
  | [v0, v1, v2, v3, v4, v5, v6], _, [y0, y1, y2, y3, y4, y5], _, hf, hw =>
    have f0 := hf 0 _ rfl
    change DataW.trod enc Try.prog W 0 (fun _ => true) true n 3 (([v0, v1, v2, v3, v4, v5, v6].drop 0).take (Try.prog.cellsOf 3)) = some y0 at f0
    rw [cells3] at f0
    replace f0 : DataW.trod enc Try.prog W 0 (fun _ => true) true n 3 [v0] = some y0 := f0
    have u0 : ∀ q ∈ y0.1.weights Try.prog 3, q ≤ reachBytes := fun q hq => hw q (by
      simp only [DataW.weights, Try.underlying54]
      exact DataW.weights_mem_each (j := 0) rfl rfl q hq)
    have f1 := hf 1 _ rfl
    change DataW.trod enc Try.prog W 0 (fun _ => true) true n 9 (([v0, v1, v2, v3, v4, v5, v6].drop 1).take (Try.prog.cellsOf 9)) = some y1 at f1
    rw [cells9] at f1
    replace f1 : DataW.trod enc Try.prog W 0 (fun _ => true) true n 9 [v1] = some y1 := f1
    have u1 : ∀ q ∈ y1.1.weights Try.prog 9, q ≤ reachBytes := fun q hq => hw q (by
      simp only [DataW.weights, Try.underlying54]
      exact DataW.weights_mem_each (j := 1) rfl rfl q hq)
    have f2 := hf 2 _ rfl
    change DataW.trod enc Try.prog W 0 (fun _ => true) true n 51 (([v0, v1, v2, v3, v4, v5, v6].drop 2).take (Try.prog.cellsOf 51)) = some y2 at f2
    rw [cells51] at f2
    replace f2 : DataW.trod enc Try.prog W 0 (fun _ => true) true n 51 [v2, v3] = some y2 := f2
    have u2 : ∀ q ∈ y2.1.weights Try.prog 51, q ≤ reachBytes := fun q hq => hw q (by
      simp only [DataW.weights, Try.underlying54]
      exact DataW.weights_mem_each (j := 2) rfl rfl q hq)
    have f3 := hf 3 _ rfl
    change DataW.trod enc Try.prog W 0 (fun _ => true) true n 3 (([v0, v1, v2, v3, v4, v5, v6].drop 4).take (Try.prog.cellsOf 3)) = some y3 at f3
    rw [cells3] at f3
    replace f3 : DataW.trod enc Try.prog W 0 (fun _ => true) true n 3 [v4] = some y3 := f3
    have u3 : ∀ q ∈ y3.1.weights Try.prog 3, q ≤ reachBytes := fun q hq => hw q (by
      simp only [DataW.weights, Try.underlying54]
      exact DataW.weights_mem_each (j := 3) rfl rfl q hq)
    have f4 := hf 4 _ rfl
    change DataW.trod enc Try.prog W 0 (fun _ => true) true n 52 (([v0, v1, v2, v3, v4, v5, v6].drop 5).take (Try.prog.cellsOf 52)) = some y4 at f4
    rw [cells52] at f4
    replace f4 : DataW.trod enc Try.prog W 0 (fun _ => true) true n 52 [v5] = some y4 := f4
    have u4 : ∀ q ∈ y4.1.weights Try.prog 52, q ≤ reachBytes := fun q hq => hw q (by
      simp only [DataW.weights, Try.underlying54]
      exact DataW.weights_mem_each (j := 4) rfl rfl q hq)
    have f5 := hf 5 _ rfl
    change DataW.trod enc Try.prog W 0 (fun _ => true) true n 31 (([v0, v1, v2, v3, v4, v5, v6].drop 6).take (Try.prog.cellsOf 31)) = some y5 at f5
    rw [cells31] at f5
    replace f5 : DataW.trod enc Try.prog W 0 (fun _ => true) true n 31 [v6] = some y5 := f5
    have u5 : ∀ q ∈ y5.1.weights Try.prog 31, q ≤ reachBytes := fun q hq => hw q (by
      simp only [DataW.weights, Try.underlying54]
      exact DataW.weights_mem_each (j := 5) rfl rfl q hq)
    obtain ⟨a_0, e0, w_0⟩ := (opens_int Try.underlying3 cells3).opens enc W n _ _ f0 u0
    replace e0 : [v0] = [.int .i64 a_0] := e0
    simp only [List.cons.injEq, and_true] at e0
    obtain rfl := e0
    obtain ⟨a_1, e1, w_1⟩ := (opens_string Try.underlying9 cells9).opens enc W n _ _ f1 u1
    replace e1 : [v1] = [.string a_1] := e1
    simp only [List.cons.injEq, and_true] at e1
    obtain rfl := e1
    obtain ⟨a_2_0, a_2_1, e2, w_2_0, w_2_1⟩ := op51 enc W n _ _ f2 u2
    simp only [List.cons.injEq, and_true] at e2
    obtain ⟨rfl, rfl⟩ := e2
    obtain ⟨a_3, e3, w_3⟩ := (opens_int Try.underlying3 cells3).opens enc W n _ _ f3 u3
    replace e3 : [v4] = [.int .i64 a_3] := e3
    simp only [List.cons.injEq, and_true] at e3
    obtain rfl := e3
    obtain ⟨l_4, ⟨A_4, c_4, e4, hc_4, hr_4⟩, w_4⟩ := (opens_slice Try.underlying52 cells52 opens131).opens enc W n _ _ f4 u4
    simp only [List.cons.injEq, and_true] at e4
    obtain rfl := e4
    obtain ⟨l_5, ⟨A_5, c_5, e5, hc_5, hr_5⟩, w_5⟩ := (opens_slice Try.underlying31 cells31 (opens_int Try.underlying3 cells3)).opens enc W n _ _ f5 u5
    simp only [List.cons.injEq, and_true] at e5
    obtain rfl := e5
    exact ⟨a_0, a_1, a_2_0, a_2_1, a_3, A_4, c_4, l_4, A_5, c_5, l_5, rfl, w_0, w_1, w_2_0, w_2_1, w_3, hr_4, hc_4, w_4, hr_5, hc_5, w_5⟩
def laws_FnExactBoxOk.Pure : Prop := ∀ (a0_0 : Int) (a0_1 : ByteArray) (a0_2_0 : Int) (a0_2_1 : Int) (a0_3 : Int) (l0_4 : List (S131)) (l0_5 : List (Int)), ((Lit.int .i64 a0_0).wf = true) → (a0_1.size ≤ 140737488351232) → ((Lit.int .i64 a0_2_0).wf = true) → ((Lit.int .i64 a0_2_1).wf = true) → ((Lit.int .i64 a0_3).wf = true) → (l0_4.length * Try.prog.bytesOf 131 ≤ 140737488351232 ∧ l0_4.length ≤ 9223372036854775807 ∧ ∀ q ∈ l0_4, G131 q) → (l0_5.length * Try.prog.bytesOf 3 ≤ 140737488351232 ∧ l0_5.length ≤ 9223372036854775807 ∧ ∀ q ∈ l0_5, (Lit.int .i64 q).wf = true) → ∃ k, laws_FnExactBoxOk.f k a0_0 a0_1 a0_2_0 a0_2_1 a0_3 l0_4 l0_5 = some true
theorem laws_FnExactBoxOk.walk (P : laws_FnExactBoxOk.Pure) (a0_0 : Int) (a0_1 : ByteArray) (a0_2_0 : Int) (a0_2_1 : Int) (a0_3 : Int) (A0_4 : Option Addr) (c0_4 : Nat) (l0_4 : List (S131)) (A0_5 : Option Addr) (c0_5 : Nat) (l0_5 : List (Int)) (W : World) (w0_0 : ((Lit.int .i64 a0_0).wf = true)) (w0_1 : (a0_1.size ≤ 140737488351232)) (w0_2_0 : ((Lit.int .i64 a0_2_0).wf = true)) (w0_2_1 : ((Lit.int .i64 a0_2_1).wf = true)) (w0_3 : ((Lit.int .i64 a0_3).wf = true)) (hr0_4 : Kd.C k131 W A0_4 l0_4.length l0_4) (hc0_4 : l0_4.length ≤ c0_4) (w0_4 : (l0_4.length * Try.prog.bytesOf 131 ≤ 140737488351232 ∧ l0_4.length ≤ 9223372036854775807 ∧ ∀ q ∈ l0_4, G131 q)) (hr0_5 : Kd.C (Kd.int .i64) W A0_5 l0_5.length l0_5) (hc0_5 : l0_5.length ≤ c0_5) (w0_5 : (l0_5.length * Try.prog.bytesOf 3 ≤ 140737488351232 ∧ l0_5.length ≤ 9223372036854775807 ∧ ∀ q ∈ l0_5, (Lit.int .i64 q).wf = true)) :
    Calls Try.prog 8 #[.agg #[.int .i64 a0_0, .string a0_1, .int .i64 a0_2_0, .int .i64 a0_2_1, .int .i64 a0_3, .slice A0_4 l0_4.length c0_4, .slice A0_5 l0_5.length c0_5]] W fun e w' => e = .returned (.bool true) ∧ Below W.heap.size W w' := by
  obtain ⟨k, h⟩ := P a0_0 a0_1 a0_2_0 a0_2_1 a0_3 l0_4 l0_5 w0_0 w0_1 w0_2_0 w0_2_1 w0_3 w0_4 w0_5
  exact laws_FnExactBoxOk.calls k a0_0 a0_1 a0_2_0 a0_2_1 a0_3 A0_4 c0_4 l0_4 A0_5 c0_5 l0_5 true W hr0_4 hc0_4 hr0_5 hc0_5 h
end Go.Proofs.Ytjlffencbaifeaa.PFnExactBoxOk
