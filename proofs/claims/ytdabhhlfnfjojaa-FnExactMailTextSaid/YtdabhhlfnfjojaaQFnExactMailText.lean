/- What the arguments of the law FnExactMailText are, opened out of their data; its pure statement and its walk. Written by this session's rowgen.py. -/
import Derived.Test.YtdabhhlfnfjojaaPFnExactMailTextx5
import Derived.Test.YtdabhhlfnfjojaaRowLib
namespace Go.Proofs.Ytdabhhlfnfjojaa.PFnExactMailText
open Go.RowKit Go.Proofs.YtdabhhlfnfjojaaW.PrintWords Go.Proofs.Ytdabhhlfnfjojaa.RowLib
set_option linter.unusedVariables false
set_option linter.unusedSimpArgs false
theorem cells3 : Try.prog.cellsOf 3 = 1 := by kernel_rfl
theorem cells66 : Try.prog.cellsOf 66 = 2 := by kernel_rfl
theorem cells116 : Try.prog.cellsOf 116 = 3 := by kernel_rfl
theorem cells48 : Try.prog.cellsOf 48 = 1 := by kernel_rfl
theorem cells9 : Try.prog.cellsOf 9 = 1 := by kernel_rfl
theorem cells50 : Try.prog.cellsOf 50 = 4 := by kernel_rfl
set_option maxRecDepth 100000 in
theorem op66 {H : Type} (enc : TypeId × Value → H) (W : World) (fuel : Nat) (cs : List Value) (x : DataW H × List MemPlace)
    (h : DataW.trod enc Try.prog W 0 (fun _ => true) true fuel 66 cs = some x) (hw : ∀ n ∈ x.1.weights Try.prog 66, n ≤ reachBytes) :
    ∃ (a_0 : Int) (a_1 : Int), cs = [.int .i64 a_0, .int .i64 a_1] ∧ ((Lit.int .i64 a_0).wf = true) ∧ ((Lit.int .i64 a_1).wf = true) := by
  obtain ⟨xs, n, _, rfl, hlen, hxl, hf⟩ := DataW.trod_struct Try.underlying66 h
  rw [cells66] at hlen
  match cs, hlen, xs, hxl, hf, hw with
  | [v0, v1], _, [y0, y1], _, hf, hw =>
    have f0 := hf 0 _ rfl
    change DataW.trod enc Try.prog W 0 (fun _ => true) true n 3 (([v0, v1].drop 0).take (Try.prog.cellsOf 3)) = some y0 at f0
    rw [cells3] at f0
    replace f0 : DataW.trod enc Try.prog W 0 (fun _ => true) true n 3 [v0] = some y0 := f0
    have u0 : ∀ q ∈ y0.1.weights Try.prog 3, q ≤ reachBytes := fun q hq => hw q (by
      simp only [DataW.weights, Try.underlying66]
      exact DataW.weights_mem_each (j := 0) rfl rfl q hq)
    have f1 := hf 1 _ rfl
    change DataW.trod enc Try.prog W 0 (fun _ => true) true n 3 (([v0, v1].drop 1).take (Try.prog.cellsOf 3)) = some y1 at f1
    rw [cells3] at f1
    replace f1 : DataW.trod enc Try.prog W 0 (fun _ => true) true n 3 [v1] = some y1 := f1
    have u1 : ∀ q ∈ y1.1.weights Try.prog 3, q ≤ reachBytes := fun q hq => hw q (by
      simp only [DataW.weights, Try.underlying66]
      exact DataW.weights_mem_each (j := 1) rfl rfl q hq)
    obtain ⟨a_0, e0, w_0⟩ := (opens_int Try.underlying3 cells3).opens enc W n _ _ f0 u0
    replace e0 : [v0] = [.int .i64 a_0] := e0
    simp only [List.cons.injEq, and_true] at e0
    obtain rfl := e0
    obtain ⟨a_1, e1, w_1⟩ := (opens_int Try.underlying3 cells3).opens enc W n _ _ f1 u1
    replace e1 : [v1] = [.int .i64 a_1] := e1
    simp only [List.cons.injEq, and_true] at e1
    obtain rfl := e1
    exact ⟨a_0, a_1, rfl, w_0, w_1⟩
set_option maxRecDepth 100000 in
theorem op116 {H : Type} (enc : TypeId × Value → H) (W : World) (fuel : Nat) (cs : List Value) (x : DataW H × List MemPlace)
    (h : DataW.trod enc Try.prog W 0 (fun _ => true) true fuel 116 cs = some x) (hw : ∀ n ∈ x.1.weights Try.prog 116, n ≤ reachBytes) :
    ∃ (a_0 : Int) (a_1_0 : Int) (a_1_1 : Int), cs = [.int .i64 a_0, .int .i64 a_1_0, .int .i64 a_1_1] ∧ ((Lit.int .i64 a_0).wf = true) ∧ ((Lit.int .i64 a_1_0).wf = true) ∧ ((Lit.int .i64 a_1_1).wf = true) := by
  obtain ⟨xs, n, _, rfl, hlen, hxl, hf⟩ := DataW.trod_struct Try.underlying116 h
  rw [cells116] at hlen
  match cs, hlen, xs, hxl, hf, hw with
  | [v0, v1, v2], _, [y0, y1], _, hf, hw =>
    have f0 := hf 0 _ rfl
    change DataW.trod enc Try.prog W 0 (fun _ => true) true n 3 (([v0, v1, v2].drop 0).take (Try.prog.cellsOf 3)) = some y0 at f0
    rw [cells3] at f0
    replace f0 : DataW.trod enc Try.prog W 0 (fun _ => true) true n 3 [v0] = some y0 := f0
    have u0 : ∀ q ∈ y0.1.weights Try.prog 3, q ≤ reachBytes := fun q hq => hw q (by
      simp only [DataW.weights, Try.underlying116]
      exact DataW.weights_mem_each (j := 0) rfl rfl q hq)
    have f1 := hf 1 _ rfl
    change DataW.trod enc Try.prog W 0 (fun _ => true) true n 66 (([v0, v1, v2].drop 1).take (Try.prog.cellsOf 66)) = some y1 at f1
    rw [cells66] at f1
    replace f1 : DataW.trod enc Try.prog W 0 (fun _ => true) true n 66 [v1, v2] = some y1 := f1
    have u1 : ∀ q ∈ y1.1.weights Try.prog 66, q ≤ reachBytes := fun q hq => hw q (by
      simp only [DataW.weights, Try.underlying116]
      exact DataW.weights_mem_each (j := 1) rfl rfl q hq)
    obtain ⟨a_0, e0, w_0⟩ := (opens_int Try.underlying3 cells3).opens enc W n _ _ f0 u0
    replace e0 : [v0] = [.int .i64 a_0] := e0
    simp only [List.cons.injEq, and_true] at e0
    obtain rfl := e0
    obtain ⟨a_1_0, a_1_1, e1, w_1_0, w_1_1⟩ := op66 enc W n _ _ f1 u1
    simp only [List.cons.injEq, and_true] at e1
    obtain ⟨rfl, rfl⟩ := e1
    exact ⟨a_0, a_1_0, a_1_1, rfl, w_0, w_1_0, w_1_1⟩
def G116 (x : S116) : Prop := ((Lit.int .i64 x.f0).wf = true) ∧ (((Lit.int .i64 x.f1.f0).wf = true) ∧ ((Lit.int .i64 x.f1.f1).wf = true))
theorem opens116 : Opens Try.prog 116 k116 G116 where
  sz := cells116
  opens := by
    intro H enc W fuel cs x h hw
    obtain ⟨a_0, a_1_0, a_1_1, rfl, w_0, w_1_0, w_1_1⟩ := op116 enc W fuel cs x h hw
    exact ⟨(⟨a_0, (⟨a_1_0, a_1_1⟩ : S66)⟩ : S116), k116_mk W _ , ⟨w_0, ⟨w_1_0, w_1_1⟩⟩⟩
set_option maxRecDepth 100000 in
theorem op50 {H : Type} (enc : TypeId × Value → H) (W : World) (fuel : Nat) (cs : List Value) (x : DataW H × List MemPlace)
    (h : DataW.trod enc Try.prog W 0 (fun _ => true) true fuel 50 cs = some x) (hw : ∀ n ∈ x.1.weights Try.prog 50, n ≤ reachBytes) :
    ∃ (a_0 : Int) (a_1 : Int) (A_2 : Option Addr) (c_2 : Nat) (l_2 : List (S116)) (a_3 : ByteArray), cs = [.int .i64 a_0, .int .i64 a_1, .slice A_2 l_2.length c_2, .string a_3] ∧ ((Lit.int .i64 a_0).wf = true) ∧ ((Lit.int .i64 a_1).wf = true) ∧ Kd.C k116 W A_2 l_2.length l_2 ∧ l_2.length ≤ c_2 ∧ (l_2.length * Try.prog.bytesOf 116 ≤ 140737488351232 ∧ l_2.length ≤ 9223372036854775807 ∧ ∀ x ∈ l_2, G116 x) ∧ (a_3.size ≤ 140737488351232) := by
  obtain ⟨xs, n, _, rfl, hlen, hxl, hf⟩ := DataW.trod_struct Try.underlying50 h
  rw [cells50] at hlen
  match cs, hlen, xs, hxl, hf, hw with
  | [v0, v1, v2, v3], _, [y0, y1, y2, y3], _, hf, hw =>
    have f0 := hf 0 _ rfl
    change DataW.trod enc Try.prog W 0 (fun _ => true) true n 3 (([v0, v1, v2, v3].drop 0).take (Try.prog.cellsOf 3)) = some y0 at f0
    rw [cells3] at f0
    replace f0 : DataW.trod enc Try.prog W 0 (fun _ => true) true n 3 [v0] = some y0 := f0
    have u0 : ∀ q ∈ y0.1.weights Try.prog 3, q ≤ reachBytes := fun q hq => hw q (by
      simp only [DataW.weights, Try.underlying50]
      exact DataW.weights_mem_each (j := 0) rfl rfl q hq)
    have f1 := hf 1 _ rfl
    change DataW.trod enc Try.prog W 0 (fun _ => true) true n 3 (([v0, v1, v2, v3].drop 1).take (Try.prog.cellsOf 3)) = some y1 at f1
    rw [cells3] at f1
    replace f1 : DataW.trod enc Try.prog W 0 (fun _ => true) true n 3 [v1] = some y1 := f1
    have u1 : ∀ q ∈ y1.1.weights Try.prog 3, q ≤ reachBytes := fun q hq => hw q (by
      simp only [DataW.weights, Try.underlying50]
      exact DataW.weights_mem_each (j := 1) rfl rfl q hq)
    have f2 := hf 2 _ rfl
    change DataW.trod enc Try.prog W 0 (fun _ => true) true n 48 (([v0, v1, v2, v3].drop 2).take (Try.prog.cellsOf 48)) = some y2 at f2
    rw [cells48] at f2
    replace f2 : DataW.trod enc Try.prog W 0 (fun _ => true) true n 48 [v2] = some y2 := f2
    have u2 : ∀ q ∈ y2.1.weights Try.prog 48, q ≤ reachBytes := fun q hq => hw q (by
      simp only [DataW.weights, Try.underlying50]
      exact DataW.weights_mem_each (j := 2) rfl rfl q hq)
    have f3 := hf 3 _ rfl
    change DataW.trod enc Try.prog W 0 (fun _ => true) true n 9 (([v0, v1, v2, v3].drop 3).take (Try.prog.cellsOf 9)) = some y3 at f3
    rw [cells9] at f3
    replace f3 : DataW.trod enc Try.prog W 0 (fun _ => true) true n 9 [v3] = some y3 := f3
    have u3 : ∀ q ∈ y3.1.weights Try.prog 9, q ≤ reachBytes := fun q hq => hw q (by
      simp only [DataW.weights, Try.underlying50]
      exact DataW.weights_mem_each (j := 3) rfl rfl q hq)
    obtain ⟨a_0, e0, w_0⟩ := (opens_int Try.underlying3 cells3).opens enc W n _ _ f0 u0
    replace e0 : [v0] = [.int .i64 a_0] := e0
    simp only [List.cons.injEq, and_true] at e0
    obtain rfl := e0
    obtain ⟨a_1, e1, w_1⟩ := (opens_int Try.underlying3 cells3).opens enc W n _ _ f1 u1
    replace e1 : [v1] = [.int .i64 a_1] := e1
    simp only [List.cons.injEq, and_true] at e1
    obtain rfl := e1
    obtain ⟨l_2, ⟨A_2, c_2, e2, hc_2, hr_2⟩, w_2⟩ := (opens_slice Try.underlying48 cells48 opens116).opens enc W n _ _ f2 u2
    simp only [List.cons.injEq, and_true] at e2
    obtain rfl := e2
    obtain ⟨a_3, e3, w_3⟩ := (opens_string Try.underlying9 cells9).opens enc W n _ _ f3 u3
    replace e3 : [v3] = [.string a_3] := e3
    simp only [List.cons.injEq, and_true] at e3
    obtain rfl := e3
    exact ⟨a_0, a_1, A_2, c_2, l_2, a_3, rfl, w_0, w_1, hr_2, hc_2, w_2, w_3⟩
def laws_FnExactMailText.Pure : Prop := ∀ (a0_0 : Int) (a0_1 : Int) (l0_2 : List (S116)) (a0_3 : ByteArray), ((Lit.int .i64 a0_0).wf = true) → ((Lit.int .i64 a0_1).wf = true) → (l0_2.length * Try.prog.bytesOf 116 ≤ 140737488351232 ∧ l0_2.length ≤ 9223372036854775807 ∧ ∀ x ∈ l0_2, G116 x) → (a0_3.size ≤ 140737488351232) → ∃ k, laws_FnExactMailText.f k a0_0 a0_1 l0_2 a0_3 = some true
theorem laws_FnExactMailText.walk (P : laws_FnExactMailText.Pure) (a0_0 : Int) (a0_1 : Int) (A0_2 : Option Addr) (c0_2 : Nat) (l0_2 : List (S116)) (a0_3 : ByteArray) (W : World) (w0_0 : ((Lit.int .i64 a0_0).wf = true)) (w0_1 : ((Lit.int .i64 a0_1).wf = true)) (hr0_2 : Kd.C k116 W A0_2 l0_2.length l0_2) (hc0_2 : l0_2.length ≤ c0_2) (w0_2 : (l0_2.length * Try.prog.bytesOf 116 ≤ 140737488351232 ∧ l0_2.length ≤ 9223372036854775807 ∧ ∀ x ∈ l0_2, G116 x)) (w0_3 : (a0_3.size ≤ 140737488351232)) :
    Calls Try.prog 11 #[.agg #[.int .i64 a0_0, .int .i64 a0_1, .slice A0_2 l0_2.length c0_2, .string a0_3]] W fun e w' => e = .returned (.bool true) ∧ Below W.heap.size W w' := by
  obtain ⟨k, h⟩ := P a0_0 a0_1 l0_2 a0_3 w0_0 w0_1 w0_2 w0_3
  exact laws_FnExactMailText.calls k a0_0 a0_1 A0_2 c0_2 l0_2 a0_3 true W hr0_2 hc0_2 h
end Go.Proofs.Ytdabhhlfnfjojaa.PFnExactMailText
