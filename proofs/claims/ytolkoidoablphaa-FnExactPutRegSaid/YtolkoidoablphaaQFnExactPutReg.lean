/- What the arguments of the law FnExactPutReg are, opened out of their data; its pure statement and its walk. Written by this session's rowgen.py. -/
import Derived.Test.YtolkoidoablphaaPFnExactPutRegx2
import Derived.Test.YtolkoidoablphaaRowLib
namespace Go.Proofs.Ytolkoidoablphaa.PFnExactPutReg
open Go.RowKit Go.Proofs.YtolkoidoablphaaW.PrintWords Go.Proofs.Ytolkoidoablphaa.RowLib
set_option linter.unusedVariables false
set_option linter.unusedSimpArgs false
theorem cells3 : Try.prog.cellsOf 3 = 1 := by kernel_rfl
theorem cells26 : Try.prog.cellsOf 26 = 2 := by kernel_rfl
theorem cells28 : Try.prog.cellsOf 28 = 3 := by kernel_rfl
theorem op26 {H : Type} (enc : TypeId × Value → H) (W : World) (fuel : Nat) (cs : List Value) (x : DataW H × List MemPlace)
    (h : DataW.trod enc Try.prog W 0 (fun _ => true) true fuel 26 cs = some x) (hw : ∀ n ∈ x.1.weights Try.prog 26, n ≤ reachBytes) :
    ∃ (a_0 : Int) (a_1 : Int), cs = [.int .i64 a_0, .int .i64 a_1] ∧ ((Lit.int .i64 a_0).wf = true) ∧ ((Lit.int .i64 a_1).wf = true) := by
  obtain ⟨xs, n, _, rfl, hlen, hxl, hf⟩ := DataW.trod_struct Try.underlying26 h
  rw [cells26] at hlen
  match cs, hlen, xs, hxl, hf, hw with
  | [v0, v1], _, [y0, y1], _, hf, hw =>
    have f0 := hf 0 _ rfl
    change DataW.trod enc Try.prog W 0 (fun _ => true) true n 3 (([v0, v1].drop 0).take (Try.prog.cellsOf 3)) = some y0 at f0
    rw [cells3] at f0
    replace f0 : DataW.trod enc Try.prog W 0 (fun _ => true) true n 3 [v0] = some y0 := f0
    have u0 : ∀ q ∈ y0.1.weights Try.prog 3, q ≤ reachBytes := fun q hq => hw q (by
      simp only [DataW.weights, Try.underlying26]
      exact DataW.weights_mem_each (j := 0) rfl rfl q hq)
    have f1 := hf 1 _ rfl
    change DataW.trod enc Try.prog W 0 (fun _ => true) true n 3 (([v0, v1].drop 1).take (Try.prog.cellsOf 3)) = some y1 at f1
    rw [cells3] at f1
    replace f1 : DataW.trod enc Try.prog W 0 (fun _ => true) true n 3 [v1] = some y1 := f1
    have u1 : ∀ q ∈ y1.1.weights Try.prog 3, q ≤ reachBytes := fun q hq => hw q (by
      simp only [DataW.weights, Try.underlying26]
      exact DataW.weights_mem_each (j := 1) rfl rfl q hq)
    obtain ⟨a_0, e0, w_0⟩ := (opens_int Try.underlying3 cells3).opens enc W n _ _ f0 u0
    replace e0 : [v0] = [.int .i64 a_0] := e0
    simp only [List.cons.injEq, and_true] at e0
    obtain rfl := e0
    obtain ⟨a_1, e1, w_1⟩ := (opens_int Try.underlying3 cells3).opens enc W n _ _ f1 u1
    replace e1 : [v1] = [.int .i64 a_1] := e1
    simp only [List.cons.injEq, and_true] at e1
    obtain rfl := e1
    exact ⟨a_0, a_1, rfl, w_0, w_1⟩
theorem op28 {H : Type} (enc : TypeId × Value → H) (W : World) (fuel : Nat) (cs : List Value) (x : DataW H × List MemPlace)
    (h : DataW.trod enc Try.prog W 0 (fun _ => true) true fuel 28 cs = some x) (hw : ∀ n ∈ x.1.weights Try.prog 28, n ≤ reachBytes) :
    ∃ (a_0 : Int) (a_1_0 : Int) (a_1_1 : Int), cs = [.int .i64 a_0, .int .i64 a_1_0, .int .i64 a_1_1] ∧ ((Lit.int .i64 a_0).wf = true) ∧ ((Lit.int .i64 a_1_0).wf = true) ∧ ((Lit.int .i64 a_1_1).wf = true) := by
  obtain ⟨xs, n, _, rfl, hlen, hxl, hf⟩ := DataW.trod_struct Try.underlying28 h
  rw [cells28] at hlen
  match cs, hlen, xs, hxl, hf, hw with
  | [v0, v1, v2], _, [y0, y1], _, hf, hw =>
    have f0 := hf 0 _ rfl
    change DataW.trod enc Try.prog W 0 (fun _ => true) true n 3 (([v0, v1, v2].drop 0).take (Try.prog.cellsOf 3)) = some y0 at f0
    rw [cells3] at f0
    replace f0 : DataW.trod enc Try.prog W 0 (fun _ => true) true n 3 [v0] = some y0 := f0
    have u0 : ∀ q ∈ y0.1.weights Try.prog 3, q ≤ reachBytes := fun q hq => hw q (by
      simp only [DataW.weights, Try.underlying28]
      exact DataW.weights_mem_each (j := 0) rfl rfl q hq)
    have f1 := hf 1 _ rfl
    change DataW.trod enc Try.prog W 0 (fun _ => true) true n 26 (([v0, v1, v2].drop 1).take (Try.prog.cellsOf 26)) = some y1 at f1
    rw [cells26] at f1
    replace f1 : DataW.trod enc Try.prog W 0 (fun _ => true) true n 26 [v1, v2] = some y1 := f1
    have u1 : ∀ q ∈ y1.1.weights Try.prog 26, q ≤ reachBytes := fun q hq => hw q (by
      simp only [DataW.weights, Try.underlying28]
      exact DataW.weights_mem_each (j := 1) rfl rfl q hq)
    obtain ⟨a_0, e0, w_0⟩ := (opens_int Try.underlying3 cells3).opens enc W n _ _ f0 u0
    replace e0 : [v0] = [.int .i64 a_0] := e0
    simp only [List.cons.injEq, and_true] at e0
    obtain rfl := e0
    obtain ⟨a_1_0, a_1_1, e1, w_1_0, w_1_1⟩ := op26 enc W n _ _ f1 u1
    simp only [List.cons.injEq, and_true] at e1
    obtain ⟨rfl, rfl⟩ := e1
    exact ⟨a_0, a_1_0, a_1_1, rfl, w_0, w_1_0, w_1_1⟩
def laws_FnExactPutReg.Pure : Prop := ∀ (a0_0 : Int) (a0_1_0 : Int) (a0_1_1 : Int) (a1 : Int) (a2_0 : Int) (a2_1 : Int), ((Lit.int .i64 a0_0).wf = true) → ((Lit.int .i64 a0_1_0).wf = true) → ((Lit.int .i64 a0_1_1).wf = true) → ((Lit.int .i64 a1).wf = true) → ((Lit.int .i64 a2_0).wf = true) → ((Lit.int .i64 a2_1).wf = true) → laws_FnExactPutReg.f a0_0 a0_1_0 a0_1_1 a1 a2_0 a2_1 = some true
theorem laws_FnExactPutReg.walk (P : laws_FnExactPutReg.Pure) (a0_0 : Int) (a0_1_0 : Int) (a0_1_1 : Int) (a1 : Int) (a2_0 : Int) (a2_1 : Int) (W : World) (w0_0 : ((Lit.int .i64 a0_0).wf = true)) (w0_1_0 : ((Lit.int .i64 a0_1_0).wf = true)) (w0_1_1 : ((Lit.int .i64 a0_1_1).wf = true)) (w1 : ((Lit.int .i64 a1).wf = true)) (w2_0 : ((Lit.int .i64 a2_0).wf = true)) (w2_1 : ((Lit.int .i64 a2_1).wf = true)) :
    Calls Try.prog 8 #[.agg #[.int .i64 a0_0, .int .i64 a0_1_0, .int .i64 a0_1_1], .int .i64 a1, .agg #[.int .i64 a2_0, .int .i64 a2_1]] W fun e w' => e = .returned (.bool true) ∧ Below W.heap.size W w' := by
  have h := P a0_0 a0_1_0 a0_1_1 a1 a2_0 a2_1 w0_0 w0_1_0 w0_1_1 w1 w2_0 w2_1
  exact laws_FnExactPutReg.calls a0_0 a0_1_0 a0_1_1 a1 a2_0 a2_1 true W h
end Go.Proofs.Ytolkoidoablphaa.PFnExactPutReg
