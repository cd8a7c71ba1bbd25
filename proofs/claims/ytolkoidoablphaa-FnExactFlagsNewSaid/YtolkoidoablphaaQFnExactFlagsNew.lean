/- What the arguments of the law FnExactFlagsNew are, opened out of their data; its pure statement and its walk. Written by this session's rowgen.py. -/
import Derived.Test.YtolkoidoablphaaPFnExactFlagsNewx2
import Derived.Test.YtolkoidoablphaaRowLib
namespace Go.Proofs.Ytolkoidoablphaa.PFnExactFlagsNew
open Go.RowKit Go.Proofs.YtolkoidoablphaaW.PrintWords Go.Proofs.Ytolkoidoablphaa.RowLib
set_option linter.unusedVariables false
set_option linter.unusedSimpArgs false
theorem cells3 : Try.prog.cellsOf 3 = 1 := by kernel_rfl
theorem cells26 : Try.prog.cellsOf 26 = 2 := by kernel_rfl
set_option maxRecDepth 100000 in
theorem op26 {H : Type} (enc : TypeId × Value → H) (W : World) (fuel : Nat) (cs : List Value) (x : DataW H × List MemPlace)
    (h : DataW.trod enc Try.prog W 0 (fun _ => true) true fuel 26 cs = some x) (hw : ∀ n ∈ x.1.weights Try.prog 26, n ≤ reachBytes) :
    ∃ (a_0 : Int) (a_1 : Int), cs = [.int .i64 a_0, .int .i64 a_1] ∧ ((Lit.int .i64 a_0).wf = true) ∧ ((Lit.int .i64 a_1).wf = true) := by
  obtain ⟨xs, n, _, rfl, hlen, hxl, hf⟩ := DataW.trod_struct Try.underlying26 h
  rw [cells26] at hlen
  match cs, hlen, xs, hxl, hf, hw with
  | [v0, v1], _, [y0, y1], _, hf, hw =>
    have f0 := hf 0 _ rfl
    change DataW.trod enc Try.prog W 0 (fun _ => true) true n 3 (([v0, v1].drop 0).take (Try.prog.cellsOf 3)) = some y0 at f0
    rw [cells3] at f0
    replace f0 : DataW.trod enc Try.prog W 0 (fun _ => true) true n 3 [v0] = some y0 := f0
    have u0 : ∀ q ∈ y0.1.weights Try.prog 3, q ≤ reachBytes := fun q hq => hw q (by
      simp only [DataW.weights, Try.underlying26]
      exact DataW.weights_mem_each (j := 0) rfl rfl q hq)
    have f1 := hf 1 _ rfl
    change DataW.trod enc Try.prog W 0 (fun _ => true) true n 3 (([v0, v1].drop 1).take (Try.prog.cellsOf 3)) = some y1 at f1
    rw [cells3] at f1
    replace f1 : DataW.trod enc Try.prog W 0 (fun _ => true) true n 3 [v1] = some y1 := f1
    have u1 : ∀ q ∈ y1.1.weights Try.prog 3, q ≤ reachBytes := fun q hq => hw q (by
      simp only [DataW.weights, Try.underlying26]
      exact DataW.weights_mem_each (j := 1) rfl rfl q hq)
    obtain ⟨a_0, e0, w_0⟩ := (opens_int Try.underlying3 cells3).opens enc W n _ _ f0 u0
    replace e0 : [v0] = [.int .i64 a_0] := e0
    simp only [List.cons.injEq, and_true] at e0
    obtain rfl := e0
    obtain ⟨a_1, e1, w_1⟩ := (opens_int Try.underlying3 cells3).opens enc W n _ _ f1 u1
    replace e1 : [v1] = [.int .i64 a_1] := e1
    simp only [List.cons.injEq, and_true] at e1
    obtain rfl := e1
    exact ⟨a_0, a_1, rfl, w_0, w_1⟩
def laws_FnExactFlagsNew.Pure : Prop := ∀ (a0 : Int) (a1_0 : Int) (a1_1 : Int), ((Lit.int .i64 a0).wf = true) → ((Lit.int .i64 a1_0).wf = true) → ((Lit.int .i64 a1_1).wf = true) → ∃ k, laws_FnExactFlagsNew.f k a0 a1_0 a1_1 = some true
theorem laws_FnExactFlagsNew.walk (P : laws_FnExactFlagsNew.Pure) (a0 : Int) (a1_0 : Int) (a1_1 : Int) (W : World) (w0 : ((Lit.int .i64 a0).wf = true)) (w1_0 : ((Lit.int .i64 a1_0).wf = true)) (w1_1 : ((Lit.int .i64 a1_1).wf = true)) :
    Calls Try.prog 14 #[.int .i64 a0, .agg #[.int .i64 a1_0, .int .i64 a1_1]] W fun e w' => e = .returned (.bool true) ∧ Below W.heap.size W w' := by
  obtain ⟨k, h⟩ := P a0 a1_0 a1_1 w0 w1_0 w1_1
  exact laws_FnExactFlagsNew.calls k a0 a1_0 a1_1 true W h
end Go.Proofs.Ytolkoidoablphaa.PFnExactFlagsNew
