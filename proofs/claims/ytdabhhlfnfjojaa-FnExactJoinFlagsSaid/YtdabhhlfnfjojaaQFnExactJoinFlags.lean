/- What the arguments of the law FnExactJoinFlags are, opened out of their data; its pure statement and its walk. Written by this session's rowgen.py. -/
import Derived.Test.YtdabhhlfnfjojaaPFnExactJoinFlagsx4
import Derived.Test.YtdabhhlfnfjojaaRowLib
namespace Go.Proofs.Ytdabhhlfnfjojaa.PFnExactJoinFlags
open Go.RowKit Go.Proofs.YtdabhhlfnfjojaaW.PrintWords Go.Proofs.Ytdabhhlfnfjojaa.RowLib
set_option linter.unusedVariables false
set_option linter.unusedSimpArgs false
theorem cells3 : Try.prog.cellsOf 3 = 1 := by kernel_rfl
theorem cells66 : Try.prog.cellsOf 66 = 2 := by kernel_rfl
theorem cells116 : Try.prog.cellsOf 116 = 3 := by kernel_rfl
theorem cells48 : Try.prog.cellsOf 48 = 1 := by kernel_rfl
set_option maxRecDepth 100000 in
theorem op66 {H : Type} (enc : TypeId × Value → H) (W : World) (fuel : Nat) (cs : List Value) (x : DataW H × List MemPlace)
    (h : DataW.trod enc Try.prog W 0 (fun _ => true) true fuel 66 cs = some x) (hw : ∀ n ∈ x.1.weights Try.prog 66, n ≤ reachBytes) :
    ∃ (a_0 : Int) (a_1 : Int), cs = [.int .i64 a_0, .int .i64 a_1] ∧ ((Lit.int .i64 a_0).wf = true) ∧ ((Lit.int .i64 a_1).wf = true) := by
  obtain ⟨xs, n, _, rfl, hlen, hxl, hf⟩ := DataW.trod_struct Try.underlying66 h
  rw [cells66] at hlen
  match cs, hlen, xs, hxl, hf, hw with
  | [v0, v1], _, [y0, y1], _, hf, hw =>
    have f0 := hf 0 _ rfl
    change DataW.trod enc Try.prog W 0 (fun _ => true) true n 3 (([v0, v1].drop 0).take (Try.prog.cellsOf 3)) = some y0 at f0
    rw [cells3] at f0
    replace f0 : DataW.trod enc Try.prog W 0 (fun _ => true) true n 3 [v0] = some y0 := f0
    have u0 : ∀ q ∈ y0.1.weights Try.prog 3, q ≤ reachBytes := fun q hq => hw q (by
      simp only [DataW.weights, Try.underlying66]
      exact DataW.weights_mem_each (j := 0) rfl rfl q hq)
    have f1 := hf 1 _ rfl
    change DataW.trod enc Try.prog W 0 (fun _ => true) true n 3 (([v0, v1].drop 1).take (Try.prog.cellsOf 3)) = some y1 at f1
    rw [cells3] at f1
    replace f1 : DataW.trod enc Try.prog W 0 (fun _ => true) true n 3 [v1] = some y1 := f1
    have u1 : ∀ q ∈ y1.1.weights Try.prog 3, q ≤ reachBytes := fun q hq => hw q (by
      simp only [DataW.weights, Try.underlying66]
      exact DataW.weights_mem_each (j := 1) rfl rfl q hq)
    obtain ⟨a_0, e0, w_0⟩ := (opens_int Try.underlying3 cells3).opens enc W n _ _ f0 u0
    replace e0 : [v0] = [.int .i64 a_0] := e0
    simp only [List.cons.injEq, and_true] at e0
    obtain rfl := e0
    obtain ⟨a_1, e1, w_1⟩ := (opens_int Try.underlying3 cells3).opens enc W n _ _ f1 u1
    replace e1 : [v1] = [.int .i64 a_1] := e1
    simp only [List.cons.injEq, and_true] at e1
    obtain rfl := e1
    exact ⟨a_0, a_1, rfl, w_0, w_1⟩
set_option maxRecDepth 100000 in
theorem op116 {H : Type} (enc : TypeId × Value → H) (W : World) (fuel : Nat) (cs : List Value) (x : DataW H × List MemPlace)
    (h : DataW.trod enc Try.prog W 0 (fun _ => true) true fuel 116 cs = some x) (hw : ∀ n ∈ x.1.weights Try.prog 116, n ≤ reachBytes) :
    ∃ (a_0 : Int) (a_1_0 : Int) (a_1_1 : Int), cs = [.int .i64 a_0, .int .i64 a_1_0, .int .i64 a_1_1] ∧ ((Lit.int .i64 a_0).wf = true) ∧ ((Lit.int .i64 a_1_0).wf = true) ∧ ((Lit.int .i64 a_1_1).wf = true) := by
  obtain ⟨xs, n, _, rfl, hlen, hxl, hf⟩ := DataW.trod_struct Try.underlying116 h
  rw [cells116] at hlen
  match cs, hlen, xs, hxl, hf, hw with
  | [v0, v1, v2], _, [y0, y1], _, hf, hw =>
    have f0 := hf 0 _ rfl
    change DataW.trod enc Try.prog W 0 (fun _ => true) true n 3 (([v0, v1, v2].drop 0).take (Try.prog.cellsOf 3)) = some y0 at f0
    rw [cells3] at f0
    replace f0 : DataW.trod enc Try.prog W 0 (fun _ => true) true n 3 [v0] = some y0 := f0
    have u0 : ∀ q ∈ y0.1.weights Try.prog 3, q ≤ reachBytes := fun q hq => hw q (by
      simp only [DataW.weights, Try.underlying116]
      exact DataW.weights_mem_each (j := 0) rfl rfl q hq)
    have f1 := hf 1 _ rfl
    change DataW.trod enc Try.prog W 0 (fun _ => true) true n 66 (([v0, v1, v2].drop 1).take (Try.prog.cellsOf 66)) = some y1 at f1
    rw [cells66] at f1
    replace f1 : DataW.trod enc Try.prog W 0 (fun _ => true) true n 66 [v1, v2] = some y1 := f1
    have u1 : ∀ q ∈ y1.1.weights Try.prog 66, q ≤ reachBytes := fun q hq => hw q (by
      simp only [DataW.weights, Try.underlying116]
      exact DataW.weights_mem_each (j := 1) rfl rfl q hq)
    obtain ⟨a_0, e0, w_0⟩ := (opens_int Try.underlying3 cells3).opens enc W n _ _ f0 u0
    replace e0 : [v0] = [.int .i64 a_0] := e0
    simp only [List.cons.injEq, and_true] at e0
    obtain rfl := e0
    obtain ⟨a_1_0, a_1_1, e1, w_1_0, w_1_1⟩ := op66 enc W n _ _ f1 u1
    simp only [List.cons.injEq, and_true] at e1
    obtain ⟨rfl, rfl⟩ := e1
    exact ⟨a_0, a_1_0, a_1_1, rfl, w_0, w_1_0, w_1_1⟩
def G116 (x : S116) : Prop := ((Lit.int .i64 x.f0).wf = true) ∧ (((Lit.int .i64 x.f1.f0).wf = true) ∧ ((Lit.int .i64 x.f1.f1).wf = true))
theorem opens116 : Opens Try.prog 116 k116 G116 where
  sz := cells116
  opens := by
    intro H enc W fuel cs x h hw
    obtain ⟨a_0, a_1_0, a_1_1, rfl, w_0, w_1_0, w_1_1⟩ := op116 enc W fuel cs x h hw
    exact ⟨(⟨a_0, (⟨a_1_0, a_1_1⟩ : S66)⟩ : S116), k116_mk W _ , ⟨w_0, ⟨w_1_0, w_1_1⟩⟩⟩
def laws_FnExactJoinFlags.Pure : Prop := ∀ (l0 : List (S116)) (l1 : List (S116)), (l0.length * Try.prog.bytesOf 116 ≤ 140737488351232 ∧ l0.length ≤ 9223372036854775807 ∧ ∀ x ∈ l0, G116 x) → (l1.length * Try.prog.bytesOf 116 ≤ 140737488351232 ∧ l1.length ≤ 9223372036854775807 ∧ ∀ x ∈ l1, G116 x) → ∃ k, laws_FnExactJoinFlags.f k l0 l1 = some true
theorem laws_FnExactJoinFlags.walk (P : laws_FnExactJoinFlags.Pure) (A0 : Option Addr) (c0 : Nat) (l0 : List (S116)) (A1 : Option Addr) (c1 : Nat) (l1 : List (S116)) (W : World) (hr0 : Kd.C k116 W A0 l0.length l0) (hc0 : l0.length ≤ c0) (w0 : (l0.length * Try.prog.bytesOf 116 ≤ 140737488351232 ∧ l0.length ≤ 9223372036854775807 ∧ ∀ x ∈ l0, G116 x)) (hr1 : Kd.C k116 W A1 l1.length l1) (hc1 : l1.length ≤ c1) (w1 : (l1.length * Try.prog.bytesOf 116 ≤ 140737488351232 ∧ l1.length ≤ 9223372036854775807 ∧ ∀ x ∈ l1, G116 x)) :
    Calls Try.prog 7 #[.slice A0 l0.length c0, .slice A1 l1.length c1] W fun e w' => e = .returned (.bool true) ∧ Below W.heap.size W w' := by
  obtain ⟨k, h⟩ := P l0 l1 w0 w1
  exact laws_FnExactJoinFlags.calls k A0 c0 l0 A1 c1 l1 true W hr0 hc0 hr1 hc1 h
end Go.Proofs.Ytdabhhlfnfjojaa.PFnExactJoinFlags
