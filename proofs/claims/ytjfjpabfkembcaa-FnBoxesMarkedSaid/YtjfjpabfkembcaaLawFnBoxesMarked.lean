/- The row of the law FnBoxesMarked, out of its walk. Written by this session's hrow.py. -/
import Derived.Test.YtjfjpabfkembcaaRows
import Derived.Test.YtjfjpabfkembcaaLFnBoxesMarked
import Derived.Test.YtjfjpabfkembcaaHRow
import Derived.Test.YtjfjpabfkembcaaHFacts
import Derived.WalkKit
import Derived.ProofKit
import Derived.OpenShut
import Derived.ShutString
import Derived.ChangeOld
import Derived.Below
import Derived.SizedLaws
namespace Go.Proofs.Ytjfjpabfkembcaa.fnBoxesMarked
open Go.ChangeShapes Go.WideShapes Go.ChangeAt Go.RowKit Go.Proofs.Ytjfjpabfkembcaa.H
open Go.ChangeMaps (open_string shut_string)
set_option linter.unusedVariables false
theorem opens_byte : Opens Try.prog 5 1 rdByte (fun x => (Lit.int .u8 x).wf = true) := ⟨by kernel_rfl, by intro H enc W fuel cs x h _; obtain ⟨n, rfl, rfl, hw⟩ := DataW.trod_int Try.underlying5 h; exact ⟨n, rfl, hw⟩⟩
set_option maxRecDepth 100000 in
theorem lifted (os : Os) (started : os.Started) (H : Type) (enc : TypeId × Value → H) :
    ReturnsInHanded {} Try.checked os 6 .any (Rows.fnBoxesMarkedSpec.pre6 enc Try.prog Try.f6 Rows.fnBoxesMarkedRow.domain false) (Rows.fnBoxesMarkedSpec.post enc Try.prog Try.f6 false true false false) := by
  refine returnsInHanded_of_change_sized (C := Try.checked) own started (by kernel_rfl) Try.func6
    (ChangeSpec.witness6 (enc := enc) (C := Try.checked) false ⟨#[], #[.slice none 0 0], []⟩ 8 (by kernel_rfl) (by kernel_rfl) (by kernel_rfl) (by kernel_rfl)) ?_
  intro W base args ds gs before hval0 hW hcnd hsz0 _
  have hsz : (DataW.weightsEach Try.prog (Try.f6.params.toList ++ Rows.fnBoxesMarkedSpec.plain.varTypes Try.prog) (ds ++ gs)).all (· ≤ reachBytes) = true := hsz0
  have hval : ∀ (j : Nat) t v, Try.f6.params[j]? = some t → args[j]? = some v → Value.okWide Try.prog W .any base t v := hval0
  have hW' := hW
  obtain ⟨p, q, hA0, hV, rfl, hfz, hnd⟩ := hW
  have hA : DataW.TrodAll enc Try.prog W 0 (fun _ => true) true Try.f6.params.toList args.toList ds p := hA0
  rw [Try.params6] at hA hval hsz
  obtain ⟨v0, vs0, d0, ds0, p0, q0, hargs, rfl, rfl, h0, r0⟩ := trodAll_cons hA
  obtain ⟨rfl, rfl, rfl⟩ := trodAll_nil r0
  obtain rfl : args = #[v0] := by cases args; simp_all
  obtain ⟨rfl, rfl⟩ := trodVars_none hV
  have k0 := h0
  have lt0 : ∀ x ∈ p0, x.block < W.heap.size := by obtain ⟨m, hm⟩ := k0; exact DataW.trod_lt m _ _ _ hm
  have z0 : ∀ n ∈ d0.weights Try.prog 64, n ≤ reachBytes := fun n hn => by simpa using List.all_eq_true.1 hsz n (DataW.weights_mem_each (j := 0) rfl rfl n hn)
  obtain ⟨b0, len0, cap0, rfl⟩ := okWide_slice Try.underlying64 (hval 0 64 v0 rfl rfl)
  obtain ⟨fuel0, hf0⟩ := h0
  obtain ⟨l0, ⟨w0, e0, x0⟩, _⟩ := (opens_slice Try.underlying64 (by kernel_rfl : Try.prog.cellsOf 64 = 1) opens_byte).opens enc W _ _ _ hf0 z0
  obtain rfl : w0 = .slice b0 len0 cap0 := by simp [Value.cells] at e0; exact e0.symm
  clear hf0 e0
  clear hA0 hval0 hsz0 hsz
  refine (lawFnBoxesMarked W _ l0 x0).mono fun e W' ⟨he, bel⟩ => ?_
  subst he
  exact ⟨_, rfl, _, _, _, [], _, [], hW', trodAll_mk1 (shut_bool Try.underlying4 _), (trodAll_cons_mk (Below.trod laidOut (by kernel_rfl) (of_decide_eq_true (by kernel_rfl)) k0 bel lt0) trodAll_mk0), rfl, bel.frame _, fun h => by cases h⟩
theorem facts : joinedFacts Try.checked.prog 6 Try.f6 Rows.fnBoxesMarkedSpec Rows.fnBoxesMarkedRow = true := by
  have a1 := factEnter
  have a2 : (Rows.fnBoxesMarkedRow.lifted == Try.checked.prog.liftsFinal) = true := factLifts
  have a3 : (Try.checked.prog.make == some Rows.fnBoxesMarkedRow.make) = true := factMake
  unfold joinedFacts
  rw [a1, a2, a3]
  show _ = _
  kernel_rfl
theorem over : Rows.fnBoxesMarkedRow.holds Try.pinned (OpenSpec.ofChange Rows.fnBoxesMarkedSpec) :=
  OpenClaim.holds_of_wide 6 Try.f6 rfl rfl rfl rfl rfl rfl rfl ⟨rfl, rfl, rfl, rfl, rfl⟩ rfl rfl rfl rfl rfl (by kernel_rfl) Try.func6 facts
    (of_decide_eq_true (by kernel_rfl)) (by unfold Func.isWrapper; first | (rw [if_pos (by decide +kernel)]; kernel_rfl) | (rw [if_neg (by decide +kernel)]; exact ⟨rfl, rfl⟩))
    (fun os started H enc _ => lifted os started H enc)
theorem proved : Rows.FnBoxesMarkedSaid := over
#print axioms proved
end Go.Proofs.Ytjfjpabfkembcaa.fnBoxesMarked
namespace Go.Proofs.Ytjfjpabfkembcaa
/-- The row, under a short name, for the claim. -/
theorem fnBoxesMarked_holds : Rows.FnBoxesMarkedSaid := fnBoxesMarked.proved
end Go.Proofs.Ytjfjpabfkembcaa
