/- The row of the law FnExactBoxOk, out of its pure statement and the printed walk. Written by this session's rowgen.py. -/
import Derived.Test.YtjlffencbaifeaaRows
import Derived.Test.YtjlffencbaifeaaQFnExactBoxOk
import Derived.Test.YtjlffencbaifeaaPureFnExactBoxOk
import Derived.WalkKit
import Derived.ProofKit
import Derived.OpenShut
import Derived.ShutString
import Derived.ChangeOld
import Derived.Below
import Derived.SizedLaws
namespace Go.Proofs.Ytjlffencbaifeaa.fnExactBoxOk
open Go.ChangeShapes Go.WideShapes Go.ChangeAt Go.RowKit Go.Proofs.Ytjlffencbaifeaa.RowLib
open Go.ChangeMaps (open_string shut_string)
set_option linter.unusedVariables false
theorem own : ownKnob Try.prog.godebug = none := by kernel_rfl
theorem laidOut : laidOutB Try.prog = true := by kernel_rfl
set_option maxRecDepth 100000 in
theorem lifted (os : Os) (started : os.Started) (H : Type) (enc : TypeId × Value → H) :
    ReturnsInHanded {} Try.checked os 8 .any (Rows.fnExactBoxOkSpec.pre6 enc Try.prog Try.f8 Rows.fnExactBoxOkRow.domain false) (Rows.fnExactBoxOkSpec.post enc Try.prog Try.f8 false true false false) := by
  refine returnsInHanded_of_change_sized (C := Try.checked) own started (by kernel_rfl) Try.func8
    (ChangeSpec.witness6 (enc := enc) (C := Try.checked) false ⟨#[], #[.agg #[.int .i64 0, .string ByteArray.empty, .int .i64 0, .int .i64 0, .int .i64 0, .slice none 0 0, .slice none 0 0]], []⟩ 8 (by kernel_rfl) (by kernel_rfl) (by kernel_rfl) (by kernel_rfl)) ?_
  intro W base args ds gs before hval0 hW hcnd hsz0 _
  have hsz : (DataW.weightsEach Try.prog (Try.f8.params.toList ++ Rows.fnExactBoxOkSpec.plain.varTypes Try.prog) (ds ++ gs)).all (· ≤ reachBytes) = true := hsz0
  have hval : ∀ (j : Nat) t v, Try.f8.params[j]? = some t → args[j]? = some v → Value.okWide Try.prog W .any base t v := hval0
  have hW' := hW
  obtain ⟨p, q, hA0, hV, rfl, hfz, hnd⟩ := hW
  have hA : DataW.TrodAll enc Try.prog W 0 (fun _ => true) true Try.f8.params.toList args.toList ds p := hA0
  rw [Try.params8] at hA hval hsz
  obtain ⟨v0, vs0, d0, ds0, p0, q0, hargs, rfl, rfl, h0, r0⟩ := trodAll_cons hA
  obtain ⟨rfl, rfl, rfl⟩ := trodAll_nil r0
  obtain rfl : args = #[v0] := by cases args; simp_all
  obtain ⟨rfl, rfl⟩ := trodVars_none hV
  have k0 := h0
  have lt0 : ∀ x ∈ p0, x.block < W.heap.size := by obtain ⟨m, hm⟩ := k0; exact DataW.trod_lt m _ _ _ hm
  have z0 : ∀ n ∈ d0.weights Try.prog 54, n ≤ reachBytes := fun n hn => by simpa using List.all_eq_true.1 hsz n (DataW.weights_mem_each (j := 0) rfl rfl n hn)
  obtain ⟨cs0, rfl, _⟩ := okWide_struct Try.underlying54 (hval 0 54 v0 rfl rfl)
  obtain ⟨fuel0, hf0⟩ := h0
  obtain ⟨a0_0, a0_1, a0_2_0, a0_2_1, a0_3, A0_4, c0_4, l0_4, A0_5, c0_5, l0_5, e0, w0_0, w0_1, w0_2_0, w0_2_1, w0_3, hr0_4, hc0_4, w0_4, hr0_5, hc0_5, w0_5⟩ := PFnExactBoxOk.op54 enc W _ _ _ hf0 z0
  obtain rfl := agg_of e0
  clear hf0 e0
  clear hA0 hval0 hsz0 hsz
  refine (PFnExactBoxOk.laws_FnExactBoxOk.walk Pure.FnExactBoxOk a0_0 a0_1 a0_2_0 a0_2_1 a0_3 A0_4 c0_4 l0_4 A0_5 c0_5 l0_5 W w0_0 w0_1 w0_2_0 w0_2_1 w0_3 hr0_4 hc0_4 w0_4 hr0_5 hc0_5 w0_5).mono fun e W' ⟨he, bel⟩ => ?_
  subst he
  exact ⟨_, rfl, _, _, _, [], _, [], hW', trodAll_mk1 (shut_bool Try.underlying4 _), (trodAll_cons_mk (Below.trod laidOut (by kernel_rfl) (of_decide_eq_true (by kernel_rfl)) k0 bel lt0) trodAll_mk0), rfl, bel.frame _, fun h => by cases h⟩
theorem over : Rows.fnExactBoxOkRow.holds Try.pinned (OpenSpec.ofChange Rows.fnExactBoxOkSpec) :=
  OpenClaim.holds_of_wide 8 Try.f8 rfl rfl rfl rfl rfl rfl rfl ⟨rfl, rfl, rfl, rfl, rfl⟩ rfl rfl rfl rfl rfl (by kernel_rfl) Try.func8 (by kernel_rfl)
    (of_decide_eq_true (by kernel_rfl)) (by unfold Func.isWrapper; first | (rw [if_pos (by decide +kernel)]; kernel_rfl) | (rw [if_neg (by decide +kernel)]; exact ⟨rfl, rfl⟩))
    (fun os started H enc _ => lifted os started H enc)
theorem proved : Rows.FnExactBoxOkSaid := over
#print axioms proved
end Go.Proofs.Ytjlffencbaifeaa.fnExactBoxOk
namespace Go.Proofs.Ytjlffencbaifeaa
/-- The row, under a short name, for the claim. -/
theorem fnExactBoxOk_holds : Rows.FnExactBoxOkSaid := fnExactBoxOk.proved
end Go.Proofs.Ytjlffencbaifeaa
