/- The program's FlagsOk returns what the reference's returns and leaves its list alone, for every list of registers; the bounds are the row's own. -/
import Derived.Test.YtolkoidoablphaaPFnExactFlagsOkx1
import Derived.Test.YtolkoidoablphaaPFnExactFlagsOkx2
import Derived.Test.YtolkoidoablphaaLib
import Derived.Test.YtolkoidoablphaaLib2
import Derived.Test.YtolkoidoablphaaQFnExactFlagsOk
namespace Go.Proofs.Ytolkoidoablphaa.Pure
open Go.RowKit Go.Proofs.Ytolkoidoablphaa.PFnExactFlagsOk Go.Proofs.YtolkoidoablphaaW.PrintWords Go.Proofs.YtolkoidoablphaaW.PrintLast Go.Proofs.Ytolkoidoablphaa.Lib
set_option linter.unusedVariables false
set_option linter.unusedSimpArgs false

theorem l01In_eq (x a b : Int) : spec_l01In.f x a b = some (decide (a ≤ x ∧ x ≤ b)) := by
  unfold spec_l01In.f
  by_cases h : a ≤ x
  · rw [if_pos h]; simp [h]
  · rw [if_neg h]; simp [h]
theorem within_eq (x a b : Int) : impl_within.f x a b = some (decide (a ≤ x ∧ x ≤ b)) := by
  unfold impl_within.f
  by_cases h : a ≤ x
  · rw [if_pos h]; simp [h]
  · rw [if_neg h]; simp [h]
theorem spec_StampOk_eq (a b : Int) : spec_StampOk.f a b = some (stampV a b) := by
  unfold spec_StampOk.f stampV
  simp only [l01In_eq, Option.bind_some]
  by_cases h : 0 ≤ a ∧ a ≤ 100000 <;> by_cases h2 : 0 ≤ b ∧ b ≤ 2 <;> simp [h, h2]
theorem impl_StampOk_eq (a b : Int) : impl_StampOk.f a b = some (stampV a b) := by
  unfold impl_StampOk.f stampV
  simp only [within_eq, Option.bind_some]
  by_cases h : 0 ≤ a ∧ a ≤ 100000 <;> by_cases h2 : 0 ≤ b ∧ b ≤ 2 <;> simp [h, h2]
theorem spec_RegOk_eq (a b c : Int) : spec_RegOk.f a b c = some (regV a b c) := by
  unfold spec_RegOk.f regV
  simp only [l01In_eq, spec_StampOk_eq, Option.bind_some]
  cases stampV b c <;> simp
theorem impl_RegOk_eq (a b c : Int) : impl_RegOk.f a b c = some (regV a b c) := by
  unfold impl_RegOk.f regV
  simp only [within_eq, impl_StampOk_eq, Option.bind_some]
  cases stampV b c <;> simp
theorem eqReg_self (a b c : Int) : laws_eqReg.f a b c a b c = some true := by
  unfold laws_eqReg.f laws_eqStamp.f
  simp
def toRegV (x : S28) : S31 := ⟨x.f0, ⟨x.f1.f0, x.f1.f1⟩⟩
theorem toRegS_ev (l : List S28) (hn : l.length ≤ 1048576) : Ev (fun k => laws_toRegS.f k l) (l.map toRegV) := by
  unfold laws_toRegS.f
  have p1 : (0 : Int) ≤ (l.length : Int) := by omega
  have p2 : ((l.length : Int)).toNat ≤ 11728124029610 := by omega
  simp only [if_pos p1, if_pos p2]
  have key := ev_down (P := fun i => Ev (fun k => laws_toRegS.l0 k l ((l.take i).map toRegV ++ List.replicate (l.length - i) z31) (i : Int)) (l.map toRegV)) l.length ?_ ?_
  · simpa using key
  · simp only [List.take_length, Nat.sub_self, List.replicate_zero, List.append_nil]
    refine Ev.step (f := fun _ => some (l.map toRegV)) (fun k => ?_) (Ev.now _)
    simp only [laws_toRegS.l0]
    rw [if_neg (by omega)]
  · intro i hi h
    have hx : rd_T28 l (i : Int) = l[i] := getD_at _ _ _ hi
    refine Ev.step (f := fun k => laws_toRegS.l0 k l ((l.take (i + 1)).map toRegV ++ List.replicate (l.length - (i + 1)) z31) ((i + 1 : Nat) : Int)) (fun k => ?_) h
    simp only [laws_toRegS.l0]
    rw [if_pos (by omega), if_pos (by omega), hx]
    simp only [laws_toReg.f, laws_toStamp.f, Option.bind_some]
    rw [if_pos (by simp; omega), wrap_id (by omega) (by omega), Int.toNat_natCast]
    change laws_toRegS.l0 k l (((l.take i).map toRegV ++ List.replicate (l.length - i) z31).set i (toRegV l[i])) _ = _
    rw [set_step toRegV z31 l i hi _ rfl]
    rfl
theorem eqRegS_ev (l : List S31) (hn : l.length ≤ 9223372036854775807) : Ev (fun k => laws_eqRegS.f k l l) true := by
  unfold laws_eqRegS.f
  simp only [↓reduceIte]
  have key := ev_down (P := fun i => Ev (fun k => laws_eqRegS.l0 k l l (i : Int)) true) l.length ?_ ?_
  · simpa using key
  · refine Ev.step (f := fun _ => some true) (fun k => ?_) (Ev.now _)
    simp only [laws_eqRegS.l0]
    rw [if_neg (by omega)]
  · intro i hi h
    refine Ev.step (f := fun k => laws_eqRegS.l0 k l l ((i + 1 : Nat) : Int)) (fun k => ?_) h
    simp only [laws_eqRegS.l0]
    rw [if_pos (by omega), if_pos (by omega), if_pos (by omega), eqReg_self]
    simp only [Option.bind_some, ↓reduceIte]
    rw [wrap_id (by omega) (by omega)]
    rfl
theorem szRegS_eq (l : List S28) (a : Int) (h0 : 0 ≤ a) (h1 : a ≤ 1048576) (hn : l.length ≤ 9223372036854775807) :
    laws_szRegS.f l a = some (if a - (l.length : Int) < 0 then -1 else a - (l.length : Int)) := by
  unfold laws_szRegS.f
  rw [wrap_id (by omega) (by omega)]
  by_cases h : a - (l.length : Int) < 0
  · rw [if_pos h, if_pos h]
  · rw [if_neg h, if_neg h]
def flagOkV (x : S31) : Bool := regV x.f0 x.f1.f0 x.f1.f1 && decide (x.f0 ≤ 1)
def flagsOkV (l : List S31) : Bool := l.all flagOkV && ((l.length : Int) == 3)
theorem spec_FlagsOk_ev (l : List S31) (hn : l.length ≤ 1048576) : Ev (fun k => spec_FlagsOk.f k l) (flagsOkV l) := by
  unfold spec_FlagsOk.f flagsOkV
  have key := ev_down (P := fun i => Ev (fun k => spec_FlagsOk.l0 k l (i : Int)) ((l.drop i).all flagOkV && ((l.length : Int) == 3))) l.length ?_ ?_
  · simpa using key
  · simp only [List.drop_length, List.all_nil, Bool.true_and]
    refine Ev.step (f := fun _ => some ((l.length : Int) == 3)) (fun k => ?_) (Ev.now _)
    simp only [spec_FlagsOk.l0]
    rw [if_neg (by omega)]
  · intro i hi h
    have hx : rd_T31 l (i : Int) = l[i] := getD_at _ _ _ hi
    rw [List.drop_eq_getElem_cons hi, List.all_cons]
    refine Ev.step (f := fun k => if flagOkV l[i] = true then spec_FlagsOk.l0 k l ((i + 1 : Nat) : Int) else some false) (fun k => ?_) ?_
    · simp only [spec_FlagsOk.l0]
      rw [if_pos (by omega), if_pos (by omega), hx, spec_RegOk_eq, wrap_id (by omega) (by omega)]
      simp only [Option.bind_some]
      unfold flagOkV
      cases regV l[i].f0 l[i].f1.f0 l[i].f1.f1
      · rfl
      · by_cases h1 : l[i].f0 > 1
        · simp [h1] <;> omega
        · simp [h1] <;> omega
    · cases hv : flagOkV l[i]
      · exact Ev.now _
      · exact h
theorem impl_FlagsOk_ev (l : List S31) (hn : l.length ≤ 1048576) : Ev (fun k => impl_FlagsOk.f k l) (flagsOkV l) := by
  unfold impl_FlagsOk.f flagsOkV
  have key := ev_down (P := fun i => Ev (fun k => impl_FlagsOk.l0 k l l (l.length : Int) (i : Int)) ((l.drop i).all flagOkV && ((l.length : Int) == 3))) l.length ?_ ?_
  · simpa using key
  · simp only [List.drop_length, List.all_nil, Bool.true_and]
    refine Ev.step (f := fun _ => some ((l.length : Int) == 3)) (fun k => ?_) (Ev.now _)
    simp only [impl_FlagsOk.l0]
    rw [if_neg (by omega)]
  · intro i hi h
    have hx : rd_T31 l (i : Int) = l[i] := getD_at _ _ _ hi
    rw [List.drop_eq_getElem_cons hi, List.all_cons]
    refine Ev.step (f := fun k => if flagOkV l[i] = true then impl_FlagsOk.l0 k l l (l.length : Int) ((i + 1 : Nat) : Int) else some false) (fun k => ?_) ?_
    · simp only [impl_FlagsOk.l0]
      rw [if_pos (by omega), if_pos (by omega), if_pos (by omega), hx, impl_RegOk_eq, wrap_id (by omega) (by omega)]
      simp only [Option.bind_some]
      unfold flagOkV
      cases regV l[i].f0 l[i].f1.f0 l[i].f1.f1
      · rfl
      · by_cases h1 : l[i].f0 > 1
        · simp [h1] <;> omega
        · simp [h1] <;> omega
    · cases hv : flagOkV l[i]
      · exact Ev.now _
      · exact h

theorem FnExactFlagsOk : laws_FnExactFlagsOk.Pure := by
  intro l hl
  obtain ⟨_, hn, _⟩ := hl
  refine Ev.rounds (g := fun k => laws_FnExactFlagsOk.f k l) ?_
  unfold laws_FnExactFlagsOk.f
  simp only [szRegS_eq l 1048576 (by decide) (by decide) hn, Option.bind_some]
  by_cases h : (1048576 : Int) - (l.length : Int) < 0
  · simp only [if_pos h]
    exact Ev.now _
  · simp only [if_neg h]
    have ht := toRegS_ev l (by omega)
    have hm : (l.map toRegV).length ≤ 1048576 := by rw [List.length_map]; omega
    refine Ev.bind ht (Ev.bind (spec_FlagsOk_ev _ hm) (Ev.bind ht (Ev.bind (impl_FlagsOk_ev _ hm) ?_)))
    simp only [bne_self_eq_false, Bool.false_eq_true, ↓reduceIte]
    refine Ev.bind ht (Ev.bind (eqRegS_ev _ (by omega)) ?_)
    exact Ev.now _

end Go.Proofs.Ytolkoidoablphaa.Pure
