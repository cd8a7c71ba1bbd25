/- The program's FlagsOf returns what the reference's returns and leaves its list alone, for every list of registers; the bounds are the row's own. -/
import Derived.Test.YtolkoidoablphaaPFnExactFlagsOfx1
import Derived.Test.YtolkoidoablphaaPFnExactFlagsOfx2
import Derived.Test.YtolkoidoablphaaLib
import Derived.Test.YtolkoidoablphaaLib2
import Derived.Test.YtolkoidoablphaaQFnExactFlagsOf
namespace Go.Proofs.Ytolkoidoablphaa.Pure
open Go.RowKit Go.Proofs.Ytolkoidoablphaa.PFnExactFlagsOf Go.Proofs.YtolkoidoablphaaW.PrintWords Go.Proofs.YtolkoidoablphaaW.PrintLast Go.Proofs.Ytolkoidoablphaa.Lib
set_option linter.unusedVariables false
set_option linter.unusedSimpArgs false

theorem eqReg_self (a b c : Int) : laws_eqReg.f a b c a b c = some true := by
  unfold laws_eqReg.f laws_eqStamp.f
  simp
def toRegV (x : S28) : S31 := ⟨x.f0, ⟨x.f1.f0, x.f1.f1⟩⟩
theorem toRegS_ev (l : List S28) (hn : l.length ≤ 1048576) : Ev (fun k => laws_toRegS.f k l) (l.map toRegV) := by
  unfold laws_toRegS.f
  have p1 : (0 : Int) ≤ (l.length : Int) := by omega
  have p2 : ((l.length : Int)).toNat ≤ 11728124029610 := by omega
  simp only [if_pos p1, if_pos p2]
  have key := ev_down (P := fun i => Ev (fun k => laws_toRegS.l0 k l ((l.take i).map toRegV ++ List.replicate (l.length - i) z31) (i : Int)) (l.map toRegV)) l.length ?_ ?_
  · simpa using key
  · simp only [List.take_length, Nat.sub_self, List.replicate_zero, List.append_nil]
    refine Ev.step (f := fun _ => some (l.map toRegV)) (fun k => ?_) (Ev.now _)
    simp only [laws_toRegS.l0]
    rw [if_neg (by omega)]
  · intro i hi h
    have hx : rd_T28 l (i : Int) = l[i] := getD_at _ _ _ hi
    refine Ev.step (f := fun k => laws_toRegS.l0 k l ((l.take (i + 1)).map toRegV ++ List.replicate (l.length - (i + 1)) z31) ((i + 1 : Nat) : Int)) (fun k => ?_) h
    simp only [laws_toRegS.l0]
    rw [if_pos (by omega), if_pos (by omega), hx]
    simp only [laws_toReg.f, laws_toStamp.f, Option.bind_some]
    rw [if_pos (by simp; omega), wrap_id (by omega) (by omega), Int.toNat_natCast]
    change laws_toRegS.l0 k l (((l.take i).map toRegV ++ List.replicate (l.length - i) z31).set i (toRegV l[i])) _ = _
    rw [set_step toRegV z31 l i hi _ rfl]
    rfl
theorem eqRegS_ev (l : List S31) (hn : l.length ≤ 9223372036854775807) : Ev (fun k => laws_eqRegS.f k l l) true := by
  unfold laws_eqRegS.f
  simp only [↓reduceIte]
  have key := ev_down (P := fun i => Ev (fun k => laws_eqRegS.l0 k l l (i : Int)) true) l.length ?_ ?_
  · simpa using key
  · refine Ev.step (f := fun _ => some true) (fun k => ?_) (Ev.now _)
    simp only [laws_eqRegS.l0]
    rw [if_neg (by omega)]
  · intro i hi h
    refine Ev.step (f := fun k => laws_eqRegS.l0 k l l ((i + 1 : Nat) : Int)) (fun k => ?_) h
    simp only [laws_eqRegS.l0]
    rw [if_pos (by omega), if_pos (by omega), if_pos (by omega), eqReg_self]
    simp only [Option.bind_some, ↓reduceIte]
    rw [wrap_id (by omega) (by omega)]
    rfl
theorem szRegS_eq (l : List S28) (a : Int) (h0 : 0 ≤ a) (h1 : a ≤ 1048576) (hn : l.length ≤ 9223372036854775807) :
    laws_szRegS.f l a = some (if a - (l.length : Int) < 0 then -1 else a - (l.length : Int)) := by
  unfold laws_szRegS.f
  rw [wrap_id (by omega) (by omega)]
  by_cases h : a - (l.length : Int) < 0
  · rw [if_pos h, if_pos h]
  · rw [if_neg h, if_neg h]
theorem spec_flagsOf_step (l : List S31) (i : Nat) (h3 : i < 3) (hi : i < l.length) (n r : Int) (hn0 : 0 ≤ n) (hn1 : n ≤ 100)
    (h : Ev (fun k => spec_FlagsOf.l0 k l (n + (l[i].f0 % 2) * 2 ^ i) ((i + 1 : Nat) : Int)) r) : Ev (fun k => spec_FlagsOf.l0 k l n (i : Int)) r := by
  have hx : rd_T31 l (i : Int) = l[i] := getD_at _ _ _ hi
  refine Ev.step (f := fun k => spec_FlagsOf.j1 k l n (i : Int) true) (fun k => ?_) ?_
  · simp only [spec_FlagsOf.l0]
    rw [if_pos (by omega), decide_eq_true (by omega)]
  · refine Ev.step (f := fun k => spec_FlagsOf.l0 k l (n + (l[i].f0 % 2) * 2 ^ i) ((i + 1 : Nat) : Int)) (fun k => ?_) h
    simp only [spec_FlagsOf.j1]
    rw [if_pos (by trivial), if_pos (by omega), if_pos (by omega), hx]
    have ew : wrap64 ((i : Int) + 1) = ((i + 1 : Nat) : Int) := by rw [wrap_id (by omega) (by omega)]; omega
    have eu : IntKind.u64.wrap (i : Int) = (i : Int) := by rw [IntKind.wrap_u64]; omega
    rw [ew, eu]
    by_cases hz : Int.tmod l[i].f0 2 = 0
    · rw [if_pos hz, (tmod2_zero _).1 hz, Int.zero_mul, Int.add_zero]
    · rw [if_neg hz, if_pos (by omega), tmod2_one _ hz, Int.one_mul, shl_small3 1 i h3 (by decide) (by decide)]
      have := pow_small3 i h3
      rw [Int.one_mul, wrap_id (by omega) (by omega)]
theorem spec_flagsOf_stop (l : List S31) (i : Nat) (h : 3 ≤ i ∨ l.length ≤ i) (hi : i ≤ 3) (n : Int) : Ev (fun k => spec_FlagsOf.l0 k l n (i : Int)) n := by
  refine Ev.step (f := fun k => spec_FlagsOf.j1 k l n (i : Int) false) (fun k => ?_) ?_
  · simp only [spec_FlagsOf.l0]
    by_cases h2 : (i : Int) < (l.length : Int)
    · rw [if_pos h2, decide_eq_false (by omega)]
    · rw [if_neg h2]
  · refine Ev.step (f := fun _ => some n) (fun k => ?_) (Ev.now _)
    simp only [spec_FlagsOf.j1]
    rw [if_neg (by simp)]
theorem spec_FlagsOf_ev (l : List S31) : Ev (fun k => spec_FlagsOf.f k l) (flagsOfV (l.map (·.f0))) :=
  flagsOf_all (fun l i n => Ev (fun k => spec_FlagsOf.l0 k l n ((i : Nat) : Int))) (·.f0) (fun l i h3 hi n r a b h => spec_flagsOf_step l i h3 hi n r a b h) (fun l i h hi n => spec_flagsOf_stop l i h hi n) l
theorem impl_flagsOf_step (l : List S31) (i : Nat) (h3 : i < 3) (hi : i < l.length) (n r : Int) (hn0 : 0 ≤ n) (hn1 : n ≤ 100)
    (h : Ev (fun k => impl_FlagsOf.l0 k l (n + (l[i].f0 % 2) * 2 ^ i) ((i + 1 : Nat) : Int)) r) : Ev (fun k => impl_FlagsOf.l0 k l n (i : Int)) r := by
  have hx : rd_T31 l (i : Int) = l[i] := getD_at _ _ _ hi
  refine Ev.step (f := fun k => impl_FlagsOf.l0 k l (n + (l[i].f0 % 2) * 2 ^ i) ((i + 1 : Nat) : Int)) (fun k => ?_) h
  simp only [impl_FlagsOf.l0]
  have hr : 0 ≤ l[i].f0 % 2 ∧ l[i].f0 % 2 < 2 := by omega
  have hp := pow_small3 i h3
  have hm : (l[i].f0 % 2) * 2 ^ i ≤ 1 * 4 := Int.mul_le_mul (by omega) hp.2 (by omega) (by omega)
  have hm0 : 0 ≤ (l[i].f0 % 2) * 2 ^ i := Int.mul_nonneg hr.1 (by omega)
  rw [if_pos (by omega), if_pos (by omega), if_pos (by omega), hx, and1_i64, shl_small3 _ i h3 (by omega) (by omega), wrap_id (x := (i : Int) + 1) (by omega) (by omega), wrap_id (by omega) (by omega)]
  rfl
theorem impl_flagsOf_stop (l : List S31) (i : Nat) (h : 3 ≤ i ∨ l.length ≤ i) (hi : i ≤ 3) (n : Int) : Ev (fun k => impl_FlagsOf.l0 k l n (i : Int)) n := by
  refine Ev.step (f := fun _ => some n) (fun k => ?_) (Ev.now _)
  simp only [impl_FlagsOf.l0]
  by_cases h2 : (i : Int) < (l.length : Int)
  · rw [if_pos h2, if_neg (by omega)]
  · rw [if_neg h2]
theorem impl_FlagsOf_ev (l : List S31) : Ev (fun k => impl_FlagsOf.f k l) (flagsOfV (l.map (·.f0))) :=
  flagsOf_all (fun l i n => Ev (fun k => impl_FlagsOf.l0 k l n ((i : Nat) : Int))) (·.f0) (fun l i h3 hi n r a b h => impl_flagsOf_step l i h3 hi n r a b h) (fun l i h hi n => impl_flagsOf_stop l i h hi n) l

theorem FnExactFlagsOf : laws_FnExactFlagsOf.Pure := by
  intro l hl
  obtain ⟨_, hn, _⟩ := hl
  refine Ev.rounds (g := fun k => laws_FnExactFlagsOf.f k l) ?_
  unfold laws_FnExactFlagsOf.f
  simp only [szRegS_eq l 1048576 (by decide) (by decide) hn, Option.bind_some]
  by_cases h : (1048576 : Int) - (l.length : Int) < 0
  · simp only [if_pos h]
    exact Ev.now _
  · have h2 : ¬ (1048576 : Int) - (l.length : Int) < 0 := h
    simp only [if_neg h]
    have ht := toRegS_ev l (by omega)
    refine Ev.bind ht (Ev.bind (spec_FlagsOf_ev _) (Ev.bind ht (Ev.bind (impl_FlagsOf_ev _) ?_)))
    simp only [↓reduceIte]
    refine Ev.bind ht (Ev.bind (eqRegS_ev _ (by rw [List.length_map]; omega)) ?_)
    exact Ev.now _

end Go.Proofs.Ytolkoidoablphaa.Pure
