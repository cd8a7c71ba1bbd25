/- The program's FlagsNew returns what the reference's returns, for every number and stamp, and its answer owns its memory. -/
import Derived.Test.YtolkoidoablphaaPFnExactFlagsNewx1
import Derived.Test.YtolkoidoablphaaPFnExactFlagsNewx2
import Derived.Test.YtolkoidoablphaaLib
import Derived.Test.YtolkoidoablphaaLib2
import Derived.Test.YtolkoidoablphaaLib3
import Derived.Test.YtolkoidoablphaaQFnExactFlagsNew
namespace Go.Proofs.Ytolkoidoablphaa.Pure
open Go.RowKit Go.Proofs.Ytolkoidoablphaa.PFnExactFlagsNew Go.Proofs.YtolkoidoablphaaW.PrintWords Go.Proofs.YtolkoidoablphaaW.PrintLast Go.Proofs.Ytolkoidoablphaa.Lib
set_option linter.unusedVariables false
set_option linter.unusedSimpArgs false

theorem eqReg_self (a b c : Int) : laws_eqReg.f a b c a b c = some true := by
  unfold laws_eqReg.f laws_eqStamp.f
  simp
theorem eqRegS_ev (l : List S31) (hn : l.length ≤ 9223372036854775807) : Ev (fun k => laws_eqRegS.f k l l) true := by
  unfold laws_eqRegS.f
  simp only [↓reduceIte]
  have key := ev_down (P := fun i => Ev (fun k => laws_eqRegS.l0 k l l (i : Int)) true) l.length ?_ ?_
  · simpa using key
  · refine Ev.step (f := fun _ => some true) (fun k => ?_) (Ev.now _)
    simp only [laws_eqRegS.l0]
    rw [if_neg (by omega)]
  · intro i hi h
    refine Ev.step (f := fun k => laws_eqRegS.l0 k l l ((i + 1 : Nat) : Int)) (fun k => ?_) h
    simp only [laws_eqRegS.l0]
    rw [if_pos (by omega), if_pos (by omega), if_pos (by omega), eqReg_self]
    simp only [Option.bind_some, ↓reduceIte]
    rw [wrap_id (by omega) (by omega)]
    rfl
def flagsNewV (n t b : Int) : List S31 := [⟨n % 2, ⟨t, b⟩⟩, ⟨n / 2 % 2, ⟨t, b⟩⟩, ⟨n / 4 % 2, ⟨t, b⟩⟩]
theorem spec_flagsNew_step (n t b : Int) (l : List S31) (i : Nat) (hi : i < 3) (hl : l.length ≤ 100) (r : List S31)
    (h : Ev (fun k => spec_FlagsNew.l0 k n (l ++ [⟨n / 2 ^ i % 2, ⟨t, b⟩⟩]) ((i + 1 : Nat) : Int) t b) r) : Ev (fun k => spec_FlagsNew.l0 k n l (i : Int) t b) r := by
  refine Ev.step (f := fun k => spec_FlagsNew.l0 k n (l ++ [⟨n / 2 ^ i % 2, ⟨t, b⟩⟩]) ((i + 1 : Nat) : Int) t b) (fun k => ?_) h
  simp only [spec_FlagsNew.l0]
  have eu : IntKind.u64.wrap (i : Int) = (i : Int) := by rw [IntKind.wrap_u64]; omega
  rw [eu, if_pos (by omega), if_pos (by omega), shr_small3 n i hi, wrap_id (by omega) (by omega)]
  by_cases hz : Int.tmod (n / 2 ^ i) 2 = 0
  · rw [if_pos hz, if_pos (by omega), (tmod2_zero _).1 hz]
    rfl
  · rw [if_neg hz, if_pos (by omega), tmod2_one _ hz]
    rfl
theorem spec_FlagsNew_ev (n t b : Int) : Ev (fun k => spec_FlagsNew.f k n t b) (flagsNewV n t b) := by
  unfold spec_FlagsNew.f
  refine spec_flagsNew_step n t b [] 0 (by decide) (by decide) _ ?_
  refine spec_flagsNew_step n t b _ 1 (by decide) (by simp) _ ?_
  refine spec_flagsNew_step n t b _ 2 (by decide) (by simp) _ ?_
  refine Ev.step (f := fun _ => some (flagsNewV n t b)) (fun k => ?_) (Ev.now _)
  simp only [spec_FlagsNew.l0]
  rw [if_neg (by decide)]
  unfold flagsNewV
  simp
theorem impl_flagsNew_step (n t b : Int) (l : List S31) (i : Nat) (hi : i < 3) (hl : l.length ≤ 100) (r : List S31)
    (h : Ev (fun k => impl_FlagsNew.l0 k n (l ++ [⟨n / 2 ^ i % 2, ⟨t, b⟩⟩]) ((i + 1 : Nat) : Int) t b) r) : Ev (fun k => impl_FlagsNew.l0 k n l (i : Int) t b) r := by
  refine Ev.step (f := fun k => impl_FlagsNew.l0 k n (l ++ [⟨n / 2 ^ i % 2, ⟨t, b⟩⟩]) ((i + 1 : Nat) : Int) t b) (fun k => ?_) h
  simp only [impl_FlagsNew.l0]
  rw [if_pos (by omega), if_pos (by omega), shr_small3 n i hi, and1_i64, wrap_id (by omega) (by omega), if_pos (by omega)]
  rfl
theorem impl_FlagsNew_ev (n t b : Int) : Ev (fun k => impl_FlagsNew.f k n t b) (flagsNewV n t b) := by
  unfold impl_FlagsNew.f
  refine impl_flagsNew_step n t b [] 0 (by decide) (by decide) _ ?_
  refine impl_flagsNew_step n t b _ 1 (by decide) (by simp) _ ?_
  refine impl_flagsNew_step n t b _ 2 (by decide) (by simp) _ ?_
  refine Ev.step (f := fun _ => some (flagsNewV n t b)) (fun k => ?_) (Ev.now _)
  simp only [impl_FlagsNew.l0]
  rw [if_neg (by decide)]
  unfold flagsNewV
  simp
def markV (a : Int) (i : Nat) : S31 := ⟨a + 3 * i, ⟨a + 3 * i + 1, a + 3 * i + 2⟩⟩
def marksV (a : Int) (n : Nat) : List S31 := (List.range n).map (markV a)
theorem marksV_length (a : Int) (n : Nat) : (marksV a n).length = n := by simp [marksV]
theorem markRegS_ev (l : List S31) (a : Int) (hn : l.length ≤ 4194304) (h0 : 0 ≤ a) (h1 : a ≤ 1000000000) :
    Ev (fun k => laws_markRegS.f k l a) (a + 3 * l.length, marksV a l.length) := by
  unfold laws_markRegS.f
  have key := ev_down (P := fun i => Ev (fun k => laws_markRegS.l0 k (marksV a i ++ l.drop i) (a + 3 * i) (i : Int)) (a + 3 * l.length, marksV a l.length)) l.length ?_ ?_
  · simpa [marksV] using key
  · simp only [List.drop_length, List.append_nil]
    refine Ev.step (f := fun _ => some (a + 3 * l.length, marksV a l.length)) (fun k => ?_) (Ev.now _)
    simp only [laws_markRegS.l0]
    rw [if_neg (by rw [marksV_length]; omega)]
  · intro i hi h
    have hlen : (marksV a i ++ l.drop i).length = l.length := by rw [List.length_append, marksV_length, List.length_drop]; omega
    refine Ev.step (f := fun k => laws_markRegS.l0 k (marksV a (i + 1) ++ l.drop (i + 1)) (a + 3 * (i + 1 : Nat)) ((i + 1 : Nat) : Int)) (fun k => ?_) h
    simp only [laws_markRegS.l0]
    rw [if_pos (by rw [hlen]; omega), if_pos (by omega)]
    simp only [Option.bind_some, Int.toNat_natCast]
    have g1 : ∀ (m : List S31) (v : S31), m.length = l.length → rd_T31 (m.set i v) (i : Int) = v := by
      intro m v hm
      have := getD_at z31 (m.set i v) i (by rw [List.length_set]; omega)
      rw [show rd_T31 (m.set i v) (i : Int) = (m.set i v).getD ((i : Int)).toNat z31 from rfl, this]
      simp
    rw [g1 _ _ hlen]
    simp only [List.set_set]
    rw [g1 _ _ hlen]
    rw [wrap_id (x := a + 3 * (i : Int) + 1) (by omega) (by omega), wrap_id (x := a + 3 * (i : Int) + 1 + 1) (by omega) (by omega), wrap_id (x := a + 3 * (i : Int) + 1 + 1 + 1) (by omega) (by omega), wrap_id (x := (i : Int) + 1) (by omega) (by omega)]
    have hs : (marksV a i ++ l.drop i).set i ⟨a + 3 * (i : Int), ⟨a + 3 * (i : Int) + 1, a + 3 * (i : Int) + 1 + 1⟩⟩ = marksV a (i + 1) ++ l.drop (i + 1) := by
      rw [List.set_append_right _ _ (by rw [marksV_length]; omega), marksV_length, Nat.sub_self, List.drop_eq_getElem_cons hi, List.set_cons_zero]
      simp only [marksV, List.range_succ, List.map_append, List.map_cons, List.map_nil, List.append_assoc, List.singleton_append, markV]
      rw [show a + 3 * (i : Int) + 1 + 1 = a + 3 * (i : Int) + 2 by omega]
    rw [hs, show a + 3 * (i : Int) + 1 + 1 + 1 = a + 3 * ((i + 1 : Nat) : Int) by omega]
    rfl
theorem heldRegS_ev (n : Nat) (a : Int) (hn : n ≤ 4194304) (h0 : 0 ≤ a) (h1 : a ≤ 1000000000) : Ev (fun k => laws_heldRegS.f k (marksV a n) a) (a + 3 * n) := by
  unfold laws_heldRegS.f
  have key := ev_down (P := fun i => Ev (fun k => laws_heldRegS.l0 k (marksV a n) (a + 3 * i) (i : Int)) (a + 3 * n)) n ?_ ?_
  · simpa using key
  · refine Ev.step (f := fun _ => some (a + 3 * n)) (fun k => ?_) (Ev.now _)
    simp only [laws_heldRegS.l0]
    rw [if_neg (by rw [marksV_length]; omega)]
  · intro i hi h
    have hx : rd_T31 (marksV a n) (i : Int) = markV a i := by
      have := getD_at z31 (marksV a n) i (by rw [marksV_length]; exact hi)
      rw [show rd_T31 (marksV a n) (i : Int) = (marksV a n).getD ((i : Int)).toNat z31 from rfl, this]
      simp [marksV]
    refine Ev.step (f := fun k => laws_heldRegS.l0 k (marksV a n) (a + 3 * (i + 1 : Nat)) ((i + 1 : Nat) : Int)) (fun k => ?_) h
    simp only [laws_heldRegS.l0]
    rw [if_pos (by rw [marksV_length]; omega), if_pos (by omega), hx]
    unfold markV
    rw [wrap_id (x := a + 3 * (i : Int) + 1) (by omega) (by omega), wrap_id (x := a + 3 * (i : Int) + 1 + 1) (by omega) (by omega), wrap_id (x := a + 3 * (i : Int) + 1 + 1 + 1) (by omega) (by omega), wrap_id (x := (i : Int) + 1) (by omega) (by omega)]
    dsimp only
    rw [if_pos rfl, if_pos rfl, if_pos (by omega), show a + 3 * (i : Int) + 1 + 1 + 1 = a + 3 * ((i + 1 : Nat) : Int) by omega]
    rfl

theorem FnExactFlagsNew : laws_FnExactFlagsNew.Pure := by
  intro n t b _ _ _
  refine Ev.rounds (g := fun k => laws_FnExactFlagsNew.f k n t b) ?_
  unfold laws_FnExactFlagsNew.f laws_toStamp.f
  simp only [Option.bind_some]
  have hi := impl_FlagsNew_ev n t b
  have hl : (flagsNewV n t b).length = 3 := rfl
  have he := eqRegS_ev (flagsNewV n t b) (by rw [hl]; decide)
  refine Ev.bind (spec_FlagsNew_ev n t b) (Ev.bind hi (Ev.bind he ?_))
  simp only [↓reduceIte]
  have hh := heldRegS_ev 3 1 (by decide) (by decide) (by decide)
  have hneg : ¬ ((1 : Int) + 3 * ((3 : Nat) : Int) < 0) := by decide
  refine Ev.bind (markRegS_ev _ 1 (by rw [hl]; decide) (by decide) (by decide)) ?_
  rw [hl]
  refine Ev.bind hh ?_
  simp only [if_neg hneg, ↓reduceIte]
  refine Ev.bind hi (Ev.bind he ?_)
  simp only [↓reduceIte]
  refine Ev.bind hh ?_
  simp only [if_neg hneg, ↓reduceIte]
  exact Ev.now _

end Go.Proofs.Ytolkoidoablphaa.Pure
