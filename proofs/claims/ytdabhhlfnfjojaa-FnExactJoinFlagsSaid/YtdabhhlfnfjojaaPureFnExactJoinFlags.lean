/- The program's JoinFlags returns what the reference's returns, leaves its lists alone and owns its answer, for every two lists of registers; the bounds are the row's own. -/
import Derived.Test.YtdabhhlfnfjojaaPFnExactJoinFlagsx2
import Derived.Test.YtdabhhlfnfjojaaPFnExactJoinFlagsx3
import Derived.Test.YtdabhhlfnfjojaaPFnExactJoinFlagsx4
import Derived.Test.YtdabhhlfnfjojaaLib
import Derived.Test.YtdabhhlfnfjojaaLib2
import Derived.Test.YtdabhhlfnfjojaaLib3
import Derived.Test.YtdabhhlfnfjojaaQFnExactJoinFlags
namespace Go.Proofs.Ytdabhhlfnfjojaa.Pure
open Go.RowKit Go.Proofs.Ytdabhhlfnfjojaa.PFnExactJoinFlags Go.Proofs.YtdabhhlfnfjojaaW.PrintWords Go.Proofs.YtdabhhlfnfjojaaW.PrintLast Go.Proofs.Ytdabhhlfnfjojaa.Lib
set_option linter.unusedVariables false
set_option linter.unusedSimpArgs false

theorem spec_Later_eq (a b c d : Int) : spec_Later.f a b c d = some (laterV a b c d) := by
  unfold spec_Later.f laterV
  by_cases h : a = c
  · rw [if_pos h, if_pos h]
  · rw [if_neg h, if_neg h]
theorem impl_Later_eq (a b c d : Int) : impl_Later.f a b c d = some (laterV a b c d) := by
  unfold impl_Later.f laterV
  by_cases h : a > c
  · rw [if_pos h, if_neg (by omega), decide_eq_true h]
  · rw [if_neg h]
    by_cases h2 : a = c
    · rw [if_pos h2, if_pos h2]
    · rw [if_neg h2, if_neg h2, decide_eq_false h]
theorem spec_JoinReg_eq (a b c d e f : Int) : spec_JoinReg.f a b c d e f = some (joinRegV a b c d e f) := by
  unfold spec_JoinReg.f joinRegV
  simp only [spec_Later_eq, Option.bind_some]
  unfold laterV
  by_cases h1 : b = e <;> by_cases h2 : c > f <;> by_cases h3 : b > e <;> by_cases h4 : c = f <;> by_cases h5 : d ≤ a <;> simp [h1, h2, h3, h4, h5] <;> omega
theorem impl_JoinReg_eq (a b c d e f : Int) : impl_JoinReg.f a b c d e f = some (joinRegV a b c d e f) := by
  unfold impl_JoinReg.f joinRegV
  simp only [impl_Later_eq, Option.bind_some]
  unfold laterV
  by_cases h1 : b = e
  · subst h1
    by_cases h4 : c = f
    · subst h4
      by_cases h5 : d > a
      · simp [h5] <;> omega
      · simp [h5] <;> omega
    · by_cases h2 : c > f
      · simp [h2, h4] <;> omega
      · simp [h2, h4] <;> omega
  · by_cases h3 : b > e
    · simp [h1, h3, Ne.symm h1] <;> omega
    · simp [h1, h3, Ne.symm h1] <;> omega
theorem eqReg_self (a b c : Int) : laws_eqReg.f a b c a b c = some true := by
  unfold laws_eqReg.f laws_eqStamp.f
  simp
def toRegV (x : S116) : S41 := ⟨x.f0, ⟨x.f1.f0, x.f1.f1⟩⟩
theorem toRegS_ev (l : List S116) (hn : l.length ≤ 1048576) : Ev (fun k => laws_toRegS.f k l) (l.map toRegV) := by
  unfold laws_toRegS.f
  have p1 : (0 : Int) ≤ (l.length : Int) := by omega
  have p2 : ((l.length : Int)).toNat ≤ 11728124029610 := by omega
  simp only [if_pos p1, if_pos p2]
  have key := ev_down (P := fun i => Ev (fun k => laws_toRegS.l0 k l ((l.take i).map toRegV ++ List.replicate (l.length - i) z41) (i : Int)) (l.map toRegV)) l.length ?_ ?_
  · simpa using key
  · simp only [List.take_length, Nat.sub_self, List.replicate_zero, List.append_nil]
    refine Ev.step (f := fun _ => some (l.map toRegV)) (fun k => ?_) (Ev.now _)
    simp only [laws_toRegS.l0]
    rw [if_neg (by omega)]
  · intro i hi h
    have hx : rd_T116 l (i : Int) = l[i] := getD_at _ _ _ hi
    refine Ev.step (f := fun k => laws_toRegS.l0 k l ((l.take (i + 1)).map toRegV ++ List.replicate (l.length - (i + 1)) z41) ((i + 1 : Nat) : Int)) (fun k => ?_) h
    simp only [laws_toRegS.l0]
    rw [if_pos (by omega), if_pos (by omega), hx]
    simp only [laws_toReg.f, laws_toStamp.f, Option.bind_some]
    rw [if_pos (by simp; omega), wrap_id (by omega) (by omega), Int.toNat_natCast]
    change laws_toRegS.l0 k l (((l.take i).map toRegV ++ List.replicate (l.length - i) z41).set i (toRegV l[i])) _ = _
    rw [set_step toRegV z41 l i hi _ rfl]
    rfl
theorem eqRegS_ev (l : List S41) (hn : l.length ≤ 9223372036854775807) : Ev (fun k => laws_eqRegS.f k l l) true := by
  unfold laws_eqRegS.f
  simp only [↓reduceIte]
  have key := ev_down (P := fun i => Ev (fun k => laws_eqRegS.l0 k l l (i : Int)) true) l.length ?_ ?_
  · simpa using key
  · refine Ev.step (f := fun _ => some true) (fun k => ?_) (Ev.now _)
    simp only [laws_eqRegS.l0]
    rw [if_neg (by omega)]
  · intro i hi h
    refine Ev.step (f := fun k => laws_eqRegS.l0 k l l ((i + 1 : Nat) : Int)) (fun k => ?_) h
    simp only [laws_eqRegS.l0]
    rw [if_pos (by omega), if_pos (by omega), if_pos (by omega), eqReg_self]
    simp only [Option.bind_some, ↓reduceIte]
    rw [wrap_id (by omega) (by omega)]
    rfl
theorem szRegS_eq (l : List S116) (a : Int) (h0 : 0 ≤ a) (h1 : a ≤ 1048576) (hn : l.length ≤ 9223372036854775807) :
    laws_szRegS.f l a = some (if a - (l.length : Int) < 0 then -1 else a - (l.length : Int)) := by
  unfold laws_szRegS.f
  rw [wrap_id (by omega) (by omega)]
  by_cases h : a - (l.length : Int) < 0
  · rw [if_pos h, if_pos h]
  · rw [if_neg h, if_neg h]
def markV (a : Int) (i : Nat) : S41 := ⟨a + 3 * i, ⟨a + 3 * i + 1, a + 3 * i + 2⟩⟩
def marksV (a : Int) (n : Nat) : List S41 := (List.range n).map (markV a)
theorem marksV_length (a : Int) (n : Nat) : (marksV a n).length = n := by simp [marksV]
theorem markRegS_ev (l : List S41) (a : Int) (hn : l.length ≤ 4194304) (h0 : 0 ≤ a) (h1 : a ≤ 1000000000) :
    Ev (fun k => laws_markRegS.f k l a) (a + 3 * l.length, marksV a l.length) := by
  unfold laws_markRegS.f
  have key := ev_down (P := fun i => Ev (fun k => laws_markRegS.l0 k (marksV a i ++ l.drop i) (a + 3 * i) (i : Int)) (a + 3 * l.length, marksV a l.length)) l.length ?_ ?_
  · simpa [marksV] using key
  · simp only [List.drop_length, List.append_nil]
    refine Ev.step (f := fun _ => some (a + 3 * l.length, marksV a l.length)) (fun k => ?_) (Ev.now _)
    simp only [laws_markRegS.l0]
    rw [if_neg (by rw [marksV_length]; omega)]
  · intro i hi h
    have hlen : (marksV a i ++ l.drop i).length = l.length := by rw [List.length_append, marksV_length, List.length_drop]; omega
    refine Ev.step (f := fun k => laws_markRegS.l0 k (marksV a (i + 1) ++ l.drop (i + 1)) (a + 3 * (i + 1 : Nat)) ((i + 1 : Nat) : Int)) (fun k => ?_) h
    simp only [laws_markRegS.l0]
    rw [if_pos (by rw [hlen]; omega), if_pos (by omega)]
    simp only [Option.bind_some, Int.toNat_natCast]
    have g1 : ∀ (m : List S41) (v : S41), m.length = l.length → rd_T41 (m.set i v) (i : Int) = v := by
      intro m v hm
      have := getD_at z41 (m.set i v) i (by rw [List.length_set]; omega)
      rw [show rd_T41 (m.set i v) (i : Int) = (m.set i v).getD ((i : Int)).toNat z41 from rfl, this]
      simp
    rw [g1 _ _ hlen]
    simp only [List.set_set]
    rw [g1 _ _ hlen]
    rw [wrap_id (x := a + 3 * (i : Int) + 1) (by omega) (by omega), wrap_id (x := a + 3 * (i : Int) + 1 + 1) (by omega) (by omega), wrap_id (x := a + 3 * (i : Int) + 1 + 1 + 1) (by omega) (by omega), wrap_id (x := (i : Int) + 1) (by omega) (by omega)]
    have hs : (marksV a i ++ l.drop i).set i ⟨a + 3 * (i : Int), ⟨a + 3 * (i : Int) + 1, a + 3 * (i : Int) + 1 + 1⟩⟩ = marksV a (i + 1) ++ l.drop (i + 1) := by
      rw [List.set_append_right _ _ (by rw [marksV_length]; omega), marksV_length, Nat.sub_self, List.drop_eq_getElem_cons hi, List.set_cons_zero]
      simp only [marksV, List.range_succ, List.map_append, List.map_cons, List.map_nil, List.append_assoc, List.singleton_append, markV]
      rw [show a + 3 * (i : Int) + 1 + 1 = a + 3 * (i : Int) + 2 by omega]
    rw [hs, show a + 3 * (i : Int) + 1 + 1 + 1 = a + 3 * ((i + 1 : Nat) : Int) by omega]
    rfl
theorem heldRegS_ev (n : Nat) (a : Int) (hn : n ≤ 4194304) (h0 : 0 ≤ a) (h1 : a ≤ 1000000000) : Ev (fun k => laws_heldRegS.f k (marksV a n) a) (a + 3 * n) := by
  unfold laws_heldRegS.f
  have key := ev_down (P := fun i => Ev (fun k => laws_heldRegS.l0 k (marksV a n) (a + 3 * i) (i : Int)) (a + 3 * n)) n ?_ ?_
  · simpa using key
  · refine Ev.step (f := fun _ => some (a + 3 * n)) (fun k => ?_) (Ev.now _)
    simp only [laws_heldRegS.l0]
    rw [if_neg (by rw [marksV_length]; omega)]
  · intro i hi h
    have hx : rd_T41 (marksV a n) (i : Int) = markV a i := by
      have := getD_at z41 (marksV a n) i (by rw [marksV_length]; exact hi)
      rw [show rd_T41 (marksV a n) (i : Int) = (marksV a n).getD ((i : Int)).toNat z41 from rfl, this]
      simp [marksV]
    refine Ev.step (f := fun k => laws_heldRegS.l0 k (marksV a n) (a + 3 * (i + 1 : Nat)) ((i + 1 : Nat) : Int)) (fun k => ?_) h
    simp only [laws_heldRegS.l0]
    rw [if_pos (by rw [marksV_length]; omega), if_pos (by omega), hx]
    unfold markV
    rw [wrap_id (x := a + 3 * (i : Int) + 1) (by omega) (by omega), wrap_id (x := a + 3 * (i : Int) + 1 + 1) (by omega) (by omega), wrap_id (x := a + 3 * (i : Int) + 1 + 1 + 1) (by omega) (by omega), wrap_id (x := (i : Int) + 1) (by omega) (by omega)]
    dsimp only
    rw [if_pos rfl, if_pos rfl, if_pos (by omega), show a + 3 * (i : Int) + 1 + 1 + 1 = a + 3 * ((i + 1 : Nat) : Int) by omega]
    rfl
def joinRegS (x y : S41) : S41 :=
  ⟨(joinRegV x.f0 x.f1.f0 x.f1.f1 y.f0 y.f1.f0 y.f1.f1).1, ⟨(joinRegV x.f0 x.f1.f0 x.f1.f1 y.f0 y.f1.f0 y.f1.f1).2.1, (joinRegV x.f0 x.f1.f0 x.f1.f1 y.f0 y.f1.f0 y.f1.f1).2.2⟩⟩
def joinFlagsV (a b : List S41) : List S41 := List.zipWith joinRegS a b
theorem spec_JoinFlags_ev (a b : List S41) (ha : a.length ≤ 1048576) (hb : b.length ≤ 1048576) : Ev (fun k => spec_JoinFlags.f k a b) (joinFlagsV a b) := by
  unfold spec_JoinFlags.f joinFlagsV
  have key := ev_down (P := fun i => Ev (fun k => spec_JoinFlags.l0 k a b ((List.zipWith joinRegS a b).take i) (i : Int)) (List.zipWith joinRegS a b)) (min a.length b.length) ?_ ?_
  · simpa using key
  · rw [List.take_of_length_le (by rw [List.length_zipWith]; exact Nat.le_refl _)]
    refine Ev.step (f := fun _ => some (List.zipWith joinRegS a b)) (fun k => ?_) (Ev.now _)
    simp only [spec_JoinFlags.l0]
    by_cases h : ((min a.length b.length : Nat) : Int) < (a.length : Int)
    · rw [if_pos h, if_neg (by omega)]
    · rw [if_neg h]
  · intro i hi h
    have hia : i < a.length := by omega
    have hib : i < b.length := by omega
    have hxa : rd_T41 a (i : Int) = a[i] := getD_at _ _ _ hia
    have hxb : rd_T41 b (i : Int) = b[i] := getD_at _ _ _ hib
    refine Ev.step (f := fun k => spec_JoinFlags.l0 k a b ((List.zipWith joinRegS a b).take (i + 1)) ((i + 1 : Nat) : Int)) (fun k => ?_) h
    simp only [spec_JoinFlags.l0]
    rw [if_pos (by omega), if_pos (by omega), if_pos (by omega), hxa, hxb, spec_JoinReg_eq]
    simp only [Option.bind_some]
    rw [if_pos (by rw [List.length_take]; omega), wrap_id (by omega) (by omega)]
    rw [List.take_succ_eq_append_getElem (by rw [List.length_zipWith]; omega), List.getElem_zipWith]
    rfl
theorem impl_JoinFlags_ev (a b : List S41) (ha : a.length ≤ 1048576) (hb : b.length ≤ 1048576) : Ev (fun k => impl_JoinFlags.f k a b) (joinFlagsV a b) := by
  unfold impl_JoinFlags.f joinFlagsV
  have key := ev_down (P := fun i => Ev (fun k => impl_JoinFlags.l0 k a b ((List.zipWith joinRegS a b).take i) (i : Int)) (List.zipWith joinRegS a b)) (min a.length b.length) ?_ ?_
  · simpa using key
  · rw [List.take_of_length_le (by rw [List.length_zipWith]; exact Nat.le_refl _)]
    refine Ev.step (f := fun _ => some (List.zipWith joinRegS a b)) (fun k => ?_) (Ev.now _)
    simp only [impl_JoinFlags.l0]
    by_cases h : ((min a.length b.length : Nat) : Int) < (a.length : Int)
    · rw [if_pos h, if_neg (by omega)]
    · rw [if_neg h]
  · intro i hi h
    have hia : i < a.length := by omega
    have hib : i < b.length := by omega
    have hxa : rd_T41 a (i : Int) = a[i] := getD_at _ _ _ hia
    have hxb : rd_T41 b (i : Int) = b[i] := getD_at _ _ _ hib
    refine Ev.step (f := fun k => impl_JoinFlags.l0 k a b ((List.zipWith joinRegS a b).take (i + 1)) ((i + 1 : Nat) : Int)) (fun k => ?_) h
    simp only [impl_JoinFlags.l0]
    rw [if_pos (by omega), if_pos (by omega), if_pos (by omega), hxa, hxb, impl_JoinReg_eq]
    simp only [Option.bind_some]
    rw [if_pos (by rw [List.length_take]; omega), wrap_id (by omega) (by omega)]
    rw [List.take_succ_eq_append_getElem (by rw [List.length_zipWith]; omega), List.getElem_zipWith]
    rfl
theorem joinFlagsV_length (a b : List S41) : (joinFlagsV a b).length = min a.length b.length := by simp [joinFlagsV]

theorem FnExactJoinFlags : laws_FnExactJoinFlags.Pure := by
  intro l0 l1 hl0 hl1
  obtain ⟨_, hn0, _⟩ := hl0
  obtain ⟨_, hn1, _⟩ := hl1
  refine Ev.rounds (g := fun k => laws_FnExactJoinFlags.f k l0 l1) ?_
  unfold laws_FnExactJoinFlags.f
  simp only [szRegS_eq l0 1048576 (by decide) (by decide) hn0, Option.bind_some]
  by_cases h : (1048576 : Int) - (l0.length : Int) < 0
  · simp only [if_pos h]
    exact Ev.now _
  · simp only [if_neg h]
    simp only [szRegS_eq l1 ((1048576 : Int) - (l0.length : Int)) (by omega) (by omega) hn1, Option.bind_some]
    by_cases h2 : (1048576 : Int) - (l0.length : Int) - (l1.length : Int) < 0
    · simp only [if_pos h2]
      exact Ev.now _
    · simp only [if_neg h2]
      have m0 : (l0.map toRegV).length = l0.length := List.length_map ..
      have m1 : (l1.map toRegV).length = l1.length := List.length_map ..
      have t0 := toRegS_ev l0 (by omega)
      have t1 := toRegS_ev l1 (by omega)
      have hj := impl_JoinFlags_ev (l0.map toRegV) (l1.map toRegV) (by omega) (by omega)
      have ml := joinFlagsV_length (l0.map toRegV) (l1.map toRegV)
      have he := eqRegS_ev (joinFlagsV (l0.map toRegV) (l1.map toRegV)) (by omega)
      refine Ev.bind t0 (Ev.bind t1 (Ev.bind (spec_JoinFlags_ev _ _ (by omega) (by omega)) (Ev.bind t0 (Ev.bind t1 (Ev.bind hj (Ev.bind he ?_))))))
      simp only [↓reduceIte]
      refine Ev.bind t0 (Ev.bind (eqRegS_ev _ (by omega)) ?_)
      simp only [↓reduceIte]
      refine Ev.bind t1 (Ev.bind (eqRegS_ev _ (by omega)) ?_)
      simp only [↓reduceIte]
      refine Ev.bind (markRegS_ev _ 1 (by omega) (by decide) (by decide)) (Ev.bind (markRegS_ev _ _ (by omega) (by omega) (by omega)) ?_)
      have hpos : ¬ ((1 : Int) + 3 * (l0.length : Int) + 3 * (l1.length : Int) < 0) := by omega
      simp only [m0, m1, if_neg hpos]
      refine Ev.bind he ?_
      refine Ev.step (f := fun k => (laws_markRegS.f k (joinFlagsV (l0.map toRegV) (l1.map toRegV)) 1).bind fun b => (laws_heldRegS.f k b.2 1).bind fun t => if t < 0 then none else if t = b.1 then (laws_toRegS.f k l0).bind fun u => (laws_toRegS.f k l1).bind fun v => (impl_JoinFlags.f k u v).bind fun g => (laws_eqRegS.f k g (joinFlagsV (l0.map toRegV) (l1.map toRegV))).bind fun q => if q = true then (laws_heldRegS.f k b.2 1).bind fun s => if s < 0 then none else if s = b.1 then some true else none else none else none) (fun k => ?_) ?_
      · simp only [laws_FnExactJoinFlags.j0]
        rw [if_neg (by simp)]
      · have hh := heldRegS_ev (joinFlagsV (l0.map toRegV) (l1.map toRegV)).length 1 (by omega) (by decide) (by decide)
        have hneg : ¬ ((1 : Int) + 3 * ((joinFlagsV (l0.map toRegV) (l1.map toRegV)).length : Int) < 0) := by omega
        refine Ev.bind (markRegS_ev _ 1 (by omega) (by decide) (by decide)) (Ev.bind hh ?_)
        simp only [if_neg hneg, ↓reduceIte]
        refine Ev.bind t0 (Ev.bind t1 (Ev.bind hj (Ev.bind he ?_)))
        simp only [↓reduceIte]
        refine Ev.bind hh ?_
        simp only [if_neg hneg, ↓reduceIte]
        exact Ev.now _

end Go.Proofs.Ytdabhhlfnfjojaa.Pure
