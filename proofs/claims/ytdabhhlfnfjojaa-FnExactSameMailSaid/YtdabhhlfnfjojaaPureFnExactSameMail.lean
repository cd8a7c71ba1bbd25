/- The program's SameMail returns what the reference's returns and leaves its mails alone, for every two mails; the bounds are the row's own. -/
import Derived.Test.YtdabhhlfnfjojaaPFnExactSameMailx2
import Derived.Test.YtdabhhlfnfjojaaPFnExactSameMailx3
import Derived.Test.YtdabhhlfnfjojaaPFnExactSameMailx4
import Derived.Test.YtdabhhlfnfjojaaLib
import Derived.Test.YtdabhhlfnfjojaaLib2
import Derived.Test.YtdabhhlfnfjojaaLib3
import Derived.Test.YtdabhhlfnfjojaaQFnExactSameMail
namespace Go.Proofs.Ytdabhhlfnfjojaa.Pure
open Go.RowKit Go.Proofs.Ytdabhhlfnfjojaa.PFnExactSameMail Go.Proofs.YtdabhhlfnfjojaaW.PrintWords Go.Proofs.YtdabhhlfnfjojaaW.PrintLast Go.Proofs.Ytdabhhlfnfjojaa.Lib
set_option linter.unusedVariables false
set_option linter.unusedSimpArgs false

theorem eqReg_self (a b c : Int) : laws_eqReg.f a b c a b c = some true := by
  unfold laws_eqReg.f laws_eqStamp.f
  simp
def toRegV (x : S116) : S41 := ⟨x.f0, ⟨x.f1.f0, x.f1.f1⟩⟩
theorem toRegS_ev (l : List S116) (hn : l.length ≤ 1048576) : Ev (fun k => laws_toRegS.f k l) (l.map toRegV) := by
  unfold laws_toRegS.f
  have p1 : (0 : Int) ≤ (l.length : Int) := by omega
  have p2 : ((l.length : Int)).toNat ≤ 11728124029610 := by omega
  simp only [if_pos p1, if_pos p2]
  have key := ev_down (P := fun i => Ev (fun k => laws_toRegS.l0 k l ((l.take i).map toRegV ++ List.replicate (l.length - i) z41) (i : Int)) (l.map toRegV)) l.length ?_ ?_
  · simpa using key
  · simp only [List.take_length, Nat.sub_self, List.replicate_zero, List.append_nil]
    refine Ev.step (f := fun _ => some (l.map toRegV)) (fun k => ?_) (Ev.now _)
    simp only [laws_toRegS.l0]
    rw [if_neg (by omega)]
  · intro i hi h
    have hx : rd_T116 l (i : Int) = l[i] := getD_at _ _ _ hi
    refine Ev.step (f := fun k => laws_toRegS.l0 k l ((l.take (i + 1)).map toRegV ++ List.replicate (l.length - (i + 1)) z41) ((i + 1 : Nat) : Int)) (fun k => ?_) h
    simp only [laws_toRegS.l0]
    rw [if_pos (by omega), if_pos (by omega), hx]
    simp only [laws_toReg.f, laws_toStamp.f, Option.bind_some]
    rw [if_pos (by simp; omega), wrap_id (by omega) (by omega), Int.toNat_natCast]
    change laws_toRegS.l0 k l (((l.take i).map toRegV ++ List.replicate (l.length - i) z41).set i (toRegV l[i])) _ = _
    rw [set_step toRegV z41 l i hi _ rfl]
    rfl
theorem eqRegS_ev (l : List S41) (hn : l.length ≤ 9223372036854775807) : Ev (fun k => laws_eqRegS.f k l l) true := by
  unfold laws_eqRegS.f
  simp only [↓reduceIte]
  have key := ev_down (P := fun i => Ev (fun k => laws_eqRegS.l0 k l l (i : Int)) true) l.length ?_ ?_
  · simpa using key
  · refine Ev.step (f := fun _ => some true) (fun k => ?_) (Ev.now _)
    simp only [laws_eqRegS.l0]
    rw [if_neg (by omega)]
  · intro i hi h
    refine Ev.step (f := fun k => laws_eqRegS.l0 k l l ((i + 1 : Nat) : Int)) (fun k => ?_) h
    simp only [laws_eqRegS.l0]
    rw [if_pos (by omega), if_pos (by omega), if_pos (by omega), eqReg_self]
    simp only [Option.bind_some, ↓reduceIte]
    rw [wrap_id (by omega) (by omega)]
    rfl
theorem szRegS_eq (l : List S116) (a : Int) (h0 : 0 ≤ a) (h1 : a ≤ 1048576) (hn : l.length ≤ 9223372036854775807) :
    laws_szRegS.f l a = some (if a - (l.length : Int) < 0 then -1 else a - (l.length : Int)) := by
  unfold laws_szRegS.f
  rw [wrap_id (by omega) (by omega)]
  by_cases h : a - (l.length : Int) < 0
  · rw [if_pos h, if_pos h]
  · rw [if_neg h, if_neg h]
theorem szMail_eq (g u : Int) (l : List S116) (t : ByteArray) (a : Int) (h0 : 0 ≤ a) (h1 : a ≤ 1048576) (hn : l.length ≤ 9223372036854775807) (ht : t.size ≤ 140737488351232) :
    ∃ r, laws_szMail.f g u l t a = some r ∧ (r < 0 ∨ (0 ≤ r ∧ r ≤ a ∧ l.length ≤ 1048576 ∧ t.size ≤ 1048576)) := by
  unfold laws_szMail.f
  simp only [szRegS_eq l a h0 h1 hn, Option.bind_some]
  by_cases h : a - (l.length : Int) < 0
  · simp only [if_pos h]
    exact ⟨-1, by rw [if_pos (by decide)], .inl (by decide)⟩
  · simp only [if_neg h]
    rw [wrap_id (by omega) (by omega)]
    by_cases h2 : a - (l.length : Int) - (t.size : Int) < 0
    · exact ⟨-1, by rw [if_pos h2], .inl (by decide)⟩
    · exact ⟨_, by rw [if_neg h2], .inr ⟨by omega, by omega, by omega, by omega⟩⟩
theorem toMail_ev (g u : Int) (l : List S116) (t : ByteArray) (hn : l.length ≤ 1048576) : Ev (fun k => laws_toMail.f k g u l t) (g, u, l.map toRegV, t) := by
  unfold laws_toMail.f
  exact Ev.bind (toRegS_ev l hn) (Ev.now _)
theorem eqMail_ev (g u : Int) (l : List S41) (t : ByteArray) (hn : l.length ≤ 9223372036854775807) : Ev (fun k => laws_eqMail.f k g u l t g u l t) true := by
  unfold laws_eqMail.f
  simp only [↓reduceIte]
  exact Ev.bind (eqRegS_ev l hn) (Ev.now _)
def sameReg (x y : S41) : Bool := decide (x.f0 = y.f0) && decide (x.f1.f0 = y.f1.f0) && decide (x.f1.f1 = y.f1.f1)
theorem sameReg_not (x y : S41) : (!(x.f0 == y.f0) || ((!(x.f1.f0 == y.f1.f0)) || (!(x.f1.f1 == y.f1.f1)))) = !(sameReg x y) := by
  unfold sameReg
  by_cases h1 : x.f0 = y.f0 <;> by_cases h2 : x.f1.f0 = y.f1.f0 <;> by_cases h3 : x.f1.f1 = y.f1.f1 <;> simp [h1, h2, h3]
def sameFrom (a b : List S41) : Bool := decide (a.length = b.length) && (List.zipWith sameReg a b).all id
theorem spec_same_l0 (a b : List S41) (g u : Int) (t : ByteArray) (g' u' : Int) (t' : ByteArray) (ha : a.length ≤ 1048576) (hl : a.length = b.length) :
    Ev (fun k => spec_SameMail.l0 k 0 g u a t g' u' b t') ((List.zipWith sameReg a b).all id) := by
  have key := ev_down (P := fun i => Ev (fun k => spec_SameMail.l0 k (i : Int) g u a t g' u' b t') (((List.zipWith sameReg a b).drop i).all id)) a.length ?_ ?_
  · simpa using key
  · rw [List.drop_eq_nil_of_le (by rw [List.length_zipWith]; omega)]
    refine Ev.step (f := fun _ => some true) (fun k => ?_) (Ev.now _)
    simp only [spec_SameMail.l0]
    rw [if_neg (by omega)]
  · intro i hi h
    have hib : i < b.length := by omega
    have hxa : rd_T41 a (i : Int) = a[i] := getD_at _ _ _ hi
    have hxb : rd_T41 b (i : Int) = b[i] := getD_at _ _ _ hib
    rw [List.drop_eq_getElem_cons (by rw [List.length_zipWith]; omega), List.all_cons, List.getElem_zipWith]
    refine Ev.step (f := fun k => if sameReg a[i] b[i] = true then spec_SameMail.l0 k ((i + 1 : Nat) : Int) g u a t g' u' b t' else some false) (fun k => ?_) ?_
    · simp only [spec_SameMail.l0]
      rw [if_pos (by omega), if_pos (by omega), if_pos (by omega), hxa, hxb, sameReg_not, wrap_id (by omega) (by omega)]
      cases sameReg a[i] b[i]
      · rfl
      · rfl
    · cases hs : sameReg a[i] b[i]
      · exact Ev.now _
      · exact h
def sameMailV (g u : Int) (a : List S41) (t : ByteArray) (g' u' : Int) (b : List S41) (t' : ByteArray) : Bool :=
  decide (g = g') && (decide (u = u') && (sameFrom a b && decide (t.toList = t'.toList)))
theorem spec_same_j0 (b0 : Bool) (g u : Int) (a : List S41) (t : ByteArray) (g' u' : Int) (b : List S41) (t' : ByteArray) (ha : a.length ≤ 1048576) (h : b0 = false → a.length = b.length) :
    Ev (fun k => spec_SameMail.j0 k b0 g u a t g' u' b t') (!b0 && (List.zipWith sameReg a b).all id) := by
  cases b0 with
  | true =>
    refine Ev.step (f := fun _ => some false) (fun k => ?_) (Ev.now _)
    simp only [spec_SameMail.j0]
    rw [if_pos (by trivial)]
  | false =>
    refine Ev.step (f := fun k => spec_SameMail.l0 k 0 g u a t g' u' b t') (fun k => ?_) (spec_same_l0 a b g u t g' u' t' ha (h rfl))
    simp only [spec_SameMail.j0]
    rw [if_neg (by simp)]
theorem spec_SameMail_ev (g u : Int) (a : List S41) (t : ByteArray) (g' u' : Int) (b : List S41) (t' : ByteArray) (ha : a.length ≤ 1048576) :
    Ev (fun k => spec_SameMail.f k g u a t g' u' b t') (sameMailV g u a t g' u' b t') := by
  unfold spec_SameMail.f sameMailV sameFrom
  by_cases h1 : g = g'
  · by_cases h2 : u = u'
    · by_cases h3 : t.toList = t'.toList
      · by_cases h4 : a.length = b.length
        · have e : ((a.length : Int) != (b.length : Int)) = false := by simp [h4]
          have := spec_same_j0 ((a.length : Int) != (b.length : Int)) g u a t g' u' b t' ha (fun _ => h4)
          rw [e] at this
          simpa [h1, h2, h3, h4] using this
        · have e : ((a.length : Int) != (b.length : Int)) = true := by simp; omega
          have := spec_same_j0 true g u a t g' u' b t' ha (fun h => by cases h)
          simp only [if_pos h1, if_pos h2, if_pos h3, e]
          simpa [h4] using this
      · have := spec_same_j0 true g u a t g' u' b t' ha (fun h => by cases h)
        simp only [if_pos h1, if_pos h2, if_neg h3]
        simpa [h3] using this
    · have := spec_same_j0 true g u a t g' u' b t' ha (fun h => by cases h)
      simp only [if_pos h1, if_neg h2]
      simpa [h2] using this
  · have := spec_same_j0 true g u a t g' u' b t' ha (fun h => by cases h)
    simp only [if_neg h1]
    simpa [h1] using this
theorem impl_Reg_ev (a b : List S41) (ha : a.length ≤ 1048576) : Ev (fun k => impl_Reg.f k a b) (sameFrom a b) := by
  unfold impl_Reg.f sameFrom
  by_cases hl : a.length = b.length
  · have e : (a.length : Int) = (b.length : Int) := by omega
    simp only [if_pos e]
    rw [decide_eq_true hl, Bool.true_and]
    have key := ev_down (P := fun i => Ev (fun k => impl_Reg.l0 k a b (a.length : Int) (i : Int)) (((List.zipWith sameReg a b).drop i).all id)) a.length ?_ ?_
    · simpa using key
    · rw [List.drop_eq_nil_of_le (by rw [List.length_zipWith]; omega)]
      refine Ev.step (f := fun _ => some true) (fun k => ?_) (Ev.now _)
      simp only [impl_Reg.l0]
      rw [if_neg (by omega)]
    · intro i hi h
      have hib : i < b.length := by omega
      have hxa : rd_T41 a (i : Int) = a[i] := getD_at _ _ _ hi
      have hxb : rd_T41 b (i : Int) = b[i] := getD_at _ _ _ hib
      rw [List.drop_eq_getElem_cons (by rw [List.length_zipWith]; omega), List.all_cons, List.getElem_zipWith]
      refine Ev.step (f := fun k => if sameReg a[i] b[i] = true then impl_Reg.l0 k a b (a.length : Int) ((i + 1 : Nat) : Int) else some false) (fun k => ?_) ?_
      · simp only [impl_Reg.l0]
        rw [if_pos (by omega), if_pos (by omega), if_pos (by omega), if_pos (by omega), hxa, hxb, sameReg_not, wrap_id (by omega) (by omega)]
        cases sameReg a[i] b[i]
        · rfl
        · rfl
      · cases hs : sameReg a[i] b[i]
        · exact Ev.now _
        · exact h
  · have e : ¬ (a.length : Int) = (b.length : Int) := by omega
    simp only [if_neg e]
    rw [decide_eq_false hl, Bool.false_and]
    exact Ev.now _
theorem impl_SameMail_ev (g u : Int) (a : List S41) (t : ByteArray) (g' u' : Int) (b : List S41) (t' : ByteArray) (ha : a.length ≤ 1048576) :
    Ev (fun k => impl_SameMail.f k g u a t g' u' b t') (sameMailV g u a t g' u' b t') := by
  unfold impl_SameMail.f sameMailV
  by_cases h1 : g = g'
  · by_cases h2 : u = u'
    · simp only [if_pos h1, if_pos h2, decide_eq_true h1, decide_eq_true h2, Bool.true_and]
      refine Ev.bind (impl_Reg_ev a b ha) ?_
      cases sameFrom a b
      · exact Ev.now _
      · simp only [↓reduceIte, Bool.true_and]
        by_cases h3 : t.toList = t'.toList
        · rw [decide_eq_true h3, beq_iff_eq.2 h3]
          exact Ev.now _
        · rw [decide_eq_false h3, beq_eq_false_iff_ne.2 h3]
          exact Ev.now _
    · simp only [if_pos h1, if_neg h2, decide_eq_false h2, Bool.false_and, Bool.and_false]
      exact Ev.now _
  · simp only [if_neg h1, decide_eq_false h1, Bool.false_and]
    exact Ev.now _

theorem FnExactSameMail : laws_FnExactSameMail.Pure := by
  intro g u l t g' u' l' t' _ _ hl hs _ _ hl' hs'
  obtain ⟨_, hn, _⟩ := hl
  obtain ⟨_, hn', _⟩ := hl'
  refine Ev.rounds (g := fun k => laws_FnExactSameMail.f k g u l t g' u' l' t') ?_
  unfold laws_FnExactSameMail.f
  obtain ⟨r, hr, hb⟩ := szMail_eq g u l t 1048576 (by decide) (by decide) hn hs
  simp only [hr, Option.bind_some]
  rcases hb with hb | ⟨h0, h1, hlen, _⟩
  · simp only [if_pos hb]
    exact Ev.now _
  · have hb : ¬ r < 0 := by omega
    simp only [if_neg hb]
    obtain ⟨r', hr', hb'⟩ := szMail_eq g' u' l' t' r h0 h1 hn' hs'
    simp only [hr', Option.bind_some]
    rcases hb' with hb' | ⟨h0', _, hlen', _⟩
    · simp only [if_pos hb']
      exact Ev.now _
    · have hb' : ¬ r' < 0 := by omega
      simp only [if_neg hb']
      have ht := toMail_ev g u l t hlen
      have ht' := toMail_ev g' u' l' t' hlen'
      have hm : (l.map toRegV).length ≤ 1048576 := by rw [List.length_map]; exact hlen
      have hm' : (l'.map toRegV).length ≤ 1048576 := by rw [List.length_map]; exact hlen'
      refine Ev.bind ht (Ev.bind ht' (Ev.bind (spec_SameMail_ev _ _ _ _ _ _ _ _ hm) (Ev.bind ht (Ev.bind ht' (Ev.bind (impl_SameMail_ev _ _ _ _ _ _ _ _ hm) ?_)))))
      simp only [bne_self_eq_false, Bool.false_eq_true, ↓reduceIte]
      refine Ev.bind ht (Ev.bind (eqMail_ev g u _ t (by omega)) ?_)
      simp only [↓reduceIte]
      refine Ev.bind ht' (Ev.bind (eqMail_ev g' u' _ t' (by omega)) ?_)
      exact Ev.now _

end Go.Proofs.Ytdabhhlfnfjojaa.Pure
