/- The program's BoxOk returns what the reference's returns and leaves its box alone, for every box; the bounds are the row's own. -/
import Derived.Test.YtjlffencbaifeaaPFnExactBoxOkx1
import Derived.Test.YtjlffencbaifeaaPFnExactBoxOkx2
import Derived.Test.YtjlffencbaifeaaPFnExactBoxOkx3
import Derived.Test.YtjlffencbaifeaaPFnExactBoxOkx4
import Derived.Test.YtjlffencbaifeaaPFnExactBoxOkx5
import Derived.Test.YtjlffencbaifeaaPFnExactBoxOkx6
import Derived.Test.YtjlffencbaifeaaPFnExactBoxOkx7
import Derived.Test.YtjlffencbaifeaaPFnExactBoxOkx8
import Derived.Test.YtjlffencbaifeaaLib
import Derived.Test.YtjlffencbaifeaaLib2
import Derived.Test.YtjlffencbaifeaaLib3
import Derived.Test.YtjlffencbaifeaaLib4
import Derived.Test.YtjlffencbaifeaaLib5
import Derived.Test.YtjlffencbaifeaaLib6
import Derived.Test.YtjlffencbaifeaaLib7
import Derived.Test.YtjlffencbaifeaaLib8
import Derived.Test.YtjlffencbaifeaaLib9
import Derived.Test.YtjlffencbaifeaaQFnExactBoxOk
namespace Go.Proofs.Ytjlffencbaifeaa.Pure
open Go.RowKit Go.Proofs.Ytjlffencbaifeaa.PFnExactBoxOk Go.Proofs.YtjlffencbaifeaaW.PrintWords Go.Proofs.YtjlffencbaifeaaW.PrintLast Go.Proofs.Ytjlffencbaifeaa.Lib
set_option linter.unusedVariables false
set_option linter.unusedSimpArgs false

theorem l01In_eq (x a b : Int) : spec_l01In.f x a b = some (decide (a ≤ x ∧ x ≤ b)) := by
  unfold spec_l01In.f
  by_cases h : a ≤ x
  · rw [if_pos h]; simp [h]
  · rw [if_neg h]; simp [h]
theorem within_eq (x a b : Int) : impl_within.f x a b = some (decide (a ≤ x ∧ x ≤ b)) := by
  unfold impl_within.f
  by_cases h : a ≤ x
  · rw [if_pos h]; simp [h]
  · rw [if_neg h]; simp [h]
theorem name_same (t : ByteArray) : ∀ (k : Nat), (∀ i : Int, impl_NameOk.l0 k t i = spec_NameOk.l0 k t i) ∧ (∀ (i : Int) (x : Bool), impl_NameOk.j1 k t i x = spec_NameOk.j1 k t i x)
  | 0 => ⟨fun _ => rfl, fun _ _ => rfl⟩
  | k + 1 => ⟨fun i => by simp only [impl_NameOk.l0, spec_NameOk.l0, within_eq, l01In_eq, (name_same t k).2], fun i x => by simp only [impl_NameOk.j1, spec_NameOk.j1, (name_same t k).1]⟩
theorem spec_name_l0 (t : ByteArray) (hn : t.size ≤ 140737488351232) (d : Nat) : ∀ (i : Nat), i + d = t.size →
    Ev (fun k => spec_NameOk.l0 k t (i : Int)) (((bytesOf t).drop i).all nameByte && decide (1 ≤ (t.size : Int) ∧ (t.size : Int) ≤ 12)) := by
  induction d with
  | zero =>
    intro i hi
    obtain rfl : i = t.size := by omega
    rw [bytes_end]
    refine Ev.step (f := fun _ => some (decide (1 ≤ (t.size : Int) ∧ (t.size : Int) ≤ 12))) (fun k => ?_) (Ev.now _)
    simp only [spec_NameOk.l0, l01In_eq]
    rw [if_neg (by omega)]
    rfl
  | succ d ih =>
    intro i hi
    have hlt : i < t.size := by omega
    have hb := bt_range t (i : Int)
    rw [bytes_drop t i hlt, List.all_cons, Bool.and_assoc]
    have this := ih (i + 1) (by omega)
    generalize (((bytesOf t).drop (i + 1)).all nameByte && decide (1 ≤ (t.size : Int) ∧ (t.size : Int) ≤ 12)) = r at this ⊢
    have hj : ∀ x : Bool, Ev (fun k => spec_NameOk.j1 k t (i : Int) x) (!x && r) := by
      intro x
      cases x with
      | true =>
        refine Ev.step (f := fun _ => some false) (fun k => ?_) (by simpa using Ev.now _)
        simp only [spec_NameOk.j1, ↓reduceIte]
      | false =>
        refine Ev.step (f := fun k => spec_NameOk.l0 k t ((i + 1 : Nat) : Int)) (fun k => ?_) (by simpa using this)
        simp only [spec_NameOk.j1, Bool.false_eq_true, ↓reduceIte]
        rw [wrap_id (by omega) (by omega)]
        rfl
    have hx := hj (!(nameByte (bt t i)))
    rw [Bool.not_not] at hx
    refine Ev.step (f := fun k => spec_NameOk.j1 k t (i : Int) (!(nameByte (bt t i)))) (fun k => ?_) hx
    simp only [spec_NameOk.l0]
    rw [if_pos (by omega), if_pos (by omega)]
    unfold nameByte
    generalize bt t i = b at *
    by_cases h1 : b < 97
    · rw [if_pos h1, decide_eq_false (show ¬ (97 ≤ b ∧ b ≤ 122) by omega), Bool.false_or]
      by_cases h2 : b < 48
      · rw [if_pos h2, decide_eq_false (by omega)]
        rfl
      · rw [if_neg h2]
        by_cases h3 : b > 57
        · rw [decide_eq_true h3, decide_eq_false (by omega)]
          rfl
        · rw [decide_eq_false h3, decide_eq_true (by omega)]
          rfl
    · rw [if_neg h1]
      by_cases h4 : b > 122
      · rw [if_pos h4, decide_eq_false (show ¬ (97 ≤ b ∧ b ≤ 122) by omega), Bool.false_or, if_neg (by omega), decide_eq_true (show b > 57 by omega), decide_eq_false (by omega)]
        rfl
      · rw [if_neg h4, decide_eq_true (show 97 ≤ b ∧ b ≤ 122 by omega), Bool.true_or]
        rfl
theorem spec_NameOk_ev (t : ByteArray) (hn : t.size ≤ 140737488351232) : Ev (fun k => spec_NameOk.f k t) (nameV t) :=
  spec_name_l0 t hn t.size 0 (by omega)
theorem impl_NameOk_ev (t : ByteArray) (hn : t.size ≤ 140737488351232) : Ev (fun k => impl_NameOk.f k t) (nameV t) :=
  Ev.congr (fun k => (name_same t k).1 0) (spec_NameOk_ev t hn)
theorem spec_StampOk_eq (a b : Int) : spec_StampOk.f a b = some (stampV a b) := by
  unfold spec_StampOk.f stampV
  simp only [l01In_eq, Option.bind_some]
  by_cases h : 0 ≤ a ∧ a ≤ 100000 <;> by_cases h2 : 0 ≤ b ∧ b ≤ 2 <;> simp [h, h2]
theorem impl_StampOk_eq (a b : Int) : impl_StampOk.f a b = some (stampV a b) := by
  unfold impl_StampOk.f stampV
  simp only [within_eq, Option.bind_some]
  by_cases h : 0 ≤ a ∧ a ≤ 100000 <;> by_cases h2 : 0 ≤ b ∧ b ≤ 2 <;> simp [h, h2]
theorem spec_RegOk_eq (a b c : Int) : spec_RegOk.f a b c = some (regV a b c) := by
  unfold spec_RegOk.f regV
  simp only [l01In_eq, spec_StampOk_eq, Option.bind_some]
  cases stampV b c <;> simp
theorem impl_RegOk_eq (a b c : Int) : impl_RegOk.f a b c = some (regV a b c) := by
  unfold impl_RegOk.f regV
  simp only [within_eq, impl_StampOk_eq, Option.bind_some]
  cases stampV b c <;> simp
theorem eqReg_self (a b c : Int) : laws_eqReg.f a b c a b c = some true := by
  unfold laws_eqReg.f laws_eqStamp.f
  simp
def toRegV (x : S152) : S82 := ⟨x.f0, ⟨x.f1.f0, x.f1.f1⟩⟩
theorem toRegS_ev (l : List S152) (hn : l.length ≤ 1048576) : Ev (fun k => laws_toRegS.f k l) (l.map toRegV) := by
  unfold laws_toRegS.f
  have p1 : (0 : Int) ≤ (l.length : Int) := by omega
  have p2 : ((l.length : Int)).toNat ≤ 11728124029610 := by omega
  simp only [if_pos p1, if_pos p2]
  have key := ev_down (P := fun i => Ev (fun k => laws_toRegS.l0 k l ((l.take i).map toRegV ++ List.replicate (l.length - i) z82) (i : Int)) (l.map toRegV)) l.length ?_ ?_
  · simpa using key
  · simp only [List.take_length, Nat.sub_self, List.replicate_zero, List.append_nil]
    refine Ev.step (f := fun _ => some (l.map toRegV)) (fun k => ?_) (Ev.now _)
    simp only [laws_toRegS.l0]
    rw [if_neg (by omega)]
  · intro i hi h
    have hx : rd_T152 l (i : Int) = l[i] := getD_at _ _ _ hi
    refine Ev.step (f := fun k => laws_toRegS.l0 k l ((l.take (i + 1)).map toRegV ++ List.replicate (l.length - (i + 1)) z82) ((i + 1 : Nat) : Int)) (fun k => ?_) h
    simp only [laws_toRegS.l0]
    rw [if_pos (by omega), if_pos (by omega), hx]
    simp only [laws_toReg.f, laws_toStamp.f, Option.bind_some]
    rw [if_pos (by simp; omega), wrap_id (by omega) (by omega), Int.toNat_natCast]
    change laws_toRegS.l0 k l (((l.take i).map toRegV ++ List.replicate (l.length - i) z82).set i (toRegV l[i])) _ = _
    rw [set_step toRegV z82 l i hi _ rfl]
    rfl
theorem eqRegS_ev (l : List S82) (hn : l.length ≤ 9223372036854775807) : Ev (fun k => laws_eqRegS.f k l l) true := by
  unfold laws_eqRegS.f
  simp only [↓reduceIte]
  have key := ev_down (P := fun i => Ev (fun k => laws_eqRegS.l0 k l l (i : Int)) true) l.length ?_ ?_
  · simpa using key
  · refine Ev.step (f := fun _ => some true) (fun k => ?_) (Ev.now _)
    simp only [laws_eqRegS.l0]
    rw [if_neg (by omega)]
  · intro i hi h
    refine Ev.step (f := fun k => laws_eqRegS.l0 k l l ((i + 1 : Nat) : Int)) (fun k => ?_) h
    simp only [laws_eqRegS.l0]
    rw [if_pos (by omega), if_pos (by omega), if_pos (by omega), eqReg_self]
    simp only [Option.bind_some, ↓reduceIte]
    rw [wrap_id (by omega) (by omega)]
    rfl
theorem szRegS_eq (l : List S152) (a : Int) (h0 : 0 ≤ a) (h1 : a ≤ 1048576) (hn : l.length ≤ 9223372036854775807) :
    laws_szRegS.f l a = some (if a - (l.length : Int) < 0 then -1 else a - (l.length : Int)) := by
  unfold laws_szRegS.f
  rw [wrap_id (by omega) (by omega)]
  by_cases h : a - (l.length : Int) < 0
  · rw [if_pos h, if_pos h]
  · rw [if_neg h, if_neg h]
def flagOkV (x : S82) : Bool := regV x.f0 x.f1.f0 x.f1.f1 && decide (x.f0 ≤ 1)
def flagsOkV (l : List S82) : Bool := l.all flagOkV && ((l.length : Int) == 3)
theorem spec_FlagsOk_ev (l : List S82) (hn : l.length ≤ 1048576) : Ev (fun k => spec_FlagsOk.f k l) (flagsOkV l) := by
  unfold spec_FlagsOk.f flagsOkV
  have key := ev_down (P := fun i => Ev (fun k => spec_FlagsOk.l0 k l (i : Int)) ((l.drop i).all flagOkV && ((l.length : Int) == 3))) l.length ?_ ?_
  · simpa using key
  · simp only [List.drop_length, List.all_nil, Bool.true_and]
    refine Ev.step (f := fun _ => some ((l.length : Int) == 3)) (fun k => ?_) (Ev.now _)
    simp only [spec_FlagsOk.l0]
    rw [if_neg (by omega)]
  · intro i hi h
    have hx : rd_T82 l (i : Int) = l[i] := getD_at _ _ _ hi
    rw [List.drop_eq_getElem_cons hi, List.all_cons]
    refine Ev.step (f := fun k => if flagOkV l[i] = true then spec_FlagsOk.l0 k l ((i + 1 : Nat) : Int) else some false) (fun k => ?_) ?_
    · simp only [spec_FlagsOk.l0]
      rw [if_pos (by omega), if_pos (by omega), hx, spec_RegOk_eq, wrap_id (by omega) (by omega)]
      simp only [Option.bind_some]
      unfold flagOkV
      cases regV l[i].f0 l[i].f1.f0 l[i].f1.f1
      · rfl
      · by_cases h1 : l[i].f0 > 1
        · simp [h1] <;> omega
        · simp [h1] <;> omega
    · cases hv : flagOkV l[i]
      · exact Ev.now _
      · exact h
theorem impl_FlagsOk_ev (l : List S82) (hn : l.length ≤ 1048576) : Ev (fun k => impl_FlagsOk.f k l) (flagsOkV l) := by
  unfold impl_FlagsOk.f flagsOkV
  have key := ev_down (P := fun i => Ev (fun k => impl_FlagsOk.l0 k l l (l.length : Int) (i : Int)) ((l.drop i).all flagOkV && ((l.length : Int) == 3))) l.length ?_ ?_
  · simpa using key
  · simp only [List.drop_length, List.all_nil, Bool.true_and]
    refine Ev.step (f := fun _ => some ((l.length : Int) == 3)) (fun k => ?_) (Ev.now _)
    simp only [impl_FlagsOk.l0]
    rw [if_neg (by omega)]
  · intro i hi h
    have hx : rd_T82 l (i : Int) = l[i] := getD_at _ _ _ hi
    rw [List.drop_eq_getElem_cons hi, List.all_cons]
    refine Ev.step (f := fun k => if flagOkV l[i] = true then impl_FlagsOk.l0 k l l (l.length : Int) ((i + 1 : Nat) : Int) else some false) (fun k => ?_) ?_
    · simp only [impl_FlagsOk.l0]
      rw [if_pos (by omega), if_pos (by omega), if_pos (by omega), hx, impl_RegOk_eq, wrap_id (by omega) (by omega)]
      simp only [Option.bind_some]
      unfold flagOkV
      cases regV l[i].f0 l[i].f1.f0 l[i].f1.f1
      · rfl
      · by_cases h1 : l[i].f0 > 1
        · simp [h1] <;> omega
        · simp [h1] <;> omega
    · cases hv : flagOkV l[i]
      · exact Ev.now _
      · exact h
theorem szMail_eq (g u : Int) (l : List S152) (t : ByteArray) (a : Int) (h0 : 0 ≤ a) (h1 : a ≤ 1048576) (hn : l.length ≤ 9223372036854775807) (ht : t.size ≤ 140737488351232) :
    ∃ r, laws_szMail.f g u l t a = some r ∧ (r < 0 ∨ (0 ≤ r ∧ r ≤ a ∧ l.length ≤ 1048576 ∧ t.size ≤ 1048576)) := by
  unfold laws_szMail.f
  simp only [szRegS_eq l a h0 h1 hn, Option.bind_some]
  by_cases h : a - (l.length : Int) < 0
  · simp only [if_pos h]
    exact ⟨-1, by rw [if_pos (by decide)], .inl (by decide)⟩
  · simp only [if_neg h]
    rw [wrap_id (by omega) (by omega)]
    by_cases h2 : a - (l.length : Int) - (t.size : Int) < 0
    · exact ⟨-1, by rw [if_pos h2], .inl (by decide)⟩
    · exact ⟨_, by rw [if_neg h2], .inr ⟨by omega, by omega, by omega, by omega⟩⟩
theorem toMail_ev (g u : Int) (l : List S152) (t : ByteArray) (hn : l.length ≤ 1048576) : Ev (fun k => laws_toMail.f k g u l t) (g, u, l.map toRegV, t) := by
  unfold laws_toMail.f
  exact Ev.bind (toRegS_ev l hn) (Ev.now _)
theorem eqMail_ev (g u : Int) (l : List S82) (t : ByteArray) (hn : l.length ≤ 9223372036854775807) : Ev (fun k => laws_eqMail.f k g u l t g u l t) true := by
  unfold laws_eqMail.f
  simp only [↓reduceIte]
  exact Ev.bind (eqRegS_ev l hn) (Ev.now _)
theorem isGid_eq (g : Int) : impl_isGid.f g = some (decide (1 ≤ g ∧ g ≤ 9999)) := by
  unfold impl_isGid.f
  rw [within_eq]
  rfl
def mailOkV (g u : Int) (l : List S82) (t : ByteArray) : Bool :=
  decide (1 ≤ g ∧ g ≤ 9999) && (decide (1 ≤ u ∧ u ≤ 9999) && (flagsOkV l && decide ((t.size : Int) ≤ 60)))
theorem spec_MailOk_ev (g u : Int) (l : List S82) (t : ByteArray) (hn : l.length ≤ 1048576) : Ev (fun k => spec_MailOk.f k g u l t) (mailOkV g u l t) := by
  unfold spec_MailOk.f mailOkV
  simp only [l01In_eq, Option.bind_some]
  cases decide (1 ≤ g ∧ g ≤ 9999)
  · exact Ev.now _
  · cases decide (1 ≤ u ∧ u ≤ 9999)
    · exact Ev.now _
    · simp only [↓reduceIte, Bool.true_and]
      refine Ev.bind (spec_FlagsOk_ev l hn) ?_
      cases flagsOkV l <;> exact Ev.now _
theorem impl_MailOk_ev (g u : Int) (l : List S82) (t : ByteArray) (hn : l.length ≤ 1048576) : Ev (fun k => impl_MailOk.f k g u l t) (mailOkV g u l t) := by
  unfold impl_MailOk.f mailOkV
  simp only [isGid_eq, Option.bind_some]
  cases decide (1 ≤ g ∧ g ≤ 9999)
  · exact Ev.now _
  · cases decide (1 ≤ u ∧ u ≤ 9999)
    · exact Ev.now _
    · simp only [↓reduceIte, Bool.true_and]
      refine Ev.bind (impl_FlagsOk_ev l hn) ?_
      cases flagsOkV l <;> exact Ev.now _
theorem toIntS_ev (l : List Int) (hn : l.length ≤ 1048576) : Ev (fun k => laws_toIntS.f k l) l := by
  unfold laws_toIntS.f
  have p1 : (0 : Int) ≤ (l.length : Int) := by omega
  have p2 : ((l.length : Int)).toNat ≤ 35184372088832 := by omega
  simp only [if_pos p1, if_pos p2]
  have key := ev_down (P := fun i => Ev (fun k => laws_toIntS.l0 k l ((l.take i).map id ++ List.replicate (l.length - i) 0) (i : Int)) l) l.length ?_ ?_
  · simpa using key
  · simp only [List.take_length, Nat.sub_self, List.replicate_zero, List.append_nil, List.map_id]
    refine Ev.step (f := fun _ => some l) (fun k => ?_) (Ev.now _)
    simp only [laws_toIntS.l0]
    rw [if_neg (by omega)]
  · intro i hi h
    have hx : rd l (i : Int) = l[i] := getD_at _ _ _ hi
    refine Ev.step (f := fun k => laws_toIntS.l0 k l ((l.take (i + 1)).map id ++ List.replicate (l.length - (i + 1)) 0) ((i + 1 : Nat) : Int)) (fun k => ?_) h
    simp only [laws_toIntS.l0]
    rw [if_pos (by omega), if_pos (by omega), if_pos (by simp; omega), hx, wrap_id (by omega) (by omega), Int.toNat_natCast, set_step id 0 l i hi l[i] rfl]
    rfl
def toMailV (x : S131) : S24 := ⟨x.f0, x.f1, x.f2.map toRegV, x.f3⟩
theorem toMailS_ev (l : List S131) (hn : l.length ≤ 1048576) (hm : ∀ x ∈ l, x.f2.length ≤ 1048576) : Ev (fun k => laws_toMailS.f k l) (l.map toMailV) := by
  unfold laws_toMailS.f
  have p1 : (0 : Int) ≤ (l.length : Int) := by omega
  have p2 : ((l.length : Int)).toNat ≤ 5026338869833 := by omega
  simp only [if_pos p1, if_pos p2]
  have key := ev_down (P := fun i => Ev (fun k => laws_toMailS.l0 k l ((l.take i).map toMailV ++ List.replicate (l.length - i) z24) (i : Int)) (l.map toMailV)) l.length ?_ ?_
  · simpa using key
  · simp only [List.take_length, Nat.sub_self, List.replicate_zero, List.append_nil]
    refine Ev.step (f := fun _ => some (l.map toMailV)) (fun k => ?_) (Ev.now _)
    simp only [laws_toMailS.l0]
    rw [if_neg (by omega)]
  · intro i hi h
    have hx : rd_T131 l (i : Int) = l[i] := getD_at _ _ _ hi
    refine Ev.step (f := fun k => (laws_toMail.f k l[i].f0 l[i].f1 l[i].f2 l[i].f3).bind fun b => laws_toMailS.l0 k l (((l.take i).map toMailV ++ List.replicate (l.length - i) z24).set i ⟨b.1, b.2.1, b.2.2.1, b.2.2.2⟩) ((i + 1 : Nat) : Int)) (fun k => ?_) ?_
    · simp only [laws_toMailS.l0]
      rw [if_pos (by omega), if_pos (by omega), hx]
      congr 1
      funext b
      rw [if_pos (by simp; omega), wrap_id (by omega) (by omega), Int.toNat_natCast]
      rfl
    · refine Ev.bind (toMail_ev _ _ _ _ (hm _ (List.getElem_mem hi))) ?_
      rw [← set_step toMailV z24 l i hi _ rfl] at h
      exact h
theorem toBox_ev (a : Int) (b : ByteArray) (c d e : Int) (l : List S131) (g : List Int) (hn : l.length ≤ 1048576) (hm : ∀ x ∈ l, x.f2.length ≤ 1048576) (hg : g.length ≤ 1048576) :
    Ev (fun k => laws_toBox.f k a b c d e l g) (a, b, c, d, e, l.map toMailV, g) := by
  unfold laws_toBox.f laws_toStamp.f
  simp only [Option.bind_some]
  exact Ev.bind (toMailS_ev l hn hm) (Ev.bind (toIntS_ev g hg) (Ev.now _))
theorem szIntS_eq (l : List Int) (a : Int) (h0 : 0 ≤ a) (h1 : a ≤ 1048576) (hn : l.length ≤ 9223372036854775807) :
    laws_szIntS.f l a = some (if a - (l.length : Int) < 0 then -1 else a - (l.length : Int)) := by
  unfold laws_szIntS.f
  rw [wrap_id (by omega) (by omega)]
  by_cases h : a - (l.length : Int) < 0
  · rw [if_pos h, if_pos h]
  · rw [if_neg h, if_neg h]
def HMail (x : S131) : Prop := x.f2.length ≤ 9223372036854775807 ∧ x.f3.size ≤ 140737488351232
theorem szMailS_ev (l : List S131) (a : Int) (h0 : 0 ≤ a) (h1 : a ≤ 1048576) (hn : l.length ≤ 9223372036854775807) (hm : ∀ x ∈ l, HMail x) :
    ∃ r, Ev (fun k => laws_szMailS.f k l a) r ∧ (r < 0 ∨ (0 ≤ r ∧ r ≤ a ∧ l.length ≤ 1048576 ∧ ∀ x ∈ l, x.f2.length ≤ 1048576 ∧ x.f3.size ≤ 1048576)) := by
  unfold laws_szMailS.f
  rw [wrap_id (by omega) (by omega)]
  by_cases h : a - (l.length : Int) < 0
  · simp only [if_pos h]
    exact ⟨-1, Ev.now _, .inl (by decide)⟩
  · simp only [if_neg h]
    have key : ∀ d i (b : Int), i + d = l.length → 0 ≤ b → b ≤ 1048576 → ∃ r, Ev (fun k => laws_szMailS.l0 k l b (i : Int)) r ∧ (r < 0 ∨ (0 ≤ r ∧ r ≤ b ∧ ∀ x ∈ l.drop i, x.f2.length ≤ 1048576 ∧ x.f3.size ≤ 1048576)) := by
      intro d
      induction d with
      | zero =>
        intro i b hi hb0 hb1
        refine ⟨b, Ev.step (f := fun _ => some b) (fun k => ?_) (Ev.now _), .inr ⟨hb0, by omega, ?_⟩⟩
        · simp only [laws_szMailS.l0]
          rw [if_neg (by omega)]
        · rw [List.drop_eq_nil_of_le (by omega)]
          simp
      | succ d ih =>
        intro i b hi hb0 hb1
        have hlt : i < l.length := by omega
        have hx : rd_T131 l (i : Int) = l[i] := getD_at _ _ _ hlt
        have hh := hm _ (List.getElem_mem hlt)
        obtain ⟨r, hr, hq⟩ := szMail_eq l[i].f0 l[i].f1 l[i].f2 l[i].f3 b hb0 hb1 hh.1 hh.2
        rcases hq with hq | ⟨hq0, hq1, hq2, hq3⟩
        · refine ⟨-1, Ev.step (f := fun _ => some (-1)) (fun k => ?_) (Ev.now _), .inl (by decide)⟩
          simp only [laws_szMailS.l0]
          rw [if_pos (by omega), if_pos (by omega), hx, hr]
          simp only [Option.bind_some]
          rw [if_pos hq]
        · obtain ⟨r2, hr2, hq'⟩ := ih (i + 1) r (by omega) hq0 (by omega)
          refine ⟨r2, Ev.step (f := fun k => laws_szMailS.l0 k l r ((i + 1 : Nat) : Int)) (fun k => ?_) hr2, ?_⟩
          · simp only [laws_szMailS.l0]
            rw [if_pos (by omega), if_pos (by omega), hx, hr]
            simp only [Option.bind_some]
            rw [if_neg (by omega), wrap_id (by omega) (by omega)]
            rfl
          · rcases hq' with hq' | ⟨g0, g1, g2⟩
            · exact .inl hq'
            · refine .inr ⟨g0, by omega, fun x hx' => ?_⟩
              rw [List.drop_eq_getElem_cons hlt] at hx'
              rcases List.mem_cons.1 hx' with rfl | hx'
              · exact ⟨hq2, hq3⟩
              · exact g2 x hx'
    obtain ⟨r, hr, hq⟩ := key l.length 0 (a - (l.length : Int)) (by omega) (by omega) (by omega)
    refine ⟨r, hr, ?_⟩
    rcases hq with hq | ⟨g0, g1, g2⟩
    · exact .inl hq
    · exact .inr ⟨g0, by omega, by omega, fun x hx => g2 x (by simpa using hx)⟩
theorem szBox_ev (c : Int) (s : ByteArray) (d e f : Int) (l : List S131) (g : List Int) (a : Int) (h0 : 0 ≤ a) (h1 : a ≤ 1048576) (hs : s.size ≤ 140737488351232) (hn : l.length ≤ 9223372036854775807) (hm : ∀ x ∈ l, HMail x) (hg : g.length ≤ 9223372036854775807) :
    ∃ r, Ev (fun k => laws_szBox.f k c s d e f l g a) r ∧ (r < 0 ∨ (0 ≤ r ∧ r ≤ a ∧ s.size ≤ 1048576 ∧ l.length ≤ 1048576 ∧ (∀ x ∈ l, x.f2.length ≤ 1048576 ∧ x.f3.size ≤ 1048576) ∧ g.length ≤ 1048576)) := by
  unfold laws_szBox.f
  rw [wrap_id (by omega) (by omega)]
  by_cases h : a - (s.size : Int) < 0
  · simp only [if_pos h]
    exact ⟨-1, Ev.now _, .inl (by decide)⟩
  · simp only [if_neg h]
    obtain ⟨r, hr, hq⟩ := szMailS_ev l (a - (s.size : Int)) (by omega) (by omega) hn hm
    rcases hq with hq | ⟨q0, q1, q2, q3⟩
    · refine ⟨-1, Ev.bind hr ?_, .inl (by decide)⟩
      simp only [if_pos hq]
      exact Ev.now _
    · have hnr : ¬ r < 0 := by omega
      by_cases h2 : r - (g.length : Int) < 0
      · refine ⟨-1, Ev.bind hr ?_, .inl (by decide)⟩
        simp only [if_neg hnr, szIntS_eq g r q0 (by omega) hg, Option.bind_some, if_pos h2]
        exact Ev.now _
      · refine ⟨r - (g.length : Int), Ev.bind hr ?_, .inr ⟨by omega, by omega, by omega, q2, q3, by omega⟩⟩
        simp only [if_neg hnr, szIntS_eq g r q0 (by omega) hg, Option.bind_some, if_neg h2]
        exact Ev.now _
theorem eqIntS_ev (l : List Int) (hn : l.length ≤ 9223372036854775807) : Ev (fun k => laws_eqIntS.f k l l) true := by
  unfold laws_eqIntS.f
  simp only [↓reduceIte]
  have key := ev_down (P := fun i => Ev (fun k => laws_eqIntS.l0 k l l (i : Int)) true) l.length ?_ ?_
  · simpa using key
  · refine Ev.step (f := fun _ => some true) (fun k => ?_) (Ev.now _)
    simp only [laws_eqIntS.l0]
    rw [if_neg (by omega)]
  · intro i hi h
    refine Ev.step (f := fun k => laws_eqIntS.l0 k l l ((i + 1 : Nat) : Int)) (fun k => ?_) h
    simp only [laws_eqIntS.l0]
    rw [if_pos (by omega), if_pos (by omega), if_pos (by omega), if_pos (by trivial), wrap_id (by omega) (by omega)]
    rfl
theorem eqMailS_ev (l : List S24) (hn : l.length ≤ 9223372036854775807) (hm : ∀ x ∈ l, x.f2.length ≤ 9223372036854775807) : Ev (fun k => laws_eqMailS.f k l l) true := by
  unfold laws_eqMailS.f
  simp only [↓reduceIte]
  have key := ev_down (P := fun i => Ev (fun k => laws_eqMailS.l0 k l l (i : Int)) true) l.length ?_ ?_
  · simpa using key
  · refine Ev.step (f := fun _ => some true) (fun k => ?_) (Ev.now _)
    simp only [laws_eqMailS.l0]
    rw [if_neg (by omega)]
  · intro i hi h
    have hx : rd_T24 l (i : Int) = l[i] := getD_at _ _ _ hi
    refine Ev.step (f := fun k => (laws_eqMail.f k l[i].f0 l[i].f1 l[i].f2 l[i].f3 l[i].f0 l[i].f1 l[i].f2 l[i].f3).bind fun b => if b = true then laws_eqMailS.l0 k l l ((i + 1 : Nat) : Int) else some false) (fun k => ?_) ?_
    · simp only [laws_eqMailS.l0]
      rw [if_pos (by omega), if_pos (by omega), if_pos (by omega), hx, wrap_id (by omega) (by omega)]
      rfl
    · refine Ev.bind (eqMail_ev _ _ _ _ (hm _ (List.getElem_mem hi))) ?_
      simp only [↓reduceIte]
      exact h
theorem eqBox_ev (a : Int) (b : ByteArray) (c d e : Int) (l : List S24) (g : List Int) (hn : l.length ≤ 9223372036854775807) (hm : ∀ x ∈ l, x.f2.length ≤ 9223372036854775807) (hg : g.length ≤ 9223372036854775807) :
    Ev (fun k => laws_eqBox.f k a b c d e l g a b c d e l g) true := by
  unfold laws_eqBox.f laws_eqStamp.f
  simp only [↓reduceIte, Option.bind_some]
  refine Ev.bind (eqMailS_ev l hn hm) ?_
  simp only [↓reduceIte]
  refine Ev.bind (eqIntS_ev g hg) ?_
  simp only [↓reduceIte]
  exact Ev.now _
theorem spec_MailAt_ev (a : Int) (b : ByteArray) (c d e : Int) (l : List S24) (g : List Int) (n : Int) (hn : l.length ≤ 1048576) : Ev (fun k => spec_MailAt.f k a b c d e l g n) (idxBy (fun x : S24 => x.f0 == n) l) := by
  unfold spec_MailAt.f
  refine findE (fun x : S24 => x.f0 == n) l (fun k i => spec_MailAt.l0 k n (i : Int) a b c d e l g) ?_ ?_
  · refine Ev.step (f := fun _ => some (-1)) (fun k => ?_) (Ev.now _)
    simp only [spec_MailAt.l0]
    rw [if_neg (by omega)]
  · intro i hi r h
    have e0 : rd_T24 l (i : Int) = l[i] := getD_at _ l i hi
    by_cases hp : l[i].f0 = n
    · simp only [beq_iff_eq, if_pos hp]
      refine Ev.step (f := fun _ => some (i : Int)) (fun k => ?_) (Ev.now _)
      simp only [spec_MailAt.l0]
      rw [if_pos (by omega), if_pos (by omega), e0, if_pos hp]
    · simp only [beq_iff_eq, if_neg hp]
      refine Ev.step (f := fun k => spec_MailAt.l0 k n ((i + 1 : Nat) : Int) a b c d e l g) (fun k => ?_) (h (by simpa using hp))
      simp only [spec_MailAt.l0]
      rw [if_pos (by omega), if_pos (by omega), e0, if_neg hp, wrap_id (by omega) (by omega)]
      rfl
theorem spec_l06In_ev (l : List Int) (n : Int) (hn : l.length ≤ 1048576) : Ev (fun k => spec_l06In.f k l n) (l.any (fun x => x == n)) := by
  unfold spec_l06In.f
  refine anyE (fun x : Int => x == n) l (fun k i => spec_l06In.l0 k l n (i : Int)) ?_ ?_
  · refine Ev.step (f := fun _ => some false) (fun k => ?_) (Ev.now _)
    simp only [spec_l06In.l0]
    rw [if_neg (by omega)]
  · intro i hi r h
    have e0 : rd l (i : Int) = l[i] := getD_at _ l i hi
    by_cases hp : l[i] = n
    · rw [beq_iff_eq.2 hp, Bool.true_or]
      refine Ev.step (f := fun _ => some true) (fun k => ?_) (Ev.now _)
      simp only [spec_l06In.l0]
      rw [if_pos (by omega), if_pos (by omega), e0, if_pos hp]
    · rw [beq_eq_false_iff_ne.2 hp, Bool.false_or]
      refine Ev.step (f := fun k => spec_l06In.l0 k l n ((i + 1 : Nat) : Int)) (fun k => ?_) h
      simp only [spec_l06In.l0]
      rw [if_pos (by omega), if_pos (by omega), e0, if_neg hp, wrap_id (by omega) (by omega)]
      rfl
theorem index_ev (l : List Int) (n : Int) (hn : l.length ≤ 1048576) : Ev (fun k => slices_Index_int_int.f k l n) (idxBy (fun x => x == n) l) := by
  unfold slices_Index_int_int.f
  refine findE (fun x : Int => x == n) l (fun k i => slices_Index_int_int.l0 k l n (l.length : Int) (i : Int)) ?_ ?_
  · refine Ev.step (f := fun _ => some (-1)) (fun k => ?_) (Ev.now _)
    simp only [slices_Index_int_int.l0]
    rw [if_neg (by omega)]
  · intro i hi r h
    have e0 : rd l (i : Int) = l[i] := getD_at _ l i hi
    by_cases hp : l[i] = n
    · simp only [beq_iff_eq, if_pos hp]
      refine Ev.step (f := fun _ => some (i : Int)) (fun k => ?_) (Ev.now _)
      simp only [slices_Index_int_int.l0]
      rw [if_pos (by omega), if_pos (by omega), if_pos (by omega), e0, if_pos hp.symm]
    · simp only [beq_iff_eq, if_neg hp]
      refine Ev.step (f := fun k => slices_Index_int_int.l0 k l n (l.length : Int) ((i + 1 : Nat) : Int)) (fun k => ?_) (h (by simpa using hp))
      simp only [slices_Index_int_int.l0]
      rw [if_pos (by omega), if_pos (by omega), if_pos (by omega), e0, if_neg (fun h => hp h.symm), wrap_id (by omega) (by omega)]
      rfl
theorem contains_ev (l : List Int) (n : Int) (hn : l.length ≤ 1048576) : Ev (fun k => slices_Contains_int_int.f k l n) (l.any (fun x => x == n)) := by
  unfold slices_Contains_int_int.f
  refine Ev.bind (index_ev l n hn) ?_
  have : decide (idxBy (fun x => x == n) l ≥ 0) = l.any (fun x => x == n) := by
    rw [Bool.eq_iff_iff, decide_eq_true_iff]
    exact idxBy_any _ _
  rw [this]
  exact Ev.now _
def gidAt (l : List Int) (i : Nat) (x : Int) : Bool := decide (1 ≤ x ∧ x ≤ 9999) && !(decide (0 < i) && decide (l.getD (i - 1) 0 ≥ x))
def sortedV (l : List Int) (m : Int) : Bool := allAt (gidAt l) 0 l && decide ((l.length : Int) ≤ m)
theorem rd_before (l : List Int) (i : Nat) (h0 : 0 < i) (hi : i < l.length) (hn : l.length ≤ 1048576) : wrap64 ((i : Int) - 1) = ((i - 1 : Nat) : Int) ∧ rd l ((i - 1 : Nat) : Int) = l.getD (i - 1) 0 := by
  refine ⟨by rw [wrap_id (by omega) (by omega)]; omega, ?_⟩
  unfold rd
  rw [Int.toNat_natCast]
theorem spec_sorted_ev (l : List Int) (m : Int) (hn : l.length ≤ 1048576) : Ev (fun k => spec_l06Sorted.f k l m) (sortedV l m) := by
  unfold spec_l06Sorted.f sortedV
  refine allAtE (gidAt l) _ l (fun k i => spec_l06Sorted.l0 k l m (i : Int)) ?_ ?_
  · refine Ev.step (f := fun _ => some (decide ((l.length : Int) ≤ m))) (fun k => ?_) (Ev.now _)
    simp only [spec_l06Sorted.l0]
    rw [if_neg (by omega)]
  · intro i hi r h
    have e0 : rd l (i : Int) = l[i] := getD_at _ l i hi
    have hj : ∀ t : Bool, Ev (fun k => spec_l06Sorted.j1 k l m (i : Int) t) (!t && r) := by
      intro t
      cases t with
      | true =>
        refine Ev.step (f := fun _ => some false) (fun k => ?_) (by simpa using Ev.now _)
        simp only [spec_l06Sorted.j1, ↓reduceIte]
      | false =>
        refine Ev.step (f := fun k => spec_l06Sorted.l0 k l m ((i + 1 : Nat) : Int)) (fun k => ?_) (by simpa using h)
        simp only [spec_l06Sorted.j1, Bool.false_eq_true, ↓reduceIte]
        rw [wrap_id (by omega) (by omega)]
        rfl
    refine Ev.step (f := fun k => (spec_l01In.f l[i] 1 9999).bind fun t123 => (if t123 = true then (if (i : Int) > 0 then (if 0 ≤ (wrap64 ((i : Int) - 1)) then (if (wrap64 ((i : Int) - 1)) < (l.length : Int) then (spec_l06Sorted.j1 k l m (i : Int) (decide ((rd l (wrap64 ((i : Int) - 1))) ≥ l[i]))) else (none)) else (none)) else (spec_l06Sorted.j1 k l m (i : Int) false)) else (spec_l06Sorted.j1 k l m (i : Int) true))) (fun k => ?_) ?_
    · simp only [spec_l06Sorted.l0]
      rw [if_pos (by omega), if_pos (by omega), e0]
    · simp only [l01In_eq, Option.bind_some]
      unfold gidAt
      cases hg : decide (1 ≤ l[i] ∧ l[i] ≤ 9999) with
      | false =>
        simp only [Bool.false_eq_true, ↓reduceIte, Bool.false_and]
        simpa using hj true
      | true =>
        simp only [↓reduceIte, Bool.true_and]
        by_cases h0 : 0 < i
        · obtain ⟨b1, b2⟩ := rd_before l i h0 hi hn
          have p1 : (i : Int) > 0 := by omega
          have p2 : (0 : Int) ≤ ((i - 1 : Nat) : Int) := by omega
          have p3 : ((i - 1 : Nat) : Int) < (l.length : Int) := by omega
          simp only [b1, if_pos p1, if_pos p2, if_pos p3, b2, decide_eq_true h0, Bool.true_and]
          exact hj _
        · have p1 : ¬ (i : Int) > 0 := by omega
          simp only [if_neg p1, decide_eq_false h0, Bool.false_and]
          exact hj false
theorem impl_sorted_ev (l : List Int) (m : Int) (hn : l.length ≤ 1048576) : Ev (fun k => impl_areGids.f k l m) (sortedV l m) := by
  unfold impl_areGids.f sortedV
  refine allAtE (gidAt l) _ l (fun k i => impl_areGids.l0 k l m l (l.length : Int) (i : Int)) ?_ ?_
  · refine Ev.step (f := fun _ => some (decide ((l.length : Int) ≤ m))) (fun k => ?_) (Ev.now _)
    simp only [impl_areGids.l0]
    rw [if_neg (by omega)]
  · intro i hi r h
    have e0 : rd l (i : Int) = l[i] := getD_at _ l i hi
    have hj : ∀ t : Bool, Ev (fun k => impl_areGids.j1 k l m l (l.length : Int) (i : Int) t) (!t && r) := by
      intro t
      cases t with
      | true =>
        refine Ev.step (f := fun _ => some false) (fun k => ?_) (by simpa using Ev.now _)
        simp only [impl_areGids.j1, ↓reduceIte]
      | false =>
        refine Ev.step (f := fun k => impl_areGids.l0 k l m l (l.length : Int) ((i + 1 : Nat) : Int)) (fun k => ?_) (by simpa using h)
        simp only [impl_areGids.j1, Bool.false_eq_true, ↓reduceIte]
        rw [wrap_id (by omega) (by omega)]
        rfl
    refine Ev.step (f := fun k => (impl_isGid.f l[i]).bind fun t123 => (if t123 = true then (if (i : Int) > 0 then (if 0 ≤ (wrap64 ((i : Int) - 1)) then (if (wrap64 ((i : Int) - 1)) < (l.length : Int) then (impl_areGids.j1 k l m l (l.length : Int) (i : Int) (decide ((rd l (wrap64 ((i : Int) - 1))) ≥ l[i]))) else (none)) else (none)) else (impl_areGids.j1 k l m l (l.length : Int) (i : Int) false)) else (impl_areGids.j1 k l m l (l.length : Int) (i : Int) true))) (fun k => ?_) ?_
    · simp only [impl_areGids.l0]
      rw [if_pos (by omega), if_pos (by omega), if_pos (by omega), e0]
    · simp only [isGid_eq, Option.bind_some]
      unfold gidAt
      cases hg : decide (1 ≤ l[i] ∧ l[i] ≤ 9999) with
      | false =>
        simp only [Bool.false_eq_true, ↓reduceIte, Bool.false_and]
        simpa using hj true
      | true =>
        simp only [↓reduceIte, Bool.true_and]
        by_cases h0 : 0 < i
        · obtain ⟨b1, b2⟩ := rd_before l i h0 hi hn
          have p1 : (i : Int) > 0 := by omega
          have p2 : (0 : Int) ≤ ((i - 1 : Nat) : Int) := by omega
          have p3 : ((i - 1 : Nat) : Int) < (l.length : Int) := by omega
          simp only [b1, if_pos p1, if_pos p2, if_pos p3, b2, decide_eq_true h0, Bool.true_and]
          exact hj _
        · have p1 : ¬ (i : Int) > 0 := by omega
          simp only [if_neg p1, decide_eq_false h0, Bool.false_and]
          exact hj false
def boxMailAt (e : Int) (l : List S24) (g : List Int) (i : Nat) (x : S24) : Bool :=
  mailOkV x.f0 x.f1 x.f2 x.f3 && (!(decide (x.f1 ≥ e)) && (!(decide (0 < i) && decide ((rd_T24 l ((i - 1 : Nat) : Int)).f1 ≥ x.f1)) && (!(g.any (fun y => y == x.f0)) && (idxBy (fun y : S24 => y.f0 == x.f0) l == (i : Int)))))
def boxOkV (a : Int) (s : ByteArray) (c d e : Int) (l : List S24) (g : List Int) : Bool :=
  decide (1 ≤ a ∧ a ≤ 9999) && (nameV s && (stampV c d && (decide (1 ≤ e ∧ e ≤ 10000) && (decide ((l.length : Int) ≤ 10) && (sortedV g 40 && allAt (boxMailAt e l g) 0 l)))))
theorem spec_boxok_l0 (a : Int) (s : ByteArray) (c d e : Int) (l : List S24) (g : List Int) (hn : l.length ≤ 1048576) (hm : ∀ x ∈ l, x.f2.length ≤ 1048576) (hg : g.length ≤ 1048576) :
    Ev (fun k => spec_BoxOk.l0 k 0 a s c d e l g) (allAt (boxMailAt e l g) 0 l) := by
  have key : Ev (fun k => spec_BoxOk.l0 k 0 a s c d e l g) (allAt (boxMailAt e l g) 0 l && true) := by
    refine allAtE (boxMailAt e l g) true l (fun k i => spec_BoxOk.l0 k (i : Int) a s c d e l g) ?_ ?_
    · refine Ev.step (f := fun _ => some true) (fun k => ?_) (Ev.now _)
      simp only [spec_BoxOk.l0]
      rw [if_neg (by omega)]
    · intro i hi r h
      have e0 : rd_T24 l (i : Int) = l[i] := getD_at _ l i hi
      have hml := hm l[i] (List.getElem_mem hi)
      have hj : ∀ t : Bool, Ev (fun k => spec_BoxOk.j2 k (i : Int) t a s c d e l g) (!t && r) := by
        intro t
        cases t with
        | true =>
          refine Ev.step (f := fun _ => some false) (fun k => ?_) (by simpa using Ev.now _)
          simp only [spec_BoxOk.j2, ↓reduceIte]
        | false =>
          refine Ev.step (f := fun k => spec_BoxOk.l0 k ((i + 1 : Nat) : Int) a s c d e l g) (fun k => ?_) (by simpa using h)
          simp only [spec_BoxOk.j2, Bool.false_eq_true, ↓reduceIte]
          rw [wrap_id (by omega) (by omega)]
          rfl
      unfold boxMailAt
      generalize l[i] = x at e0 hml ⊢
      have tail : Ev (fun k => (spec_l06In.f k g x.f0).bind fun t => if t = true then spec_BoxOk.j2 k (i : Int) true a s c d e l g else (spec_MailAt.f k a s c d e l g x.f0).bind fun t => spec_BoxOk.j2 k (i : Int) (t != (i : Int)) a s c d e l g)
          ((!(g.any (fun y => y == x.f0)) && (idxBy (fun y : S24 => y.f0 == x.f0) l == (i : Int))) && r) := by
        refine Ev.bind (spec_l06In_ev g x.f0 hg) ?_
        cases g.any (fun y => y == x.f0) with
        | true =>
          simp only [↓reduceIte, Bool.not_true, Bool.false_and]
          simpa using hj true
        | false =>
          simp only [Bool.false_eq_true, ↓reduceIte, Bool.not_false, Bool.true_and]
          refine Ev.bind (spec_MailAt_ev a s c d e l g x.f0 hn) ?_
          have := hj (idxBy (fun y : S24 => y.f0 == x.f0) l != (i : Int))
          simpa [bne] using this
      refine Ev.step (f := fun k => (spec_MailOk.f k x.f0 x.f1 x.f2 x.f3).bind fun t137 => (if t137 = true then (if x.f1 ≥ e then (spec_BoxOk.j2 k (i : Int) true a s c d e l g) else (if (i : Int) > 0 then (if 0 ≤ (wrap64 ((i : Int) - 1)) then (if (wrap64 ((i : Int) - 1)) < (l.length : Int) then (if ((rd_T24 l (wrap64 ((i : Int) - 1))).f1) ≥ x.f1 then (spec_BoxOk.j2 k (i : Int) true a s c d e l g) else ((spec_l06In.f k g x.f0).bind fun t => if t = true then spec_BoxOk.j2 k (i : Int) true a s c d e l g else (spec_MailAt.f k a s c d e l g x.f0).bind fun t => spec_BoxOk.j2 k (i : Int) (t != (i : Int)) a s c d e l g)) else none) else none) else ((spec_l06In.f k g x.f0).bind fun t => if t = true then spec_BoxOk.j2 k (i : Int) true a s c d e l g else (spec_MailAt.f k a s c d e l g x.f0).bind fun t => spec_BoxOk.j2 k (i : Int) (t != (i : Int)) a s c d e l g))) else (spec_BoxOk.j2 k (i : Int) true a s c d e l g))) (fun k => ?_) ?_
      · simp only [spec_BoxOk.l0]
        rw [if_pos (by omega), if_pos (by omega), e0]
      · refine Ev.bind (spec_MailOk_ev x.f0 x.f1 x.f2 x.f3 hml) ?_
        cases mailOkV x.f0 x.f1 x.f2 x.f3 with
        | false =>
          simp only [Bool.false_eq_true, ↓reduceIte, Bool.false_and]
          simpa using hj true
        | true =>
          simp only [↓reduceIte, Bool.true_and]
          by_cases hu : x.f1 ≥ e
          · simp only [if_pos hu, decide_eq_true hu, Bool.not_true, Bool.false_and]
            simpa using hj true
          · simp only [if_neg hu, decide_eq_false hu, Bool.not_false, Bool.true_and]
            by_cases h0 : 0 < i
            · have b1 : wrap64 ((i : Int) - 1) = ((i - 1 : Nat) : Int) := by rw [wrap_id (by omega) (by omega)]; omega
              have p1 : (i : Int) > 0 := by omega
              have p2 : (0 : Int) ≤ ((i - 1 : Nat) : Int) := by omega
              have p3 : ((i - 1 : Nat) : Int) < (l.length : Int) := by omega
              simp only [b1, if_pos p1, if_pos p2, if_pos p3, decide_eq_true h0, Bool.true_and]
              by_cases hq : (rd_T24 l ((i - 1 : Nat) : Int)).f1 ≥ x.f1
              · simp only [if_pos hq, decide_eq_true hq, Bool.not_true, Bool.false_and]
                simpa using hj true
              · simp only [if_neg hq, decide_eq_false hq, Bool.not_false, Bool.true_and]
                exact tail
            · have p1 : ¬ (i : Int) > 0 := by omega
              simp only [if_neg p1, decide_eq_false h0, Bool.false_and, Bool.not_false, Bool.true_and]
              exact tail
  simpa using key
theorem spec_BoxOk_ev (a : Int) (s : ByteArray) (c d e : Int) (l : List S24) (g : List Int) (hs : s.size ≤ 1048576) (hn : l.length ≤ 1048576) (hm : ∀ x ∈ l, x.f2.length ≤ 1048576) (hg : g.length ≤ 1048576) :
    Ev (fun k => spec_BoxOk.f k a s c d e l g) (boxOkV a s c d e l g) := by
  unfold spec_BoxOk.f boxOkV
  have hj : ∀ t : Bool, Ev (fun k => spec_BoxOk.j0 k t a s c d e l g) (!t && allAt (boxMailAt e l g) 0 l) := by
    intro t
    cases t with
    | true =>
      refine Ev.step (f := fun _ => some false) (fun k => ?_) (by simpa using Ev.now _)
      simp only [spec_BoxOk.j0, ↓reduceIte]
    | false =>
      refine Ev.step (f := fun k => spec_BoxOk.l0 k 0 a s c d e l g) (fun k => ?_) (by simpa using spec_boxok_l0 a s c d e l g hn hm hg)
      simp only [spec_BoxOk.j0, Bool.false_eq_true, ↓reduceIte]
  have hF : Ev (fun k => spec_BoxOk.j0 k true a s c d e l g) false := by simpa using hj true
  simp only [l01In_eq, Option.bind_some]
  cases decide (1 ≤ a ∧ a ≤ 9999) with
  | false => simp only [Bool.false_eq_true, ↓reduceIte, Bool.false_and]; exact hF
  | true =>
    simp only [↓reduceIte, Bool.true_and]
    refine Ev.bind (spec_NameOk_ev s (by omega)) ?_
    cases nameV s with
    | false => simp only [Bool.false_eq_true, ↓reduceIte, Bool.false_and]; exact hF
    | true =>
      simp only [↓reduceIte, Bool.true_and, spec_StampOk_eq, Option.bind_some]
      cases stampV c d with
      | false => simp only [Bool.false_eq_true, ↓reduceIte, Bool.false_and]; exact hF
      | true =>
        simp only [↓reduceIte, Bool.true_and]
        cases decide (1 ≤ e ∧ e ≤ 10000) with
        | false => simp only [Bool.false_eq_true, ↓reduceIte, Bool.false_and]; exact hF
        | true =>
          simp only [↓reduceIte, Bool.true_and]
          by_cases hl : (l.length : Int) > 10
          · simp only [if_pos hl, decide_eq_false (show ¬ (l.length : Int) ≤ 10 by omega), Bool.false_and]
            exact hF
          · simp only [if_neg hl, decide_eq_true (show (l.length : Int) ≤ 10 by omega), Bool.true_and]
            refine Ev.bind (spec_sorted_ev g 40 hg) ?_
            have := hj (!(sortedV g 40))
            simpa using this
theorem impl_boxok_l0 (a : Int) (s : ByteArray) (c d e : Int) (l : List S24) (g : List Int) (hn : l.length ≤ 1048576) (hm : ∀ x ∈ l, x.f2.length ≤ 1048576) (hg : g.length ≤ 1048576) :
    Ev (fun k => impl_BoxOk.l0 k l (l.length : Int) 0 a s c d e l g) (allAt (boxMailAt e l g) 0 l) := by
  have key : Ev (fun k => impl_BoxOk.l0 k l (l.length : Int) 0 a s c d e l g) (allAt (boxMailAt e l g) 0 l && true) := by
    refine allAtE (boxMailAt e l g) true l (fun k i => impl_BoxOk.l0 k l (l.length : Int) (i : Int) a s c d e l g) ?_ ?_
    · refine Ev.step (f := fun _ => some true) (fun k => ?_) (Ev.now _)
      simp only [impl_BoxOk.l0]
      rw [if_neg (by omega)]
    · intro i hi r h
      have e0 : rd_T24 l (i : Int) = l[i] := getD_at _ l i hi
      have hml := hm l[i] (List.getElem_mem hi)
      have hj : ∀ t : Bool, Ev (fun k => impl_BoxOk.j2 k l (l.length : Int) (i : Int) t a s c d e l g) (!t && r) := by
        intro t
        cases t with
        | true =>
          refine Ev.step (f := fun _ => some false) (fun k => ?_) (by simpa using Ev.now _)
          simp only [impl_BoxOk.j2, ↓reduceIte]
        | false =>
          refine Ev.step (f := fun k => impl_BoxOk.l0 k l (l.length : Int) ((i + 1 : Nat) : Int) a s c d e l g) (fun k => ?_) (by simpa using h)
          simp only [impl_BoxOk.j2, Bool.false_eq_true, ↓reduceIte]
          rw [wrap_id (by omega) (by omega)]
          rfl
      unfold boxMailAt
      generalize l[i] = x at e0 hml ⊢
      have tail : Ev (fun k => (impl_MailAt.f a s c d e l g x.f0).bind fun t => if t = (i : Int) then (slices_Contains_int_int.f k g x.f0).bind fun t => impl_BoxOk.j2 k l (l.length : Int) (i : Int) t a s c d e l g else impl_BoxOk.j2 k l (l.length : Int) (i : Int) true a s c d e l g)
          ((!(g.any (fun y => y == x.f0)) && (idxBy (fun y : S24 => y.f0 == x.f0) l == (i : Int))) && r) := by
        simp only [impl_MailAt.f, Option.bind_some]
        by_cases hq : idxBy (fun y : S24 => y.f0 == x.f0) l = (i : Int)
        · simp only [if_pos hq, beq_iff_eq.2 hq, Bool.and_true]
          exact Ev.bind (contains_ev g x.f0 hg) (hj _)
        · simp only [if_neg hq, beq_eq_false_iff_ne.2 hq, Bool.and_false, Bool.false_and]
          simpa using hj true
      refine Ev.step (f := fun k => (impl_MailOk.f k x.f0 x.f1 x.f2 x.f3).bind fun t137 => (if t137 = true then (if x.f1 ≥ e then (impl_BoxOk.j2 k l (l.length : Int) (i : Int) true a s c d e l g) else (if (i : Int) > 0 then (if 0 ≤ (wrap64 ((i : Int) - 1)) then (if (wrap64 ((i : Int) - 1)) < (l.length : Int) then (if ((rd_T24 l (wrap64 ((i : Int) - 1))).f1) ≥ x.f1 then (impl_BoxOk.j2 k l (l.length : Int) (i : Int) true a s c d e l g) else ((impl_MailAt.f a s c d e l g x.f0).bind fun t => if t = (i : Int) then (slices_Contains_int_int.f k g x.f0).bind fun t => impl_BoxOk.j2 k l (l.length : Int) (i : Int) t a s c d e l g else impl_BoxOk.j2 k l (l.length : Int) (i : Int) true a s c d e l g)) else none) else none) else ((impl_MailAt.f a s c d e l g x.f0).bind fun t => if t = (i : Int) then (slices_Contains_int_int.f k g x.f0).bind fun t => impl_BoxOk.j2 k l (l.length : Int) (i : Int) t a s c d e l g else impl_BoxOk.j2 k l (l.length : Int) (i : Int) true a s c d e l g))) else (impl_BoxOk.j2 k l (l.length : Int) (i : Int) true a s c d e l g))) (fun k => ?_) ?_
      · simp only [impl_BoxOk.l0]
        rw [if_pos (by omega), if_pos (by omega), if_pos (by omega), e0]
      · refine Ev.bind (impl_MailOk_ev x.f0 x.f1 x.f2 x.f3 hml) ?_
        cases mailOkV x.f0 x.f1 x.f2 x.f3 with
        | false =>
          simp only [Bool.false_eq_true, ↓reduceIte, Bool.false_and]
          simpa using hj true
        | true =>
          simp only [↓reduceIte, Bool.true_and]
          by_cases hu : x.f1 ≥ e
          · simp only [if_pos hu, decide_eq_true hu, Bool.not_true, Bool.false_and]
            simpa using hj true
          · simp only [if_neg hu, decide_eq_false hu, Bool.not_false, Bool.true_and]
            by_cases h0 : 0 < i
            · have b1 : wrap64 ((i : Int) - 1) = ((i - 1 : Nat) : Int) := by rw [wrap_id (by omega) (by omega)]; omega
              have p1 : (i : Int) > 0 := by omega
              have p2 : (0 : Int) ≤ ((i - 1 : Nat) : Int) := by omega
              have p3 : ((i - 1 : Nat) : Int) < (l.length : Int) := by omega
              simp only [b1, if_pos p1, if_pos p2, if_pos p3, decide_eq_true h0, Bool.true_and]
              by_cases hq : (rd_T24 l ((i - 1 : Nat) : Int)).f1 ≥ x.f1
              · simp only [if_pos hq, decide_eq_true hq, Bool.not_true, Bool.false_and]
                simpa using hj true
              · simp only [if_neg hq, decide_eq_false hq, Bool.not_false, Bool.true_and]
                exact tail
            · have p1 : ¬ (i : Int) > 0 := by omega
              simp only [if_neg p1, decide_eq_false h0, Bool.false_and, Bool.not_false, Bool.true_and]
              exact tail
  simpa using key
theorem impl_BoxOk_ev (a : Int) (s : ByteArray) (c d e : Int) (l : List S24) (g : List Int) (hs : s.size ≤ 1048576) (hn : l.length ≤ 1048576) (hm : ∀ x ∈ l, x.f2.length ≤ 1048576) (hg : g.length ≤ 1048576) :
    Ev (fun k => impl_BoxOk.f k a s c d e l g) (boxOkV a s c d e l g) := by
  unfold impl_BoxOk.f boxOkV
  have hj : ∀ t : Bool, Ev (fun k => impl_BoxOk.j0 k t a s c d e l g) (!t && allAt (boxMailAt e l g) 0 l) := by
    intro t
    cases t with
    | true =>
      refine Ev.step (f := fun _ => some false) (fun k => ?_) (by simpa using Ev.now _)
      simp only [impl_BoxOk.j0, ↓reduceIte]
    | false =>
      refine Ev.step (f := fun k => impl_BoxOk.l0 k l (l.length : Int) 0 a s c d e l g) (fun k => ?_) (by simpa using impl_boxok_l0 a s c d e l g hn hm hg)
      simp only [impl_BoxOk.j0, Bool.false_eq_true, ↓reduceIte]
  have hF : Ev (fun k => impl_BoxOk.j0 k true a s c d e l g) false := by simpa using hj true
  simp only [isGid_eq, Option.bind_some]
  cases decide (1 ≤ a ∧ a ≤ 9999) with
  | false => simp only [Bool.false_eq_true, ↓reduceIte, Bool.false_and]; exact hF
  | true =>
    simp only [↓reduceIte, Bool.true_and]
    refine Ev.bind (impl_NameOk_ev s (by omega)) ?_
    cases nameV s with
    | false => simp only [Bool.false_eq_true, ↓reduceIte, Bool.false_and]; exact hF
    | true =>
      simp only [↓reduceIte, Bool.true_and, impl_StampOk_eq, within_eq, Option.bind_some]
      cases stampV c d with
      | false => simp only [Bool.false_eq_true, ↓reduceIte, Bool.false_and]; exact hF
      | true =>
        simp only [↓reduceIte, Bool.true_and]
        cases decide (1 ≤ e ∧ e ≤ 10000) with
        | false => simp only [Bool.false_eq_true, ↓reduceIte, Bool.false_and]; exact hF
        | true =>
          simp only [↓reduceIte, Bool.true_and]
          by_cases hl : (l.length : Int) > 10
          · simp only [if_pos hl, decide_eq_false (show ¬ (l.length : Int) ≤ 10 by omega), Bool.false_and]
            exact hF
          · simp only [if_neg hl, decide_eq_true (show (l.length : Int) ≤ 10 by omega), Bool.true_and]
            refine Ev.bind (impl_sorted_ev g 40 hg) ?_
            have := hj (!(sortedV g 40))
            simpa using this

theorem FnExactBoxOk : laws_FnExactBoxOk.Pure := by
  intro a s c d e l g _ hs _ _ _ hl hg
  have hh : ∀ m ∈ l, HMail m := by
    intro m hm
    obtain ⟨_, _, g2, g3⟩ := hl.2.2 m hm
    exact ⟨g2.2.1, g3⟩
  refine Ev.rounds (g := fun k => laws_FnExactBoxOk.f k a s c d e l g) ?_
  unfold laws_FnExactBoxOk.f
  obtain ⟨r, hr, hq⟩ := szBox_ev a s c d e l g 1048576 (by decide) (by decide) hs hl.2.1 hh hg.2.1
  refine Ev.bind hr ?_
  rcases hq with hq | ⟨q0, _, q1, q2, q3, q4⟩
  · simp only [if_pos hq]
    exact Ev.now _
  · have hn : ¬ r < 0 := by omega
    simp only [if_neg hn]
    have ht := toBox_ev a s c d e l g q2 (fun x hx => (q3 x hx).1) q4
    have hm : (l.map toMailV).length ≤ 1048576 := by rw [List.length_map]; exact q2
    have hx : ∀ x ∈ l.map toMailV, x.f2.length ≤ 1048576 := by
      intro x hx
      obtain ⟨y, hy, rfl⟩ := List.mem_map.1 hx
      rw [show (toMailV y).f2 = y.f2.map toRegV from rfl, List.length_map]
      exact (q3 y hy).1
    refine Ev.bind ht (Ev.bind (spec_BoxOk_ev a s c d e _ g q1 hm hx q4) (Ev.bind ht (Ev.bind (impl_BoxOk_ev a s c d e _ g q1 hm hx q4) ?_)))
    simp only [bne_self_eq_false, Bool.false_eq_true, ↓reduceIte]
    refine Ev.bind ht (Ev.bind (eqBox_ev a s c d e _ g (by omega) (fun x h => by have := hx x h; omega) (by omega)) ?_)
    exact Ev.now _

end Go.Proofs.Ytjlffencbaifeaa.Pure
