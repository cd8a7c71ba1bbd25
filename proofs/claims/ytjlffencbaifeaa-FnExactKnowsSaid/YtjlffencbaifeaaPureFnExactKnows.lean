/- The program's Knows returns what the reference's returns and leaves its store alone, for every store and Gid; the bounds are the row's own. -/
import Derived.Test.YtjlffencbaifeaaPFnExactKnowsx1
import Derived.Test.YtjlffencbaifeaaPFnExactKnowsx2
import Derived.Test.YtjlffencbaifeaaPFnExactKnowsx3
import Derived.Test.YtjlffencbaifeaaPFnExactKnowsx4
import Derived.Test.YtjlffencbaifeaaPFnExactKnowsx5
import Derived.Test.YtjlffencbaifeaaPFnExactKnowsx6
import Derived.Test.YtjlffencbaifeaaPFnExactKnowsx7
import Derived.Test.YtjlffencbaifeaaLib
import Derived.Test.YtjlffencbaifeaaLib2
import Derived.Test.YtjlffencbaifeaaLib3
import Derived.Test.YtjlffencbaifeaaLib4
import Derived.Test.YtjlffencbaifeaaLib5
import Derived.Test.YtjlffencbaifeaaLib6
import Derived.Test.YtjlffencbaifeaaQFnExactKnows
namespace Go.Proofs.Ytjlffencbaifeaa.Pure
open Go.RowKit Go.Proofs.Ytjlffencbaifeaa.PFnExactKnows Go.Proofs.YtjlffencbaifeaaW.PrintWords Go.Proofs.YtjlffencbaifeaaW.PrintLast Go.Proofs.Ytjlffencbaifeaa.Lib
set_option linter.unusedVariables false
set_option linter.unusedSimpArgs false

theorem eqReg_self (a b c : Int) : laws_eqReg.f a b c a b c = some true := by
  unfold laws_eqReg.f laws_eqStamp.f
  simp
def toRegV (x : S152) : S82 := ⟨x.f0, ⟨x.f1.f0, x.f1.f1⟩⟩
theorem toRegS_ev (l : List S152) (hn : l.length ≤ 1048576) : Ev (fun k => laws_toRegS.f k l) (l.map toRegV) := by
  unfold laws_toRegS.f
  have p1 : (0 : Int) ≤ (l.length : Int) := by omega
  have p2 : ((l.length : Int)).toNat ≤ 11728124029610 := by omega
  simp only [if_pos p1, if_pos p2]
  have key := ev_down (P := fun i => Ev (fun k => laws_toRegS.l0 k l ((l.take i).map toRegV ++ List.replicate (l.length - i) z82) (i : Int)) (l.map toRegV)) l.length ?_ ?_
  · simpa using key
  · simp only [List.take_length, Nat.sub_self, List.replicate_zero, List.append_nil]
    refine Ev.step (f := fun _ => some (l.map toRegV)) (fun k => ?_) (Ev.now _)
    simp only [laws_toRegS.l0]
    rw [if_neg (by omega)]
  · intro i hi h
    have hx : rd_T152 l (i : Int) = l[i] := getD_at _ _ _ hi
    refine Ev.step (f := fun k => laws_toRegS.l0 k l ((l.take (i + 1)).map toRegV ++ List.replicate (l.length - (i + 1)) z82) ((i + 1 : Nat) : Int)) (fun k => ?_) h
    simp only [laws_toRegS.l0]
    rw [if_pos (by omega), if_pos (by omega), hx]
    simp only [laws_toReg.f, laws_toStamp.f, Option.bind_some]
    rw [if_pos (by simp; omega), wrap_id (by omega) (by omega), Int.toNat_natCast]
    change laws_toRegS.l0 k l (((l.take i).map toRegV ++ List.replicate (l.length - i) z82).set i (toRegV l[i])) _ = _
    rw [set_step toRegV z82 l i hi _ rfl]
    rfl
theorem eqRegS_ev (l : List S82) (hn : l.length ≤ 9223372036854775807) : Ev (fun k => laws_eqRegS.f k l l) true := by
  unfold laws_eqRegS.f
  simp only [↓reduceIte]
  have key := ev_down (P := fun i => Ev (fun k => laws_eqRegS.l0 k l l (i : Int)) true) l.length ?_ ?_
  · simpa using key
  · refine Ev.step (f := fun _ => some true) (fun k => ?_) (Ev.now _)
    simp only [laws_eqRegS.l0]
    rw [if_neg (by omega)]
  · intro i hi h
    refine Ev.step (f := fun k => laws_eqRegS.l0 k l l ((i + 1 : Nat) : Int)) (fun k => ?_) h
    simp only [laws_eqRegS.l0]
    rw [if_pos (by omega), if_pos (by omega), if_pos (by omega), eqReg_self]
    simp only [Option.bind_some, ↓reduceIte]
    rw [wrap_id (by omega) (by omega)]
    rfl
theorem szRegS_eq (l : List S152) (a : Int) (h0 : 0 ≤ a) (h1 : a ≤ 1048576) (hn : l.length ≤ 9223372036854775807) :
    laws_szRegS.f l a = some (if a - (l.length : Int) < 0 then -1 else a - (l.length : Int)) := by
  unfold laws_szRegS.f
  rw [wrap_id (by omega) (by omega)]
  by_cases h : a - (l.length : Int) < 0
  · rw [if_pos h, if_pos h]
  · rw [if_neg h, if_neg h]
theorem szMail_eq (g u : Int) (l : List S152) (t : ByteArray) (a : Int) (h0 : 0 ≤ a) (h1 : a ≤ 1048576) (hn : l.length ≤ 9223372036854775807) (ht : t.size ≤ 140737488351232) :
    ∃ r, laws_szMail.f g u l t a = some r ∧ (r < 0 ∨ (0 ≤ r ∧ r ≤ a ∧ l.length ≤ 1048576 ∧ t.size ≤ 1048576)) := by
  unfold laws_szMail.f
  simp only [szRegS_eq l a h0 h1 hn, Option.bind_some]
  by_cases h : a - (l.length : Int) < 0
  · simp only [if_pos h]
    exact ⟨-1, by rw [if_pos (by decide)], .inl (by decide)⟩
  · simp only [if_neg h]
    rw [wrap_id (by omega) (by omega)]
    by_cases h2 : a - (l.length : Int) - (t.size : Int) < 0
    · exact ⟨-1, by rw [if_pos h2], .inl (by decide)⟩
    · exact ⟨_, by rw [if_neg h2], .inr ⟨by omega, by omega, by omega, by omega⟩⟩
theorem toMail_ev (g u : Int) (l : List S152) (t : ByteArray) (hn : l.length ≤ 1048576) : Ev (fun k => laws_toMail.f k g u l t) (g, u, l.map toRegV, t) := by
  unfold laws_toMail.f
  exact Ev.bind (toRegS_ev l hn) (Ev.now _)
theorem eqMail_ev (g u : Int) (l : List S82) (t : ByteArray) (hn : l.length ≤ 9223372036854775807) : Ev (fun k => laws_eqMail.f k g u l t g u l t) true := by
  unfold laws_eqMail.f
  simp only [↓reduceIte]
  exact Ev.bind (eqRegS_ev l hn) (Ev.now _)
theorem toIntS_ev (l : List Int) (hn : l.length ≤ 1048576) : Ev (fun k => laws_toIntS.f k l) l := by
  unfold laws_toIntS.f
  have p1 : (0 : Int) ≤ (l.length : Int) := by omega
  have p2 : ((l.length : Int)).toNat ≤ 35184372088832 := by omega
  simp only [if_pos p1, if_pos p2]
  have key := ev_down (P := fun i => Ev (fun k => laws_toIntS.l0 k l ((l.take i).map id ++ List.replicate (l.length - i) 0) (i : Int)) l) l.length ?_ ?_
  · simpa using key
  · simp only [List.take_length, Nat.sub_self, List.replicate_zero, List.append_nil, List.map_id]
    refine Ev.step (f := fun _ => some l) (fun k => ?_) (Ev.now _)
    simp only [laws_toIntS.l0]
    rw [if_neg (by omega)]
  · intro i hi h
    have hx : rd l (i : Int) = l[i] := getD_at _ _ _ hi
    refine Ev.step (f := fun k => laws_toIntS.l0 k l ((l.take (i + 1)).map id ++ List.replicate (l.length - (i + 1)) 0) ((i + 1 : Nat) : Int)) (fun k => ?_) h
    simp only [laws_toIntS.l0]
    rw [if_pos (by omega), if_pos (by omega), if_pos (by simp; omega), hx, wrap_id (by omega) (by omega), Int.toNat_natCast, set_step id 0 l i hi l[i] rfl]
    rfl
def toMailV (x : S131) : S24 := ⟨x.f0, x.f1, x.f2.map toRegV, x.f3⟩
theorem toMailS_ev (l : List S131) (hn : l.length ≤ 1048576) (hm : ∀ x ∈ l, x.f2.length ≤ 1048576) : Ev (fun k => laws_toMailS.f k l) (l.map toMailV) := by
  unfold laws_toMailS.f
  have p1 : (0 : Int) ≤ (l.length : Int) := by omega
  have p2 : ((l.length : Int)).toNat ≤ 5026338869833 := by omega
  simp only [if_pos p1, if_pos p2]
  have key := ev_down (P := fun i => Ev (fun k => laws_toMailS.l0 k l ((l.take i).map toMailV ++ List.replicate (l.length - i) z24) (i : Int)) (l.map toMailV)) l.length ?_ ?_
  · simpa using key
  · simp only [List.take_length, Nat.sub_self, List.replicate_zero, List.append_nil]
    refine Ev.step (f := fun _ => some (l.map toMailV)) (fun k => ?_) (Ev.now _)
    simp only [laws_toMailS.l0]
    rw [if_neg (by omega)]
  · intro i hi h
    have hx : rd_T131 l (i : Int) = l[i] := getD_at _ _ _ hi
    refine Ev.step (f := fun k => (laws_toMail.f k l[i].f0 l[i].f1 l[i].f2 l[i].f3).bind fun b => laws_toMailS.l0 k l (((l.take i).map toMailV ++ List.replicate (l.length - i) z24).set i ⟨b.1, b.2.1, b.2.2.1, b.2.2.2⟩) ((i + 1 : Nat) : Int)) (fun k => ?_) ?_
    · simp only [laws_toMailS.l0]
      rw [if_pos (by omega), if_pos (by omega), hx]
      congr 1
      funext b
      rw [if_pos (by simp; omega), wrap_id (by omega) (by omega), Int.toNat_natCast]
      rfl
    · refine Ev.bind (toMail_ev _ _ _ _ (hm _ (List.getElem_mem hi))) ?_
      rw [← set_step toMailV z24 l i hi _ rfl] at h
      exact h
theorem toBox_ev (a : Int) (b : ByteArray) (c d e : Int) (l : List S131) (g : List Int) (hn : l.length ≤ 1048576) (hm : ∀ x ∈ l, x.f2.length ≤ 1048576) (hg : g.length ≤ 1048576) :
    Ev (fun k => laws_toBox.f k a b c d e l g) (a, b, c, d, e, l.map toMailV, g) := by
  unfold laws_toBox.f laws_toStamp.f
  simp only [Option.bind_some]
  exact Ev.bind (toMailS_ev l hn hm) (Ev.bind (toIntS_ev g hg) (Ev.now _))
def toBoxV (x : S54) : S59 := ⟨x.f0, x.f1, ⟨x.f2.f0, x.f2.f1⟩, x.f3, x.f4.map toMailV, x.f5⟩
def SmallBox (x : S54) : Prop := x.f1.size ≤ 1048576 ∧ x.f4.length ≤ 1048576 ∧ (∀ m ∈ x.f4, m.f2.length ≤ 1048576 ∧ m.f3.size ≤ 1048576) ∧ x.f5.length ≤ 1048576
theorem toBoxS_ev (l : List S54) (hn : l.length ≤ 1048576) (hm : ∀ x ∈ l, SmallBox x) : Ev (fun k => laws_toBoxS.f k l) (l.map toBoxV) := by
  unfold laws_toBoxS.f
  have p1 : (0 : Int) ≤ (l.length : Int) := by omega
  have p2 : ((l.length : Int)).toNat ≤ 2932031007402 := by omega
  simp only [if_pos p1, if_pos p2]
  have key := ev_down (P := fun i => Ev (fun k => laws_toBoxS.l0 k l ((l.take i).map toBoxV ++ List.replicate (l.length - i) z59) (i : Int)) (l.map toBoxV)) l.length ?_ ?_
  · simpa using key
  · simp only [List.take_length, Nat.sub_self, List.replicate_zero, List.append_nil]
    refine Ev.step (f := fun _ => some (l.map toBoxV)) (fun k => ?_) (Ev.now _)
    simp only [laws_toBoxS.l0]
    rw [if_neg (by omega)]
  · intro i hi h
    have hx : rd_T54 l (i : Int) = l[i] := getD_at _ _ _ hi
    refine Ev.step (f := fun k => (laws_toBox.f k l[i].f0 l[i].f1 l[i].f2.f0 l[i].f2.f1 l[i].f3 l[i].f4 l[i].f5).bind fun b => laws_toBoxS.l0 k l (((l.take i).map toBoxV ++ List.replicate (l.length - i) z59).set i ⟨b.1, b.2.1, ⟨b.2.2.1, b.2.2.2.1⟩, b.2.2.2.2.1, b.2.2.2.2.2.1, b.2.2.2.2.2.2⟩) ((i + 1 : Nat) : Int)) (fun k => ?_) ?_
    · simp only [laws_toBoxS.l0]
      rw [if_pos (by omega), if_pos (by omega), hx]
      congr 1
      funext b
      rw [if_pos (by simp; omega), wrap_id (by omega) (by omega), Int.toNat_natCast]
      rfl
    · have hs := hm _ (List.getElem_mem hi)
      refine Ev.bind (toBox_ev _ _ _ _ _ _ _ hs.2.1 (fun x hx => (hs.2.2.1 x hx).1) hs.2.2.2) ?_
      rw [← set_step toBoxV z59 l i hi _ rfl] at h
      exact h
theorem toStore_ev (a b : Int) (l : List S54) (g : List Int) (hn : l.length ≤ 1048576) (hm : ∀ x ∈ l, SmallBox x) (hg : g.length ≤ 1048576) :
    Ev (fun k => laws_toStore.f k a b l g) (a, b, l.map toBoxV, g) := by
  unfold laws_toStore.f
  exact Ev.bind (toBoxS_ev l hn hm) (Ev.bind (toIntS_ev g hg) (Ev.now _))
theorem szIntS_eq (l : List Int) (a : Int) (h0 : 0 ≤ a) (h1 : a ≤ 1048576) (hn : l.length ≤ 9223372036854775807) :
    laws_szIntS.f l a = some (if a - (l.length : Int) < 0 then -1 else a - (l.length : Int)) := by
  unfold laws_szIntS.f
  rw [wrap_id (by omega) (by omega)]
  by_cases h : a - (l.length : Int) < 0
  · rw [if_pos h, if_pos h]
  · rw [if_neg h, if_neg h]
def HMail (x : S131) : Prop := x.f2.length ≤ 9223372036854775807 ∧ x.f3.size ≤ 140737488351232
theorem szMailS_ev (l : List S131) (a : Int) (h0 : 0 ≤ a) (h1 : a ≤ 1048576) (hn : l.length ≤ 9223372036854775807) (hm : ∀ x ∈ l, HMail x) :
    ∃ r, Ev (fun k => laws_szMailS.f k l a) r ∧ (r < 0 ∨ (0 ≤ r ∧ r ≤ a ∧ l.length ≤ 1048576 ∧ ∀ x ∈ l, x.f2.length ≤ 1048576 ∧ x.f3.size ≤ 1048576)) := by
  unfold laws_szMailS.f
  rw [wrap_id (by omega) (by omega)]
  by_cases h : a - (l.length : Int) < 0
  · simp only [if_pos h]
    exact ⟨-1, Ev.now _, .inl (by decide)⟩
  · simp only [if_neg h]
    have key : ∀ d i (b : Int), i + d = l.length → 0 ≤ b → b ≤ 1048576 → ∃ r, Ev (fun k => laws_szMailS.l0 k l b (i : Int)) r ∧ (r < 0 ∨ (0 ≤ r ∧ r ≤ b ∧ ∀ x ∈ l.drop i, x.f2.length ≤ 1048576 ∧ x.f3.size ≤ 1048576)) := by
      intro d
      induction d with
      | zero =>
        intro i b hi hb0 hb1
        refine ⟨b, Ev.step (f := fun _ => some b) (fun k => ?_) (Ev.now _), .inr ⟨hb0, by omega, ?_⟩⟩
        · simp only [laws_szMailS.l0]
          rw [if_neg (by omega)]
        · rw [List.drop_eq_nil_of_le (by omega)]
          simp
      | succ d ih =>
        intro i b hi hb0 hb1
        have hlt : i < l.length := by omega
        have hx : rd_T131 l (i : Int) = l[i] := getD_at _ _ _ hlt
        have hh := hm _ (List.getElem_mem hlt)
        obtain ⟨r, hr, hq⟩ := szMail_eq l[i].f0 l[i].f1 l[i].f2 l[i].f3 b hb0 hb1 hh.1 hh.2
        rcases hq with hq | ⟨hq0, hq1, hq2, hq3⟩
        · refine ⟨-1, Ev.step (f := fun _ => some (-1)) (fun k => ?_) (Ev.now _), .inl (by decide)⟩
          simp only [laws_szMailS.l0]
          rw [if_pos (by omega), if_pos (by omega), hx, hr]
          simp only [Option.bind_some]
          rw [if_pos hq]
        · obtain ⟨r2, hr2, hq'⟩ := ih (i + 1) r (by omega) hq0 (by omega)
          refine ⟨r2, Ev.step (f := fun k => laws_szMailS.l0 k l r ((i + 1 : Nat) : Int)) (fun k => ?_) hr2, ?_⟩
          · simp only [laws_szMailS.l0]
            rw [if_pos (by omega), if_pos (by omega), hx, hr]
            simp only [Option.bind_some]
            rw [if_neg (by omega), wrap_id (by omega) (by omega)]
            rfl
          · rcases hq' with hq' | ⟨g0, g1, g2⟩
            · exact .inl hq'
            · refine .inr ⟨g0, by omega, fun x hx' => ?_⟩
              rw [List.drop_eq_getElem_cons hlt] at hx'
              rcases List.mem_cons.1 hx' with rfl | hx'
              · exact ⟨hq2, hq3⟩
              · exact g2 x hx'
    obtain ⟨r, hr, hq⟩ := key l.length 0 (a - (l.length : Int)) (by omega) (by omega) (by omega)
    refine ⟨r, hr, ?_⟩
    rcases hq with hq | ⟨g0, g1, g2⟩
    · exact .inl hq
    · exact .inr ⟨g0, by omega, by omega, fun x hx => g2 x (by simpa using hx)⟩
theorem szBox_ev (c : Int) (s : ByteArray) (d e f : Int) (l : List S131) (g : List Int) (a : Int) (h0 : 0 ≤ a) (h1 : a ≤ 1048576) (hs : s.size ≤ 140737488351232) (hn : l.length ≤ 9223372036854775807) (hm : ∀ x ∈ l, HMail x) (hg : g.length ≤ 9223372036854775807) :
    ∃ r, Ev (fun k => laws_szBox.f k c s d e f l g a) r ∧ (r < 0 ∨ (0 ≤ r ∧ r ≤ a ∧ s.size ≤ 1048576 ∧ l.length ≤ 1048576 ∧ (∀ x ∈ l, x.f2.length ≤ 1048576 ∧ x.f3.size ≤ 1048576) ∧ g.length ≤ 1048576)) := by
  unfold laws_szBox.f
  rw [wrap_id (by omega) (by omega)]
  by_cases h : a - (s.size : Int) < 0
  · simp only [if_pos h]
    exact ⟨-1, Ev.now _, .inl (by decide)⟩
  · simp only [if_neg h]
    obtain ⟨r, hr, hq⟩ := szMailS_ev l (a - (s.size : Int)) (by omega) (by omega) hn hm
    rcases hq with hq | ⟨q0, q1, q2, q3⟩
    · refine ⟨-1, Ev.bind hr ?_, .inl (by decide)⟩
      simp only [if_pos hq]
      exact Ev.now _
    · have hnr : ¬ r < 0 := by omega
      by_cases h2 : r - (g.length : Int) < 0
      · refine ⟨-1, Ev.bind hr ?_, .inl (by decide)⟩
        simp only [if_neg hnr, szIntS_eq g r q0 (by omega) hg, Option.bind_some, if_pos h2]
        exact Ev.now _
      · refine ⟨r - (g.length : Int), Ev.bind hr ?_, .inr ⟨by omega, by omega, by omega, q2, q3, by omega⟩⟩
        simp only [if_neg hnr, szIntS_eq g r q0 (by omega) hg, Option.bind_some, if_neg h2]
        exact Ev.now _
def HBox (x : S54) : Prop := x.f1.size ≤ 140737488351232 ∧ x.f4.length ≤ 9223372036854775807 ∧ (∀ m ∈ x.f4, HMail m) ∧ x.f5.length ≤ 9223372036854775807
theorem szBoxS_ev (l : List S54) (a : Int) (h0 : 0 ≤ a) (h1 : a ≤ 1048576) (hn : l.length ≤ 9223372036854775807) (hm : ∀ x ∈ l, HBox x) :
    ∃ r, Ev (fun k => laws_szBoxS.f k l a) r ∧ (r < 0 ∨ (0 ≤ r ∧ r ≤ a ∧ l.length ≤ 1048576 ∧ ∀ x ∈ l, SmallBox x)) := by
  unfold laws_szBoxS.f
  rw [wrap_id (by omega) (by omega)]
  by_cases h : a - (l.length : Int) < 0
  · simp only [if_pos h]
    exact ⟨-1, Ev.now _, .inl (by decide)⟩
  · simp only [if_neg h]
    have key : ∀ d i (b : Int), i + d = l.length → 0 ≤ b → b ≤ 1048576 → ∃ r, Ev (fun k => laws_szBoxS.l0 k l b (i : Int)) r ∧ (r < 0 ∨ (0 ≤ r ∧ r ≤ b ∧ ∀ x ∈ l.drop i, SmallBox x)) := by
      intro d
      induction d with
      | zero =>
        intro i b hi hb0 hb1
        refine ⟨b, Ev.step (f := fun _ => some b) (fun k => ?_) (Ev.now _), .inr ⟨hb0, by omega, ?_⟩⟩
        · simp only [laws_szBoxS.l0]
          rw [if_neg (by omega)]
        · rw [List.drop_eq_nil_of_le (by omega)]
          simp
      | succ d ih =>
        intro i b hi hb0 hb1
        have hlt : i < l.length := by omega
        have hx : rd_T54 l (i : Int) = l[i] := getD_at _ _ _ hlt
        have hh := hm _ (List.getElem_mem hlt)
        obtain ⟨r, hr, hq⟩ := szBox_ev l[i].f0 l[i].f1 l[i].f2.f0 l[i].f2.f1 l[i].f3 l[i].f4 l[i].f5 b hb0 hb1 hh.1 hh.2.1 hh.2.2.1 hh.2.2.2
        rcases hq with hq | ⟨hq0, hq1, hq2⟩
        · refine ⟨-1, Ev.step (f := fun k => (laws_szBox.f k l[i].f0 l[i].f1 l[i].f2.f0 l[i].f2.f1 l[i].f3 l[i].f4 l[i].f5 b).bind fun t => if t < 0 then some (-1) else laws_szBoxS.l0 k l t ((i + 1 : Nat) : Int)) (fun k => ?_) (Ev.bind hr ?_), .inl (by decide)⟩
          · simp only [laws_szBoxS.l0]
            rw [if_pos (by omega), if_pos (by omega), hx, wrap_id (by omega) (by omega)]
            rfl
          · simp only [if_pos hq]
            exact Ev.now _
        · obtain ⟨r2, hr2, hq'⟩ := ih (i + 1) r (by omega) hq0 (by omega)
          refine ⟨r2, Ev.step (f := fun k => (laws_szBox.f k l[i].f0 l[i].f1 l[i].f2.f0 l[i].f2.f1 l[i].f3 l[i].f4 l[i].f5 b).bind fun t => if t < 0 then some (-1) else laws_szBoxS.l0 k l t ((i + 1 : Nat) : Int)) (fun k => ?_) (Ev.bind hr ?_), ?_⟩
          · simp only [laws_szBoxS.l0]
            rw [if_pos (by omega), if_pos (by omega), hx, wrap_id (by omega) (by omega)]
            rfl
          · have hnr : ¬ r < 0 := by omega
            simp only [if_neg hnr]
            exact hr2
          · rcases hq' with hq' | ⟨g0, g1, g2⟩
            · exact .inl hq'
            · refine .inr ⟨g0, by omega, fun x hx' => ?_⟩
              rw [List.drop_eq_getElem_cons hlt] at hx'
              rcases List.mem_cons.1 hx' with rfl | hx'
              · exact hq2
              · exact g2 x hx'
    obtain ⟨r, hr, hq⟩ := key l.length 0 (a - (l.length : Int)) (by omega) (by omega) (by omega)
    refine ⟨r, hr, ?_⟩
    rcases hq with hq | ⟨g0, g1, g2⟩
    · exact .inl hq
    · exact .inr ⟨g0, by omega, by omega, fun x hx => g2 x (by simpa using hx)⟩
theorem szStore_ev (c d : Int) (l : List S54) (g : List Int) (a : Int) (h0 : 0 ≤ a) (h1 : a ≤ 1048576) (hn : l.length ≤ 9223372036854775807) (hm : ∀ x ∈ l, HBox x) (hg : g.length ≤ 9223372036854775807) :
    ∃ r, Ev (fun k => laws_szStore.f k c d l g a) r ∧ (r < 0 ∨ (0 ≤ r ∧ r ≤ a ∧ l.length ≤ 1048576 ∧ (∀ x ∈ l, SmallBox x) ∧ g.length ≤ 1048576)) := by
  unfold laws_szStore.f
  obtain ⟨r, hr, hq⟩ := szBoxS_ev l a h0 h1 hn hm
  rcases hq with hq | ⟨q0, q1, q2, q3⟩
  · refine ⟨-1, Ev.bind hr ?_, .inl (by decide)⟩
    simp only [if_pos hq]
    exact Ev.now _
  · have hnr : ¬ r < 0 := by omega
    by_cases h2 : r - (g.length : Int) < 0
    · refine ⟨-1, Ev.bind hr ?_, .inl (by decide)⟩
      simp only [if_neg hnr, szIntS_eq g r q0 (by omega) hg, Option.bind_some, if_pos h2]
      exact Ev.now _
    · refine ⟨r - (g.length : Int), Ev.bind hr ?_, .inr ⟨by omega, by omega, q2, q3, by omega⟩⟩
      simp only [if_neg hnr, szIntS_eq g r q0 (by omega) hg, Option.bind_some, if_neg h2]
      exact Ev.now _
theorem eqIntS_ev (l : List Int) (hn : l.length ≤ 9223372036854775807) : Ev (fun k => laws_eqIntS.f k l l) true := by
  unfold laws_eqIntS.f
  simp only [↓reduceIte]
  have key := ev_down (P := fun i => Ev (fun k => laws_eqIntS.l0 k l l (i : Int)) true) l.length ?_ ?_
  · simpa using key
  · refine Ev.step (f := fun _ => some true) (fun k => ?_) (Ev.now _)
    simp only [laws_eqIntS.l0]
    rw [if_neg (by omega)]
  · intro i hi h
    refine Ev.step (f := fun k => laws_eqIntS.l0 k l l ((i + 1 : Nat) : Int)) (fun k => ?_) h
    simp only [laws_eqIntS.l0]
    rw [if_pos (by omega), if_pos (by omega), if_pos (by omega), if_pos (by trivial), wrap_id (by omega) (by omega)]
    rfl
theorem eqMailS_ev (l : List S24) (hn : l.length ≤ 9223372036854775807) (hm : ∀ x ∈ l, x.f2.length ≤ 9223372036854775807) : Ev (fun k => laws_eqMailS.f k l l) true := by
  unfold laws_eqMailS.f
  simp only [↓reduceIte]
  have key := ev_down (P := fun i => Ev (fun k => laws_eqMailS.l0 k l l (i : Int)) true) l.length ?_ ?_
  · simpa using key
  · refine Ev.step (f := fun _ => some true) (fun k => ?_) (Ev.now _)
    simp only [laws_eqMailS.l0]
    rw [if_neg (by omega)]
  · intro i hi h
    have hx : rd_T24 l (i : Int) = l[i] := getD_at _ _ _ hi
    refine Ev.step (f := fun k => (laws_eqMail.f k l[i].f0 l[i].f1 l[i].f2 l[i].f3 l[i].f0 l[i].f1 l[i].f2 l[i].f3).bind fun b => if b = true then laws_eqMailS.l0 k l l ((i + 1 : Nat) : Int) else some false) (fun k => ?_) ?_
    · simp only [laws_eqMailS.l0]
      rw [if_pos (by omega), if_pos (by omega), if_pos (by omega), hx, wrap_id (by omega) (by omega)]
      rfl
    · refine Ev.bind (eqMail_ev _ _ _ _ (hm _ (List.getElem_mem hi))) ?_
      simp only [↓reduceIte]
      exact h
theorem eqBox_ev (a : Int) (b : ByteArray) (c d e : Int) (l : List S24) (g : List Int) (hn : l.length ≤ 9223372036854775807) (hm : ∀ x ∈ l, x.f2.length ≤ 9223372036854775807) (hg : g.length ≤ 9223372036854775807) :
    Ev (fun k => laws_eqBox.f k a b c d e l g a b c d e l g) true := by
  unfold laws_eqBox.f laws_eqStamp.f
  simp only [↓reduceIte, Option.bind_some]
  refine Ev.bind (eqMailS_ev l hn hm) ?_
  simp only [↓reduceIte]
  refine Ev.bind (eqIntS_ev g hg) ?_
  simp only [↓reduceIte]
  exact Ev.now _
def OkBox (x : S59) : Prop := x.f4.length ≤ 9223372036854775807 ∧ (∀ m ∈ x.f4, m.f2.length ≤ 9223372036854775807) ∧ x.f5.length ≤ 9223372036854775807
theorem eqBoxS_ev (l : List S59) (hn : l.length ≤ 9223372036854775807) (hm : ∀ x ∈ l, OkBox x) : Ev (fun k => laws_eqBoxS.f k l l) true := by
  unfold laws_eqBoxS.f
  simp only [↓reduceIte]
  have key := ev_down (P := fun i => Ev (fun k => laws_eqBoxS.l0 k l l (i : Int)) true) l.length ?_ ?_
  · simpa using key
  · refine Ev.step (f := fun _ => some true) (fun k => ?_) (Ev.now _)
    simp only [laws_eqBoxS.l0]
    rw [if_neg (by omega)]
  · intro i hi h
    have hx : rd_T59 l (i : Int) = l[i] := getD_at _ _ _ hi
    have hh := hm _ (List.getElem_mem hi)
    refine Ev.step (f := fun k => (laws_eqBox.f k l[i].f0 l[i].f1 l[i].f2.f0 l[i].f2.f1 l[i].f3 l[i].f4 l[i].f5 l[i].f0 l[i].f1 l[i].f2.f0 l[i].f2.f1 l[i].f3 l[i].f4 l[i].f5).bind fun b => if b = true then laws_eqBoxS.l0 k l l ((i + 1 : Nat) : Int) else some false) (fun k => ?_) ?_
    · simp only [laws_eqBoxS.l0]
      rw [if_pos (by omega), if_pos (by omega), if_pos (by omega), hx, wrap_id (by omega) (by omega)]
      rfl
    · refine Ev.bind (eqBox_ev _ _ _ _ _ _ _ hh.1 hh.2.1 hh.2.2) ?_
      simp only [↓reduceIte]
      exact h
theorem eqStore_ev (a b : Int) (l : List S59) (g : List Int) (hn : l.length ≤ 9223372036854775807) (hm : ∀ x ∈ l, OkBox x) (hg : g.length ≤ 9223372036854775807) :
    Ev (fun k => laws_eqStore.f k a b l g a b l g) true := by
  unfold laws_eqStore.f
  simp only [↓reduceIte]
  refine Ev.bind (eqBoxS_ev l hn hm) ?_
  simp only [↓reduceIte]
  refine Ev.bind (eqIntS_ev g hg) ?_
  simp only [↓reduceIte]
  exact Ev.now _
theorem okBox_of {x : S54} (h : SmallBox x) : OkBox (toBoxV x) := by
  obtain ⟨_, h1, h2, h3⟩ := h
  refine ⟨?_, ?_, ?_⟩
  · show (x.f4.map toMailV).length ≤ _
    rw [List.length_map]
    omega
  · intro m hm
    obtain ⟨y, hy, rfl⟩ := List.mem_map.1 hm
    show (y.f2.map toRegV).length ≤ _
    rw [List.length_map]
    have := (h2 y hy).1
    omega
  · show x.f5.length ≤ _
    omega
theorem okBoxes_of {l : List S54} (h : ∀ x ∈ l, SmallBox x) : ∀ x ∈ l.map toBoxV, OkBox x := by
  intro x hx
  obtain ⟨y, hy, rfl⟩ := List.mem_map.1 hx
  exact okBox_of (h y hy)
theorem spec_MailAt_ev (a : Int) (b : ByteArray) (c d e : Int) (l : List S24) (g : List Int) (n : Int) (hn : l.length ≤ 1048576) : Ev (fun k => spec_MailAt.f k a b c d e l g n) (idxBy (fun x : S24 => x.f0 == n) l) := by
  unfold spec_MailAt.f
  refine findE (fun x : S24 => x.f0 == n) l (fun k i => spec_MailAt.l0 k n (i : Int) a b c d e l g) ?_ ?_
  · refine Ev.step (f := fun _ => some (-1)) (fun k => ?_) (Ev.now _)
    simp only [spec_MailAt.l0]
    rw [if_neg (by omega)]
  · intro i hi r h
    have e0 : rd_T24 l (i : Int) = l[i] := getD_at _ l i hi
    by_cases hp : l[i].f0 = n
    · simp only [beq_iff_eq, if_pos hp]
      refine Ev.step (f := fun _ => some (i : Int)) (fun k => ?_) (Ev.now _)
      simp only [spec_MailAt.l0]
      rw [if_pos (by omega), if_pos (by omega), e0, if_pos hp]
    · simp only [beq_iff_eq, if_neg hp]
      refine Ev.step (f := fun k => spec_MailAt.l0 k n ((i + 1 : Nat) : Int) a b c d e l g) (fun k => ?_) (h (by simpa using hp))
      simp only [spec_MailAt.l0]
      rw [if_pos (by omega), if_pos (by omega), e0, if_neg hp, wrap_id (by omega) (by omega)]
      rfl
theorem spec_BoxAt_ev (a b : Int) (l : List S59) (g : List Int) (n : Int) (hn : l.length ≤ 1048576) : Ev (fun k => spec_BoxAt.f k a b l g n) (idxBy (fun x : S59 => x.f0 == n) l) := by
  unfold spec_BoxAt.f
  refine findE (fun x : S59 => x.f0 == n) l (fun k i => spec_BoxAt.l0 k n (i : Int) a b l g) ?_ ?_
  · refine Ev.step (f := fun _ => some (-1)) (fun k => ?_) (Ev.now _)
    simp only [spec_BoxAt.l0]
    rw [if_neg (by omega)]
  · intro i hi r h
    have e0 : rd_T59 l (i : Int) = l[i] := getD_at _ l i hi
    by_cases hp : l[i].f0 = n
    · simp only [beq_iff_eq, if_pos hp]
      refine Ev.step (f := fun _ => some (i : Int)) (fun k => ?_) (Ev.now _)
      simp only [spec_BoxAt.l0]
      rw [if_pos (by omega), if_pos (by omega), e0, if_pos hp]
    · simp only [beq_iff_eq, if_neg hp]
      refine Ev.step (f := fun k => spec_BoxAt.l0 k n ((i + 1 : Nat) : Int) a b l g) (fun k => ?_) (h (by simpa using hp))
      simp only [spec_BoxAt.l0]
      rw [if_pos (by omega), if_pos (by omega), e0, if_neg hp, wrap_id (by omega) (by omega)]
      rfl
theorem spec_l06In_ev (l : List Int) (n : Int) (hn : l.length ≤ 1048576) : Ev (fun k => spec_l06In.f k l n) (l.any (fun x => x == n)) := by
  unfold spec_l06In.f
  refine anyE (fun x : Int => x == n) l (fun k i => spec_l06In.l0 k l n (i : Int)) ?_ ?_
  · refine Ev.step (f := fun _ => some false) (fun k => ?_) (Ev.now _)
    simp only [spec_l06In.l0]
    rw [if_neg (by omega)]
  · intro i hi r h
    have e0 : rd l (i : Int) = l[i] := getD_at _ l i hi
    by_cases hp : l[i] = n
    · rw [beq_iff_eq.2 hp, Bool.true_or]
      refine Ev.step (f := fun _ => some true) (fun k => ?_) (Ev.now _)
      simp only [spec_l06In.l0]
      rw [if_pos (by omega), if_pos (by omega), e0, if_pos hp]
    · rw [beq_eq_false_iff_ne.2 hp, Bool.false_or]
      refine Ev.step (f := fun k => spec_l06In.l0 k l n ((i + 1 : Nat) : Int)) (fun k => ?_) h
      simp only [spec_l06In.l0]
      rw [if_pos (by omega), if_pos (by omega), e0, if_neg hp, wrap_id (by omega) (by omega)]
      rfl
theorem index_ev (l : List Int) (n : Int) (hn : l.length ≤ 1048576) : Ev (fun k => slices_Index_int_int.f k l n) (idxBy (fun x => x == n) l) := by
  unfold slices_Index_int_int.f
  refine findE (fun x : Int => x == n) l (fun k i => slices_Index_int_int.l0 k l n (l.length : Int) (i : Int)) ?_ ?_
  · refine Ev.step (f := fun _ => some (-1)) (fun k => ?_) (Ev.now _)
    simp only [slices_Index_int_int.l0]
    rw [if_neg (by omega)]
  · intro i hi r h
    have e0 : rd l (i : Int) = l[i] := getD_at _ l i hi
    by_cases hp : l[i] = n
    · simp only [beq_iff_eq, if_pos hp]
      refine Ev.step (f := fun _ => some (i : Int)) (fun k => ?_) (Ev.now _)
      simp only [slices_Index_int_int.l0]
      rw [if_pos (by omega), if_pos (by omega), if_pos (by omega), e0, if_pos hp.symm]
    · simp only [beq_iff_eq, if_neg hp]
      refine Ev.step (f := fun k => slices_Index_int_int.l0 k l n (l.length : Int) ((i + 1 : Nat) : Int)) (fun k => ?_) (h (by simpa using hp))
      simp only [slices_Index_int_int.l0]
      rw [if_pos (by omega), if_pos (by omega), if_pos (by omega), e0, if_neg (fun h => hp h.symm), wrap_id (by omega) (by omega)]
      rfl
theorem contains_ev (l : List Int) (n : Int) (hn : l.length ≤ 1048576) : Ev (fun k => slices_Contains_int_int.f k l n) (l.any (fun x => x == n)) := by
  unfold slices_Contains_int_int.f
  refine Ev.bind (index_ev l n hn) ?_
  have : decide (idxBy (fun x => x == n) l ≥ 0) = l.any (fun x => x == n) := by
    rw [Bool.eq_iff_iff, decide_eq_true_iff]
    exact idxBy_any _ _
  rw [this]
  exact Ev.now _
def knowsV (l : List S59) (g : List Int) (n : Int) : Bool :=
  (l.any (fun x => x.f0 == n) || g.any (fun x => x == n)) || l.any (fun x : S59 => x.f4.any (fun m => m.f0 == n) || x.f5.any (fun x => x == n))
def SmBox (x : S59) : Prop := x.f4.length ≤ 1048576 ∧ x.f5.length ≤ 1048576
theorem spec_knows_l0 (a b : Int) (l : List S59) (g : List Int) (n : Int) (hn : l.length ≤ 1048576) (hb : ∀ x ∈ l, SmBox x) :
    Ev (fun k => spec_Knows.l0 k n 0 a b l g) (l.any (fun x : S59 => x.f4.any (fun m => m.f0 == n) || x.f5.any (fun x => x == n))) := by
  refine anyE (fun x : S59 => x.f4.any (fun m => m.f0 == n) || x.f5.any (fun x => x == n)) l (fun k i => spec_Knows.l0 k n (i : Int) a b l g) ?_ ?_
  · refine Ev.step (f := fun _ => some false) (fun k => ?_) (Ev.now _)
    simp only [spec_Knows.l0]
    rw [if_neg (by omega)]
  · intro i hi r h
    have e0 : rd_T59 l (i : Int) = l[i] := getD_at _ l i hi
    obtain ⟨h4, h5⟩ := hb l[i] (List.getElem_mem hi)
    generalize l[i] = x at e0 h4 h5 ⊢
    refine Ev.step (f := fun k => (spec_MailAt.f k x.f0 x.f1 x.f2.f0 x.f2.f1 x.f3 x.f4 x.f5 n).bind fun t => if t ≥ 0 then some true else (spec_l06In.f k x.f5 n).bind fun t => if t = true then some true else spec_Knows.l0 k n ((i + 1 : Nat) : Int) a b l g) (fun k => ?_) ?_
    · simp only [spec_Knows.l0]
      rw [if_pos (by omega), if_pos (by omega), e0, wrap_id (by omega) (by omega)]
      rfl
    · refine Ev.bind (spec_MailAt_ev _ _ _ _ _ _ _ _ h4) ?_
      by_cases h1 : idxBy (fun x : S24 => x.f0 == n) x.f4 ≥ 0
      · simp only [if_pos h1]
        rw [(idxBy_any _ _).1 h1]
        exact Ev.now _
      · simp only [if_neg h1]
        rw [Bool.eq_false_iff.2 (fun h => h1 ((idxBy_any _ _).2 h)), Bool.false_or]
        refine Ev.bind (spec_l06In_ev _ _ h5) ?_
        cases h2 : x.f5.any (fun x => x == n) with
        | true => simp only [↓reduceIte, Bool.true_or]; exact Ev.now _
        | false => simp only [Bool.false_eq_true, ↓reduceIte, Bool.false_or]; exact h
theorem spec_Knows_ev (a b : Int) (l : List S59) (g : List Int) (n : Int) (hn : l.length ≤ 1048576) (hb : ∀ x ∈ l, SmBox x) (hg : g.length ≤ 1048576) :
    Ev (fun k => spec_Knows.f k a b l g n) (knowsV l g n) := by
  unfold spec_Knows.f knowsV
  have hj : ∀ t : Bool, Ev (fun k => spec_Knows.j0 k n t a b l g) (t || l.any (fun x : S59 => x.f4.any (fun m => m.f0 == n) || x.f5.any (fun x => x == n))) := by
    intro t
    cases t with
    | true =>
      refine Ev.step (f := fun _ => some true) (fun k => ?_) (by simpa using Ev.now _)
      simp only [spec_Knows.j0, ↓reduceIte]
    | false =>
      refine Ev.step (f := fun k => spec_Knows.l0 k n 0 a b l g) (fun k => ?_) (by simpa using spec_knows_l0 a b l g n hn hb)
      simp only [spec_Knows.j0, Bool.false_eq_true, ↓reduceIte]
  refine Ev.bind (spec_BoxAt_ev a b l g n hn) ?_
  by_cases h1 : idxBy (fun x : S59 => x.f0 == n) l ≥ 0
  · simp only [if_pos h1]
    rw [(idxBy_any _ _).1 h1]
    exact hj true
  · simp only [if_neg h1]
    rw [Bool.eq_false_iff.2 (fun h => h1 ((idxBy_any _ _).2 h)), Bool.false_or]
    exact Ev.bind (spec_l06In_ev _ _ hg) (hj _)
theorem impl_Knows_ev (a b : Int) (l : List S59) (g : List Int) (n : Int) (hn : l.length ≤ 1048576) (hb : ∀ x ∈ l, SmBox x) (hg : g.length ≤ 1048576) :
    Ev (fun k => impl_Knows.f k a b l g n) (knowsV l g n) := by
  have key : Ev (fun k => impl_Knows.f k a b l g n) (l.any (fun x : S59 => x.f0 == n || (x.f4.any (fun m => m.f0 == n) || x.f5.any (fun x => x == n))) || g.any (fun x => x == n)) := by
    unfold impl_Knows.f
    have main := ev_down (P := fun i => Ev (fun k => impl_Knows.l0 k n l (l.length : Int) (i : Int) a b l g) ((l.drop i).any (fun x : S59 => x.f0 == n || (x.f4.any (fun m => m.f0 == n) || x.f5.any (fun x => x == n))) || g.any (fun x => x == n))) l.length ?_ ?_
    · simpa using main
    · simp only [List.drop_length, List.any_nil, Bool.false_or]
      refine Ev.step (f := fun k => (slices_Contains_int_int.f k g n).bind fun t => some t) (fun k => ?_) (Ev.bind (contains_ev g n hg) (Ev.now _))
      simp only [impl_Knows.l0]
      rw [if_neg (by omega)]
    · intro i hi h
      rw [List.drop_eq_getElem_cons hi, List.any_cons, Bool.or_assoc]
      have e0 : rd_T59 l (i : Int) = l[i] := getD_at _ l i hi
      obtain ⟨h4, h5⟩ := hb l[i] (List.getElem_mem hi)
      generalize l[i] = x at e0 h4 h5 ⊢
      generalize ((l.drop (i + 1)).any (fun x : S59 => x.f0 == n || (x.f4.any (fun m => m.f0 == n) || x.f5.any (fun x => x == n))) || g.any (fun x => x == n)) = r at h ⊢
      have hj : ∀ t : Bool, Ev (fun k => impl_Knows.j1 k n l (l.length : Int) (i : Int) t a b l g) (t || r) := by
        intro t
        cases t with
        | true =>
          refine Ev.step (f := fun _ => some true) (fun k => ?_) (by simpa using Ev.now _)
          simp only [impl_Knows.j1, ↓reduceIte]
        | false =>
          refine Ev.step (f := fun k => impl_Knows.l0 k n l (l.length : Int) ((i + 1 : Nat) : Int) a b l g) (fun k => ?_) (by simpa using h)
          simp only [impl_Knows.j1, Bool.false_eq_true, ↓reduceIte]
          rw [wrap_id (by omega) (by omega)]
          rfl
      refine Ev.step (f := fun k => if x.f0 = n then impl_Knows.j1 k n l (l.length : Int) (i : Int) true a b l g else (impl_MailAt.f x.f0 x.f1 x.f2.f0 x.f2.f1 x.f3 x.f4 x.f5 n).bind fun t => if t ≥ 0 then impl_Knows.j1 k n l (l.length : Int) (i : Int) true a b l g else (slices_Contains_int_int.f k x.f5 n).bind fun t => impl_Knows.j1 k n l (l.length : Int) (i : Int) t a b l g) (fun k => ?_) ?_
      · simp only [impl_Knows.l0]
        rw [if_pos (by omega), if_pos (by omega), if_pos (by omega), e0]
      · by_cases h1 : x.f0 = n
        · simp only [if_pos h1]
          rw [beq_iff_eq.2 h1]
          exact hj true
        · simp only [if_neg h1, impl_MailAt.f, Option.bind_some]
          rw [beq_eq_false_iff_ne.2 h1, Bool.false_or]
          by_cases h2 : idxBy (fun x : S24 => x.f0 == n) x.f4 ≥ 0
          · simp only [if_pos h2]
            rw [(idxBy_any _ _).1 h2]
            exact hj true
          · simp only [if_neg h2]
            rw [Bool.eq_false_iff.2 (fun h => h2 ((idxBy_any _ _).2 h)), Bool.false_or]
            exact Ev.bind (contains_ev _ _ h5) (hj _)
  have e : knowsV l g n = (l.any (fun x : S59 => x.f0 == n || (x.f4.any (fun m => m.f0 == n) || x.f5.any (fun x => x == n))) || g.any (fun x => x == n)) := by
    rw [any_or (fun x : S59 => x.f0 == n)]
    unfold knowsV
    cases l.any (fun x : S59 => x.f0 == n) <;> cases g.any (fun x => x == n) <;> simp
  rw [e]
  exact key

theorem hbox_of {x : S54} (h : G54 x) : HBox x := by
  obtain ⟨_, h1, _, _, h4, h5⟩ := h
  refine ⟨h1, h4.2.1, fun m hm => ?_, h5.2.1⟩
  obtain ⟨_, _, g2, g3⟩ := h4.2.2 m hm
  exact ⟨g2.2.1, g3⟩
theorem FnExactKnows : laws_FnExactKnows.Pure := by
  intro a b l g n _ _ hl hg _
  have hb : ∀ x ∈ l, HBox x := fun x hx => hbox_of (hl.2.2 x hx)
  refine Ev.rounds (g := fun k => laws_FnExactKnows.f k a b l g n) ?_
  unfold laws_FnExactKnows.f
  obtain ⟨r, hr, hq⟩ := szStore_ev a b l g 1048576 (by decide) (by decide) hl.2.1 hb hg.2.1
  refine Ev.bind hr ?_
  rcases hq with hq | ⟨q0, _, q2, q3, q4⟩
  · simp only [if_pos hq]
    exact Ev.now _
  · have hn : ¬ r < 0 := by omega
    simp only [if_neg hn]
    have ht := toStore_ev a b l g q2 q3 q4
    have hm : (l.map toBoxV).length ≤ 1048576 := by rw [List.length_map]; exact q2
    have hs : ∀ x ∈ l.map toBoxV, SmBox x := by
      intro x hx
      obtain ⟨y, hy, rfl⟩ := List.mem_map.1 hx
      exact ⟨by rw [show (toBoxV y).f4 = y.f4.map toMailV from rfl, List.length_map]; exact (q3 y hy).2.1, (q3 y hy).2.2.2⟩
    refine Ev.bind ht (Ev.bind (spec_Knows_ev a b _ g n hm hs q4) (Ev.bind ht (Ev.bind (impl_Knows_ev a b _ g n hm hs q4) ?_)))
    simp only [bne_self_eq_false, Bool.false_eq_true, ↓reduceIte]
    refine Ev.bind ht (Ev.bind (eqStore_ev a b _ g (by omega) (okBoxes_of q3) (by omega)) ?_)
    exact Ev.now _

end Go.Proofs.Ytjlffencbaifeaa.Pure
