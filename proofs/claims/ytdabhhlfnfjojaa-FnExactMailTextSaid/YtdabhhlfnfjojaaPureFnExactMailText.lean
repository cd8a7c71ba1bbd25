/- The program's MailText returns what the reference's returns and leaves its mail alone, for every mail; the bounds are the row's own. -/
import Derived.Test.YtdabhhlfnfjojaaPFnExactMailTextx1
import Derived.Test.YtdabhhlfnfjojaaPFnExactMailTextx2
import Derived.Test.YtdabhhlfnfjojaaPFnExactMailTextx3
import Derived.Test.YtdabhhlfnfjojaaPFnExactMailTextx4
import Derived.Test.YtdabhhlfnfjojaaPFnExactMailTextx5
import Derived.Test.YtdabhhlfnfjojaaLib
import Derived.Test.YtdabhhlfnfjojaaLib2
import Derived.Test.YtdabhhlfnfjojaaLib3
import Derived.Test.YtdabhhlfnfjojaaLib4
import Derived.Test.YtdabhhlfnfjojaaQFnExactMailText
namespace Go.Proofs.Ytdabhhlfnfjojaa.Pure
open Go.RowKit Go.Proofs.Ytdabhhlfnfjojaa.PFnExactMailText Go.Proofs.YtdabhhlfnfjojaaW.PrintWords Go.Proofs.YtdabhhlfnfjojaaW.PrintLast Go.Proofs.Ytdabhhlfnfjojaa.Lib
set_option linter.unusedVariables false
set_option linter.unusedSimpArgs false

theorem l01In_eq (x a b : Int) : spec_l01In.f x a b = some (decide (a ≤ x ∧ x ≤ b)) := by
  unfold spec_l01In.f
  by_cases h : a ≤ x
  · rw [if_pos h]; simp [h]
  · rw [if_neg h]; simp [h]
theorem within_eq (x a b : Int) : impl_within.f x a b = some (decide (a ≤ x ∧ x ≤ b)) := by
  unfold impl_within.f
  by_cases h : a ≤ x
  · rw [if_pos h]; simp [h]
  · rw [if_neg h]; simp [h]
theorem spec_var_l0 (d : Nat) : ∀ (n : Nat) (xs : List Int), n < 128 ^ d → xs.length + d ≤ 1000 → n ≤ 9223372036854775807 →
    Ev (fun k => spec_l01Var.l0 k (n : Int) xs) (strOfNums (xs ++ var7 n)) := by
  induction d with
  | zero =>
    intro n xs h hl hn
    rw [Nat.pow_zero] at h
    rw [var7_small (by omega)]
    refine Ev.step (f := fun _ => some (strOfNums (xs ++ [(n : Int)]))) (fun k => ?_) (Ev.now _)
    simp only [spec_l01Var.l0]
    rw [if_neg (by omega), if_pos (by omega), Int.emod_eq_of_lt (by omega) (by omega)]
  | succ d ih =>
    intro n xs h hl hn
    by_cases hb : n > 127
    · rw [var7_big hb]
      have hd : n / 128 < 128 ^ d := by
        apply Nat.div_lt_of_lt_mul
        rw [Nat.pow_succ] at h
        omega
      have this := ih (n / 128) (xs ++ [((n % 128 + 128 : Nat) : Int)]) hd (by simp; omega) (by omega)
      rw [List.append_assoc] at this
      refine Ev.step (f := fun k => spec_l01Var.l0 k ((n / 128 : Nat) : Int) (xs ++ [((n % 128 + 128 : Nat) : Int)])) (fun k => ?_) this
      simp only [spec_l01Var.l0]
      rw [if_pos (by omega), if_pos (by omega), tdiv_pos (by omega), tmod_pos (by omega), wrap_id (by omega) (by omega), wrap_id (by omega) (by omega), Int.emod_eq_of_lt (by omega) (by omega)]
      rfl
    · rw [var7_small hb]
      refine Ev.step (f := fun _ => some (strOfNums (xs ++ [(n : Int)]))) (fun k => ?_) (Ev.now _)
      simp only [spec_l01Var.l0]
      rw [if_neg (by omega), if_pos (by omega), Int.emod_eq_of_lt (by omega) (by omega)]
theorem spec_l01Var_ev (n : Nat) (hn : n ≤ 9223372036854775807) : Ev (fun k => spec_l01Var.f k (n : Int)) (strOfNums (var7 n)) :=
  spec_var_l0 10 n [] (by omega) (by simp) hn
theorem impl_var_l0 (d : Nat) : ∀ (n : Nat) (xs : List Int), n < 128 ^ d → xs.length + d ≤ 1000 → n ≤ 9223372036854775807 →
    Ev (fun k => impl_VarText.l0 k (n : Int) xs) (strOfNums (xs ++ var7 n), true) := by
  induction d with
  | zero =>
    intro n xs h hl hn
    rw [Nat.pow_zero] at h
    rw [var7_small (by omega)]
    refine Ev.step (f := fun _ => some (strOfNums (xs ++ [(n : Int)]), true)) (fun k => ?_) (Ev.now _)
    simp only [impl_VarText.l0]
    rw [if_neg (by omega), if_pos (by omega), Int.emod_eq_of_lt (by omega) (by omega)]
  | succ d ih =>
    intro n xs h hl hn
    by_cases hb : n > 127
    · rw [var7_big hb]
      have hd : n / 128 < 128 ^ d := by
        apply Nat.div_lt_of_lt_mul
        rw [Nat.pow_succ] at h
        omega
      have this := ih (n / 128) (xs ++ [((n % 128 + 128 : Nat) : Int)]) hd (by simp; omega) (by omega)
      rw [List.append_assoc] at this
      refine Ev.step (f := fun k => impl_VarText.l0 k ((n / 128 : Nat) : Int) (xs ++ [((n % 128 + 128 : Nat) : Int)])) (fun k => ?_) this
      simp only [impl_VarText.l0]
      rw [if_pos (by omega), if_pos (by omega), and127 (by omega) (by omega), or128 (by omega) (by omega), Int.emod_eq_of_lt (by omega) (by omega)]
      rfl
    · rw [var7_small hb]
      refine Ev.step (f := fun _ => some (strOfNums (xs ++ [(n : Int)]), true)) (fun k => ?_) (Ev.now _)
      simp only [impl_VarText.l0]
      rw [if_neg (by omega), if_pos (by omega), Int.emod_eq_of_lt (by omega) (by omega)]
theorem impl_VarText_ev (a : Int) : Ev (fun k => impl_VarText.f k a) (varTextV a) := by
  unfold impl_VarText.f varTextV
  simp only [within_eq, Option.bind_some]
  by_cases h : 0 ≤ a ∧ a ≤ 1000000000
  · obtain ⟨n, rfl⟩ := Int.eq_ofNat_of_zero_le h.1
    rw [decide_eq_true h, if_pos h]
    simp only [↓reduceIte, Int.toNat_natCast]
    exact impl_var_l0 10 n [] (by omega) (by simp) (by omega)
  · rw [decide_eq_false h, if_neg h]
    exact Ev.now _
theorem impl_ShortText_ev (s : ByteArray) : Ev (fun k => impl_ShortText.f k s) (shortV s) := by
  unfold impl_ShortText.f shortV
  by_cases h : (s.size : Int) > 20000
  · simp only [if_pos h]
    exact Ev.now _
  · simp only [if_neg h]
    refine Ev.bind (impl_VarText_ev s.size) ?_
    have hl := var7_length 9 s.size (by omega)
    have e : varTextV (s.size : Int) = (strOfNums (var7 s.size), true) := by
      unfold varTextV
      rw [if_pos (by omega), Int.toNat_natCast]
    rw [e, if_pos (by rw [strOfNums_size]; omega)]
    exact Ev.now _
theorem spec_StampOk_eq (a b : Int) : spec_StampOk.f a b = some (stampV a b) := by
  unfold spec_StampOk.f stampV
  simp only [l01In_eq, Option.bind_some]
  by_cases h : 0 ≤ a ∧ a ≤ 100000 <;> by_cases h2 : 0 ≤ b ∧ b ≤ 2 <;> simp [h, h2]
theorem impl_StampOk_eq (a b : Int) : impl_StampOk.f a b = some (stampV a b) := by
  unfold impl_StampOk.f stampV
  simp only [within_eq, Option.bind_some]
  by_cases h : 0 ≤ a ∧ a ≤ 100000 <;> by_cases h2 : 0 ≤ b ∧ b ≤ 2 <;> simp [h, h2]
theorem spec_RegOk_eq (a b c : Int) : spec_RegOk.f a b c = some (regV a b c) := by
  unfold spec_RegOk.f regV
  simp only [l01In_eq, spec_StampOk_eq, Option.bind_some]
  cases stampV b c <;> simp
theorem impl_RegOk_eq (a b c : Int) : impl_RegOk.f a b c = some (regV a b c) := by
  unfold impl_RegOk.f regV
  simp only [within_eq, impl_StampOk_eq, Option.bind_some]
  cases stampV b c <;> simp
theorem eqReg_self (a b c : Int) : laws_eqReg.f a b c a b c = some true := by
  unfold laws_eqReg.f laws_eqStamp.f
  simp
def toRegV (x : S116) : S41 := ⟨x.f0, ⟨x.f1.f0, x.f1.f1⟩⟩
theorem toRegS_ev (l : List S116) (hn : l.length ≤ 1048576) : Ev (fun k => laws_toRegS.f k l) (l.map toRegV) := by
  unfold laws_toRegS.f
  have p1 : (0 : Int) ≤ (l.length : Int) := by omega
  have p2 : ((l.length : Int)).toNat ≤ 11728124029610 := by omega
  simp only [if_pos p1, if_pos p2]
  have key := ev_down (P := fun i => Ev (fun k => laws_toRegS.l0 k l ((l.take i).map toRegV ++ List.replicate (l.length - i) z41) (i : Int)) (l.map toRegV)) l.length ?_ ?_
  · simpa using key
  · simp only [List.take_length, Nat.sub_self, List.replicate_zero, List.append_nil]
    refine Ev.step (f := fun _ => some (l.map toRegV)) (fun k => ?_) (Ev.now _)
    simp only [laws_toRegS.l0]
    rw [if_neg (by omega)]
  · intro i hi h
    have hx : rd_T116 l (i : Int) = l[i] := getD_at _ _ _ hi
    refine Ev.step (f := fun k => laws_toRegS.l0 k l ((l.take (i + 1)).map toRegV ++ List.replicate (l.length - (i + 1)) z41) ((i + 1 : Nat) : Int)) (fun k => ?_) h
    simp only [laws_toRegS.l0]
    rw [if_pos (by omega), if_pos (by omega), hx]
    simp only [laws_toReg.f, laws_toStamp.f, Option.bind_some]
    rw [if_pos (by simp; omega), wrap_id (by omega) (by omega), Int.toNat_natCast]
    change laws_toRegS.l0 k l (((l.take i).map toRegV ++ List.replicate (l.length - i) z41).set i (toRegV l[i])) _ = _
    rw [set_step toRegV z41 l i hi _ rfl]
    rfl
theorem eqRegS_ev (l : List S41) (hn : l.length ≤ 9223372036854775807) : Ev (fun k => laws_eqRegS.f k l l) true := by
  unfold laws_eqRegS.f
  simp only [↓reduceIte]
  have key := ev_down (P := fun i => Ev (fun k => laws_eqRegS.l0 k l l (i : Int)) true) l.length ?_ ?_
  · simpa using key
  · refine Ev.step (f := fun _ => some true) (fun k => ?_) (Ev.now _)
    simp only [laws_eqRegS.l0]
    rw [if_neg (by omega)]
  · intro i hi h
    refine Ev.step (f := fun k => laws_eqRegS.l0 k l l ((i + 1 : Nat) : Int)) (fun k => ?_) h
    simp only [laws_eqRegS.l0]
    rw [if_pos (by omega), if_pos (by omega), if_pos (by omega), eqReg_self]
    simp only [Option.bind_some, ↓reduceIte]
    rw [wrap_id (by omega) (by omega)]
    rfl
theorem szRegS_eq (l : List S116) (a : Int) (h0 : 0 ≤ a) (h1 : a ≤ 1048576) (hn : l.length ≤ 9223372036854775807) :
    laws_szRegS.f l a = some (if a - (l.length : Int) < 0 then -1 else a - (l.length : Int)) := by
  unfold laws_szRegS.f
  rw [wrap_id (by omega) (by omega)]
  by_cases h : a - (l.length : Int) < 0
  · rw [if_pos h, if_pos h]
  · rw [if_neg h, if_neg h]
def flagOkV (x : S41) : Bool := regV x.f0 x.f1.f0 x.f1.f1 && decide (x.f0 ≤ 1)
def flagsOkV (l : List S41) : Bool := l.all flagOkV && ((l.length : Int) == 3)
theorem spec_FlagsOk_ev (l : List S41) (hn : l.length ≤ 1048576) : Ev (fun k => spec_FlagsOk.f k l) (flagsOkV l) := by
  unfold spec_FlagsOk.f flagsOkV
  have key := ev_down (P := fun i => Ev (fun k => spec_FlagsOk.l0 k l (i : Int)) ((l.drop i).all flagOkV && ((l.length : Int) == 3))) l.length ?_ ?_
  · simpa using key
  · simp only [List.drop_length, List.all_nil, Bool.true_and]
    refine Ev.step (f := fun _ => some ((l.length : Int) == 3)) (fun k => ?_) (Ev.now _)
    simp only [spec_FlagsOk.l0]
    rw [if_neg (by omega)]
  · intro i hi h
    have hx : rd_T41 l (i : Int) = l[i] := getD_at _ _ _ hi
    rw [List.drop_eq_getElem_cons hi, List.all_cons]
    refine Ev.step (f := fun k => if flagOkV l[i] = true then spec_FlagsOk.l0 k l ((i + 1 : Nat) : Int) else some false) (fun k => ?_) ?_
    · simp only [spec_FlagsOk.l0]
      rw [if_pos (by omega), if_pos (by omega), hx, spec_RegOk_eq, wrap_id (by omega) (by omega)]
      simp only [Option.bind_some]
      unfold flagOkV
      cases regV l[i].f0 l[i].f1.f0 l[i].f1.f1
      · rfl
      · by_cases h1 : l[i].f0 > 1
        · simp [h1] <;> omega
        · simp [h1] <;> omega
    · cases hv : flagOkV l[i]
      · exact Ev.now _
      · exact h
theorem impl_FlagsOk_ev (l : List S41) (hn : l.length ≤ 1048576) : Ev (fun k => impl_FlagsOk.f k l) (flagsOkV l) := by
  unfold impl_FlagsOk.f flagsOkV
  have key := ev_down (P := fun i => Ev (fun k => impl_FlagsOk.l0 k l l (l.length : Int) (i : Int)) ((l.drop i).all flagOkV && ((l.length : Int) == 3))) l.length ?_ ?_
  · simpa using key
  · simp only [List.drop_length, List.all_nil, Bool.true_and]
    refine Ev.step (f := fun _ => some ((l.length : Int) == 3)) (fun k => ?_) (Ev.now _)
    simp only [impl_FlagsOk.l0]
    rw [if_neg (by omega)]
  · intro i hi h
    have hx : rd_T41 l (i : Int) = l[i] := getD_at _ _ _ hi
    rw [List.drop_eq_getElem_cons hi, List.all_cons]
    refine Ev.step (f := fun k => if flagOkV l[i] = true then impl_FlagsOk.l0 k l l (l.length : Int) ((i + 1 : Nat) : Int) else some false) (fun k => ?_) ?_
    · simp only [impl_FlagsOk.l0]
      rw [if_pos (by omega), if_pos (by omega), if_pos (by omega), hx, impl_RegOk_eq, wrap_id (by omega) (by omega)]
      simp only [Option.bind_some]
      unfold flagOkV
      cases regV l[i].f0 l[i].f1.f0 l[i].f1.f1
      · rfl
      · by_cases h1 : l[i].f0 > 1
        · simp [h1] <;> omega
        · simp [h1] <;> omega
    · cases hv : flagOkV l[i]
      · exact Ev.now _
      · exact h
theorem szMail_eq (g u : Int) (l : List S116) (t : ByteArray) (a : Int) (h0 : 0 ≤ a) (h1 : a ≤ 1048576) (hn : l.length ≤ 9223372036854775807) (ht : t.size ≤ 140737488351232) :
    ∃ r, laws_szMail.f g u l t a = some r ∧ (r < 0 ∨ (0 ≤ r ∧ r ≤ a ∧ l.length ≤ 1048576 ∧ t.size ≤ 1048576)) := by
  unfold laws_szMail.f
  simp only [szRegS_eq l a h0 h1 hn, Option.bind_some]
  by_cases h : a - (l.length : Int) < 0
  · simp only [if_pos h]
    exact ⟨-1, by rw [if_pos (by decide)], .inl (by decide)⟩
  · simp only [if_neg h]
    rw [wrap_id (by omega) (by omega)]
    by_cases h2 : a - (l.length : Int) - (t.size : Int) < 0
    · exact ⟨-1, by rw [if_pos h2], .inl (by decide)⟩
    · exact ⟨_, by rw [if_neg h2], .inr ⟨by omega, by omega, by omega, by omega⟩⟩
theorem toMail_ev (g u : Int) (l : List S116) (t : ByteArray) (hn : l.length ≤ 1048576) : Ev (fun k => laws_toMail.f k g u l t) (g, u, l.map toRegV, t) := by
  unfold laws_toMail.f
  exact Ev.bind (toRegS_ev l hn) (Ev.now _)
theorem eqMail_ev (g u : Int) (l : List S41) (t : ByteArray) (hn : l.length ≤ 9223372036854775807) : Ev (fun k => laws_eqMail.f k g u l t g u l t) true := by
  unfold laws_eqMail.f
  simp only [↓reduceIte]
  exact Ev.bind (eqRegS_ev l hn) (Ev.now _)
theorem isGid_eq (g : Int) : impl_isGid.f g = some (decide (1 ≤ g ∧ g ≤ 9999)) := by
  unfold impl_isGid.f
  rw [within_eq]
  rfl
def mailOkV (g u : Int) (l : List S41) (t : ByteArray) : Bool :=
  decide (1 ≤ g ∧ g ≤ 9999) && (decide (1 ≤ u ∧ u ≤ 9999) && (flagsOkV l && decide ((t.size : Int) ≤ 60)))
theorem spec_MailOk_ev (g u : Int) (l : List S41) (t : ByteArray) (hn : l.length ≤ 1048576) : Ev (fun k => spec_MailOk.f k g u l t) (mailOkV g u l t) := by
  unfold spec_MailOk.f mailOkV
  simp only [l01In_eq, Option.bind_some]
  cases decide (1 ≤ g ∧ g ≤ 9999)
  · exact Ev.now _
  · cases decide (1 ≤ u ∧ u ≤ 9999)
    · exact Ev.now _
    · simp only [↓reduceIte, Bool.true_and]
      refine Ev.bind (spec_FlagsOk_ev l hn) ?_
      cases flagsOkV l <;> exact Ev.now _
theorem impl_MailOk_ev (g u : Int) (l : List S41) (t : ByteArray) (hn : l.length ≤ 1048576) : Ev (fun k => impl_MailOk.f k g u l t) (mailOkV g u l t) := by
  unfold impl_MailOk.f mailOkV
  simp only [isGid_eq, Option.bind_some]
  cases decide (1 ≤ g ∧ g ≤ 9999)
  · exact Ev.now _
  · cases decide (1 ≤ u ∧ u ≤ 9999)
    · exact Ev.now _
    · simp only [↓reduceIte, Bool.true_and]
      refine Ev.bind (impl_FlagsOk_ev l hn) ?_
      cases flagsOkV l <;> exact Ev.now _
def vtx (n : Int) : ByteArray := strOfNums (var7 n.toNat)
def regText (x : S41) : ByteArray := vtx x.f0 ++ vtx x.f1.f0 ++ vtx x.f1.f1
def regsText (s : ByteArray) (l : List S41) : ByteArray := l.foldl (fun s x => s ++ vtx x.f0 ++ vtx x.f1.f0 ++ vtx x.f1.f1) s
def mailTextV (g u : Int) (l : List S41) (t : ByteArray) : ByteArray × Bool :=
  if mailOkV g u l t = true then (regsText (vtx g ++ vtx u) l ++ vtx (t.size : Int) ++ t, true) else ((⟨#[]⟩ : ByteArray), false)
theorem vtx_size (n : Int) (h0 : 0 ≤ n) (h1 : n ≤ 9223372036854775807) : (vtx n).size ≤ 10 := by
  unfold vtx
  rw [strOfNums_size]
  exact var7_length 9 _ (by omega)
theorem vtx_ev (n : Int) (h0 : 0 ≤ n) (h1 : n ≤ 9223372036854775807) : Ev (fun k => spec_l01Var.f k n) (vtx n) := by
  obtain ⟨m, rfl⟩ := Int.eq_ofNat_of_zero_le h0
  exact spec_l01Var_ev m (by omega)
theorem mailOkV_parts {g u : Int} {l : List S41} {t : ByteArray} (h : mailOkV g u l t = true) :
    (1 ≤ g ∧ g ≤ 9999) ∧ (1 ≤ u ∧ u ≤ 9999) ∧ l.length = 3 ∧ (t.size : Int) ≤ 60 ∧ ∀ x ∈ l, (0 ≤ x.f0 ∧ x.f0 ≤ 1) ∧ (0 ≤ x.f1.f0 ∧ x.f1.f0 ≤ 100000) ∧ (0 ≤ x.f1.f1 ∧ x.f1.f1 ≤ 2) := by
  unfold mailOkV flagsOkV at h
  simp only [Bool.and_eq_true, decide_eq_true_eq, List.all_eq_true, beq_iff_eq] at h
  obtain ⟨h1, h2, ⟨h3, h4⟩, h5⟩ := h
  refine ⟨h1, h2, by omega, h5, fun x hx => ?_⟩
  have := h3 x hx
  unfold flagOkV regV stampV at this
  simp only [Bool.and_eq_true, decide_eq_true_eq] at this
  omega
theorem regsText_take (s : ByteArray) (l : List S41) (i : Nat) (h : i < l.length) : regsText s (l.take (i + 1)) = regsText s (l.take i) ++ vtx l[i].f0 ++ vtx l[i].f1.f0 ++ vtx l[i].f1.f1 := by
  rw [List.take_succ_eq_append_getElem h]
  unfold regsText
  rw [List.foldl_append]
  rfl
theorem regsText_size (s : ByteArray) (l : List S41) (hx : ∀ x ∈ l, (0 ≤ x.f0 ∧ x.f0 ≤ 1) ∧ (0 ≤ x.f1.f0 ∧ x.f1.f0 ≤ 100000) ∧ (0 ≤ x.f1.f1 ∧ x.f1.f1 ≤ 2)) (i : Nat) (hi : i ≤ l.length) : (regsText s (l.take i)).size ≤ s.size + 30 * i := by
  induction i with
  | zero => simp [regsText]
  | succ i ih =>
    have h := ih (by omega)
    rw [regsText_take s l i (by omega)]
    obtain ⟨a, b, c⟩ := hx _ (List.getElem_mem (show i < l.length by omega))
    have ha := vtx_size l[i].f0 (by omega) (by omega)
    have hb := vtx_size l[i].f1.f0 (by omega) (by omega)
    have hc := vtx_size l[i].f1.f1 (by omega) (by omega)
    simp only [ByteArray.size_append]
    omega
theorem spec_mailtext_l0 (g u : Int) (l : List S41) (t s : ByteArray) (h3 : l.length = 3) (hs : s.size ≤ 20) (ht : (t.size : Int) ≤ 60) (hx : ∀ x ∈ l, (0 ≤ x.f0 ∧ x.f0 ≤ 1) ∧ (0 ≤ x.f1.f0 ∧ x.f1.f0 ≤ 100000) ∧ (0 ≤ x.f1.f1 ∧ x.f1.f1 ≤ 2)) :
    Ev (fun k => spec_MailText.l0 k s 0 g u l t) (regsText s l ++ vtx (t.size : Int) ++ t, true) := by
  have key := ev_down (P := fun i => Ev (fun k => spec_MailText.l0 k (regsText s (l.take i)) (i : Int) g u l t) (regsText s l ++ vtx (t.size : Int) ++ t, true)) l.length ?_ ?_
  · simpa [regsText] using key
  · rw [List.take_length]
    have hr := regsText_size s l hx l.length (Nat.le_refl _)
    rw [List.take_length] at hr
    have hv := vtx_size (t.size : Int) (by omega) (by omega)
    refine Ev.step (f := fun k => (spec_l01Var.f k (t.size : Int)).bind fun v => if (regsText s l).size + v.size ≤ 9223372036854775807 then (if (regsText s l ++ v).size + t.size ≤ 9223372036854775807 then some ((regsText s l ++ v) ++ t, true) else none) else none) (fun k => ?_) (Ev.bind (vtx_ev _ (by omega) (by omega)) ?_)
    · simp only [spec_MailText.l0]
      rw [if_neg (by omega)]
    · rw [if_pos (by omega), if_pos (by rw [ByteArray.size_append]; omega)]
      exact Ev.now _
  · intro i hi h
    have hx0 : rd_T41 l (i : Int) = l[i] := getD_at _ _ _ hi
    have hr := regsText_size s l hx i (by omega)
    obtain ⟨a, b, c⟩ := hx _ (List.getElem_mem hi)
    have ha := vtx_size l[i].f0 (by omega) (by omega)
    have hb := vtx_size l[i].f1.f0 (by omega) (by omega)
    have hc := vtx_size l[i].f1.f1 (by omega) (by omega)
    refine Ev.step (f := fun k => (spec_l01Var.f k l[i].f0).bind fun v1 => if (regsText s (l.take i)).size + v1.size ≤ 9223372036854775807 then (spec_l01Var.f k l[i].f1.f0).bind fun v2 => if (regsText s (l.take i) ++ v1).size + v2.size ≤ 9223372036854775807 then (spec_l01Var.f k l[i].f1.f1).bind fun v3 => if ((regsText s (l.take i) ++ v1) ++ v2).size + v3.size ≤ 9223372036854775807 then spec_MailText.l0 k (((regsText s (l.take i) ++ v1) ++ v2) ++ v3) ((i + 1 : Nat) : Int) g u l t else none else none else none) (fun k => ?_) ?_
    · simp only [spec_MailText.l0]
      rw [if_pos (by omega), if_pos (by omega), hx0, wrap_id (by omega) (by omega)]
      rfl
    · have q1 : (regsText s (l.take i)).size + (vtx l[i].f0).size ≤ 9223372036854775807 := by omega
      have q2 : (regsText s (l.take i) ++ vtx l[i].f0).size + (vtx l[i].f1.f0).size ≤ 9223372036854775807 := by rw [ByteArray.size_append]; omega
      have q3 : (regsText s (l.take i) ++ vtx l[i].f0 ++ vtx l[i].f1.f0).size + (vtx l[i].f1.f1).size ≤ 9223372036854775807 := by rw [ByteArray.size_append, ByteArray.size_append]; omega
      refine Ev.bind (vtx_ev _ (by omega) (by omega)) ?_
      simp only [if_pos q1]
      refine Ev.bind (vtx_ev _ (by omega) (by omega)) ?_
      simp only [if_pos q2]
      refine Ev.bind (vtx_ev _ (by omega) (by omega)) ?_
      simp only [if_pos q3]
      rw [regsText_take s l i hi] at h
      exact h
theorem spec_MailText_ev (g u : Int) (l : List S41) (t : ByteArray) (hn : l.length ≤ 1048576) : Ev (fun k => spec_MailText.f k g u l t) (mailTextV g u l t) := by
  unfold spec_MailText.f mailTextV
  refine Ev.bind (spec_MailOk_ev g u l t hn) ?_
  by_cases h : mailOkV g u l t = true
  · simp only [if_pos h]
    obtain ⟨hg, hu, h3, ht, hx⟩ := mailOkV_parts h
    have sg := vtx_size g (by omega) (by omega)
    have su := vtx_size u (by omega) (by omega)
    have q1 : (vtx g).size + (vtx u).size ≤ 9223372036854775807 := by omega
    refine Ev.bind (vtx_ev g (by omega) (by omega)) (Ev.bind (vtx_ev u (by omega) (by omega)) ?_)
    simp only [if_pos q1]
    exact spec_mailtext_l0 g u l t _ h3 (by rw [ByteArray.size_append]; omega) ht hx
  · simp only [if_neg h]
    exact Ev.now _
theorem impl_vtx_ev (n : Int) (h0 : 0 ≤ n) (h1 : n ≤ 1000000000) : Ev (fun k => impl_VarText.f k n) (vtx n, true) := by
  have := impl_VarText_ev n
  unfold varTextV at this
  rw [if_pos ⟨h0, h1⟩] at this
  exact this
def catText (s : ByteArray) (l : List Int) : ByteArray := l.foldl (fun s n => s ++ vtx n) s
theorem vars_ev (l : List Int) (hl : l.length ≤ 10) (hx : ∀ n ∈ l, 0 ≤ n ∧ n ≤ 1000000000) : Ev (fun k => impl_vars.f k l) (catText (⟨#[]⟩ : ByteArray) l) := by
  unfold impl_vars.f
  have hsz : ∀ i, i ≤ l.length → (catText (⟨#[]⟩ : ByteArray) (l.take i)).size ≤ 10 * i := by
    intro i
    induction i with
    | zero => intro _; simp [catText]; rfl
    | succ i ih =>
      intro hi
      have h := ih (by omega)
      have hm := hx _ (List.getElem_mem (show i < l.length by omega))
      have hv := vtx_size l[i] (by omega) (by omega)
      rw [List.take_succ_eq_append_getElem (by omega)]
      simp only [catText, List.foldl_append, List.foldl_cons, List.foldl_nil] at h ⊢
      rw [ByteArray.size_append]
      omega
  have key := ev_down (P := fun i => Ev (fun k => impl_vars.l0 k (catText (⟨#[]⟩ : ByteArray) (l.take i)) l (l.length : Int) (i : Int)) (catText (⟨#[]⟩ : ByteArray) l)) l.length ?_ ?_
  · simpa [catText] using key
  · rw [List.take_length]
    refine Ev.step (f := fun _ => some (catText (⟨#[]⟩ : ByteArray) l)) (fun k => ?_) (Ev.now _)
    simp only [impl_vars.l0]
    rw [if_neg (by omega)]
  · intro i hi h
    have hx0 : rd l (i : Int) = l[i] := getD_at _ _ _ hi
    have hm := hx _ (List.getElem_mem hi)
    have hv := vtx_size l[i] (by omega) (by omega)
    have hs := hsz i (by omega)
    refine Ev.step (f := fun k => (impl_VarText.f k l[i]).bind fun b => if (catText (⟨#[]⟩ : ByteArray) (l.take i)).size + b.1.size ≤ 9223372036854775807 then impl_vars.l0 k (catText (⟨#[]⟩ : ByteArray) (l.take i) ++ b.1) l (l.length : Int) ((i + 1 : Nat) : Int) else none) (fun k => ?_) (Ev.bind (impl_vtx_ev _ hm.1 hm.2) ?_)
    · simp only [impl_vars.l0]
      rw [if_pos (by omega), if_pos (by omega), if_pos (by omega), hx0, wrap_id (by omega) (by omega)]
      rfl
    · have q1 : (catText (⟨#[]⟩ : ByteArray) (l.take i)).size + (vtx l[i], true).1.size ≤ 9223372036854775807 := by dsimp only; omega
      simp only [if_pos q1]
      have e : catText (⟨#[]⟩ : ByteArray) (l.take (i + 1)) = catText (⟨#[]⟩ : ByteArray) (l.take i) ++ vtx l[i] := by
        rw [List.take_succ_eq_append_getElem hi]
        unfold catText
        rw [List.foldl_append]
        rfl
      rw [e] at h
      exact h
theorem short_ev (t : ByteArray) (h : (t.size : Int) ≤ 60) : Ev (fun k => impl_short.f k t) (vtx (t.size : Int) ++ t) := by
  unfold impl_short.f
  refine Ev.bind (impl_ShortText_ev t) ?_
  unfold shortV vtx
  rw [if_neg (by omega), Int.toNat_natCast]
  exact Ev.now _
theorem impl_mailtext_l0 (g u : Int) (l : List S41) (t s : ByteArray) (h3 : l.length = 3) (hs : s.size ≤ 20) (ht : (t.size : Int) ≤ 60) (hx : ∀ x ∈ l, (0 ≤ x.f0 ∧ x.f0 ≤ 1) ∧ (0 ≤ x.f1.f0 ∧ x.f1.f0 ≤ 100000) ∧ (0 ≤ x.f1.f1 ∧ x.f1.f1 ≤ 2)) :
    Ev (fun k => impl_MailText.l0 k s l (l.length : Int) 0 g u l t) (regsText s l ++ vtx (t.size : Int) ++ t, true) := by
  have key := ev_down (P := fun i => Ev (fun k => impl_MailText.l0 k (regsText s (l.take i)) l (l.length : Int) (i : Int) g u l t) (regsText s l ++ vtx (t.size : Int) ++ t, true)) l.length ?_ ?_
  · simpa [regsText] using key
  · rw [List.take_length]
    have hr := regsText_size s l hx l.length (Nat.le_refl _)
    rw [List.take_length] at hr
    have hv := vtx_size (t.size : Int) (by omega) (by omega)
    refine Ev.step (f := fun k => (impl_short.f k t).bind fun v => if (regsText s l).size + v.size ≤ 9223372036854775807 then some (regsText s l ++ v, true) else none) (fun k => ?_) (Ev.bind (short_ev t ht) ?_)
    · simp only [impl_MailText.l0]
      rw [if_neg (by omega)]
    · rw [if_pos (by rw [ByteArray.size_append]; omega), ← str_assoc]
      exact Ev.now _
  · intro i hi h
    have hx0 : rd_T41 l (i : Int) = l[i] := getD_at _ _ _ hi
    have hr := regsText_size s l hx i (by omega)
    obtain ⟨a, b, c⟩ := hx _ (List.getElem_mem hi)
    have ha := vtx_size l[i].f0 (by omega) (by omega)
    have hb := vtx_size l[i].f1.f0 (by omega) (by omega)
    have hc := vtx_size l[i].f1.f1 (by omega) (by omega)
    refine Ev.step (f := fun k => (impl_vars.f k [l[i].f0, l[i].f1.f0, l[i].f1.f1]).bind fun v => if (regsText s (l.take i)).size + v.size ≤ 9223372036854775807 then impl_MailText.l0 k (regsText s (l.take i) ++ v) l (l.length : Int) ((i + 1 : Nat) : Int) g u l t else none) (fun k => ?_) (Ev.bind (vars_ev [l[i].f0, l[i].f1.f0, l[i].f1.f1] (by simp) (by intro n hn; simp at hn; rcases hn with rfl | rfl | rfl <;> omega)) ?_)
    · simp only [impl_MailText.l0]
      rw [if_pos (by omega), if_pos (by omega), if_pos (by omega), hx0, wrap_id (by omega) (by omega)]
      rfl
    · have e : catText (⟨#[]⟩ : ByteArray) [l[i].f0, l[i].f1.f0, l[i].f1.f1] = vtx l[i].f0 ++ vtx l[i].f1.f0 ++ vtx l[i].f1.f1 := by
        simp only [catText, List.foldl_cons, List.foldl_nil]
        rw [str_nil_left]
      have q1 : (regsText s (l.take i)).size + (vtx l[i].f0 ++ vtx l[i].f1.f0 ++ vtx l[i].f1.f1).size ≤ 9223372036854775807 := by rw [ByteArray.size_append, ByteArray.size_append]; omega
      rw [e]
      simp only [if_pos q1]
      rw [regsText_take s l i hi, str_assoc, str_assoc, ← str_assoc (vtx l[i].f0)] at h
      exact h
theorem impl_MailText_ev (g u : Int) (l : List S41) (t : ByteArray) (hn : l.length ≤ 1048576) : Ev (fun k => impl_MailText.f k g u l t) (mailTextV g u l t) := by
  unfold impl_MailText.f mailTextV
  refine Ev.bind (impl_MailOk_ev g u l t hn) ?_
  by_cases h : mailOkV g u l t = true
  · simp only [if_pos h]
    obtain ⟨hg, hu, h3, ht, hx⟩ := mailOkV_parts h
    have sg := vtx_size g (by omega) (by omega)
    have su := vtx_size u (by omega) (by omega)
    refine Ev.bind (vars_ev [g, u] (by simp) (by intro n hn; simp at hn; rcases hn with rfl | rfl <;> omega)) ?_
    have e : catText (⟨#[]⟩ : ByteArray) [g, u] = vtx g ++ vtx u := by
      simp only [catText, List.foldl_cons, List.foldl_nil]
      rw [str_nil_left]
    rw [e]
    exact impl_mailtext_l0 g u l t _ h3 (by rw [ByteArray.size_append]; omega) ht hx
  · simp only [if_neg h]
    exact Ev.now _

theorem FnExactMailText : laws_FnExactMailText.Pure := by
  intro g u l t _ _ hl hs
  obtain ⟨_, hn, _⟩ := hl
  refine Ev.rounds (g := fun k => laws_FnExactMailText.f k g u l t) ?_
  unfold laws_FnExactMailText.f
  obtain ⟨r, hr, hb⟩ := szMail_eq g u l t 1048576 (by decide) (by decide) hn hs
  simp only [hr, Option.bind_some]
  rcases hb with hb | ⟨h0, _, hlen, _⟩
  · simp only [if_pos hb]
    exact Ev.now _
  · have hb : ¬ r < 0 := by omega
    simp only [if_neg hb]
    have ht := toMail_ev g u l t hlen
    have hm : (l.map toRegV).length ≤ 1048576 := by rw [List.length_map]; exact hlen
    refine Ev.bind ht (Ev.bind (spec_MailText_ev g u _ t hm) (Ev.bind ht (Ev.bind (impl_MailText_ev g u _ t hm) ?_)))
    simp only [bne_self_eq_false, ↓reduceIte]
    refine Ev.step (f := fun k => (laws_toMail.f k g u l t).bind fun b => (laws_eqMail.f k g u (l.map toRegV) t b.1 b.2.1 b.2.2.1 b.2.2.2).bind fun q => if q = true then some true else none) (fun k => ?_) ?_
    · simp only [laws_FnExactMailText.j0]
      rw [if_neg (by simp)]
    · refine Ev.bind ht (Ev.bind (eqMail_ev g u _ t (by omega)) ?_)
      exact Ev.now _

end Go.Proofs.Ytdabhhlfnfjojaa.Pure
