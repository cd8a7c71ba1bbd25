/- What FnFlags says, on lists alone. No program in it. -/
import Derived.Test.YtjfjpabfkembcaaHJoinFlags
import Derived.Test.YtjfjpabfkembcaaHFlagsOf
import Derived.Test.YtjfjpabfkembcaaHDraw4
namespace Go.Proofs.Ytjfjpabfkembcaa.H
open Go.RowKit
set_option linter.unusedVariables false
theorem joinReg_mk (a b : Reg) : joinReg a b = if b.t > a.t ∨ (b.t = a.t ∧ (b.b > a.b ∨ (b.b = a.b ∧ b.v > a.v))) then b else a := by
  obtain ⟨av, at_, ab⟩ := a
  obtain ⟨bv, bt, bb⟩ := b
  unfold joinReg later
  dsimp only
  by_cases h1 : at_ < bt <;> by_cases h2 : bt < at_ <;> by_cases h3 : at_ = bt <;> by_cases h4 : ab < bb <;> by_cases h5 : bb < ab <;> by_cases h6 : ab = bb <;> by_cases h7 : av < bv <;>
    simp [h1, h2, h3, h4, h5, h6, h7, eq_comm] <;> omega
theorem reg_ext {a b : Reg} (h1 : a.v = b.v) (h2 : a.t = b.t) (h3 : a.b = b.b) : a = b := by
  obtain ⟨av, at_, ab⟩ := a
  obtain ⟨bv, bt, bb⟩ := b
  dsimp only at *
  subst h1 h2 h3
  rfl
theorem joinReg_comm (a b : Reg) : joinReg b a = joinReg a b := by
  rw [joinReg_mk, joinReg_mk]
  split <;> split
  · omega
  · rfl
  · rfl
  · exact reg_ext (by omega) (by omega) (by omega)
theorem joinReg_abs (a b : Reg) : joinReg (joinReg a b) a = joinReg a b := by
  rw [joinReg_mk a b]
  split
  · rw [joinReg_mk, if_neg (by omega)]
  · rw [joinReg_mk, if_neg (by omega)]
theorem joinReg_assoc (a b c : Reg) : joinReg (joinReg a b) c = joinReg a (joinReg c b) := by
  rw [joinReg_mk a b, joinReg_mk c b]
  split <;> split <;> (simp only [joinReg_mk]) <;> (repeat' split) <;> first | rfl | (exfalso; omega) | exact reg_ext (by omega) (by omega) (by omega)
theorem list3 {α : Type} {l : List α} (h : l.length = 3) : ∃ a b c, l = [a, b, c] := by
  match l, h with
  | [a, b, c], _ => exact ⟨a, b, c, rfl⟩
theorem joinFlags3 (a b c d e f : Reg) : joinFlags [a, b, c] [d, e, f] = [joinReg a d, joinReg b e, joinReg c f] := rfl
theorem joinReg_or (a b : Reg) : joinReg a b = a ∨ joinReg a b = b := by
  rw [joinReg_mk]
  split
  · exact .inr rfl
  · exact .inl rfl
theorem drawn_join {a b : Reg} (ha : flagDrawn a) (hb : flagDrawn b) : flagDrawn (joinReg a b) := by
  rcases joinReg_or a b with h | h <;> rw [h] <;> assumption
theorem drawn_ok {r : Reg} (h : flagDrawn r) : flagOk r = true := by
  obtain ⟨h1, h2, h3, h4, h5, h6⟩ := h
  unfold flagOk regOk stampOk
  rw [isIn_yes (by omega) (by omega), isIn_yes (by omega) (by omega), isIn_yes (by omega) (by omega), decide_eq_true (by omega)]
  rfl
/-- A flag that is set by a late stamp. -/
def setR (n : Int) (i : Nat) (r : Reg) : Reg := if r.v = bitAt n i then r else ⟨bitAt n i, 50, 2⟩
theorem put_late {r : Reg} (h : flagDrawn r) (v : Int) (hv : 0 ≤ v ∧ v ≤ 1) : putReg r v 50 2 = ⟨v, 50, 2⟩ := by
  obtain ⟨h1, h2, h3, h4, h5, h6⟩ := h
  have e1 : later 50 2 r.t r.b = true := by unfold later; rw [decide_eq_true (by omega)]; rfl
  have e2 : regOk ⟨v, 50, 2⟩ = true := by
    unfold regOk stampOk
    rw [isIn_yes (by dsimp only; omega) (by dsimp only; omega), isIn_yes (by dsimp only; omega) (by dsimp only; omega), isIn_yes (by dsimp only; omega) (by dsimp only; omega)]
    rfl
  unfold putReg
  rw [e1, e2]
  rfl
theorem setFlags3 {a b c : Reg} (ha : flagDrawn a) (hb : flagDrawn b) (hc : flagDrawn c) (n : Int) (h0 : 0 ≤ n) (h7 : n ≤ 7) : setFlags [a, b, c] n 50 2 = [setR n 0 a, setR n 1 b, setR n 2 c] := by
  have hok : flagsOk [a, b, c] = true := by
    unfold flagsOk
    simp only [flagsAll, drawn_ok ha, drawn_ok hb, drawn_ok hc]
    rfl
  unfold setFlags
  rw [hok, isIn_yes h0 h7, if_pos (by rfl)]
  simp only [setFrom, put_late ha _ (bitAt_in n 0), put_late hb _ (bitAt_in n (0 + 1)), put_late hc _ (bitAt_in n (0 + 1 + 1)), setR]
theorem setR_v {n : Int} {i : Nat} {r : Reg} : (setR n i r).v = bitAt n i := by
  unfold setR
  split
  · assumption
  · rfl
theorem bits3 (n : Int) (h0 : 0 ≤ n) (h7 : n ≤ 7) : bitAt n 0 % 2 * 2 ^ 0 + bitAt n 1 % 2 * 2 ^ 1 + bitAt n 2 % 2 * 2 ^ 2 = n := by
  rcases (show n = 0 ∨ n = 1 ∨ n = 2 ∨ n = 3 ∨ n = 4 ∨ n = 5 ∨ n = 6 ∨ n = 7 by omega) with rfl | rfl | rfl | rfl | rfl | rfl | rfl | rfl <;> decide
theorem flagsOf3 (a b c : Reg) : flagsOf [a, b, c] = a.v % 2 * 2 ^ 0 + b.v % 2 * 2 ^ 1 + c.v % 2 * 2 ^ 2 := by
  unfold flagsOf
  simp [flagsFrom]
theorem flags_set {a b c : Reg} (n : Int) (h0 : 0 ≤ n) (h7 : n ≤ 7) : flagsOf [setR n 0 a, setR n 1 b, setR n 2 c] = n := by
  rw [flagsOf3, setR_v, setR_v, setR_v]
  exact bits3 n h0 h7
theorem join_set {a b : Reg} (ha : flagDrawn a) (hb : flagDrawn b) (n : Int) (i : Nat) : joinReg (setR n i (joinReg a b)) a = setR n i (joinReg a b) := by
  unfold setR
  split
  · exact joinReg_abs a b
  · obtain ⟨h1, h2, h3, h4, h5, h6⟩ := ha
    rw [joinReg_mk, if_neg (by dsimp only; omega)]
/-- All that FnFlags says of three drawn lists of flags. -/
theorem fnFlags_pure {la lb lc : List Reg} (ha : la.length = 3 ∧ ∀ r ∈ la, flagDrawn r) (hb : lb.length = 3 ∧ ∀ r ∈ lb, flagDrawn r) (hc : lc.length = 3 ∧ ∀ r ∈ lc, flagDrawn r) (n : Int) (h0 : 0 ≤ n) (h7 : n ≤ 7) :
    joinFlags lb la = joinFlags la lb ∧ joinFlags la (joinFlags lc lb) = joinFlags (joinFlags la lb) lc ∧ joinFlags (joinFlags la lb) la = joinFlags la lb ∧ flagsOf (setFlags (joinFlags la lb) n 50 2) = n ∧
      flagsOf (joinFlags (setFlags (joinFlags la lb) n 50 2) la) = n ∧ flagsOk (joinFlags la lb) = true ∧ flagsOf (flagsNew n 0 0) = n := by
  obtain ⟨a0, a1, a2, rfl⟩ := list3 ha.1
  obtain ⟨b0, b1, b2, rfl⟩ := list3 hb.1
  obtain ⟨c0, c1, c2, rfl⟩ := list3 hc.1
  have hA := ha.2
  have hB := hb.2
  simp only [List.mem_cons, List.not_mem_nil, or_false, forall_eq_or_imp, forall_eq] at hA hB
  obtain ⟨hA0, hA1, hA2⟩ := hA
  obtain ⟨hB0, hB1, hB2⟩ := hB
  simp only [joinFlags3]
  rw [setFlags3 (drawn_join hA0 hB0) (drawn_join hA1 hB1) (drawn_join hA2 hB2) n h0 h7]
  refine ⟨by rw [joinReg_comm a0, joinReg_comm a1, joinReg_comm a2], by rw [joinReg_assoc, joinReg_assoc, joinReg_assoc], by rw [joinReg_abs, joinReg_abs, joinReg_abs], flags_set n h0 h7, ?_, ?_, ?_⟩
  · rw [joinFlags3, join_set hA0 hB0, join_set hA1 hB1, join_set hA2 hB2]
    exact flags_set n h0 h7
  · unfold flagsOk
    simp only [flagsAll, drawn_ok (drawn_join hA0 hB0), drawn_ok (drawn_join hA1 hB1), drawn_ok (drawn_join hA2 hB2)]
    rfl
  · unfold flagsNew
    rw [flagsOf3]
    exact bits3 n h0 h7
theorem setFrom_len (n t b : Int) : ∀ (l : List Reg) (i : Nat), (setFrom n t b i l).length = l.length
  | [], _ => rfl
  | r :: l, i => by simp only [setFrom, List.length_cons, setFrom_len n t b l]
theorem setFlags_len (l : List Reg) (n t b : Int) (h : l.length ≤ 4000000) : (setFlags l n t b).length ≤ 4000000 := by
  unfold setFlags
  split
  · rw [setFrom_len]; exact h
  · exact h
end Go.Proofs.Ytjfjpabfkembcaa.H
