/- FlagsOf of both; lists that are the same; a code that is too long: the walks. -/
import Derived.Test.YtjfjpabfkembcaaHSet2
import Derived.Test.YtjfjpabfkembcaaHCur
namespace Go.Proofs.Ytjfjpabfkembcaa.H
open Go.RowKit
set_option linter.unusedVariables false
set_option linter.unusedSimpArgs false
def flagsFrom : Nat → Int → List Reg → Int
  | _, n, [] => n
  | i, n, r :: l => if i < 3 then flagsFrom (i + 1) (n + r.v % 2 * 2 ^ i) l else n
def flagsOf (l : List Reg) : Int := flagsFrom 0 0 l
theorem and1_i (x : Int) : bits .and .i64 x 1 = x % 2 := by
  have e : bits .and .i64 x 1 = IntKind.i64.wrap (((BitVec.ofInt 64 x &&& BitVec.ofInt 64 1).toNat : Nat) : Int) := rfl
  rw [e, BitVec.toNat_and, BitVec.toNat_ofInt, show (BitVec.ofInt 64 1).toNat = 1 from rfl, Nat.and_one_is_mod, IntKind.wrap_i64]
  omega
theorem tmod2 (x : Int) : (Int.tmod x 2 == 0) = decide (x % 2 = 0) := by
  have h : Int.tmod x 2 = 0 ↔ x % 2 = 0 := ⟨fun h => Int.emod_eq_zero_of_dvd (Int.dvd_of_tmod_eq_zero h), fun h => Int.tmod_eq_zero_of_dvd (Int.dvd_of_emod_eq_zero h)⟩
  by_cases h0 : x % 2 = 0
  · rw [decide_eq_true h0, h.2 h0]; rfl
  · rw [decide_eq_false h0]
    exact beq_eq_false_iff_ne.2 (fun e => h0 (h.1 e))
theorem flagsFrom_at {l : List Reg} {i : Nat} (n : Int) (h : i < l.length) (h3 : i < 3) : flagsFrom i n (l.drop i) = flagsFrom (i + 1) (n + l[i].v % 2 * 2 ^ i) (l.drop (i + 1)) := by
  rw [List.drop_eq_getElem_cons h, flagsFrom, if_pos h3]
theorem flagsFrom_end {l : List Reg} {i : Nat} (n : Int) (h : ¬ (i < l.length ∧ i < 3)) : flagsFrom i n (l.drop i) = n := by
  by_cases hl : i < l.length
  · rw [List.drop_eq_getElem_cons hl, flagsFrom, if_neg (fun h3 => h ⟨hl, h3⟩)]
  · rw [List.drop_of_length_le (by omega)]; rfl
theorem pow_in {i : Nat} (h3 : i < 3) : (1 : Int) ≤ 2 ^ i ∧ (2 : Int) ^ i ≤ 4 := by
  rcases (show i = 0 ∨ i = 1 ∨ i = 2 by omega) with rfl | rfl | rfl <;> decide
set_option maxHeartbeats 2000000 in
set_option maxRecDepth 100000 in
theorem flagsOf_calls (w : World) (v : Value) (l : List Reg) (h : rdRegs w v l) : Calls Try.prog 47 #[v] w fun e w' => e = .returned (.int .i64 (flagsOf l)) ∧ Below w.heap.size w w' := by
  obtain ⟨A, c, rfl, _, hm⟩ := rd_len h
  have HR := Aside.mk h
  clear h
  go_enter Try.func47, Try.ntmps47
  go_wp2
  go_loopw [3, 4] (fun v3 v4 wr => ∃ (i : Nat) (n : Int), i ≤ 3 ∧ 0 ≤ n ∧ n ≤ 4 * i ∧ v4 = .int .i64 i ∧ v3 = .int .i64 n ∧ Aside (flagsOf l = flagsFrom i n (l.drop i)) ∧ Aside (Below w.heap.size w wr)) (fun _ v4 _ => 3 - (intOf v4).toNat)
  case atStart => exact ⟨0, 0, by omega, by omega, by omega, rfl, rfl, ⟨rfl⟩, ⟨Below.refl _ _⟩⟩
  case round =>
    obtain ⟨i, n, hi, hn0, hn1, rfl, rfl, HE, HB⟩ := hrel
    by_cases hlt : i < l.length
    · have q1 : (i : Int) < (l.length : Int) := by omega
      by_cases h3 : i < 3
      · have q2 : (i : Int) < 3 := by omega
        have q0 : (0 : Int) ≤ (i : Int) := by omega
        obtain ⟨ad, e1, x0, x1, x2⟩ := rdRegs_at (rdRegs_mov HB.out HR.out) i hlt
        subst e1
        have HT := Aside.mk (flagsFrom_at n hlt h3)
        generalize l[i] = m at x0 x1 x2 HT
        have hp := pow_in h3
        have hq : m.v % 2 = 0 ∨ m.v % 2 = 1 := by omega
        obtain ⟨q, hqe⟩ : ∃ q, q = m.v % 2 * 2 ^ i := ⟨_, rfl⟩
        have hq0 : 0 ≤ q ∧ q ≤ 4 := by rw [hqe]; rcases hq with h | h <;> rw [h] <;> omega
        have e2 := and1_i m.v
        have e3 : wrap64 (m.v % 2 * 2 ^ i) = q := by rw [← hqe]; unfold wrap64; omega
        have HQ := Aside.mk hqe
        clear hp hq hqe
        go_wp2
        go_roundw
        case rel => exact ⟨i + 1, n + q, by omega, by omega, by push_cast; omega, by go_num, rfl, ⟨by rw [HE.out, HT.out, HQ.out]⟩, HB⟩
        case measure => simp [intOf]; omega
      · have q2 : ¬ ((i : Int) < 3) := by omega
        have HT := Aside.mk (flagsFrom_end (l := l) (i := i) n (by omega))
        go_wp2
        go_ret
        exact ⟨by rw [HE.out, HT.out]; rfl, HB.out⟩
    · have q1 : ¬ ((i : Int) < (l.length : Int)) := by omega
      have HT := Aside.mk (flagsFrom_end (l := l) (i := i) n (by omega))
      go_wp2
      go_ret
      exact ⟨by rw [HE.out, HT.out]; rfl, HB.out⟩
set_option maxHeartbeats 2000000 in
set_option maxRecDepth 100000 in
theorem specFlagsOf_calls (w : World) (v : Value) (l : List Reg) (h : rdRegs w v l) : Calls Try.prog 39 #[v] w fun e w' => e = .returned (.int .i64 (flagsOf l)) ∧ Below w.heap.size w w' := by
  obtain ⟨A, c, rfl, _, hm⟩ := rd_len h
  have HR := Aside.mk h
  clear h
  go_enter Try.func39, Try.ntmps39
  go_wp2
  go_loopw [3, 4] (fun v3 v4 wr => ∃ (i : Nat) (n : Int), i ≤ 3 ∧ 0 ≤ n ∧ n ≤ 4 * i ∧ v4 = .int .i64 i ∧ v3 = .int .i64 n ∧ Aside (flagsOf l = flagsFrom i n (l.drop i)) ∧ Aside (Below w.heap.size w wr)) (fun _ v4 _ => 3 - (intOf v4).toNat)
  case atStart => exact ⟨0, 0, by omega, by omega, by omega, rfl, rfl, ⟨rfl⟩, ⟨Below.refl _ _⟩⟩
  case round =>
    obtain ⟨i, n, hi, hn0, hn1, rfl, rfl, HE, HB⟩ := hrel
    by_cases hlt : i < l.length
    · have q1 : (i : Int) < (l.length : Int) := by omega
      by_cases h3 : i < 3
      · have q2 : (i : Int) < 3 := by omega
        have q0 : (0 : Int) ≤ (i : Int) := by omega
        obtain ⟨ad, e1, x0, x1, x2⟩ := rdRegs_at (rdRegs_mov HB.out HR.out) i hlt
        subst e1
        have HT := Aside.mk (flagsFrom_at n hlt h3)
        generalize l[i] = m at x0 x1 x2 HT
        have hp := pow_in h3
        have e2 := tmod2 m.v
        have e3 : wrap64 (2 ^ i) = 2 ^ i := by unfold wrap64; omega
        rcases (show m.v % 2 = 0 ∨ m.v % 2 = 1 by omega) with hq | hq
        · have HQ := Aside.mk hq
          rw [decide_eq_true hq] at e2
          have e4 : Int.tmod m.v 2 = 0 := by simpa using e2
          clear hq e2
          go_wp2
          go_roundw
          case rel => exact ⟨i + 1, n, by omega, by omega, by push_cast; omega, by go_num, rfl, ⟨by rw [HE.out, HT.out, HQ.out]; simp⟩, HB⟩
          case measure => simp [intOf]; omega
        · have HQ := Aside.mk hq
          rw [decide_eq_false (by omega)] at e2
          have e4 : ¬ (Int.tmod m.v 2 = 0) := by simpa using e2
          clear hq e2
          go_wp2
          go_roundw
          case rel => exact ⟨i + 1, n + 2 ^ i, by omega, by omega, by push_cast; omega, by go_num, rfl, ⟨by rw [HE.out, HT.out, HQ.out]; simp⟩, HB⟩
          case measure => simp [intOf]; omega
      · have q2 : ¬ ((i : Int) < 3) := by omega
        have HT := Aside.mk (flagsFrom_end (l := l) (i := i) n (by omega))
        go_wp2
        go_ret
        exact ⟨by rw [HE.out, HT.out]; rfl, HB.out⟩
    · have q1 : ¬ ((i : Int) < (l.length : Int)) := by omega
      have HT := Aside.mk (flagsFrom_end (l := l) (i := i) n (by omega))
      go_wp2
      go_ret
      exact ⟨by rw [HE.out, HT.out]; rfl, HB.out⟩
set_option maxHeartbeats 2000000 in
set_option maxRecDepth 100000 in
theorem big_calls (w : World) (v : Value) (l : List Int) (h : rdBytes w v l) : Calls Try.prog 32 #[v] w (RetB (decide ((1048576 : Int) < l.length)) w) := by
  obtain ⟨A, c, rfl, _, hm⟩ := rd_len h
  clear h
  go_enter Try.func32, Try.ntmps32
  go_wp2
  go_ret
  exact ⟨rfl, Below.refl _ _⟩
set_option maxHeartbeats 2000000 in
set_option maxRecDepth 100000 in
theorem sameRegs_calls (w : World) (v1 v2 : Value) (l : List Reg) (h1 : rdRegs w v1 l) (h2 : rdRegs w v2 l) : Calls Try.prog 46 #[v1, v2] w (RetT w) := by
  obtain ⟨A1, c1, rfl, _, hm⟩ := rd_len h1
  obtain ⟨A2, c2, rfl, _, _⟩ := rd_len h2
  have HR1 := Aside.mk h1
  have HR2 := Aside.mk h2
  clear h1 h2
  go_enter Try.func46, Try.ntmps46
  go_wp2
  go_loopw [5] (fun v wr => ∃ i : Nat, i ≤ l.length ∧ v = .int .i64 i ∧ Aside (Below w.heap.size w wr)) (fun v _ => l.length - (intOf v).toNat)
  case atStart => exact ⟨0, Nat.zero_le _, rfl, ⟨Below.refl _ _⟩⟩
  case round =>
    obtain ⟨i, hi, rfl, HB⟩ := hrel
    by_cases hlt : i < l.length
    · obtain ⟨a1, e1, x0, x1, x2⟩ := rdRegs_at (rdRegs_mov HB.out HR1.out) i hlt
      obtain ⟨a2, e2, y0, y1, y2⟩ := rdRegs_at (rdRegs_mov HB.out HR2.out) i hlt
      subst e1 e2
      generalize l[i] = m at x0 x1 x2 y0 y1 y2
      have q0 : (0 : Int) ≤ (i : Int) := by omega
      have q1 : (i : Int) < (l.length : Int) := by omega
      go_wp2
      go_region_held3 (fun w' => w'.cell? (a1.add (i * 3)) = some (.int .i64 m.v) ∧ w'.cell? ⟨(a1.add (i * 3)).block, (a1.add (i * 3)).off + 1, none⟩ = some (.int .i64 m.t) ∧ w'.cell? ⟨(a1.add (i * 3)).block, (a1.add (i * 3)).off + 2, none⟩ = some (.int .i64 m.b) ∧ w'.cell? (a2.add (i * 3)) = some (.int .i64 m.v) ∧ w'.cell? ⟨(a2.add (i * 3)).block, (a2.add (i * 3)).off + 1, none⟩ = some (.int .i64 m.t) ∧ w'.cell? ⟨(a2.add (i * 3)).block, (a2.add (i * 3)).off + 2, none⟩ = some (.int .i64 m.b)) ((repeat' apply And.intro) <;> (first | (refine cell_b hb ?_; assumption) | go_keep)) (fail)
      go_wp2
      go_roundw
      case rel => exact ⟨i + 1, by omega, by go_num, ⟨below_drew HB.out⟩⟩
      case measure => simp [intOf]; omega
    · obtain rfl : i = l.length := by omega
      clear hlt
      go_wp2
      go_ret
      exact ⟨rfl, HB.out⟩
end Go.Proofs.Ytjfjpabfkembcaa.H
