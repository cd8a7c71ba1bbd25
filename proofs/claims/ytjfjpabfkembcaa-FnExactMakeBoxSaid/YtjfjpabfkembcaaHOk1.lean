/- What is right: numbers, stamps, registers, flags, mails, the program's and the reference's: the walks. -/
import Derived.Test.YtjfjpabfkembcaaProg
import Derived.Test.YtjfjpabfkembcaaHTac
import Derived.Deep.RegionHeld3
import Derived.Deep.DeepCutAuto
namespace Go.Proofs.Ytjfjpabfkembcaa.H
open Go.RowKit
set_option linter.unusedVariables false
set_option linter.unusedSimpArgs false

def RetB (c : Bool) (w : World) (e : Ending) (w' : World) : Prop := e = .returned (.bool c) ∧ Below w.heap.size w w'
theorem isIn_yes {x lo hi : Int} (h1 : lo ≤ x) (h2 : x ≤ hi) : isIn x lo hi = true := by simp [isIn, h1, h2]
theorem isIn_lo {x lo hi : Int} (h1 : ¬ lo ≤ x) : isIn x lo hi = false := by simp [isIn, h1]
theorem isIn_hi {x lo hi : Int} (h1 : ¬ x ≤ hi) : isIn x lo hi = false := by simp [isIn, h1]
theorem isIn_iff {x lo hi : Int} : isIn x lo hi = true ↔ lo ≤ x ∧ x ≤ hi := by simp [isIn]
set_option maxHeartbeats 2000000 in
set_option maxRecDepth 100000 in
theorem within_calls (w : World) (x lo hi : Int) : Calls Try.prog 119 #[.int .i64 x, .int .i64 lo, .int .i64 hi] w (RetB (isIn x lo hi) w) := by
  by_cases h1 : lo ≤ x
  · by_cases h2 : x ≤ hi
    · have HE := Aside.mk (isIn_yes h1 h2)
      go_enter Try.func119, Try.ntmps119
      go_wp2
      go_ret
      exact ⟨ret_b HE.out.symm, Below.refl _ _⟩
    · have HE := Aside.mk (isIn_hi (lo := lo) h2)
      go_enter Try.func119, Try.ntmps119
      go_wp2
      go_ret
      exact ⟨ret_b HE.out.symm, Below.refl _ _⟩
  · have HE := Aside.mk (isIn_lo (hi := hi) h1)
    go_enter Try.func119, Try.ntmps119
    go_wp2
    go_ret
    exact ⟨ret_b HE.out.symm, Below.refl _ _⟩
set_option maxHeartbeats 2000000 in
set_option maxRecDepth 100000 in
theorem l01In_calls (w : World) (x lo hi : Int) : Calls Try.prog 132 #[.int .i64 x, .int .i64 lo, .int .i64 hi] w (RetB (isIn x lo hi) w) := by
  by_cases h1 : lo ≤ x
  · by_cases h2 : x ≤ hi
    · have HE := Aside.mk (isIn_yes h1 h2)
      go_enter Try.func132, Try.ntmps132
      go_wp2
      go_ret
      exact ⟨ret_b HE.out.symm, Below.refl _ _⟩
    · have HE := Aside.mk (isIn_hi (lo := lo) h2)
      go_enter Try.func132, Try.ntmps132
      go_wp2
      go_ret
      exact ⟨ret_b HE.out.symm, Below.refl _ _⟩
  · have HE := Aside.mk (isIn_lo (hi := hi) h1)
    go_enter Try.func132, Try.ntmps132
    go_wp2
    go_ret
    exact ⟨ret_b HE.out.symm, Below.refl _ _⟩
set_option maxHeartbeats 2000000 in
set_option maxRecDepth 100000 in
theorem isGid_calls (w : World) (x : Int) : Calls Try.prog 117 #[.int .i64 x] w (RetB (isIn x 1 9999) w) := by
  have HB := Aside.mk (Below.refl w.heap.size w)
  go_enter Try.func117, Try.ntmps117
  go_wp2_with (go_at_call 119; refine (within_calls _ _ _ _).mono ?_; rintro e w' ⟨rfl, hb⟩; replace HB := Aside.mk (below_step HB.out hb); clear hb)
  go_ret
  exact ⟨rfl, HB.out⟩
set_option maxHeartbeats 2000000 in
set_option maxRecDepth 100000 in
theorem isFlags_calls (w : World) (x : Int) : Calls Try.prog 115 #[.int .i64 x] w (RetB (isIn x 0 7) w) := by
  have HB := Aside.mk (Below.refl w.heap.size w)
  go_enter Try.func115, Try.ntmps115
  go_wp2_with (go_at_call 119; refine (within_calls _ _ _ _).mono ?_; rintro e w' ⟨rfl, hb⟩; replace HB := Aside.mk (below_step HB.out hb); clear hb)
  go_ret
  exact ⟨rfl, HB.out⟩
set_option maxHeartbeats 2000000 in
set_option maxRecDepth 100000 in
theorem stampOk_calls (w : World) (t b : Int) : Calls Try.prog 116 #[.agg #[.int .i64 t, .int .i64 b]] w (RetB (stampOk t b) w) := by
  have HE : Aside (stampOk t b = (isIn t 0 100000 && isIn b 0 2)) := ⟨rfl⟩
  rcases h1 : isIn t 0 100000 with _ | _
  all_goals
    rw [h1] at HE
    go_enter Try.func116, Try.ntmps116
    go_wp2_with (fail)
    (have L0 := Aside.mk (Loc.new w #[.int .i64 t, .int .i64 b] 29); have HB := Aside.mk (below_alloc (Below.refl _ w) (.cells #[.int .i64 t, .int .i64 b] 29)); have l0 := L0.out.cells)
    go_wp2_with (go_at_call 119; refine (within_calls _ _ _ _).mono ?_; rintro e w' ⟨rfl, hb⟩; replace L0 := Aside.mk (L0.out.below hb); replace HB := Aside.mk (below_step HB.out hb); clear l0 hb; have l0 := L0.out.cells)
    go_ret
    exact ⟨ret_b (by rw [HE.out]; first | rfl | (simp; done) | (simp; omega)), HB.out⟩
set_option maxHeartbeats 2000000 in
set_option maxRecDepth 100000 in
theorem specStampOk_calls (w : World) (t b : Int) : Calls Try.prog 149 #[.agg #[.int .i64 t, .int .i64 b]] w (RetB (stampOk t b) w) := by
  have HE : Aside (stampOk t b = (isIn t 0 100000 && isIn b 0 2)) := ⟨rfl⟩
  rcases h1 : isIn t 0 100000 with _ | _
  all_goals
    rw [h1] at HE
    go_enter Try.func149, Try.ntmps149
    go_wp2_with (fail)
    (have L0 := Aside.mk (Loc.new w #[.int .i64 t, .int .i64 b] 29); have HB := Aside.mk (below_alloc (Below.refl _ w) (.cells #[.int .i64 t, .int .i64 b] 29)); have l0 := L0.out.cells)
    go_wp2_with (go_at_call 132; refine (l01In_calls _ _ _ _).mono ?_; rintro e w' ⟨rfl, hb⟩; replace L0 := Aside.mk (L0.out.below hb); replace HB := Aside.mk (below_step HB.out hb); clear l0 hb; have l0 := L0.out.cells)
    go_ret
    exact ⟨ret_b (by rw [HE.out]; first | rfl | (simp; done) | (simp; omega)), HB.out⟩
set_option maxHeartbeats 2000000 in
set_option maxRecDepth 100000 in
theorem regOk_calls (w : World) (r : Reg) : Calls Try.prog 130 #[.agg #[.int .i64 r.v, .int .i64 r.t, .int .i64 r.b]] w (RetB (regOk r) w) := by
  have HE : Aside (regOk r = (stampOk r.t r.b && isIn r.v 0 1000000000)) := ⟨rfl⟩
  rcases h1 : stampOk r.t r.b with _ | _
  all_goals
    rw [h1] at HE
    go_enter Try.func130, Try.ntmps130
    go_wp2_with (fail)
    (have L0 := Aside.mk (Loc.new w #[.int .i64 r.v, .int .i64 r.t, .int .i64 r.b] 136); have HB := Aside.mk (below_alloc (Below.refl _ w) (.cells #[.int .i64 r.v, .int .i64 r.t, .int .i64 r.b] 136)); have l0 := L0.out.cells)
    go_wp2_with (first
      | (go_at_call 116; refine (stampOk_calls _ _ _).mono ?_; rintro e w' ⟨rfl, hb⟩; replace L0 := Aside.mk (L0.out.below hb); replace HB := Aside.mk (below_step HB.out hb); clear l0 hb; have l0 := L0.out.cells)
      | (go_at_call 119; refine (within_calls _ _ _ _).mono ?_; rintro e w' ⟨rfl, hb⟩; replace L0 := Aside.mk (L0.out.below hb); replace HB := Aside.mk (below_step HB.out hb); clear l0 hb; have l0 := L0.out.cells))
    go_ret
    exact ⟨ret_b (by rw [HE.out]; first | rfl | (simp; done) | (simp; omega)), HB.out⟩
set_option maxHeartbeats 2000000 in
set_option maxRecDepth 100000 in
theorem specRegOk_calls (w : World) (r : Reg) : Calls Try.prog 134 #[.agg #[.int .i64 r.v, .int .i64 r.t, .int .i64 r.b]] w (RetB (regOk r) w) := by
  have HE : Aside (regOk r = (stampOk r.t r.b && isIn r.v 0 1000000000)) := ⟨rfl⟩
  rcases h1 : stampOk r.t r.b with _ | _
  all_goals
    rw [h1] at HE
    go_enter Try.func134, Try.ntmps134
    go_wp2_with (fail)
    (have L0 := Aside.mk (Loc.new w #[.int .i64 r.v, .int .i64 r.t, .int .i64 r.b] 136); have HB := Aside.mk (below_alloc (Below.refl _ w) (.cells #[.int .i64 r.v, .int .i64 r.t, .int .i64 r.b] 136)); have l0 := L0.out.cells)
    go_wp2_with (first
      | (go_at_call 149; refine (specStampOk_calls _ _ _).mono ?_; rintro e w' ⟨rfl, hb⟩; replace L0 := Aside.mk (L0.out.below hb); replace HB := Aside.mk (below_step HB.out hb); clear l0 hb; have l0 := L0.out.cells)
      | (go_at_call 132; refine (l01In_calls _ _ _ _).mono ?_; rintro e w' ⟨rfl, hb⟩; replace L0 := Aside.mk (L0.out.below hb); replace HB := Aside.mk (below_step HB.out hb); clear l0 hb; have l0 := L0.out.cells))
    go_ret
    exact ⟨ret_b (by rw [HE.out]; first | rfl | (simp; done) | (simp; omega)), HB.out⟩
theorem eq3 (n : Nat) : ((n : Int) == 3) = decide (n = 3) := by
  rw [Bool.eq_iff_iff, beq_iff_eq, decide_eq_true_iff]
  omega
theorem flagsAll_at {l : List Reg} {i : Nat} (h : i < l.length) : flagsAll (l.drop i) = (flagOk l[i] && flagsAll (l.drop (i + 1))) := by
  rw [List.drop_eq_getElem_cons h]; rfl
set_option maxHeartbeats 2000000 in
set_option maxRecDepth 100000 in
theorem flagsOk_calls (w : World) (v : Value) (l : List Reg) (h : rdRegs w v l) : Calls Try.prog 48 #[v] w (RetB (flagsOk l) w) := by
  obtain ⟨A, c, rfl, _, hm⟩ := rd_len h
  have HR := Aside.mk h
  have HE : Aside (flagsOk l = (flagsAll (l.drop 0) && decide (l.length = 3))) := ⟨rfl⟩
  clear h
  go_enter Try.func48, Try.ntmps48
  go_wp2
  go_loopw [7] (fun v wr => ∃ i : Nat, i ≤ l.length ∧ v = .int .i64 i ∧ Aside (flagsOk l = (flagsAll (l.drop i) && decide (l.length = 3))) ∧ Aside (Below w.heap.size w wr)) (fun v _ => l.length - (intOf v).toNat)
  case atStart => exact ⟨0, Nat.zero_le _, rfl, HE, ⟨Below.refl _ _⟩⟩
  case round =>
    clear HE
    obtain ⟨i, hi, rfl, HE, HB⟩ := hrel
    by_cases hlt : i < l.length
    · obtain ⟨ad, hA, x0, x1, x2⟩ := rdRegs_at (rdRegs_mov HB.out HR.out) i hlt
      subst hA
      have HS := Aside.mk (flagsAll_at hlt)
      generalize l[i] = m at x0 x1 x2 HS
      have HK : Aside (flagOk m = (regOk m && decide (m.v ≤ 1))) := ⟨rfl⟩
      rcases h1 : regOk m with _ | _
      rotate_left
      by_cases h2 : m.v ≤ 1
      all_goals
        first | rw [h1, decide_eq_true h2] at HK | rw [h1, decide_eq_false h2] at HK | rw [h1] at HK
        go_wp2_with (go_at_call 130; refine (regOk_calls _ m).mono ?_; rintro e w' ⟨rfl, hb⟩; have HB2 := Aside.mk (below_step (w0 := w) (by (repeat (first | (with_reducible exact HB.out) | (with_reducible exact Below.refl _ _) | (with_reducible refine below_set ?_ (by first | omega | (dsimp only; omega) | (simp; done) | (simp; omega)) _) | (with_reducible refine below_alloc ?_ _) | (with_reducible refine below_drewN ?_ _) | (with_reducible refine below_drew ?_)))) hb); have y0 := cell_b (p := ⟨wr.heap.size, 0, none⟩) hb (v := .int .i64 m.v) (by simp); clear hb)
        first
          | (go_ret; exact ⟨ret_b (by rw [HE.out, HS.out, HK.out]; first | rfl | simp), HB2.out⟩)
          | (go_roundw; (case rel => exact ⟨i + 1, by omega, by go_num, ⟨by rw [HE.out, HS.out, HK.out]; first | rfl | simp⟩, HB2⟩); (case measure => simp [intOf]; omega))
    · obtain rfl : i = l.length := by omega
      clear hlt
      have HF : Aside (flagsAll (l.drop l.length) = true) := ⟨by simp [flagsAll]⟩
      go_wp2
      go_ret
      exact ⟨ret_b (by rw [HE.out, HF.out, Bool.true_and]; exact eq3 _), HB.out⟩
set_option maxHeartbeats 2000000 in
set_option maxRecDepth 100000 in
theorem specFlagsOk_calls (w : World) (v : Value) (l : List Reg) (h : rdRegs w v l) : Calls Try.prog 50 #[v] w (RetB (flagsOk l) w) := by
  obtain ⟨A, c, rfl, _, hm⟩ := rd_len h
  have HR := Aside.mk h
  have HE : Aside (flagsOk l = (flagsAll (l.drop 0) && decide (l.length = 3))) := ⟨rfl⟩
  clear h
  go_enter Try.func50, Try.ntmps50
  go_wp2
  go_loopw [3] (fun v wr => ∃ i : Nat, i ≤ l.length ∧ v = .int .i64 i ∧ Aside (flagsOk l = (flagsAll (l.drop i) && decide (l.length = 3))) ∧ Aside (Below w.heap.size w wr)) (fun v _ => l.length - (intOf v).toNat)
  case atStart => exact ⟨0, Nat.zero_le _, rfl, HE, ⟨Below.refl _ _⟩⟩
  case round =>
    clear HE
    obtain ⟨i, hi, rfl, HE, HB⟩ := hrel
    by_cases hlt : i < l.length
    · obtain ⟨ad, hA, x0, x1, x2⟩ := rdRegs_at (rdRegs_mov HB.out HR.out) i hlt
      subst hA
      have HS := Aside.mk (flagsAll_at hlt)
      generalize l[i] = m at x0 x1 x2 HS
      have HK : Aside (flagOk m = (regOk m && decide (m.v ≤ 1))) := ⟨rfl⟩
      rcases h1 : regOk m with _ | _
      rotate_left
      by_cases h2 : m.v ≤ 1
      all_goals
        first | rw [h1, decide_eq_true h2] at HK | rw [h1, decide_eq_false h2] at HK | rw [h1] at HK
        go_wp2_with (go_at_call 134; refine (specRegOk_calls _ m).mono ?_; rintro e w' ⟨rfl, hb⟩; have HB2 := Aside.mk (below_step (w0 := w) (by (repeat (first | (with_reducible exact HB.out) | (with_reducible exact Below.refl _ _) | (with_reducible refine below_set ?_ (by first | omega | (dsimp only; omega) | (simp; done) | (simp; omega)) _) | (with_reducible refine below_alloc ?_ _) | (with_reducible refine below_drewN ?_ _) | (with_reducible refine below_drew ?_)))) hb); have y0 := cell_b hb x0; clear hb)
        first
          | (go_ret; exact ⟨ret_b (by rw [HE.out, HS.out, HK.out]; first | rfl | simp), HB2.out⟩)
          | (go_roundw; (case rel => exact ⟨i + 1, by omega, by go_num, ⟨by rw [HE.out, HS.out, HK.out]; first | rfl | simp⟩, HB2⟩); (case measure => simp [intOf]; omega))
    · obtain rfl : i = l.length := by omega
      clear hlt
      have HF : Aside (flagsAll (l.drop l.length) = true) := ⟨by simp [flagsAll]⟩
      go_wp2
      go_ret
      exact ⟨ret_b (by rw [HE.out, HF.out, Bool.true_and]; exact eq3 _), HB.out⟩
set_option maxHeartbeats 2000000 in
set_option maxRecDepth 100000 in
theorem mailOk_calls (w : World) (fv : Value) (m : Mail) (h : rdRegs w fv m.fl) (ht : m.tx.size ≤ 9223372036854775807) : Calls Try.prog 64 #[.agg #[.int .i64 m.g, .int .i64 m.u, fv, .string m.tx]] w (RetB (mailOk m) w) := by
  have HE : Aside (mailOk m = (isIn m.g 1 9999 && isIn m.u 1 9999 && flagsOk m.fl && decide (m.tx.size ≤ 60))) := ⟨rfl⟩
  have o1 := rd_one h
  have HR := Aside.mk h
  clear h
  rcases h1 : isIn m.g 1 9999 with _ | _
  rotate_left
  rcases h2 : isIn m.u 1 9999 with _ | _
  rotate_left
  rcases h3 : flagsOk m.fl with _ | _
  rotate_left
  by_cases h4 : m.tx.size ≤ 60
  all_goals
    first | rw [h1, h2, h3, decide_eq_true h4] at HE | rw [h1, h2, h3, decide_eq_false h4] at HE | rw [h1, h2, h3] at HE | rw [h1, h2] at HE | rw [h1] at HE
    go_enter Try.func64, Try.ntmps64
    go_wp2_with (fail)
    (have L0 := Aside.mk (Loc.new w #[.int .i64 m.g, .int .i64 m.u, fv, .string m.tx] 58); have HB := Aside.mk (below_alloc (Below.refl _ w) (.cells #[.int .i64 m.g, .int .i64 m.u, fv, .string m.tx] 58)); have l0 := L0.out.cells)
    go_wp2_with (first
      | (go_at_call 117; refine (isGid_calls _ _).mono ?_; rintro e w' ⟨rfl, hb⟩; replace L0 := Aside.mk (L0.out.below hb); replace HB := Aside.mk (below_step HB.out hb); clear l0 hb; have l0 := L0.out.cells)
      | (go_at_call 48; refine (flagsOk_calls _ _ m.fl (rdRegs_mov HB.out HR.out)).mono ?_; rintro e w' ⟨rfl, hb⟩; replace L0 := Aside.mk (L0.out.below hb); replace HB := Aside.mk (below_step HB.out hb); clear l0 hb; have l0 := L0.out.cells))
    go_ret
    exact ⟨ret_b (by rw [HE.out]; first | rfl | (simp; done) | (simp; omega)), HB.out⟩
set_option maxHeartbeats 2000000 in
set_option maxRecDepth 100000 in
theorem specMailOk_calls (w : World) (fv : Value) (m : Mail) (h : rdRegs w fv m.fl) (ht : m.tx.size ≤ 9223372036854775807) : Calls Try.prog 63 #[.agg #[.int .i64 m.g, .int .i64 m.u, fv, .string m.tx]] w (RetB (mailOk m) w) := by
  have HE : Aside (mailOk m = (isIn m.g 1 9999 && isIn m.u 1 9999 && flagsOk m.fl && decide (m.tx.size ≤ 60))) := ⟨rfl⟩
  have o1 := rd_one h
  have HR := Aside.mk h
  clear h
  rcases h1 : isIn m.g 1 9999 with _ | _
  rotate_left
  rcases h2 : isIn m.u 1 9999 with _ | _
  rotate_left
  rcases h3 : flagsOk m.fl with _ | _
  rotate_left
  by_cases h4 : m.tx.size ≤ 60
  all_goals
    first | rw [h1, h2, h3, decide_eq_true h4] at HE | rw [h1, h2, h3, decide_eq_false h4] at HE | rw [h1, h2, h3] at HE | rw [h1, h2] at HE | rw [h1] at HE
    go_enter Try.func63, Try.ntmps63
    go_wp2_with (fail)
    (have L0 := Aside.mk (Loc.new w #[.int .i64 m.g, .int .i64 m.u, fv, .string m.tx] 58); have HB := Aside.mk (below_alloc (Below.refl _ w) (.cells #[.int .i64 m.g, .int .i64 m.u, fv, .string m.tx] 58)); have l0 := L0.out.cells)
    go_wp2_with (first
      | (go_at_call 132; refine (l01In_calls _ _ _ _).mono ?_; rintro e w' ⟨rfl, hb⟩; replace L0 := Aside.mk (L0.out.below hb); replace HB := Aside.mk (below_step HB.out hb); clear l0 hb; have l0 := L0.out.cells)
      | (go_at_call 50; refine (specFlagsOk_calls _ _ m.fl (rdRegs_mov HB.out HR.out)).mono ?_; rintro e w' ⟨rfl, hb⟩; replace L0 := Aside.mk (L0.out.below hb); replace HB := Aside.mk (below_step HB.out hb); clear l0 hb; have l0 := L0.out.cells))
    go_ret
    exact ⟨ret_b (by rw [HE.out]; first | rfl | (simp; done) | (simp; omega)), HB.out⟩
theorem charOk_no {c : UInt8} (h : ¬ (97 ≤ (c.toNat : Int) ∧ (c.toNat : Int) ≤ 122) ∧ ¬ (48 ≤ (c.toNat : Int) ∧ (c.toNat : Int) ≤ 57)) : charOk c = false := by
  unfold charOk
  rw [Bool.eq_false_iff]
  simp only [ne_eq, Bool.or_eq_true, Bool.and_eq_true, decide_eq_true_eq]
  omega
theorem charOk_yes {c : UInt8} (h : (97 ≤ (c.toNat : Int) ∧ (c.toNat : Int) ≤ 122) ∨ (48 ≤ (c.toNat : Int) ∧ (c.toNat : Int) ≤ 57)) : charOk c = true := by
  unfold charOk
  simp only [Bool.or_eq_true, Bool.and_eq_true, decide_eq_true_eq]
  exact h
theorem nameAll_at {s : ByteArray} {i : Nat} (h : i < s.size) : nameAll (s.data.toList.drop i) = (charOk s[i] && nameAll (s.data.toList.drop (i + 1))) := by
  rw [List.drop_eq_getElem_cons (by simpa using h)]; rfl
set_option maxHeartbeats 2000000 in
set_option maxRecDepth 100000 in
theorem nameOk_calls (w : World) (s : ByteArray) (hs : s.size ≤ 9223372036854775807) : Calls Try.prog 118 #[.string s] w (RetB (nameOk s) w) := by
  have HE : Aside (nameOk s = (nameAll (s.data.toList.drop 0) && isIn (s.size : Int) 1 12)) := ⟨rfl⟩
  go_enter Try.func118, Try.ntmps118
  go_wp2
  go_loopw [3] (fun v wr => ∃ i : Nat, i ≤ s.size ∧ v = .int .i64 i ∧ Aside (nameOk s = (nameAll (s.data.toList.drop i) && isIn (s.size : Int) 1 12)) ∧ Aside (Below w.heap.size w wr)) (fun v _ => s.size - (intOf v).toNat)
  case atStart => exact ⟨0, Nat.zero_le _, rfl, HE, ⟨Below.refl _ _⟩⟩
  case round =>
    clear HE
    obtain ⟨i, hi, rfl, HE, HB⟩ := hrel
    by_cases hlt : i < s.size
    · have HS := Aside.mk (nameAll_at hlt)
      go_wp2
      all_goals
        first
          | (go_ret; exact ⟨ret_b (by rw [HE.out, HS.out, charOk_no (by omega)]; rfl), HB.out⟩)
          | (go_roundw; (case rel => exact ⟨i + 1, by omega, by go_num, ⟨by rw [HE.out, HS.out, charOk_yes (by omega)]; rfl⟩, HB⟩); (case measure => simp [intOf]; omega))
    · obtain rfl : i = s.size := by omega
      clear hlt
      have HF : Aside (nameAll (s.data.toList.drop s.size) = true) := ⟨by rw [List.drop_of_length_le (by simp)]; rfl⟩
      go_wp2_with (go_at_call 119; refine (within_calls _ _ _ _).mono ?_; rintro e w' ⟨rfl, hb⟩; replace HB := Aside.mk (below_step HB.out hb); clear hb)
      go_ret
      exact ⟨ret_b (by rw [HE.out, HF.out, Bool.true_and]), HB.out⟩
set_option maxHeartbeats 2000000 in
set_option maxRecDepth 100000 in
theorem specNameOk_calls (w : World) (s : ByteArray) (hs : s.size ≤ 9223372036854775807) : Calls Try.prog 148 #[.string s] w (RetB (nameOk s) w) := by
  have HE : Aside (nameOk s = (nameAll (s.data.toList.drop 0) && isIn (s.size : Int) 1 12)) := ⟨rfl⟩
  go_enter Try.func148, Try.ntmps148
  go_wp2
  go_loopw [3] (fun v wr => ∃ i : Nat, i ≤ s.size ∧ v = .int .i64 i ∧ Aside (nameOk s = (nameAll (s.data.toList.drop i) && isIn (s.size : Int) 1 12)) ∧ Aside (Below w.heap.size w wr)) (fun v _ => s.size - (intOf v).toNat)
  case atStart => exact ⟨0, Nat.zero_le _, rfl, HE, ⟨Below.refl _ _⟩⟩
  case round =>
    clear HE
    obtain ⟨i, hi, rfl, HE, HB⟩ := hrel
    by_cases hlt : i < s.size
    · have HS := Aside.mk (nameAll_at hlt)
      go_wp2
      all_goals
        first
          | (go_ret; exact ⟨ret_b (by rw [HE.out, HS.out, charOk_no (by omega)]; rfl), HB.out⟩)
          | (go_roundw; (case rel => exact ⟨i + 1, by omega, by go_num, ⟨by rw [HE.out, HS.out, charOk_yes (by omega)]; rfl⟩, HB⟩); (case measure => simp [intOf]; omega))
    · obtain rfl : i = s.size := by omega
      clear hlt
      have HF : Aside (nameAll (s.data.toList.drop s.size) = true) := ⟨by rw [List.drop_of_length_le (by simp)]; rfl⟩
      go_wp2_with (go_at_call 132; refine (l01In_calls _ _ _ _).mono ?_; rintro e w' ⟨rfl, hb⟩; replace HB := Aside.mk (below_step HB.out hb); clear hb)
      go_ret
      exact ⟨ret_b (by rw [HE.out, HF.out, Bool.true_and]), HB.out⟩
end Go.Proofs.Ytjfjpabfkembcaa.H
