/- Has a box a stamp above a time? The program's and the reference's: the walks. -/
import Derived.Test.YtjfjpabfkembcaaHAt
namespace Go.Proofs.Ytjfjpabfkembcaa.H
open Go.RowKit
set_option linter.unusedVariables false
set_option linter.unusedSimpArgs false
theorem lateMails_at {l : List Mail} {i : Nat} (T : Int) (h : i < l.length) : lateMails T (l.drop i) = (lateRegs T l[i].fl || lateMails T (l.drop (i + 1))) := by
  rw [List.drop_eq_getElem_cons h]; rfl
theorem lateRegs_at {l : List Reg} {i : Nat} (T : Int) (h : i < l.length) : lateRegs T (l.drop i) = (decide (T < l[i].t) || lateRegs T (l.drop (i + 1))) := by
  rw [List.drop_eq_getElem_cons h]; rfl
set_option maxHeartbeats 2000000 in
set_option maxRecDepth 100000 in
theorem isLate_calls (w : World) (mv gv : Value) (b : Box) (T : Int) (h : rdMails w mv b.ml) (hg : gv.oneCell' = true) :
    Calls Try.prog 159 #[.agg #[.int .i64 b.g, .string b.nm, .int .i64 b.t, .int .i64 b.b, .int .i64 b.nx, mv, gv], .int .i64 T] w (RetB (late b T) w) := by
  obtain ⟨A, c, rfl, _, hm⟩ := rd_len h
  have HR := Aside.mk h
  clear h
  go_enter Try.func159, Try.ntmps159
  go_wp2
  have L0 := Aside.mk (Loc.new w #[.int .i64 b.g, .string b.nm, .int .i64 b.t, .int .i64 b.b, .int .i64 b.nx, .slice A b.ml.length c, gv] 32)
  have HB := Aside.mk (below_alloc (Below.refl w.heap.size w) (.cells #[.int .i64 b.g, .string b.nm, .int .i64 b.t, .int .i64 b.b, .int .i64 b.nx, .slice A b.ml.length c, gv] 32))
  go_loopw [12] (fun v wr => ∃ i : Nat, i ≤ b.ml.length ∧ v = .int .i64 i ∧ Aside (late b T = (lateMails T (b.ml.drop i) || decide (T < b.t))) ∧ Aside (Loc wr w.heap.size #[.int .i64 b.g, .string b.nm, .int .i64 b.t, .int .i64 b.b, .int .i64 b.nx, .slice A b.ml.length c, gv] 32) ∧ Aside (Below w.heap.size w wr)) (fun v _ => b.ml.length - (intOf v).toNat)
  case atStart => exact ⟨0, Nat.zero_le _, rfl, ⟨rfl⟩, L0, HB⟩
  case round =>
    clear L0 HB
    obtain ⟨i, hi, rfl, HE, L0, HB⟩ := hrel
    have l0 := L0.out.cells
    have q0 := L0.out.lt
    by_cases hlt : i < b.ml.length
    · obtain ⟨ad, fv, hA, x0, x1, x2, x3, hf⟩ := rdMails_at (rdMails_mov HB.out HR.out) i hlt
      subst hA
      have HS := Aside.mk (lateMails_at T hlt)
      generalize b.ml[i] = m at x0 x1 x2 x3 HS hf
      obtain ⟨A2, c2, rfl, _, hm2⟩ := rd_len hf
      have HF := Aside.mk hf
      clear hf
      have q1 : (0 : Int) ≤ (i : Int) := by omega
      have q2 : (i : Int) < (b.ml.length : Int) := by omega
      have HE2 : Aside (late b T = (lateRegs T (m.fl.drop 0) || (lateMails T (b.ml.drop (i + 1)) || decide (T < b.t)))) := ⟨by rw [HE.out, HS.out, Bool.or_assoc]; rfl⟩
      clear HE HS
      go_wp2
      obtain ⟨wo, hwo⟩ : ∃ wo : World, wo = wr := ⟨_, rfl⟩
      subst hwo
      go_loopw [19] (fun v wr => ∃ k : Nat, k ≤ m.fl.length ∧ v = .int .i64 k ∧ Aside (late b T = (lateRegs T (m.fl.drop k) || (lateMails T (b.ml.drop (i + 1)) || decide (T < b.t)))) ∧ Aside (Loc wr w.heap.size #[.int .i64 b.g, .string b.nm, .int .i64 b.t, .int .i64 b.b, .int .i64 b.nx, .slice (some ad) b.ml.length c, gv] 32) ∧ Aside (Below wo.heap.size wo wr)) (fun v _ => m.fl.length - (intOf v).toNat)
      case atStart => exact ⟨0, Nat.zero_le _, rfl, HE2, ⟨L0.out.alloc _⟩, ⟨by (repeat (first | (with_reducible exact HB.out) | (with_reducible exact Below.refl _ _) | (with_reducible refine below_set ?_ (by first | omega | (dsimp only; omega) | (simp; done) | (simp; omega)) _) | (with_reducible refine below_alloc ?_ _) | (with_reducible refine below_drewN ?_ _) | (with_reducible refine below_drew ?_)))⟩⟩
      case round =>
        clear HE2 L0 l0 q0
        obtain ⟨k, hk, rfl, HE, L0, HB2⟩ := hrel
        have l0 := L0.out.cells
        have q0 := L0.out.lt
        by_cases hlt2 : k < m.fl.length
        · obtain ⟨a2, hA, y0, y1, y2⟩ := rdRegs_at (rdRegs_mov HB2.out HF.out) k hlt2
          subst hA
          have HS2 := Aside.mk (lateRegs_at T hlt2)
          generalize m.fl[k] = r at y0 y1 y2 HS2
          by_cases hr : T < r.t
          · have HK : Aside (late b T = true) := ⟨by rw [HE.out, HS2.out, decide_eq_true hr]; simp⟩
            clear HE HS2
            go_wp2
            go_ret
            exact ⟨ret_b HK.out.symm, below_alloc (HB.out.trans (HB2.out.mono HB.out.size)) _⟩
          · have HK : Aside (late b T = (lateRegs T (m.fl.drop (k + 1)) || (lateMails T (b.ml.drop (i + 1)) || decide (T < b.t)))) := ⟨by rw [HE.out, HS2.out, decide_eq_false hr]; simp⟩
            clear HE HS2
            go_wp2
            go_roundw
            case rel => exact ⟨k + 1, by omega, by go_num, HK, ⟨L0.out.alloc _⟩, ⟨below_alloc HB2.out _⟩⟩
            case measure => simp [intOf]; omega
        · have hz : k = m.fl.length := by omega
          have HK : Aside (late b T = (lateMails T (b.ml.drop (i + 1)) || decide (T < b.t))) := ⟨by rw [HE.out, hz, List.drop_length]; rfl⟩
          clear HE
          have hge : ¬ ((k : Int) < (m.fl.length : Int)) := by omega
          clear hlt2 hz
          go_wp2
          go_roundw
          case rel => exact ⟨i + 1, by omega, by go_num, HK, L0, ⟨HB.out.trans (HB2.out.mono HB.out.size)⟩⟩
          case measure => simp [intOf]; omega
    · have hz : i = b.ml.length := by omega
      have HK : Aside (late b T = decide (T < b.t)) := ⟨by rw [HE.out, hz, List.drop_length]; rfl⟩
      clear HE
      have hge : ¬ ((i : Int) < (b.ml.length : Int)) := by omega
      clear hlt hz
      go_wp2
      go_ret
      exact ⟨ret_b HK.out.symm, HB.out⟩
set_option maxHeartbeats 2000000 in
set_option maxRecDepth 100000 in
theorem l07Times_calls (w : World) (mv gv : Value) (b : Box) (T : Int) (h : rdMails w mv b.ml) (hg : gv.oneCell' = true) :
    Calls Try.prog 156 #[.agg #[.int .i64 b.g, .string b.nm, .int .i64 b.t, .int .i64 b.b, .int .i64 b.nx, mv, gv], .int .i64 T] w (RetB (!late b T) w) := by
  obtain ⟨A, c, rfl, _, hm⟩ := rd_len h
  have HR := Aside.mk h
  clear h
  by_cases hN : T < b.t
  · have HK : Aside (late b T = true) := ⟨by unfold late; simp [hN]⟩
    go_enter Try.func156, Try.ntmps156
    go_wp2
    go_ret
    exact ⟨ret_b (by rw [HK.out]; rfl), by (repeat (first | (with_reducible exact HB.out) | (with_reducible exact Below.refl _ _) | (with_reducible refine below_set ?_ (by first | omega | (dsimp only; omega) | (simp; done) | (simp; omega)) _) | (with_reducible refine below_alloc ?_ _) | (with_reducible refine below_drewN ?_ _) | (with_reducible refine below_drew ?_)))⟩
  have HE : Aside (late b T = lateMails T (b.ml.drop 0)) := ⟨by unfold late; simp [hN]⟩
  go_enter Try.func156, Try.ntmps156
  go_wp2
  have L0 := Aside.mk (Loc.new w #[.int .i64 b.g, .string b.nm, .int .i64 b.t, .int .i64 b.b, .int .i64 b.nx, .slice A b.ml.length c, gv] 32)
  have HB := Aside.mk (below_alloc (Below.refl w.heap.size w) (.cells #[.int .i64 b.g, .string b.nm, .int .i64 b.t, .int .i64 b.b, .int .i64 b.nx, .slice A b.ml.length c, gv] 32))
  go_loopw [5, 6] (fun v v6 wr => ∃ i : Nat, i ≤ b.ml.length ∧ v = .int .i64 i ∧ Aside (late b T = lateMails T (b.ml.drop i)) ∧ Aside (Loc wr w.heap.size #[.int .i64 b.g, .string b.nm, .int .i64 b.t, .int .i64 b.b, .int .i64 b.nx, .slice A b.ml.length c, gv] 32) ∧ Aside (Below w.heap.size w wr)) (fun v _ _ => b.ml.length - (intOf v).toNat)
  case atStart => exact ⟨0, Nat.zero_le _, rfl, HE, L0, HB⟩
  case round =>
    clear L0 HB HE
    obtain ⟨i, hi, rfl, HE, L0, HB⟩ := hrel
    have l0 := L0.out.cells
    have q0 := L0.out.lt
    by_cases hlt : i < b.ml.length
    · obtain ⟨ad, fv, hA, x0, x1, x2, x3, hf⟩ := rdMails_at (rdMails_mov HB.out HR.out) i hlt
      subst hA
      have HS := Aside.mk (lateMails_at T hlt)
      generalize b.ml[i] = m at x0 x1 x2 x3 HS hf
      obtain ⟨A2, c2, rfl, _, hm2⟩ := rd_len hf
      have HF := Aside.mk hf
      clear hf
      have q1 : (0 : Int) ≤ (i : Int) := by omega
      have q2 : (i : Int) < (b.ml.length : Int) := by omega
      have HE2 : Aside (late b T = (lateRegs T (m.fl.drop 0) || lateMails T (b.ml.drop (i + 1)))) := ⟨by rw [HE.out, HS.out]; rfl⟩
      clear HE HS
      go_wp2
      obtain ⟨wo, hwo⟩ : ∃ wo : World, wo = wr := ⟨_, rfl⟩
      subst hwo
      go_loopw [6] (fun v wr => ∃ k : Nat, k ≤ m.fl.length ∧ v = .int .i64 k ∧ Aside (late b T = (lateRegs T (m.fl.drop k) || lateMails T (b.ml.drop (i + 1)))) ∧ Aside (Loc wr w.heap.size #[.int .i64 b.g, .string b.nm, .int .i64 b.t, .int .i64 b.b, .int .i64 b.nx, .slice (some ad) b.ml.length c, gv] 32) ∧ Aside (Below wo.heap.size wo wr)) (fun v _ => m.fl.length - (intOf v).toNat)
      case atStart => exact ⟨0, Nat.zero_le _, rfl, HE2, L0, ⟨Below.refl _ _⟩⟩
      case round =>
        have HX2 := Aside.mk x2
        clear HE2 L0 l0 q0 x0 x1 x2 x3
        obtain ⟨k, hk, rfl, HE, L0, HB2⟩ := hrel
        have l0 := L0.out.cells
        have q0 := L0.out.lt
        have x2 := cell_b HB2.out HX2.out
        by_cases hlt2 : k < m.fl.length
        · obtain ⟨a2, hA, y0, y1, y2⟩ := rdRegs_at (rdRegs_mov HB2.out HF.out) k hlt2
          subst hA
          have HS2 := Aside.mk (lateRegs_at T hlt2)
          generalize m.fl[k] = r at y0 y1 y2 HS2
          have q3 : (0 : Int) ≤ (k : Int) := by omega
          have q4 : (k : Int) < (m.fl.length : Int) := by omega
          by_cases hr : T < r.t
          · have HK : Aside (late b T = true) := ⟨by rw [HE.out, HS2.out, decide_eq_true hr]; simp⟩
            clear HE HS2
            go_wp2
            go_ret
            exact ⟨ret_b (by rw [HK.out]; rfl), HB.out.trans (HB2.out.mono HB.out.size)⟩
          · have HK : Aside (late b T = (lateRegs T (m.fl.drop (k + 1)) || lateMails T (b.ml.drop (i + 1)))) := ⟨by rw [HE.out, HS2.out, decide_eq_false hr]; simp⟩
            clear HE HS2
            go_wp2
            go_roundw
            case rel => exact ⟨k + 1, by omega, by go_num, HK, L0, HB2⟩
            case measure => simp [intOf]; omega
        · have hz : k = m.fl.length := by omega
          have HK : Aside (late b T = lateMails T (b.ml.drop (i + 1))) := ⟨by rw [HE.out, hz, List.drop_length]; rfl⟩
          clear HE
          have hge : ¬ ((k : Int) < (m.fl.length : Int)) := by omega
          clear hlt2 hz
          go_wp2
          go_roundw
          case rel => exact ⟨i + 1, by omega, by go_num, HK, L0, ⟨HB.out.trans (HB2.out.mono HB.out.size)⟩⟩
          case measure => simp [intOf]; omega
    · have hz : i = b.ml.length := by omega
      have HK : Aside (late b T = false) := ⟨by rw [HE.out, hz, List.drop_length]; rfl⟩
      clear HE
      have hge : ¬ ((i : Int) < (b.ml.length : Int)) := by omega
      clear hlt hz
      go_wp2
      go_ret
      exact ⟨ret_b (by rw [HK.out]; rfl), HB.out⟩
end Go.Proofs.Ytjfjpabfkembcaa.H
