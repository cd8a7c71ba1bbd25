/- Where a box stands in a store: the walks. -/
import Derived.Test.YtjfjpabfkembcaaHAt
namespace Go.Proofs.Ytjfjpabfkembcaa.H
open Go.RowKit
set_option linter.unusedVariables false
set_option linter.unusedSimpArgs false

theorem boxAtFrom_at {g a : Int} {l : List Box} {i : Nat} (h : i < l.length) : boxAtFrom g a (l.drop i) = if l[i].g = g then a else boxAtFrom g (a + 1) (l.drop (i + 1)) := by
  rw [List.drop_eq_getElem_cons h]; rfl
theorem boxAtFrom_end {g a : Int} {l : List Box} : boxAtFrom g a (l.drop l.length) = -1 := by simp [boxAtFrom]
set_option maxHeartbeats 2000000 in
set_option maxRecDepth 100000 in
theorem specBoxAt_calls (w : World) (mv gv : Value) (b : Store) (g : Int) (h : rdBoxes w mv b.bx) (hg : gv.oneCell' = true) :
    Calls Try.prog 157 #[.agg #[.int .i64 b.by_, .int .i64 b.tm, mv, gv], .int .i64 g] w (RetI (boxAt b.bx g) w) := by
  obtain ⟨A, c, rfl, _, hm⟩ := rd_len h
  have HR := Aside.mk h
  clear h
  go_enter Try.func157, Try.ntmps157
  go_wp2
  (have L0 := Aside.mk (Loc.new w #[.int .i64 b.by_, .int .i64 b.tm, .slice A b.bx.length c, gv] 45); have HB := Aside.mk (below_alloc (Below.refl _ w) (.cells #[.int .i64 b.by_, .int .i64 b.tm, .slice A b.bx.length c, gv] 45)); have l0 := L0.out.cells)
  go_loopw [5] (fun v wr => ∃ i : Nat, i ≤ b.bx.length ∧ v = .int .i64 i ∧ Aside (boxAt b.bx g = boxAtFrom g i (b.bx.drop i)) ∧ Aside (Loc wr w.heap.size #[.int .i64 b.by_, .int .i64 b.tm, .slice A b.bx.length c, gv] 45) ∧ Aside (Below w.heap.size w wr)) (fun v _ => b.bx.length - (intOf v).toNat)
  case atStart => exact ⟨0, Nat.zero_le _, rfl, ⟨rfl⟩, L0, HB⟩
  case round =>
    clear L0 HB l0
    obtain ⟨i, hi, rfl, HE, L0, HB⟩ := hrel
    have l0 := L0.out.cells
    by_cases hlt : i < b.bx.length
    · obtain ⟨ad, mv, iv, hA, x0, x1, x2, x3, x4, x5, x6, hf, hg⟩ := rdBoxes_at (rdBoxes_mov HB.out HR.out) i hlt
      subst hA
      have HS := Aside.mk (boxAtFrom_at (g := g) (a := i) hlt)
      generalize b.bx[i] = m at x0 x1 x2 x3 x4 x5 x6 hf hg HS
      clear x1 x2 x3 x4 x5 x6 hf hg
      by_cases hx : m.g = g
      · rw [if_pos hx] at HS
        subst hx
        go_wp2
        go_ret
        exact ⟨ret_i (by rw [HE.out, HS.out]), HB.out⟩
      · rw [if_neg hx] at HS
        go_wp2
        go_roundw
        case rel => exact ⟨i + 1, by omega, by go_num, ⟨by rw [HE.out, HS.out]; push_cast; rfl⟩, L0, HB⟩
        case measure => simp [intOf]; omega
    · obtain hz : i = b.bx.length := by omega
      have HZ := Aside.mk hz
      have hge : ¬ ((i : Int) < (b.bx.length : Int)) := by omega
      clear hlt hz
      go_wp2
      go_ret
      exact ⟨ret_i (by rw [HE.out, HZ.out, boxAtFrom_end]), HB.out⟩
theorem boxNamedFrom_at {g : ByteArray} {a : Int} {l : List Box} {i : Nat} (h : i < l.length) : boxNamedFrom g a (l.drop i) = if (l[i].nm.toList == g.toList) = true then a else boxNamedFrom g (a + 1) (l.drop (i + 1)) := by
  rw [List.drop_eq_getElem_cons h]; rfl
theorem boxNamedFrom_end {g : ByteArray} {a : Int} {l : List Box} : boxNamedFrom g a (l.drop l.length) = -1 := by simp [boxNamedFrom]
set_option maxHeartbeats 2000000 in
set_option maxRecDepth 100000 in
theorem specBoxNamed_calls (w : World) (mv gv : Value) (b : Store) (g : ByteArray) (h : rdBoxes w mv b.bx) (hg : gv.oneCell' = true) :
    Calls Try.prog 89 #[.agg #[.int .i64 b.by_, .int .i64 b.tm, mv, gv], .string g] w (RetI (boxNamed b.bx g) w) := by
  obtain ⟨A, c, rfl, _, hm⟩ := rd_len h
  have HR := Aside.mk h
  clear h
  go_enter Try.func89, Try.ntmps89
  go_wp2
  (have L0 := Aside.mk (Loc.new w #[.int .i64 b.by_, .int .i64 b.tm, .slice A b.bx.length c, gv] 45); have HB := Aside.mk (below_alloc (Below.refl _ w) (.cells #[.int .i64 b.by_, .int .i64 b.tm, .slice A b.bx.length c, gv] 45)); have l0 := L0.out.cells)
  go_loopw [5] (fun v wr => ∃ i : Nat, i ≤ b.bx.length ∧ v = .int .i64 i ∧ Aside (boxNamed b.bx g = boxNamedFrom g i (b.bx.drop i)) ∧ Aside (Loc wr w.heap.size #[.int .i64 b.by_, .int .i64 b.tm, .slice A b.bx.length c, gv] 45) ∧ Aside (Below w.heap.size w wr)) (fun v _ => b.bx.length - (intOf v).toNat)
  case atStart => exact ⟨0, Nat.zero_le _, rfl, ⟨rfl⟩, L0, HB⟩
  case round =>
    clear L0 HB l0
    obtain ⟨i, hi, rfl, HE, L0, HB⟩ := hrel
    have l0 := L0.out.cells
    by_cases hlt : i < b.bx.length
    · obtain ⟨ad, mv, iv, hA, x0, x1, x2, x3, x4, x5, x6, hf, hg⟩ := rdBoxes_at (rdBoxes_mov HB.out HR.out) i hlt
      subst hA
      have HS := Aside.mk (boxNamedFrom_at (g := g) (a := i) hlt)
      generalize b.bx[i] = m at x0 x1 x2 x3 x4 x5 x6 hf hg HS
      clear x0 x2 x3 x4 x5 x6 hf hg
      by_cases hx : (m.nm.toList == g.toList) = true
      · rw [if_pos hx] at HS
        go_wp2
        go_ret
        exact ⟨ret_i (by rw [HE.out, HS.out]), HB.out⟩
      · rw [if_neg hx] at HS
        replace hx := Bool.eq_false_iff.2 hx
        go_wp2
        go_roundw
        case rel => exact ⟨i + 1, by omega, by go_num, ⟨by rw [HE.out, HS.out]; push_cast; rfl⟩, L0, HB⟩
        case measure => simp [intOf]; omega
    · obtain hz : i = b.bx.length := by omega
      have HZ := Aside.mk hz
      have hge : ¬ ((i : Int) < (b.bx.length : Int)) := by omega
      clear hlt hz
      go_wp2
      go_ret
      exact ⟨ret_i (by rw [HE.out, HZ.out, boxNamedFrom_end]), HB.out⟩
set_option maxHeartbeats 2000000 in
set_option maxRecDepth 100000 in
theorem boxNamed1_calls (B : Nat) (g : ByteArray) (a0 : Int) (a1 : ByteArray) (a2 a3 a4 : Int) (A5 : Option Addr) (n5 c5 : Nat) (A6 : Option Addr) (n6 c6 : Nat) (W : World) (hB : W.cell? ⟨B, 0, none⟩ = some (.string g)) :
    Calls Try.prog 161 #[.agg #[.int .i64 a0, .string a1, .int .i64 a2, .int .i64 a3, .int .i64 a4, .slice A5 n5 c5, .slice A6 n6 c6], .pointer (some ⟨B, 0, none⟩)] W (RetB (a1.toList == g.toList) W) := by
  have hBW : B < W.heap.size := World.block_lt_of_cell? W _ hB
  have hne : B ≠ W.heap.size := by omega
  go_enter Try.func161, Try.ntmps161
  go_wp2
  go_ret
  exact ⟨rfl, below_alloc (Below.refl _ _) _⟩
set_option maxHeartbeats 2000000 in
set_option maxRecDepth 100000 in
theorem boxNamedI_calls (w : World) (v : Value) (l : List Box) (B : Nat) (g : ByteArray) (h : rdBoxes w v l) (hB : w.cell? ⟨B, 0, none⟩ = some (.string g)) :
    Calls Try.prog 160 #[v, .func (.func 161) #[] #[.pointer (some ⟨B, 0, none⟩)]] w (RetI (boxNamedFrom g 0 l) w) := by
  obtain ⟨A, c, rfl, _, hm⟩ := rd_len h
  have HR := Aside.mk h
  have HBc := Aside.mk hB
  clear h hB
  go_enter Try.func160, Try.ntmps160
  go_wp2
  go_loopw [8] (fun v wr => ∃ i : Nat, i ≤ l.length ∧ v = .int .i64 i ∧ Aside (boxNamedFrom g 0 l = boxNamedFrom g i (l.drop i)) ∧ Aside (Below w.heap.size w wr)) (fun v _ => l.length - (intOf v).toNat)
  case atStart => exact ⟨0, Nat.zero_le _, rfl, ⟨rfl⟩, ⟨Below.refl _ _⟩⟩
  case round =>
    obtain ⟨i, hi, rfl, HE, HB⟩ := hrel
    by_cases hlt : i < l.length
    · obtain ⟨ad, mv, iv, hA, x0, x1, x2, x3, x4, x5, x6, hf, hg⟩ := rdBoxes_at (rdBoxes_mov HB.out HR.out) i hlt
      obtain ⟨A5, c5, rfl, _, _⟩ := rd_len hf
      obtain ⟨A6, c6, rfl, _, _⟩ := rd_len hg
      clear hf hg
      subst hA
      have HS := Aside.mk (boxNamedFrom_at (g := g) (a := i) hlt)
      generalize l[i] = m at x0 x1 x2 x3 x4 x5 x6 HS
      have hBr := cell_b HB.out HBc.out
      by_cases hx : (m.nm.toList == g.toList) = true
      · rw [if_pos hx] at HS
        have HX := Aside.mk hx
        clear hx
        go_wp2_with (go_at_call 161; (with_reducible refine (boxNamed1_calls B g _ _ _ _ _ _ _ _ _ _ _ _ hBr).mono ?_); rintro e w' ⟨he, hb⟩; rw [show (m.nm.toList == g.toList) = true from HX.out] at he; subst he; replace HB := Aside.mk (below_step HB.out hb); clear hb)
        go_ret
        exact ⟨ret_i (by rw [HE.out, HS.out]), HB.out⟩
      · rw [if_neg hx] at HS
        have HX := Aside.mk hx
        clear hx
        go_wp2_with (go_at_call 161; (with_reducible refine (boxNamed1_calls B g _ _ _ _ _ _ _ _ _ _ _ _ hBr).mono ?_); rintro e w' ⟨he, hb⟩; rw [show (m.nm.toList == g.toList) = false from Bool.eq_false_iff.2 HX.out] at he; subst he; replace HB := Aside.mk (below_step HB.out hb); clear hb)
        go_roundw
        case rel => exact ⟨i + 1, by omega, by go_num, ⟨by rw [HE.out, HS.out]; push_cast; rfl⟩, HB⟩
        case measure => simp [intOf]; omega
    · obtain hz : i = l.length := by omega
      have HZ := Aside.mk hz
      have hge : ¬ ((i : Int) < (l.length : Int)) := by omega
      clear hlt hz
      go_wp2
      go_ret
      exact ⟨ret_i (by rw [HE.out, HZ.out, boxNamedFrom_end]), HB.out⟩
set_option maxHeartbeats 2000000 in
set_option maxRecDepth 100000 in
theorem boxNamed_calls (w : World) (mv gv : Value) (b : Store) (g : ByteArray) (h : rdBoxes w mv b.bx) (hg : gv.oneCell' = true) :
    Calls Try.prog 96 #[.agg #[.int .i64 b.by_, .int .i64 b.tm, mv, gv], .string g] w (RetI (boxNamed b.bx g) w) := by
  have o1 := rd_one h
  have HR := Aside.mk h
  clear h
  go_enter Try.func96, Try.ntmps96
  go_wp2_with (go_at_call 160; refine (boxNamedI_calls _ _ b.bx (w.heap.size + 1) g (rdBoxes_mov (by (repeat (first | (with_reducible exact HB.out) | (with_reducible exact Below.refl _ _) | (with_reducible refine below_set ?_ (by first | omega | (dsimp only; omega) | (simp; done) | (simp; omega)) _) | (with_reducible refine below_alloc ?_ _) | (with_reducible refine below_drewN ?_ _) | (with_reducible refine below_drew ?_)))) HR.out) (by simp)).mono ?_; rintro e w' ⟨rfl, hb⟩; have HB := Aside.mk (below_step (w0 := w) (by (repeat (first | (with_reducible exact HB.out) | (with_reducible exact Below.refl _ _) | (with_reducible refine below_set ?_ (by first | omega | (dsimp only; omega) | (simp; done) | (simp; omega)) _) | (with_reducible refine below_alloc ?_ _) | (with_reducible refine below_drewN ?_ _) | (with_reducible refine below_drew ?_)))) hb); clear hb)
  go_ret
  exact ⟨rfl, HB.out⟩
end Go.Proofs.Ytjfjpabfkembcaa.H
