/- Where a mail or a box stands: the walks. -/
import Derived.Test.YtjfjpabfkembcaaHOk2
namespace Go.Proofs.Ytjfjpabfkembcaa.H
open Go.RowKit
set_option linter.unusedVariables false
set_option linter.unusedSimpArgs false

theorem mailAtFrom_at {g a : Int} {l : List Mail} {i : Nat} (h : i < l.length) : mailAtFrom g a (l.drop i) = if l[i].g = g then a else mailAtFrom g (a + 1) (l.drop (i + 1)) := by
  rw [List.drop_eq_getElem_cons h]; rfl
theorem mailAtFrom_end {g a : Int} {l : List Mail} : mailAtFrom g a (l.drop l.length) = -1 := by simp [mailAtFrom]
def RetI (c : Int) (w : World) (e : Ending) (w' : World) : Prop := e = .returned (.int .i64 c) ∧ Below w.heap.size w w'
set_option maxHeartbeats 2000000 in
set_option maxRecDepth 100000 in
theorem specMailAt_calls (w : World) (mv gv : Value) (b : Box) (g : Int) (h : rdMails w mv b.ml) (hg : gv.oneCell' = true) :
    Calls Try.prog 70 #[.agg #[.int .i64 b.g, .string b.nm, .int .i64 b.t, .int .i64 b.b, .int .i64 b.nx, mv, gv], .int .i64 g] w (RetI (mailAt b.ml g) w) := by
  obtain ⟨A, c, rfl, _, hm⟩ := rd_len h
  have HR := Aside.mk h
  clear h
  go_enter Try.func70, Try.ntmps70
  go_wp2
  (have L0 := Aside.mk (Loc.new w #[.int .i64 b.g, .string b.nm, .int .i64 b.t, .int .i64 b.b, .int .i64 b.nx, .slice A b.ml.length c, gv] 32); have HB := Aside.mk (below_alloc (Below.refl _ w) (.cells #[.int .i64 b.g, .string b.nm, .int .i64 b.t, .int .i64 b.b, .int .i64 b.nx, .slice A b.ml.length c, gv] 32)); have l0 := L0.out.cells)
  go_loopw [5] (fun v wr => ∃ i : Nat, i ≤ b.ml.length ∧ v = .int .i64 i ∧ Aside (mailAt b.ml g = mailAtFrom g i (b.ml.drop i)) ∧ Aside (Loc wr w.heap.size #[.int .i64 b.g, .string b.nm, .int .i64 b.t, .int .i64 b.b, .int .i64 b.nx, .slice A b.ml.length c, gv] 32) ∧ Aside (Below w.heap.size w wr)) (fun v _ => b.ml.length - (intOf v).toNat)
  case atStart => exact ⟨0, Nat.zero_le _, rfl, ⟨rfl⟩, L0, HB⟩
  case round =>
    clear L0 HB l0
    obtain ⟨i, hi, rfl, HE, L0, HB⟩ := hrel
    have l0 := L0.out.cells
    by_cases hlt : i < b.ml.length
    · obtain ⟨ad, fv, hA, x0, x1, x2, x3, hf⟩ := rdMails_at (rdMails_mov HB.out HR.out) i hlt
      subst hA
      have HS := Aside.mk (mailAtFrom_at (g := g) (a := i) hlt)
      generalize b.ml[i] = m at x0 x1 x2 x3 hf HS
      clear x1 x2 x3 hf
      by_cases hx : m.g = g
      · rw [if_pos hx] at HS
        subst hx
        go_wp2
        go_ret
        exact ⟨ret_i (by rw [HE.out, HS.out]), HB.out⟩
      · rw [if_neg hx] at HS
        go_wp2
        go_roundw
        case rel => exact ⟨i + 1, by omega, by go_num, ⟨by rw [HE.out, HS.out]; push_cast; rfl⟩, L0, HB⟩
        case measure => simp [intOf]; omega
    · obtain hz : i = b.ml.length := by omega
      have HZ := Aside.mk hz
      have hge : ¬ ((i : Int) < (b.ml.length : Int)) := by omega
      clear hlt hz
      go_wp2
      go_ret
      exact ⟨ret_i (by rw [HE.out, HZ.out, mailAtFrom_end]), HB.out⟩
set_option maxHeartbeats 2000000 in
set_option maxRecDepth 100000 in
theorem mailAt1_calls (B : Nat) (g : Int) (a0 : Int) (a1 : Int) (A2 : Option Addr) (n2 : Nat) (c2 : Nat) (a3 : ByteArray) (W : World) (hB : W.cell? ⟨B, 0, none⟩ = some (.int .i64 g)) :
    Calls Try.prog 123 #[.agg #[.int .i64 a0, .int .i64 a1, .slice A2 n2 c2, .string a3], .pointer (some ⟨B, 0, none⟩)] W (RetB (a0 == g) W) := by
  have hBW : B < W.heap.size := World.block_lt_of_cell? W _ hB
  have hne : B ≠ W.heap.size := by omega
  go_enter Try.func123, Try.ntmps123
  go_wp2
  go_ret
  exact ⟨rfl, below_alloc (Below.refl _ _) _⟩
set_option maxHeartbeats 2000000 in
set_option maxRecDepth 100000 in
theorem mailAtI_calls (w : World) (v : Value) (l : List Mail) (B : Nat) (g : Int) (h : rdMails w v l) (hB : w.cell? ⟨B, 0, none⟩ = some (.int .i64 g)) :
    Calls Try.prog 122 #[v, .func (.func 123) #[] #[.pointer (some ⟨B, 0, none⟩)]] w (RetI (mailAtFrom g 0 l) w) := by
  obtain ⟨A, c, rfl, _, hm⟩ := rd_len h
  have HR := Aside.mk h
  have HBc := Aside.mk hB
  clear h hB
  go_enter Try.func122, Try.ntmps122
  go_wp2
  go_loopw [8] (fun v wr => ∃ i : Nat, i ≤ l.length ∧ v = .int .i64 i ∧ Aside (mailAtFrom g 0 l = mailAtFrom g i (l.drop i)) ∧ Aside (Below w.heap.size w wr)) (fun v _ => l.length - (intOf v).toNat)
  case atStart => exact ⟨0, Nat.zero_le _, rfl, ⟨rfl⟩, ⟨Below.refl _ _⟩⟩
  case round =>
    obtain ⟨i, hi, rfl, HE, HB⟩ := hrel
    by_cases hlt : i < l.length
    · obtain ⟨ad, fv, hA, x0, x1, x2, x3, hf⟩ := rdMails_at (rdMails_mov HB.out HR.out) i hlt
      obtain ⟨A2, c2, rfl, _, _⟩ := rd_len hf
      clear hf
      subst hA
      have HS := Aside.mk (mailAtFrom_at (g := g) (a := i) hlt)
      generalize l[i] = m at x0 x1 x2 x3 HS
      have hBr := cell_b HB.out HBc.out
      by_cases hx : m.g = g
      · rw [if_pos hx] at HS
        have HX := Aside.mk hx
        clear hx
        go_wp2_with (go_at_call 123; (with_reducible refine (mailAt1_calls B g _ _ _ _ _ _ _ hBr).mono ?_); rintro e w' ⟨he, hb⟩; rw [show (m.g == g) = true from by simp [HX.out]] at he; subst he; replace HB := Aside.mk (below_step HB.out hb); clear hb)
        go_ret
        exact ⟨ret_i (by rw [HE.out, HS.out]), HB.out⟩
      · rw [if_neg hx] at HS
        have HX := Aside.mk hx
        clear hx
        go_wp2_with (go_at_call 123; (with_reducible refine (mailAt1_calls B g _ _ _ _ _ _ _ hBr).mono ?_); rintro e w' ⟨he, hb⟩; rw [show (m.g == g) = false from beq_eq_false_iff_ne.2 HX.out] at he; subst he; replace HB := Aside.mk (below_step HB.out hb); clear hb)
        go_roundw
        case rel => exact ⟨i + 1, by omega, by go_num, ⟨by rw [HE.out, HS.out]; push_cast; rfl⟩, HB⟩
        case measure => simp [intOf]; omega
    · obtain hz : i = l.length := by omega
      have HZ := Aside.mk hz
      have hge : ¬ ((i : Int) < (l.length : Int)) := by omega
      clear hlt hz
      go_wp2
      go_ret
      exact ⟨ret_i (by rw [HE.out, HZ.out, mailAtFrom_end]), HB.out⟩
set_option maxHeartbeats 2000000 in
set_option maxRecDepth 100000 in
theorem mailAt_calls (w : World) (mv gv : Value) (b : Box) (g : Int) (h : rdMails w mv b.ml) (hg : gv.oneCell' = true) :
    Calls Try.prog 38 #[.agg #[.int .i64 b.g, .string b.nm, .int .i64 b.t, .int .i64 b.b, .int .i64 b.nx, mv, gv], .int .i64 g] w (RetI (mailAt b.ml g) w) := by
  have o1 := rd_one h
  have HR := Aside.mk h
  clear h
  go_enter Try.func38, Try.ntmps38
  go_wp2_with (go_at_call 122; refine (mailAtI_calls _ _ b.ml (w.heap.size + 1) g (rdMails_mov (by (repeat (first | (with_reducible exact HB.out) | (with_reducible exact Below.refl _ _) | (with_reducible refine below_set ?_ (by first | omega | (dsimp only; omega) | (simp; done) | (simp; omega)) _) | (with_reducible refine below_alloc ?_ _) | (with_reducible refine below_drewN ?_ _) | (with_reducible refine below_drew ?_)))) HR.out) (by simp)).mono ?_; rintro e w' ⟨rfl, hb⟩; have HB := Aside.mk (below_step (w0 := w) (by (repeat (first | (with_reducible exact HB.out) | (with_reducible exact Below.refl _ _) | (with_reducible refine below_set ?_ (by first | omega | (dsimp only; omega) | (simp; done) | (simp; omega)) _) | (with_reducible refine below_alloc ?_ _) | (with_reducible refine below_drewN ?_ _) | (with_reducible refine below_drew ?_)))) hb); clear hb)
  go_ret
  exact ⟨rfl, HB.out⟩
end Go.Proofs.Ytjfjpabfkembcaa.H
