/- JoinReg, the program's and the reference's: the walks. -/
import Derived.Test.YtjfjpabfkembcaaHSet2
import Derived.Test.YtjfjpabfkembcaaHPure2
namespace Go.Proofs.Ytjfjpabfkembcaa.H
open Go.RowKit
set_option linter.unusedVariables false
set_option linter.unusedSimpArgs false
def joinReg (a b : Reg) : Reg := if later b.t b.b a.t a.b || (!later a.t a.b b.t b.b && decide (a.v < b.v)) then b else a
theorem joinReg_spec (a b : Reg) : joinReg a b = if later a.t a.b b.t b.b || (decide (a.t = b.t) && decide (a.b = b.b) && decide (b.v ≤ a.v)) then a else b := by
  obtain ⟨av, at_, ab⟩ := a
  obtain ⟨bv, bt, bb⟩ := b
  unfold joinReg later
  dsimp only
  by_cases h1 : bt < at_ <;> by_cases h2 : at_ < bt <;> by_cases h3 : at_ = bt <;> by_cases h4 : bb < ab <;> by_cases h5 : ab < bb <;> by_cases h6 : ab = bb <;> by_cases h7 : av < bv <;>
    simp [h1, h2, h3, h4, h5, h6, h7, eq_comm] <;> omega
set_option maxHeartbeats 2000000 in
set_option maxRecDepth 100000 in
theorem joinReg_calls (w : World) (a b : Reg) : Calls Try.prog 125 #[.agg #[.int .i64 a.v, .int .i64 a.t, .int .i64 a.b], .agg #[.int .i64 b.v, .int .i64 b.t, .int .i64 b.b]] w (RetReg (joinReg a b) w) := by
  have HE : Aside (joinReg a b = if later b.t b.b a.t a.b || (!later a.t a.b b.t b.b && decide (a.v < b.v)) then b else a) := ⟨rfl⟩
  rcases h1 : later b.t b.b a.t a.b with _ | _
  rcases h2 : later a.t a.b b.t b.b with _ | _
  by_cases h3 : a.v < b.v
  all_goals
    rw [h1] at HE
    try rw [h2] at HE
    try rw [decide_eq_true h3] at HE
    try rw [decide_eq_false h3] at HE
    have HH := Aside.mk h1
    clear h1
    try (have HG := Aside.mk h2; clear h2)
    go_enter Try.func125, Try.ntmps125
    go_wp2_with (fail)
    refine (later_calls _ b.t b.b a.t a.b).mono ?_
    rintro e w1 ⟨rfl, hb⟩
    rw [HH.out]
    have L0 := Aside.mk ((((Loc.new w #[.int .i64 a.v, .int .i64 a.t, .int .i64 a.b] 136).alloc (.cells #[.int .i64 b.v, .int .i64 b.t, .int .i64 b.b] 136)).alloc (.cells #[.int .i64 0, .int .i64 0, .int .i64 0] 136)).below hb)
    have L1 := Aside.mk (((Loc.new1 w (.cells #[.int .i64 a.v, .int .i64 a.t, .int .i64 a.b] 136) #[.int .i64 b.v, .int .i64 b.t, .int .i64 b.b] 136).alloc (.cells #[.int .i64 0, .int .i64 0, .int .i64 0] 136)).below hb)
    have L2 := Aside.mk ((Loc.new2 w (.cells #[.int .i64 a.v, .int .i64 a.t, .int .i64 a.b] 136) (.cells #[.int .i64 b.v, .int .i64 b.t, .int .i64 b.b] 136) #[.int .i64 0, .int .i64 0, .int .i64 0] 136).below hb)
    have HB := Aside.mk (below_step (w0 := w) (by (repeat (first | (with_reducible exact HB.out) | (with_reducible exact Below.refl _ _) | (with_reducible refine below_set ?_ (by first | omega | (dsimp only; omega) | (simp; done) | (simp; omega)) _) | (with_reducible refine below_alloc ?_ _) | (with_reducible refine below_drewN ?_ _) | (with_reducible refine below_drew ?_)))) hb)
    clear hb
    have l0 := L0.out.cells
    have l1 := L1.out.cells
    have l2 := L2.out.cells
    have q2 := L2.out.lt
    have f2 := L2.out.free
    go_wp2_with (go_at_call 173; refine (later_calls _ a.t a.b b.t b.b).mono ?_; rintro e w2 ⟨rfl, hb⟩; rw [HG.out]; replace L0 := Aside.mk (L0.out.below hb); replace L1 := Aside.mk (L1.out.below hb); replace L2 := Aside.mk (L2.out.below hb); replace HB := Aside.mk (below_step HB.out hb); clear l0 l1 l2 q2 f2 hb; have l0 := L0.out.cells; have l1 := L1.out.cells; have l2 := L2.out.cells; have q2 := L2.out.lt; have f2 := L2.out.free)
    first
      | (have HP : joinReg a b = a := by rw [HE.out]; simp
         refine bodyPost_ret (v := .agg #[.int .i64 a.v, .int .i64 a.t, .int .i64 a.b]) (by simp [results, go_sem, l2, q2]) rfl ⟨by rw [HP], ?_⟩
         (repeat (first | (with_reducible exact HB.out) | (with_reducible exact Below.refl _ _) | (with_reducible refine below_set ?_ (by first | omega | (dsimp only; omega) | (simp; done) | (simp; omega)) _) | (with_reducible refine below_alloc ?_ _) | (with_reducible refine below_drewN ?_ _) | (with_reducible refine below_drew ?_))))
      | (have HP : joinReg a b = b := by rw [HE.out]; simp
         refine bodyPost_ret (v := .agg #[.int .i64 b.v, .int .i64 b.t, .int .i64 b.b]) (by simp [results, go_sem, l2, q2]) rfl ⟨by rw [HP], ?_⟩
         (repeat (first | (with_reducible exact HB.out) | (with_reducible exact Below.refl _ _) | (with_reducible refine below_set ?_ (by first | omega | (dsimp only; omega) | (simp; done) | (simp; omega)) _) | (with_reducible refine below_alloc ?_ _) | (with_reducible refine below_drewN ?_ _) | (with_reducible refine below_drew ?_))))
end Go.Proofs.Ytjfjpabfkembcaa.H
