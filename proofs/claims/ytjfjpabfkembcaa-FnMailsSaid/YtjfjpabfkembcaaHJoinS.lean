/- JoinReg, the reference's: the walk. -/
import Derived.Test.YtjfjpabfkembcaaHJoin
namespace Go.Proofs.Ytjfjpabfkembcaa.H
open Go.RowKit
set_option linter.unusedVariables false
set_option linter.unusedSimpArgs false
set_option maxHeartbeats 2000000 in
set_option maxRecDepth 100000 in
theorem specJoinReg_n (w : World) (av at_ ab bv bt bb : Int) (r : Reg) (hr : Aside ((if later at_ ab bt bb || (decide (at_ = bt) && decide (ab = bb) && decide (bv ≤ av)) then ⟨av, at_, ab⟩ else ⟨bv, bt, bb⟩) = r)) : Calls Try.prog 164 #[.agg #[.int .i64 av, .int .i64 at_, .int .i64 ab], .agg #[.int .i64 bv, .int .i64 bt, .int .i64 bb]] w (RetReg r w) := by
  rcases h1 : later at_ ab bt bb with _ | _
  rotate_left
  · have HH := Aside.mk h1
    clear h1
    go_enter Try.func164, Try.ntmps164
    go_wp2_with (fail)
    refine (specLater_calls _ at_ ab bt bb).mono ?_
    rintro e w1 ⟨rfl, hb⟩
    rw [HH.out]
    have L0 := Aside.mk ((((Loc.new w #[.int .i64 av, .int .i64 at_, .int .i64 ab] 136).alloc (.cells #[.int .i64 bv, .int .i64 bt, .int .i64 bb] 136)).alloc (.cells #[.int .i64 0, .int .i64 0, .int .i64 0] 136)).below hb)
    have L2 := Aside.mk ((Loc.new2 w (.cells #[.int .i64 av, .int .i64 at_, .int .i64 ab] 136) (.cells #[.int .i64 bv, .int .i64 bt, .int .i64 bb] 136) #[.int .i64 0, .int .i64 0, .int .i64 0] 136).below hb)
    have HB := Aside.mk (below_step (w0 := w) (by (repeat (first | (with_reducible exact HB.out) | (with_reducible exact Below.refl _ _) | (with_reducible refine below_set ?_ (by first | omega | (dsimp only; omega) | (simp; done) | (simp; omega)) _) | (with_reducible refine below_alloc ?_ _) | (with_reducible refine below_drewN ?_ _) | (with_reducible refine below_drew ?_)))) hb)
    clear hb
    have l0 := L0.out.cells
    have l2 := L2.out.cells
    have q2 := L2.out.lt
    have f2 := L2.out.free
    go_wp2
    refine bodyPost_ret (v := .agg #[.int .i64 av, .int .i64 at_, .int .i64 ab]) (by simp [results, go_sem, l2, q2]) rfl ⟨by rw [← hr.out, HH.out]; simp, ?_⟩
    (repeat (first | (with_reducible exact HB.out) | (with_reducible exact Below.refl _ _) | (with_reducible refine below_set ?_ (by first | omega | (dsimp only; omega) | (simp; done) | (simp; omega)) _) | (with_reducible refine below_alloc ?_ _) | (with_reducible refine below_drewN ?_ _) | (with_reducible refine below_drew ?_)))
  · by_cases h2 : at_ = bt
    · subst h2
      by_cases h4 : ab = bb
      · subst h4
        by_cases h3 : bv ≤ av
        · skip
          have HH := Aside.mk h1
          clear h1
          go_enter Try.func164, Try.ntmps164
          go_wp2_with (fail)
          refine (specLater_calls _ at_ ab at_ ab).mono ?_
          rintro e w1 ⟨rfl, hb⟩
          rw [HH.out]
          have L0 := Aside.mk ((((Loc.new w #[.int .i64 av, .int .i64 at_, .int .i64 ab] 136).alloc (.cells #[.int .i64 bv, .int .i64 at_, .int .i64 ab] 136)).alloc (.cells #[.int .i64 0, .int .i64 0, .int .i64 0] 136)).below hb)
          have L1 := Aside.mk (((Loc.new1 w (.cells #[.int .i64 av, .int .i64 at_, .int .i64 ab] 136) #[.int .i64 bv, .int .i64 at_, .int .i64 ab] 136).alloc (.cells #[.int .i64 0, .int .i64 0, .int .i64 0] 136)).below hb)
          have L2 := Aside.mk ((Loc.new2 w (.cells #[.int .i64 av, .int .i64 at_, .int .i64 ab] 136) (.cells #[.int .i64 bv, .int .i64 at_, .int .i64 ab] 136) #[.int .i64 0, .int .i64 0, .int .i64 0] 136).below hb)
          have HB := Aside.mk (below_step (w0 := w) (by (repeat (first | (with_reducible exact HB.out) | (with_reducible exact Below.refl _ _) | (with_reducible refine below_set ?_ (by first | omega | (dsimp only; omega) | (simp; done) | (simp; omega)) _) | (with_reducible refine below_alloc ?_ _) | (with_reducible refine below_drewN ?_ _) | (with_reducible refine below_drew ?_)))) hb)
          clear hb
          have l0 := L0.out.cells
          have l1 := L1.out.cells
          have l2 := L2.out.cells
          have q2 := L2.out.lt
          have f2 := L2.out.free
          go_wp2
          refine bodyPost_ret (v := .agg #[.int .i64 av, .int .i64 at_, .int .i64 ab]) (by simp [results, go_sem, l2, q2]) rfl ⟨by rw [← hr.out, HH.out]; simp [h3], ?_⟩
          (repeat (first | (with_reducible exact HB.out) | (with_reducible exact Below.refl _ _) | (with_reducible refine below_set ?_ (by first | omega | (dsimp only; omega) | (simp; done) | (simp; omega)) _) | (with_reducible refine below_alloc ?_ _) | (with_reducible refine below_drewN ?_ _) | (with_reducible refine below_drew ?_)))
        · skip
          have HH := Aside.mk h1
          clear h1
          go_enter Try.func164, Try.ntmps164
          go_wp2_with (fail)
          refine (specLater_calls _ at_ ab at_ ab).mono ?_
          rintro e w1 ⟨rfl, hb⟩
          rw [HH.out]
          have L0 := Aside.mk ((((Loc.new w #[.int .i64 av, .int .i64 at_, .int .i64 ab] 136).alloc (.cells #[.int .i64 bv, .int .i64 at_, .int .i64 ab] 136)).alloc (.cells #[.int .i64 0, .int .i64 0, .int .i64 0] 136)).below hb)
          have L1 := Aside.mk (((Loc.new1 w (.cells #[.int .i64 av, .int .i64 at_, .int .i64 ab] 136) #[.int .i64 bv, .int .i64 at_, .int .i64 ab] 136).alloc (.cells #[.int .i64 0, .int .i64 0, .int .i64 0] 136)).below hb)
          have L2 := Aside.mk ((Loc.new2 w (.cells #[.int .i64 av, .int .i64 at_, .int .i64 ab] 136) (.cells #[.int .i64 bv, .int .i64 at_, .int .i64 ab] 136) #[.int .i64 0, .int .i64 0, .int .i64 0] 136).below hb)
          have HB := Aside.mk (below_step (w0 := w) (by (repeat (first | (with_reducible exact HB.out) | (with_reducible exact Below.refl _ _) | (with_reducible refine below_set ?_ (by first | omega | (dsimp only; omega) | (simp; done) | (simp; omega)) _) | (with_reducible refine below_alloc ?_ _) | (with_reducible refine below_drewN ?_ _) | (with_reducible refine below_drew ?_)))) hb)
          clear hb
          have l0 := L0.out.cells
          have l1 := L1.out.cells
          have l2 := L2.out.cells
          have q2 := L2.out.lt
          have f2 := L2.out.free
          go_wp2
          refine bodyPost_ret (v := .agg #[.int .i64 bv, .int .i64 at_, .int .i64 ab]) (by simp [results, go_sem, l2, q2]) rfl ⟨by rw [← hr.out, HH.out]; simp [show ¬ (bv ≤ av) by omega], ?_⟩
          (repeat (first | (with_reducible exact HB.out) | (with_reducible exact Below.refl _ _) | (with_reducible refine below_set ?_ (by first | omega | (dsimp only; omega) | (simp; done) | (simp; omega)) _) | (with_reducible refine below_alloc ?_ _) | (with_reducible refine below_drewN ?_ _) | (with_reducible refine below_drew ?_)))
      · skip
        have HH := Aside.mk h1
        clear h1
        go_enter Try.func164, Try.ntmps164
        go_wp2_with (fail)
        refine (specLater_calls _ at_ ab at_ bb).mono ?_
        rintro e w1 ⟨rfl, hb⟩
        rw [HH.out]
        have L0 := Aside.mk ((((Loc.new w #[.int .i64 av, .int .i64 at_, .int .i64 ab] 136).alloc (.cells #[.int .i64 bv, .int .i64 at_, .int .i64 bb] 136)).alloc (.cells #[.int .i64 0, .int .i64 0, .int .i64 0] 136)).below hb)
        have L1 := Aside.mk (((Loc.new1 w (.cells #[.int .i64 av, .int .i64 at_, .int .i64 ab] 136) #[.int .i64 bv, .int .i64 at_, .int .i64 bb] 136).alloc (.cells #[.int .i64 0, .int .i64 0, .int .i64 0] 136)).below hb)
        have L2 := Aside.mk ((Loc.new2 w (.cells #[.int .i64 av, .int .i64 at_, .int .i64 ab] 136) (.cells #[.int .i64 bv, .int .i64 at_, .int .i64 bb] 136) #[.int .i64 0, .int .i64 0, .int .i64 0] 136).below hb)
        have HB := Aside.mk (below_step (w0 := w) (by (repeat (first | (with_reducible exact HB.out) | (with_reducible exact Below.refl _ _) | (with_reducible refine below_set ?_ (by first | omega | (dsimp only; omega) | (simp; done) | (simp; omega)) _) | (with_reducible refine below_alloc ?_ _) | (with_reducible refine below_drewN ?_ _) | (with_reducible refine below_drew ?_)))) hb)
        clear hb
        have l0 := L0.out.cells
        have l1 := L1.out.cells
        have l2 := L2.out.cells
        have q2 := L2.out.lt
        have f2 := L2.out.free
        go_wp2
        refine bodyPost_ret (v := .agg #[.int .i64 bv, .int .i64 at_, .int .i64 bb]) (by simp [results, go_sem, l2, q2]) rfl ⟨by rw [← hr.out, HH.out]; simp [h4], ?_⟩
        (repeat (first | (with_reducible exact HB.out) | (with_reducible exact Below.refl _ _) | (with_reducible refine below_set ?_ (by first | omega | (dsimp only; omega) | (simp; done) | (simp; omega)) _) | (with_reducible refine below_alloc ?_ _) | (with_reducible refine below_drewN ?_ _) | (with_reducible refine below_drew ?_)))
    · skip
      have HH := Aside.mk h1
      clear h1
      go_enter Try.func164, Try.ntmps164
      go_wp2_with (fail)
      refine (specLater_calls _ at_ ab bt bb).mono ?_
      rintro e w1 ⟨rfl, hb⟩
      rw [HH.out]
      have L0 := Aside.mk ((((Loc.new w #[.int .i64 av, .int .i64 at_, .int .i64 ab] 136).alloc (.cells #[.int .i64 bv, .int .i64 bt, .int .i64 bb] 136)).alloc (.cells #[.int .i64 0, .int .i64 0, .int .i64 0] 136)).below hb)
      have L1 := Aside.mk (((Loc.new1 w (.cells #[.int .i64 av, .int .i64 at_, .int .i64 ab] 136) #[.int .i64 bv, .int .i64 bt, .int .i64 bb] 136).alloc (.cells #[.int .i64 0, .int .i64 0, .int .i64 0] 136)).below hb)
      have L2 := Aside.mk ((Loc.new2 w (.cells #[.int .i64 av, .int .i64 at_, .int .i64 ab] 136) (.cells #[.int .i64 bv, .int .i64 bt, .int .i64 bb] 136) #[.int .i64 0, .int .i64 0, .int .i64 0] 136).below hb)
      have HB := Aside.mk (below_step (w0 := w) (by (repeat (first | (with_reducible exact HB.out) | (with_reducible exact Below.refl _ _) | (with_reducible refine below_set ?_ (by first | omega | (dsimp only; omega) | (simp; done) | (simp; omega)) _) | (with_reducible refine below_alloc ?_ _) | (with_reducible refine below_drewN ?_ _) | (with_reducible refine below_drew ?_)))) hb)
      clear hb
      have l0 := L0.out.cells
      have l1 := L1.out.cells
      have l2 := L2.out.cells
      have q2 := L2.out.lt
      have f2 := L2.out.free
      go_wp2
      refine bodyPost_ret (v := .agg #[.int .i64 bv, .int .i64 bt, .int .i64 bb]) (by simp [results, go_sem, l2, q2]) rfl ⟨by rw [← hr.out, HH.out]; simp [h2], ?_⟩
      (repeat (first | (with_reducible exact HB.out) | (with_reducible exact Below.refl _ _) | (with_reducible refine below_set ?_ (by first | omega | (dsimp only; omega) | (simp; done) | (simp; omega)) _) | (with_reducible refine below_alloc ?_ _) | (with_reducible refine below_drewN ?_ _) | (with_reducible refine below_drew ?_)))
theorem specJoinReg_calls (w : World) (a b : Reg) : Calls Try.prog 164 #[.agg #[.int .i64 a.v, .int .i64 a.t, .int .i64 a.b], .agg #[.int .i64 b.v, .int .i64 b.t, .int .i64 b.b]] w (RetReg (joinReg a b) w) :=
  specJoinReg_n w a.v a.t a.b b.v b.t b.b (joinReg a b) ⟨by rw [joinReg_spec]⟩
end Go.Proofs.Ytjfjpabfkembcaa.H
