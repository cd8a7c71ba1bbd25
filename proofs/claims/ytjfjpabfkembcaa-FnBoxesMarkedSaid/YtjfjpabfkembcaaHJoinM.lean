/- JoinReg, the program's and the reference's: the walks. JoinReg, the reference's: the walk. JoinFlags, the program's and the reference's: the walks. Printed by this session's gen_joinflags.py. -/
import Derived.Test.YtjfjpabfkembcaaHSet2
import Derived.Test.YtjfjpabfkembcaaHPure2
import Derived.Test.YtjfjpabfkembcaaHSnoc
import Derived.Test.YtjfjpabfkembcaaHMark
namespace Go.Proofs.Ytjfjpabfkembcaa.H
open Go.RowKit
set_option linter.unusedVariables false
set_option linter.unusedSimpArgs false
/-! JoinReg, the program's and the reference's: the walks. -/
def joinReg (a b : Reg) : Reg := if later b.t b.b a.t a.b || (!later a.t a.b b.t b.b && decide (a.v < b.v)) then b else a
theorem joinReg_spec (a b : Reg) : joinReg a b = if later a.t a.b b.t b.b || (decide (a.t = b.t) && decide (a.b = b.b) && decide (b.v ≤ a.v)) then a else b := by
  obtain ⟨av, at_, ab⟩ := a
  obtain ⟨bv, bt, bb⟩ := b
  unfold joinReg later
  dsimp only
  by_cases h1 : bt < at_ <;> by_cases h2 : at_ < bt <;> by_cases h3 : at_ = bt <;> by_cases h4 : bb < ab <;> by_cases h5 : ab < bb <;> by_cases h6 : ab = bb <;> by_cases h7 : av < bv <;>
    simp [h1, h2, h3, h4, h5, h6, h7, eq_comm] <;> omega
set_option maxHeartbeats 2000000 in
set_option maxRecDepth 100000 in
theorem joinReg_calls (w : World) (a b : Reg) : Calls Try.prog 125 #[.agg #[.int .i64 a.v, .int .i64 a.t, .int .i64 a.b], .agg #[.int .i64 b.v, .int .i64 b.t, .int .i64 b.b]] w (RetReg (joinReg a b) w) := by
  have HE : Aside (joinReg a b = if later b.t b.b a.t a.b || (!later a.t a.b b.t b.b && decide (a.v < b.v)) then b else a) := ⟨rfl⟩
  rcases h1 : later b.t b.b a.t a.b with _ | _
  rcases h2 : later a.t a.b b.t b.b with _ | _
  by_cases h3 : a.v < b.v
  all_goals
    rw [h1] at HE
    try rw [h2] at HE
    try rw [decide_eq_true h3] at HE
    try rw [decide_eq_false h3] at HE
    have HH := Aside.mk h1
    clear h1
    try (have HG := Aside.mk h2; clear h2)
    go_enter Try.func125, Try.ntmps125
    go_wp2_with (fail)
    refine (later_calls _ b.t b.b a.t a.b).mono ?_
    rintro e w1 ⟨rfl, hb⟩
    rw [HH.out]
    have L0 := Aside.mk ((((Loc.new w #[.int .i64 a.v, .int .i64 a.t, .int .i64 a.b] 136).alloc (.cells #[.int .i64 b.v, .int .i64 b.t, .int .i64 b.b] 136)).alloc (.cells #[.int .i64 0, .int .i64 0, .int .i64 0] 136)).below hb)
    have L1 := Aside.mk (((Loc.new1 w (.cells #[.int .i64 a.v, .int .i64 a.t, .int .i64 a.b] 136) #[.int .i64 b.v, .int .i64 b.t, .int .i64 b.b] 136).alloc (.cells #[.int .i64 0, .int .i64 0, .int .i64 0] 136)).below hb)
    have L2 := Aside.mk ((Loc.new2 w (.cells #[.int .i64 a.v, .int .i64 a.t, .int .i64 a.b] 136) (.cells #[.int .i64 b.v, .int .i64 b.t, .int .i64 b.b] 136) #[.int .i64 0, .int .i64 0, .int .i64 0] 136).below hb)
    have HB := Aside.mk (below_step (w0 := w) (by (repeat (first | (with_reducible exact HB.out) | (with_reducible exact Below.refl _ _) | (with_reducible refine below_set ?_ (by first | omega | (dsimp only; omega) | (simp; done) | (simp; omega)) _) | (with_reducible refine below_alloc ?_ _) | (with_reducible refine below_drewN ?_ _) | (with_reducible refine below_drew ?_)))) hb)
    clear hb
    have l0 := L0.out.cells
    have l1 := L1.out.cells
    have l2 := L2.out.cells
    have q2 := L2.out.lt
    have f2 := L2.out.free
    go_wp2_with (go_at_call 173; refine (later_calls _ a.t a.b b.t b.b).mono ?_; rintro e w2 ⟨rfl, hb⟩; rw [HG.out]; replace L0 := Aside.mk (L0.out.below hb); replace L1 := Aside.mk (L1.out.below hb); replace L2 := Aside.mk (L2.out.below hb); replace HB := Aside.mk (below_step HB.out hb); clear l0 l1 l2 q2 f2 hb; have l0 := L0.out.cells; have l1 := L1.out.cells; have l2 := L2.out.cells; have q2 := L2.out.lt; have f2 := L2.out.free)
    first
      | (have HP : joinReg a b = a := by rw [HE.out]; simp
         refine bodyPost_ret (v := .agg #[.int .i64 a.v, .int .i64 a.t, .int .i64 a.b]) (by simp [results, go_sem, l2, q2]) rfl ⟨by rw [HP], ?_⟩
         (repeat (first | (with_reducible exact HB.out) | (with_reducible exact Below.refl _ _) | (with_reducible refine below_set ?_ (by first | omega | (dsimp only; omega) | (simp; done) | (simp; omega)) _) | (with_reducible refine below_alloc ?_ _) | (with_reducible refine below_drewN ?_ _) | (with_reducible refine below_drew ?_))))
      | (have HP : joinReg a b = b := by rw [HE.out]; simp
         refine bodyPost_ret (v := .agg #[.int .i64 b.v, .int .i64 b.t, .int .i64 b.b]) (by simp [results, go_sem, l2, q2]) rfl ⟨by rw [HP], ?_⟩
         (repeat (first | (with_reducible exact HB.out) | (with_reducible exact Below.refl _ _) | (with_reducible refine below_set ?_ (by first | omega | (dsimp only; omega) | (simp; done) | (simp; omega)) _) | (with_reducible refine below_alloc ?_ _) | (with_reducible refine below_drewN ?_ _) | (with_reducible refine below_drew ?_))))
/-! JoinReg, the reference's: the walk. -/
set_option maxHeartbeats 2000000 in
set_option maxRecDepth 100000 in
theorem specJoinReg_n (w : World) (av at_ ab bv bt bb : Int) (r : Reg) (hr : Aside ((if later at_ ab bt bb || (decide (at_ = bt) && decide (ab = bb) && decide (bv ≤ av)) then ⟨av, at_, ab⟩ else ⟨bv, bt, bb⟩) = r)) : Calls Try.prog 164 #[.agg #[.int .i64 av, .int .i64 at_, .int .i64 ab], .agg #[.int .i64 bv, .int .i64 bt, .int .i64 bb]] w (RetReg r w) := by
  rcases h1 : later at_ ab bt bb with _ | _
  rotate_left
  · have HH := Aside.mk h1
    clear h1
    go_enter Try.func164, Try.ntmps164
    go_wp2_with (fail)
    refine (specLater_calls _ at_ ab bt bb).mono ?_
    rintro e w1 ⟨rfl, hb⟩
    rw [HH.out]
    have L0 := Aside.mk ((((Loc.new w #[.int .i64 av, .int .i64 at_, .int .i64 ab] 136).alloc (.cells #[.int .i64 bv, .int .i64 bt, .int .i64 bb] 136)).alloc (.cells #[.int .i64 0, .int .i64 0, .int .i64 0] 136)).below hb)
    have L2 := Aside.mk ((Loc.new2 w (.cells #[.int .i64 av, .int .i64 at_, .int .i64 ab] 136) (.cells #[.int .i64 bv, .int .i64 bt, .int .i64 bb] 136) #[.int .i64 0, .int .i64 0, .int .i64 0] 136).below hb)
    have HB := Aside.mk (below_step (w0 := w) (by (repeat (first | (with_reducible exact HB.out) | (with_reducible exact Below.refl _ _) | (with_reducible refine below_set ?_ (by first | omega | (dsimp only; omega) | (simp; done) | (simp; omega)) _) | (with_reducible refine below_alloc ?_ _) | (with_reducible refine below_drewN ?_ _) | (with_reducible refine below_drew ?_)))) hb)
    clear hb
    have l0 := L0.out.cells
    have l2 := L2.out.cells
    have q2 := L2.out.lt
    have f2 := L2.out.free
    go_wp2
    refine bodyPost_ret (v := .agg #[.int .i64 av, .int .i64 at_, .int .i64 ab]) (by simp [results, go_sem, l2, q2]) rfl ⟨by rw [← hr.out, HH.out]; simp, ?_⟩
    (repeat (first | (with_reducible exact HB.out) | (with_reducible exact Below.refl _ _) | (with_reducible refine below_set ?_ (by first | omega | (dsimp only; omega) | (simp; done) | (simp; omega)) _) | (with_reducible refine below_alloc ?_ _) | (with_reducible refine below_drewN ?_ _) | (with_reducible refine below_drew ?_)))
  · by_cases h2 : at_ = bt
    · subst h2
      by_cases h4 : ab = bb
      · subst h4
        by_cases h3 : bv ≤ av
        · skip
          have HH := Aside.mk h1
          clear h1
          go_enter Try.func164, Try.ntmps164
          go_wp2_with (fail)
          refine (specLater_calls _ at_ ab at_ ab).mono ?_
          rintro e w1 ⟨rfl, hb⟩
          rw [HH.out]
          have L0 := Aside.mk ((((Loc.new w #[.int .i64 av, .int .i64 at_, .int .i64 ab] 136).alloc (.cells #[.int .i64 bv, .int .i64 at_, .int .i64 ab] 136)).alloc (.cells #[.int .i64 0, .int .i64 0, .int .i64 0] 136)).below hb)
          have L1 := Aside.mk (((Loc.new1 w (.cells #[.int .i64 av, .int .i64 at_, .int .i64 ab] 136) #[.int .i64 bv, .int .i64 at_, .int .i64 ab] 136).alloc (.cells #[.int .i64 0, .int .i64 0, .int .i64 0] 136)).below hb)
          have L2 := Aside.mk ((Loc.new2 w (.cells #[.int .i64 av, .int .i64 at_, .int .i64 ab] 136) (.cells #[.int .i64 bv, .int .i64 at_, .int .i64 ab] 136) #[.int .i64 0, .int .i64 0, .int .i64 0] 136).below hb)
          have HB := Aside.mk (below_step (w0 := w) (by (repeat (first | (with_reducible exact HB.out) | (with_reducible exact Below.refl _ _) | (with_reducible refine below_set ?_ (by first | omega | (dsimp only; omega) | (simp; done) | (simp; omega)) _) | (with_reducible refine below_alloc ?_ _) | (with_reducible refine below_drewN ?_ _) | (with_reducible refine below_drew ?_)))) hb)
          clear hb
          have l0 := L0.out.cells
          have l1 := L1.out.cells
          have l2 := L2.out.cells
          have q2 := L2.out.lt
          have f2 := L2.out.free
          go_wp2
          refine bodyPost_ret (v := .agg #[.int .i64 av, .int .i64 at_, .int .i64 ab]) (by simp [results, go_sem, l2, q2]) rfl ⟨by rw [← hr.out, HH.out]; simp [h3], ?_⟩
          (repeat (first | (with_reducible exact HB.out) | (with_reducible exact Below.refl _ _) | (with_reducible refine below_set ?_ (by first | omega | (dsimp only; omega) | (simp; done) | (simp; omega)) _) | (with_reducible refine below_alloc ?_ _) | (with_reducible refine below_drewN ?_ _) | (with_reducible refine below_drew ?_)))
        · skip
          have HH := Aside.mk h1
          clear h1
          go_enter Try.func164, Try.ntmps164
          go_wp2_with (fail)
          refine (specLater_calls _ at_ ab at_ ab).mono ?_
          rintro e w1 ⟨rfl, hb⟩
          rw [HH.out]
          have L0 := Aside.mk ((((Loc.new w #[.int .i64 av, .int .i64 at_, .int .i64 ab] 136).alloc (.cells #[.int .i64 bv, .int .i64 at_, .int .i64 ab] 136)).alloc (.cells #[.int .i64 0, .int .i64 0, .int .i64 0] 136)).below hb)
          have L1 := Aside.mk (((Loc.new1 w (.cells #[.int .i64 av, .int .i64 at_, .int .i64 ab] 136) #[.int .i64 bv, .int .i64 at_, .int .i64 ab] 136).alloc (.cells #[.int .i64 0, .int .i64 0, .int .i64 0] 136)).below hb)
          have L2 := Aside.mk ((Loc.new2 w (.cells #[.int .i64 av, .int .i64 at_, .int .i64 ab] 136) (.cells #[.int .i64 bv, .int .i64 at_, .int .i64 ab] 136) #[.int .i64 0, .int .i64 0, .int .i64 0] 136).below hb)
          have HB := Aside.mk (below_step (w0 := w) (by (repeat (first | (with_reducible exact HB.out) | (with_reducible exact Below.refl _ _) | (with_reducible refine below_set ?_ (by first | omega | (dsimp only; omega) | (simp; done) | (simp; omega)) _) | (with_reducible refine below_alloc ?_ _) | (with_reducible refine below_drewN ?_ _) | (with_reducible refine below_drew ?_)))) hb)
          clear hb
          have l0 := L0.out.cells
          have l1 := L1.out.cells
          have l2 := L2.out.cells
          have q2 := L2.out.lt
          have f2 := L2.out.free
          go_wp2
          refine bodyPost_ret (v := .agg #[.int .i64 bv, .int .i64 at_, .int .i64 ab]) (by simp [results, go_sem, l2, q2]) rfl ⟨by rw [← hr.out, HH.out]; simp [show ¬ (bv ≤ av) by omega], ?_⟩
          (repeat (first | (with_reducible exact HB.out) | (with_reducible exact Below.refl _ _) | (with_reducible refine below_set ?_ (by first | omega | (dsimp only; omega) | (simp; done) | (simp; omega)) _) | (with_reducible refine below_alloc ?_ _) | (with_reducible refine below_drewN ?_ _) | (with_reducible refine below_drew ?_)))
      · skip
        have HH := Aside.mk h1
        clear h1
        go_enter Try.func164, Try.ntmps164
        go_wp2_with (fail)
        refine (specLater_calls _ at_ ab at_ bb).mono ?_
        rintro e w1 ⟨rfl, hb⟩
        rw [HH.out]
        have L0 := Aside.mk ((((Loc.new w #[.int .i64 av, .int .i64 at_, .int .i64 ab] 136).alloc (.cells #[.int .i64 bv, .int .i64 at_, .int .i64 bb] 136)).alloc (.cells #[.int .i64 0, .int .i64 0, .int .i64 0] 136)).below hb)
        have L1 := Aside.mk (((Loc.new1 w (.cells #[.int .i64 av, .int .i64 at_, .int .i64 ab] 136) #[.int .i64 bv, .int .i64 at_, .int .i64 bb] 136).alloc (.cells #[.int .i64 0, .int .i64 0, .int .i64 0] 136)).below hb)
        have L2 := Aside.mk ((Loc.new2 w (.cells #[.int .i64 av, .int .i64 at_, .int .i64 ab] 136) (.cells #[.int .i64 bv, .int .i64 at_, .int .i64 bb] 136) #[.int .i64 0, .int .i64 0, .int .i64 0] 136).below hb)
        have HB := Aside.mk (below_step (w0 := w) (by (repeat (first | (with_reducible exact HB.out) | (with_reducible exact Below.refl _ _) | (with_reducible refine below_set ?_ (by first | omega | (dsimp only; omega) | (simp; done) | (simp; omega)) _) | (with_reducible refine below_alloc ?_ _) | (with_reducible refine below_drewN ?_ _) | (with_reducible refine below_drew ?_)))) hb)
        clear hb
        have l0 := L0.out.cells
        have l1 := L1.out.cells
        have l2 := L2.out.cells
        have q2 := L2.out.lt
        have f2 := L2.out.free
        go_wp2
        refine bodyPost_ret (v := .agg #[.int .i64 bv, .int .i64 at_, .int .i64 bb]) (by simp [results, go_sem, l2, q2]) rfl ⟨by rw [← hr.out, HH.out]; simp [h4], ?_⟩
        (repeat (first | (with_reducible exact HB.out) | (with_reducible exact Below.refl _ _) | (with_reducible refine below_set ?_ (by first | omega | (dsimp only; omega) | (simp; done) | (simp; omega)) _) | (with_reducible refine below_alloc ?_ _) | (with_reducible refine below_drewN ?_ _) | (with_reducible refine below_drew ?_)))
    · skip
      have HH := Aside.mk h1
      clear h1
      go_enter Try.func164, Try.ntmps164
      go_wp2_with (fail)
      refine (specLater_calls _ at_ ab bt bb).mono ?_
      rintro e w1 ⟨rfl, hb⟩
      rw [HH.out]
      have L0 := Aside.mk ((((Loc.new w #[.int .i64 av, .int .i64 at_, .int .i64 ab] 136).alloc (.cells #[.int .i64 bv, .int .i64 bt, .int .i64 bb] 136)).alloc (.cells #[.int .i64 0, .int .i64 0, .int .i64 0] 136)).below hb)
      have L1 := Aside.mk (((Loc.new1 w (.cells #[.int .i64 av, .int .i64 at_, .int .i64 ab] 136) #[.int .i64 bv, .int .i64 bt, .int .i64 bb] 136).alloc (.cells #[.int .i64 0, .int .i64 0, .int .i64 0] 136)).below hb)
      have L2 := Aside.mk ((Loc.new2 w (.cells #[.int .i64 av, .int .i64 at_, .int .i64 ab] 136) (.cells #[.int .i64 bv, .int .i64 bt, .int .i64 bb] 136) #[.int .i64 0, .int .i64 0, .int .i64 0] 136).below hb)
      have HB := Aside.mk (below_step (w0 := w) (by (repeat (first | (with_reducible exact HB.out) | (with_reducible exact Below.refl _ _) | (with_reducible refine below_set ?_ (by first | omega | (dsimp only; omega) | (simp; done) | (simp; omega)) _) | (with_reducible refine below_alloc ?_ _) | (with_reducible refine below_drewN ?_ _) | (with_reducible refine below_drew ?_)))) hb)
      clear hb
      have l0 := L0.out.cells
      have l1 := L1.out.cells
      have l2 := L2.out.cells
      have q2 := L2.out.lt
      have f2 := L2.out.free
      go_wp2
      refine bodyPost_ret (v := .agg #[.int .i64 bv, .int .i64 bt, .int .i64 bb]) (by simp [results, go_sem, l2, q2]) rfl ⟨by rw [← hr.out, HH.out]; simp [h2], ?_⟩
      (repeat (first | (with_reducible exact HB.out) | (with_reducible exact Below.refl _ _) | (with_reducible refine below_set ?_ (by first | omega | (dsimp only; omega) | (simp; done) | (simp; omega)) _) | (with_reducible refine below_alloc ?_ _) | (with_reducible refine below_drewN ?_ _) | (with_reducible refine below_drew ?_)))
theorem specJoinReg_calls (w : World) (a b : Reg) : Calls Try.prog 164 #[.agg #[.int .i64 a.v, .int .i64 a.t, .int .i64 a.b], .agg #[.int .i64 b.v, .int .i64 b.t, .int .i64 b.b]] w (RetReg (joinReg a b) w) :=
  specJoinReg_n w a.v a.t a.b b.v b.t b.b (joinReg a b) ⟨by rw [joinReg_spec]⟩
/-! JoinFlags, the program's and the reference's: the walks. Printed by this session's gen_joinflags.py. -/
def joinFlags (a b : List Reg) : List Reg := List.zipWith joinReg a b
theorem joinFlags_take {a b : List Reg} {i : Nat} (ha : i < a.length) (hb : i < b.length) : (joinFlags a b).take (i + 1) = (joinFlags a b).take i ++ [joinReg a[i] b[i]] := by
  have hl : i < (joinFlags a b).length := by unfold joinFlags; rw [List.length_zipWith]; omega
  rw [List.take_succ_eq_append_getElem hl]
  congr 2
  exact List.getElem_zipWith ..
theorem joinFlags_len (a b : List Reg) : (joinFlags a b).length = min a.length b.length := by unfold joinFlags; rw [List.length_zipWith]
set_option maxHeartbeats 2000000 in
set_option maxRecDepth 100000 in
theorem joinFlags_calls (w : World) (va vb : Value) (la lb : List Reg) (ha : rdRegs w va la) (hb : rdRegs w vb lb) (hl : la.length ≤ 4000000) : Calls Try.prog 42 #[va, vb] w (RetRow owRegs (joinFlags la lb) w) := by
  obtain ⟨A1, c1, rfl, _, hm1⟩ := rd_len ha
  obtain ⟨A2, c2, rfl, _, hm2⟩ := rd_len hb
  have HR1 := Aside.mk ha
  have HR2 := Aside.mk hb
  clear ha hb
  go_enter Try.func42, Try.ntmps42
  go_wp2
  go_loopw [5, 6] (fun v5 v6 wr => ∃ (i : Nat) (Av : Option Addr) (nv cv : Nat) (D : List Nat), i ≤ la.length ∧ i ≤ lb.length ∧ v6 = .int .i64 i ∧ v5 = .slice Av nv cv ∧ Aside (owRegs wr D (.slice Av nv cv) ((joinFlags la lb).take i)) ∧ Aside (New w wr D) ∧ Aside (Below w.heap.size w wr)) (fun _ v6 _ => la.length - (intOf v6).toNat)
  case atStart => exact ⟨0, _, _, _, [w.heap.size], by omega, by omega, rfl, rfl, ⟨by rw [List.take_zero]; exact owRow_lit0 w _ rfl⟩, ⟨new_lit0 w w _ _ rfl (Nat.le_refl _)⟩, ⟨by (repeat (first | (with_reducible exact HB.out) | (with_reducible exact Below.refl _ _) | (with_reducible refine below_set ?_ (by first | omega | (dsimp only; omega) | (simp; done) | (simp; omega)) _) | (with_reducible refine below_alloc ?_ _) | (with_reducible refine below_drewN ?_ _) | (with_reducible refine below_drew ?_)))⟩⟩
  case round =>
    obtain ⟨i, Av, nv, cv, D, hi1, hi2, rfl, rfl, HO, HN, HB⟩ := hrel
    by_cases hlt1 : i < la.length
    · have q1 : (i : Int) < (la.length : Int) := by omega
      by_cases hlt2 : i < lb.length
      · have q2 : (i : Int) < (lb.length : Int) := by omega
        have q0 : (0 : Int) ≤ (i : Int) := by omega
        obtain ⟨a1, e1, x0, x1, x2⟩ := rdRegs_at HR1.out i hlt1
        obtain ⟨a2, e2, y0, y1, y2⟩ := rdRegs_at HR2.out i hlt2
        subst e1 e2
        have HT := Aside.mk (joinFlags_take hlt1 hlt2)
        have HK1 := Aside.mk (World.block_lt_of_cell? w _ x0)
        have HK2 := Aside.mk (World.block_lt_of_cell? w _ y0)
        generalize la[i] = m at x0 x1 x2 HT
        generalize lb[i] = n at y0 y1 y2 HT
        replace x0 := cell_b HB.out x0
        replace x1 := cell_b HB.out x1
        replace x2 := cell_b HB.out x2
        replace y0 := cell_b HB.out y0
        replace y1 := cell_b HB.out y1
        replace y2 := cell_b HB.out y2
        have hlen : ((joinFlags la lb).take i).length = i := by rw [List.length_take, joinFlags_len]; omega
        have HLE := Aside.mk hlen
        have HLL : Aside (la.length ≤ 4000000) := ⟨hl⟩
        clear hlen
        go_wp2
        refine zBegin (S := (fun w' => w'.cell? (a1.add (i * 3)) = some (.int .i64 m.v) ∧ w'.cell? ⟨(a1.add (i * 3)).block, (a1.add (i * 3)).off + 1, none⟩ = some (.int .i64 m.t) ∧ w'.cell? ⟨(a1.add (i * 3)).block, (a1.add (i * 3)).off + 2, none⟩ = some (.int .i64 m.b) ∧ w'.cell? (a2.add (i * 3)) = some (.int .i64 n.v) ∧ w'.cell? ⟨(a2.add (i * 3)).block, (a2.add (i * 3)).off + 1, none⟩ = some (.int .i64 n.t) ∧ w'.cell? ⟨(a2.add (i * 3)).block, (a2.add (i * 3)).off + 2, none⟩ = some (.int .i64 n.b))) (z := 13) (by kernel_rfl) (by exact ⟨x0, x1, x2, y0, y1, y2⟩) (fun hHeld => ?_)
        refine zT 0 20 hHeld ?_
        refine zT 1 21 hHeld ?_
        refine zT 2 22 hHeld ?_
        refine zT 3 23 hHeld ?_
        refine zT 4 24 hHeld ?_
        refine zT 5 25 hHeld ?_
        refine zT 6 26 hHeld ?_
        refine zT 7 27 hHeld ?_
        refine zT 8 28 hHeld ?_
        refine zReady (rs := [9]) (by kernel_rfl) (by simp) ?_
        refine zOne (by decide) rfl (fun K hK => ?_) zNil
        go_simp
        refine (joinReg_calls _ m n).mono ?_; rintro e w2 ⟨rfl, hb⟩
        refine hK.out _ _ (by exact ⟨cell_b hb hHeld.1, cell_b hb hHeld.2.1, cell_b hb hHeld.2.2.1, cell_b hb hHeld.2.2.2.1, cell_b hb hHeld.2.2.2.2.1, cell_b hb hHeld.2.2.2.2.2⟩) (fun hHeld => ?_)
        clear hK K
        (try simp only [Act.put, List.setIfInBounds_toArray, List.set_cons_zero, List.set_cons_succ])
        have HBX := Aside.mk (below_step (w0 := wr) (below_drew (Below.refl _ _)) hb); clear hb; generalize joinReg m n = r at HT ⊢
        refine zReady (rs := [10]) (by kernel_rfl) (by simp) ?_
        refine zOne (by decide) rfl (fun K hK => ?_) zNil
        go_simp
        refine hK.out _ _ (by exact ⟨cell_alloc' hHeld.1 _, cell_alloc' hHeld.2.1 _, cell_alloc' hHeld.2.2.1 _, cell_alloc' hHeld.2.2.2.1 _, cell_alloc' hHeld.2.2.2.2.1 _, cell_alloc' hHeld.2.2.2.2.2 _⟩) (fun hHeld => ?_)
        clear hK K
        (try simp only [Act.put, List.setIfInBounds_toArray, List.set_cons_zero, List.set_cons_succ])
        refine zReady (rs := [11]) (by kernel_rfl) (by simp) ?_
        refine zOne (by decide) rfl (fun K hK => ?_) zNil
        refine step_snoc el_reg ow_reg (owRow_below ow_reg HO.out (below_alloc HBX.out (.cells #[.int .i64 r.v, .int .i64 r.t, .int .i64 r.b] 136))) (w0 := w) (y := r) (Dx := []) (cs := [.int .i64 r.v, .int .i64 r.t, .int .i64 r.b]) ⟨rfl, rfl⟩ (by rw [List.append_nil]; exact (HN.out.mono HBX.out.size).alloc _) (by have := HB.out.size; have := HBX.out.size; simp; omega) (.tmp 20) (.tmp 30) (by rfl) (by rfl) (by rfl) w2.heap.size (by rfl) (Loc.new w2 _ _) (by have := HLE.out; have := HLL.out; omega) (by have := HLE.out; have := HLL.out; omega) (w2.heap.size + 1) (by simp) (fun g cap w' D' hk1 hk2 hk3 hk => ?_)
        refine hK.out _ _ (by exact ⟨keep_cell hk hHeld.1 (fun hx => by have h1 : w.heap.size ≤ (a1.add (i * 3)).block := (HN.out.2 _ hx).1; have h2 := HK1.out; omega), keep_cell hk hHeld.2.1 (fun hx => by have h1 : w.heap.size ≤ (a1.add (i * 3)).block := (HN.out.2 _ hx).1; have h2 := HK1.out; omega), keep_cell hk hHeld.2.2.1 (fun hx => by have h1 : w.heap.size ≤ (a1.add (i * 3)).block := (HN.out.2 _ hx).1; have h2 := HK1.out; omega), keep_cell hk hHeld.2.2.2.1 (fun hx => by have h1 : w.heap.size ≤ (a2.add (i * 3)).block := (HN.out.2 _ hx).1; have h2 := HK2.out; omega), keep_cell hk hHeld.2.2.2.2.1 (fun hx => by have h1 : w.heap.size ≤ (a2.add (i * 3)).block := (HN.out.2 _ hx).1; have h2 := HK2.out; omega), keep_cell hk hHeld.2.2.2.2.2 (fun hx => by have h1 : w.heap.size ≤ (a2.add (i * 3)).block := (HN.out.2 _ hx).1; have h2 := HK2.out; omega)⟩) (fun hHeld => ?_)
        clear hK K
        (try simp only [Act.put, List.setIfInBounds_toArray, List.set_cons_zero, List.set_cons_succ])
        refine zT 12 5 hHeld ?_
        refine zDone (by kernel_rfl) ?_ _
        have HO3 := Aside.mk hk1
        have HN3 := Aside.mk hk2
        have HB3 : Aside (Below w.heap.size w w') := ⟨(below_alloc (below_step HB.out HBX.out) _).trans (hk.below (fun b hb => (HN.out.2 b hb).1) (by have := HB.out.size; have := HBX.out.size; simp; omega))⟩
        clear hHeld hk1 hk2 hk3 hk
        go_wp2
        go_roundw
        case rel => exact ⟨i + 1, _, _, _, _, by omega, by omega, by go_num, rfl, ⟨by have h := HO3.out; rw [List.length_take] at h; rw [HT.out]; exact h⟩, HN3, HB3⟩
        case measure => simp [intOf]; omega
      · have hz : i = lb.length := by omega
        have q2 : ¬ ((i : Int) < (lb.length : Int)) := by omega
        have HF : Aside (joinFlags la lb = (joinFlags la lb).take i) := ⟨by rw [List.take_of_length_le]; rw [joinFlags_len]; omega⟩
        clear hlt2 hz
        go_wp2
        go_ret
        exact ⟨_, D, rfl, by rw [HF.out]; exact HO.out, HN.out, HB.out⟩
    · have q1 : ¬ ((i : Int) < (la.length : Int)) := by omega
      have HF : Aside (joinFlags la lb = (joinFlags la lb).take i) := ⟨by rw [List.take_of_length_le]; rw [joinFlags_len]; omega⟩
      go_wp2
      go_ret
      exact ⟨_, D, rfl, by rw [HF.out]; exact HO.out, HN.out, HB.out⟩
set_option maxHeartbeats 2000000 in
set_option maxRecDepth 100000 in
theorem specJoinFlags_calls (w : World) (va vb : Value) (la lb : List Reg) (ha : rdRegs w va la) (hb : rdRegs w vb lb) (hl : la.length ≤ 4000000) : Calls Try.prog 105 #[va, vb] w (RetRow owRegs (joinFlags la lb) w) := by
  obtain ⟨A1, c1, rfl, _, hm1⟩ := rd_len ha
  obtain ⟨A2, c2, rfl, _, hm2⟩ := rd_len hb
  have HR1 := Aside.mk ha
  have HR2 := Aside.mk hb
  clear ha hb
  go_enter Try.func105, Try.ntmps105
  go_wp2
  go_loopw [5, 6] (fun v5 v6 wr => ∃ (i : Nat) (Av : Option Addr) (nv cv : Nat) (D : List Nat), i ≤ la.length ∧ i ≤ lb.length ∧ v6 = .int .i64 i ∧ v5 = .slice Av nv cv ∧ Aside (owRegs wr D (.slice Av nv cv) ((joinFlags la lb).take i)) ∧ Aside (New w wr D) ∧ Aside (Below w.heap.size w wr)) (fun _ v6 _ => la.length - (intOf v6).toNat)
  case atStart => exact ⟨0, _, _, _, [w.heap.size], by omega, by omega, rfl, rfl, ⟨by rw [List.take_zero]; exact owRow_lit0 w _ rfl⟩, ⟨new_lit0 w w _ _ rfl (Nat.le_refl _)⟩, ⟨by (repeat (first | (with_reducible exact HB.out) | (with_reducible exact Below.refl _ _) | (with_reducible refine below_set ?_ (by first | omega | (dsimp only; omega) | (simp; done) | (simp; omega)) _) | (with_reducible refine below_alloc ?_ _) | (with_reducible refine below_drewN ?_ _) | (with_reducible refine below_drew ?_)))⟩⟩
  case round =>
    obtain ⟨i, Av, nv, cv, D, hi1, hi2, rfl, rfl, HO, HN, HB⟩ := hrel
    by_cases hlt1 : i < la.length
    · have q1 : (i : Int) < (la.length : Int) := by omega
      by_cases hlt2 : i < lb.length
      · have q2 : (i : Int) < (lb.length : Int) := by omega
        have q0 : (0 : Int) ≤ (i : Int) := by omega
        obtain ⟨a1, e1, x0, x1, x2⟩ := rdRegs_at HR1.out i hlt1
        obtain ⟨a2, e2, y0, y1, y2⟩ := rdRegs_at HR2.out i hlt2
        subst e1 e2
        have HT := Aside.mk (joinFlags_take hlt1 hlt2)
        have HK1 := Aside.mk (World.block_lt_of_cell? w _ x0)
        have HK2 := Aside.mk (World.block_lt_of_cell? w _ y0)
        generalize la[i] = m at x0 x1 x2 HT
        generalize lb[i] = n at y0 y1 y2 HT
        replace x0 := cell_b HB.out x0
        replace x1 := cell_b HB.out x1
        replace x2 := cell_b HB.out x2
        replace y0 := cell_b HB.out y0
        replace y1 := cell_b HB.out y1
        replace y2 := cell_b HB.out y2
        have hlen : ((joinFlags la lb).take i).length = i := by rw [List.length_take, joinFlags_len]; omega
        have HLE := Aside.mk hlen
        have HLL : Aside (la.length ≤ 4000000) := ⟨hl⟩
        clear hlen
        go_wp2
        refine zBegin (S := (fun w' => w'.cell? (a1.add (i * 3)) = some (.int .i64 m.v) ∧ w'.cell? ⟨(a1.add (i * 3)).block, (a1.add (i * 3)).off + 1, none⟩ = some (.int .i64 m.t) ∧ w'.cell? ⟨(a1.add (i * 3)).block, (a1.add (i * 3)).off + 2, none⟩ = some (.int .i64 m.b) ∧ w'.cell? (a2.add (i * 3)) = some (.int .i64 n.v) ∧ w'.cell? ⟨(a2.add (i * 3)).block, (a2.add (i * 3)).off + 1, none⟩ = some (.int .i64 n.t) ∧ w'.cell? ⟨(a2.add (i * 3)).block, (a2.add (i * 3)).off + 2, none⟩ = some (.int .i64 n.b))) (z := 13) (by kernel_rfl) (by exact ⟨x0, x1, x2, y0, y1, y2⟩) (fun hHeld => ?_)
        refine zT 0 20 hHeld ?_
        refine zT 1 21 hHeld ?_
        refine zT 2 22 hHeld ?_
        refine zT 3 23 hHeld ?_
        refine zT 4 24 hHeld ?_
        refine zT 5 25 hHeld ?_
        refine zT 6 26 hHeld ?_
        refine zT 7 27 hHeld ?_
        refine zT 8 28 hHeld ?_
        refine zReady (rs := [9]) (by kernel_rfl) (by simp) ?_
        refine zOne (by decide) rfl (fun K hK => ?_) zNil
        go_simp
        refine (specJoinReg_calls _ m n).mono ?_; rintro e w2 ⟨rfl, hb⟩
        refine hK.out _ _ (by exact ⟨cell_b hb hHeld.1, cell_b hb hHeld.2.1, cell_b hb hHeld.2.2.1, cell_b hb hHeld.2.2.2.1, cell_b hb hHeld.2.2.2.2.1, cell_b hb hHeld.2.2.2.2.2⟩) (fun hHeld => ?_)
        clear hK K
        (try simp only [Act.put, List.setIfInBounds_toArray, List.set_cons_zero, List.set_cons_succ])
        have HBX := Aside.mk (below_step (w0 := wr) (below_drew (Below.refl _ _)) hb); clear hb; generalize joinReg m n = r at HT ⊢
        refine zReady (rs := [10]) (by kernel_rfl) (by simp) ?_
        refine zOne (by decide) rfl (fun K hK => ?_) zNil
        go_simp
        refine hK.out _ _ (by exact ⟨cell_alloc' hHeld.1 _, cell_alloc' hHeld.2.1 _, cell_alloc' hHeld.2.2.1 _, cell_alloc' hHeld.2.2.2.1 _, cell_alloc' hHeld.2.2.2.2.1 _, cell_alloc' hHeld.2.2.2.2.2 _⟩) (fun hHeld => ?_)
        clear hK K
        (try simp only [Act.put, List.setIfInBounds_toArray, List.set_cons_zero, List.set_cons_succ])
        refine zReady (rs := [11]) (by kernel_rfl) (by simp) ?_
        refine zOne (by decide) rfl (fun K hK => ?_) zNil
        refine step_snoc el_reg ow_reg (owRow_below ow_reg HO.out (below_alloc HBX.out (.cells #[.int .i64 r.v, .int .i64 r.t, .int .i64 r.b] 136))) (w0 := w) (y := r) (Dx := []) (cs := [.int .i64 r.v, .int .i64 r.t, .int .i64 r.b]) ⟨rfl, rfl⟩ (by rw [List.append_nil]; exact (HN.out.mono HBX.out.size).alloc _) (by have := HB.out.size; have := HBX.out.size; simp; omega) (.tmp 20) (.tmp 30) (by rfl) (by rfl) (by rfl) w2.heap.size (by rfl) (Loc.new w2 _ _) (by have := HLE.out; have := HLL.out; omega) (by have := HLE.out; have := HLL.out; omega) (w2.heap.size + 1) (by simp) (fun g cap w' D' hk1 hk2 hk3 hk => ?_)
        refine hK.out _ _ (by exact ⟨keep_cell hk hHeld.1 (fun hx => by have h1 : w.heap.size ≤ (a1.add (i * 3)).block := (HN.out.2 _ hx).1; have h2 := HK1.out; omega), keep_cell hk hHeld.2.1 (fun hx => by have h1 : w.heap.size ≤ (a1.add (i * 3)).block := (HN.out.2 _ hx).1; have h2 := HK1.out; omega), keep_cell hk hHeld.2.2.1 (fun hx => by have h1 : w.heap.size ≤ (a1.add (i * 3)).block := (HN.out.2 _ hx).1; have h2 := HK1.out; omega), keep_cell hk hHeld.2.2.2.1 (fun hx => by have h1 : w.heap.size ≤ (a2.add (i * 3)).block := (HN.out.2 _ hx).1; have h2 := HK2.out; omega), keep_cell hk hHeld.2.2.2.2.1 (fun hx => by have h1 : w.heap.size ≤ (a2.add (i * 3)).block := (HN.out.2 _ hx).1; have h2 := HK2.out; omega), keep_cell hk hHeld.2.2.2.2.2 (fun hx => by have h1 : w.heap.size ≤ (a2.add (i * 3)).block := (HN.out.2 _ hx).1; have h2 := HK2.out; omega)⟩) (fun hHeld => ?_)
        clear hK K
        (try simp only [Act.put, List.setIfInBounds_toArray, List.set_cons_zero, List.set_cons_succ])
        refine zT 12 5 hHeld ?_
        refine zDone (by kernel_rfl) ?_ _
        have HO3 := Aside.mk hk1
        have HN3 := Aside.mk hk2
        have HB3 : Aside (Below w.heap.size w w') := ⟨(below_alloc (below_step HB.out HBX.out) _).trans (hk.below (fun b hb => (HN.out.2 b hb).1) (by have := HB.out.size; have := HBX.out.size; simp; omega))⟩
        clear hHeld hk1 hk2 hk3 hk
        go_wp2
        go_roundw
        case rel => exact ⟨i + 1, _, _, _, _, by omega, by omega, by go_num, rfl, ⟨by have h := HO3.out; rw [List.length_take] at h; rw [HT.out]; exact h⟩, HN3, HB3⟩
        case measure => simp [intOf]; omega
      · have hz : i = lb.length := by omega
        have q2 : ¬ ((i : Int) < (lb.length : Int)) := by omega
        have HF : Aside (joinFlags la lb = (joinFlags la lb).take i) := ⟨by rw [List.take_of_length_le]; rw [joinFlags_len]; omega⟩
        clear hlt2 hz
        go_wp2
        go_ret
        exact ⟨_, D, rfl, by rw [HF.out]; exact HO.out, HN.out, HB.out⟩
    · have q1 : ¬ ((i : Int) < (la.length : Int)) := by omega
      have HF : Aside (joinFlags la lb = (joinFlags la lb).take i) := ⟨by rw [List.take_of_length_le]; rw [joinFlags_len]; omega⟩
      go_wp2
      go_ret
      exact ⟨_, D, rfl, by rw [HF.out]; exact HO.out, HN.out, HB.out⟩
end Go.Proofs.Ytjfjpabfkembcaa.H
