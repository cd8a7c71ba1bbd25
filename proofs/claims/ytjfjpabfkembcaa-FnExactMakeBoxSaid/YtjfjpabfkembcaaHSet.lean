/- Later, PutReg, the program's and the reference's: the walks. -/
import Derived.Test.YtjfjpabfkembcaaHOk2
import Derived.Test.YtjfjpabfkembcaaHCopy2
import Derived.Test.YtjfjpabfkembcaaHLoc
namespace Go.Proofs.Ytjfjpabfkembcaa.H
open Go.RowKit
set_option linter.unusedVariables false
set_option linter.unusedSimpArgs false
set_option maxHeartbeats 2000000 in
set_option maxRecDepth 100000 in
theorem later_calls (w : World) (t b t' b' : Int) : Calls Try.prog 173 #[.agg #[.int .i64 t, .int .i64 b], .agg #[.int .i64 t', .int .i64 b']] w (RetB (later t b t' b') w) := by
  have HE : Aside (later t b t' b' = (decide (t' < t) || (decide (t = t') && decide (b' < b)))) := ⟨by unfold later; first | rfl | (simp; done) | (congr 1; simp)⟩
  by_cases h1 : t' < t
  · rw [decide_eq_true h1] at HE
    go_enter Try.func173, Try.ntmps173
    go_wp2
    go_ret
    exact ⟨ret_b (by rw [HE.out]; simp), by (repeat (first | (with_reducible exact HB.out) | (with_reducible exact Below.refl _ _) | (with_reducible refine below_set ?_ (by first | omega | (dsimp only; omega) | (simp; done) | (simp; omega)) _) | (with_reducible refine below_alloc ?_ _) | (with_reducible refine below_drewN ?_ _) | (with_reducible refine below_drew ?_)))⟩
  · by_cases h2 : t = t'
    · rw [decide_eq_false h1, decide_eq_true h2] at HE
      go_enter Try.func173, Try.ntmps173
      go_wp2
      go_ret
      exact ⟨ret_b (by subst h2; rw [HE.out]; simp), by (repeat (first | (with_reducible exact HB.out) | (with_reducible exact Below.refl _ _) | (with_reducible refine below_set ?_ (by first | omega | (dsimp only; omega) | (simp; done) | (simp; omega)) _) | (with_reducible refine below_alloc ?_ _) | (with_reducible refine below_drewN ?_ _) | (with_reducible refine below_drew ?_)))⟩
    · rw [decide_eq_false h1, decide_eq_false h2] at HE
      go_enter Try.func173, Try.ntmps173
      go_wp2
      go_ret
      exact ⟨ret_b (by rw [HE.out]; simp), by (repeat (first | (with_reducible exact HB.out) | (with_reducible exact Below.refl _ _) | (with_reducible refine below_set ?_ (by first | omega | (dsimp only; omega) | (simp; done) | (simp; omega)) _) | (with_reducible refine below_alloc ?_ _) | (with_reducible refine below_drewN ?_ _) | (with_reducible refine below_drew ?_)))⟩
set_option maxHeartbeats 2000000 in
set_option maxRecDepth 100000 in
theorem specLater_calls (w : World) (t b t' b' : Int) : Calls Try.prog 176 #[.agg #[.int .i64 t, .int .i64 b], .agg #[.int .i64 t', .int .i64 b']] w (RetB (later t b t' b') w) := by
  have HE : Aside (later t b t' b' = (decide (t' < t) || (decide (t = t') && decide (b' < b)))) := ⟨by unfold later; first | rfl | (simp; done) | (congr 1; simp)⟩
  by_cases h1 : t = t'
  · have h2 : ¬ t' < t := by omega
    rw [decide_eq_false h2, decide_eq_true h1] at HE
    go_enter Try.func176, Try.ntmps176
    go_wp2
    go_ret
    exact ⟨ret_b (by subst h1; rw [HE.out]; simp), by (repeat (first | (with_reducible exact HB.out) | (with_reducible exact Below.refl _ _) | (with_reducible refine below_set ?_ (by first | omega | (dsimp only; omega) | (simp; done) | (simp; omega)) _) | (with_reducible refine below_alloc ?_ _) | (with_reducible refine below_drewN ?_ _) | (with_reducible refine below_drew ?_)))⟩
  · rw [decide_eq_false h1] at HE
    go_enter Try.func176, Try.ntmps176
    go_wp2
    go_ret
    exact ⟨ret_b (by rw [HE.out]; simp), by (repeat (first | (with_reducible exact HB.out) | (with_reducible exact Below.refl _ _) | (with_reducible refine below_set ?_ (by first | omega | (dsimp only; omega) | (simp; done) | (simp; omega)) _) | (with_reducible refine below_alloc ?_ _) | (with_reducible refine below_drewN ?_ _) | (with_reducible refine below_drew ?_)))⟩
theorem Loc.new3 (w : World) (o o1 o2 : Obj) (cs : Array Value) (t : TypeId) : Loc ((((w.alloc o).alloc o1).alloc o2).alloc (.cells cs t)) (w.heap.size + 1 + 1 + 1) cs t := by
  have h := Loc.new2 (w.alloc o) o1 o2 cs t
  rwa [show (w.alloc o).heap.size = w.heap.size + 1 by simp] at h
def RetReg (r : Reg) (w : World) (e : Ending) (w' : World) : Prop := e = .returned (.agg #[.int .i64 r.v, .int .i64 r.t, .int .i64 r.b]) ∧ Below w.heap.size w w'
set_option maxHeartbeats 2000000 in
set_option maxRecDepth 100000 in
theorem putReg_calls (w : World) (r : Reg) (n t b : Int) : Calls Try.prog 127 #[.agg #[.int .i64 r.v, .int .i64 r.t, .int .i64 r.b], .int .i64 n, .agg #[.int .i64 t, .int .i64 b]] w (RetReg (putReg r n t b) w) := by
  have HE : Aside (putReg r n t b = if later t b r.t r.b && regOk ⟨n, t, b⟩ then ⟨n, t, b⟩ else r) := ⟨rfl⟩
  have HV : Aside (regOk ⟨n, t, b⟩ = regOk ⟨n, t, b⟩) := ⟨rfl⟩
  rcases h1 : later t b r.t r.b with _ | _
  rotate_left
  rcases h2 : regOk ⟨n, t, b⟩ with _ | _
  all_goals
    rw [h1] at HE
    try rw [h2] at HE
    have HH := Aside.mk h1
    clear h1
    try (have HG := Aside.mk h2; clear h2)
    go_enter Try.func127, Try.ntmps127
    go_wp2_with (fail)
    refine (later_calls _ t b r.t r.b).mono ?_
    rintro e w1 ⟨rfl, hb⟩
    rw [HH.out]
    have L0 := Aside.mk (((((Loc.new w #[.int .i64 r.v, .int .i64 r.t, .int .i64 r.b] 136).alloc (.cells #[.int .i64 t, .int .i64 b] 29)).alloc (.cells #[.int .i64 0, .int .i64 0, .int .i64 0] 136)).alloc (.cells #[.int .i64 n, .int .i64 t, .int .i64 b] 136)).below hb)
    have L1 := Aside.mk (((Loc.new2 w (.cells #[.int .i64 r.v, .int .i64 r.t, .int .i64 r.b] 136) (.cells #[.int .i64 t, .int .i64 b] 29) #[.int .i64 0, .int .i64 0, .int .i64 0] 136).alloc (.cells #[.int .i64 n, .int .i64 t, .int .i64 b] 136)).below hb)
    have L2 := Aside.mk ((Loc.new3 w (.cells #[.int .i64 r.v, .int .i64 r.t, .int .i64 r.b] 136) (.cells #[.int .i64 t, .int .i64 b] 29) (.cells #[.int .i64 0, .int .i64 0, .int .i64 0] 136) #[.int .i64 n, .int .i64 t, .int .i64 b] 136).below hb)
    have HB := Aside.mk (below_step (w0 := w) (by (repeat (first | (with_reducible exact HB.out) | (with_reducible exact Below.refl _ _) | (with_reducible refine below_set ?_ (by first | omega | (dsimp only; omega) | (simp; done) | (simp; omega)) _) | (with_reducible refine below_alloc ?_ _) | (with_reducible refine below_drewN ?_ _) | (with_reducible refine below_drew ?_)))) hb)
    clear hb
    have l0 := L0.out.cells
    have l1 := L1.out.cells
    have l2 := L2.out.cells
    have q1 := L1.out.lt
    have f1 := L1.out.free
    go_wp2_with (go_at_call 130; refine (regOk_calls _ ⟨n, t, b⟩).mono ?_; rintro e w2 ⟨rfl, hb⟩; rw [HG.out]; replace L0 := Aside.mk (L0.out.below hb); replace L1 := Aside.mk (L1.out.below hb); replace L2 := Aside.mk (L2.out.below hb); replace HB := Aside.mk (below_step HB.out hb); clear l0 l1 l2 q1 f1 hb; have l0 := L0.out.cells; have l1 := L1.out.cells; have l2 := L2.out.cells; have q1 := L1.out.lt; have f1 := L1.out.free)
    first
      | (have HP : putReg r n t b = r := by rw [HE.out]; simp
         refine bodyPost_ret (v := .agg #[.int .i64 r.v, .int .i64 r.t, .int .i64 r.b]) (by simp [results, go_sem, l1, q1]) rfl ⟨by rw [HP], ?_⟩
         (repeat (first | (with_reducible exact HB.out) | (with_reducible exact Below.refl _ _) | (with_reducible refine below_set ?_ (by first | omega | (dsimp only; omega) | (simp; done) | (simp; omega)) _) | (with_reducible refine below_alloc ?_ _) | (with_reducible refine below_drewN ?_ _) | (with_reducible refine below_drew ?_))))
      | (have HP : putReg r n t b = ⟨n, t, b⟩ := by rw [HE.out]; simp
         refine bodyPost_ret (v := .agg #[.int .i64 n, .int .i64 t, .int .i64 b]) (by simp [results, go_sem, l1, q1]) rfl ⟨by rw [HP], ?_⟩
         (repeat (first | (with_reducible exact HB.out) | (with_reducible exact Below.refl _ _) | (with_reducible refine below_set ?_ (by first | omega | (dsimp only; omega) | (simp; done) | (simp; omega)) _) | (with_reducible refine below_alloc ?_ _) | (with_reducible refine below_drewN ?_ _) | (with_reducible refine below_drew ?_))))
set_option maxHeartbeats 2000000 in
set_option maxRecDepth 100000 in
theorem specPutReg_calls (w : World) (r : Reg) (n t b : Int) : Calls Try.prog 133 #[.agg #[.int .i64 r.v, .int .i64 r.t, .int .i64 r.b], .int .i64 n, .agg #[.int .i64 t, .int .i64 b]] w (RetReg (putReg r n t b) w) := by
  have HE : Aside (putReg r n t b = if later t b r.t r.b && regOk ⟨n, t, b⟩ then ⟨n, t, b⟩ else r) := ⟨rfl⟩
  have HV : Aside (regOk ⟨n, t, b⟩ = regOk ⟨n, t, b⟩) := ⟨rfl⟩
  rcases h1 : later t b r.t r.b with _ | _
  rotate_left
  rcases h2 : regOk ⟨n, t, b⟩ with _ | _
  all_goals
    rw [h1] at HE
    try rw [h2] at HE
    have HH := Aside.mk h1
    clear h1
    try (have HG := Aside.mk h2; clear h2)
    go_enter Try.func133, Try.ntmps133
    go_wp2_with (fail)
    refine (specLater_calls _ t b r.t r.b).mono ?_
    rintro e w1 ⟨rfl, hb⟩
    rw [HH.out]
    have L0 := Aside.mk (((((Loc.new w #[.int .i64 r.v, .int .i64 r.t, .int .i64 r.b] 136).alloc (.cells #[.int .i64 t, .int .i64 b] 29)).alloc (.cells #[.int .i64 0, .int .i64 0, .int .i64 0] 136)).alloc (.cells #[.int .i64 n, .int .i64 t, .int .i64 b] 136)).below hb)
    have L1 := Aside.mk (((Loc.new2 w (.cells #[.int .i64 r.v, .int .i64 r.t, .int .i64 r.b] 136) (.cells #[.int .i64 t, .int .i64 b] 29) #[.int .i64 0, .int .i64 0, .int .i64 0] 136).alloc (.cells #[.int .i64 n, .int .i64 t, .int .i64 b] 136)).below hb)
    have L2 := Aside.mk ((Loc.new3 w (.cells #[.int .i64 r.v, .int .i64 r.t, .int .i64 r.b] 136) (.cells #[.int .i64 t, .int .i64 b] 29) (.cells #[.int .i64 0, .int .i64 0, .int .i64 0] 136) #[.int .i64 n, .int .i64 t, .int .i64 b] 136).below hb)
    have HB := Aside.mk (below_step (w0 := w) (by (repeat (first | (with_reducible exact HB.out) | (with_reducible exact Below.refl _ _) | (with_reducible refine below_set ?_ (by first | omega | (dsimp only; omega) | (simp; done) | (simp; omega)) _) | (with_reducible refine below_alloc ?_ _) | (with_reducible refine below_drewN ?_ _) | (with_reducible refine below_drew ?_)))) hb)
    clear hb
    have l0 := L0.out.cells
    have l1 := L1.out.cells
    have l2 := L2.out.cells
    have q1 := L1.out.lt
    have f1 := L1.out.free
    go_wp2_with (go_at_call 134; refine (specRegOk_calls _ ⟨n, t, b⟩).mono ?_; rintro e w2 ⟨rfl, hb⟩; rw [HG.out]; replace L0 := Aside.mk (L0.out.below hb); replace L1 := Aside.mk (L1.out.below hb); replace L2 := Aside.mk (L2.out.below hb); replace HB := Aside.mk (below_step HB.out hb); clear l0 l1 l2 q1 f1 hb; have l0 := L0.out.cells; have l1 := L1.out.cells; have l2 := L2.out.cells; have q1 := L1.out.lt; have f1 := L1.out.free)
    first
      | (have HP : putReg r n t b = r := by rw [HE.out]; simp
         refine bodyPost_ret (v := .agg #[.int .i64 r.v, .int .i64 r.t, .int .i64 r.b]) (by simp [results, go_sem, l1, q1]) rfl ⟨by rw [HP], ?_⟩
         (repeat (first | (with_reducible exact HB.out) | (with_reducible exact Below.refl _ _) | (with_reducible refine below_set ?_ (by first | omega | (dsimp only; omega) | (simp; done) | (simp; omega)) _) | (with_reducible refine below_alloc ?_ _) | (with_reducible refine below_drewN ?_ _) | (with_reducible refine below_drew ?_))))
      | (have HP : putReg r n t b = ⟨n, t, b⟩ := by rw [HE.out]; simp
         refine bodyPost_ret (v := .agg #[.int .i64 n, .int .i64 t, .int .i64 b]) (by simp [results, go_sem, l1, q1]) rfl ⟨by rw [HP], ?_⟩
         (repeat (first | (with_reducible exact HB.out) | (with_reducible exact Below.refl _ _) | (with_reducible refine below_set ?_ (by first | omega | (dsimp only; omega) | (simp; done) | (simp; omega)) _) | (with_reducible refine below_alloc ?_ _) | (with_reducible refine below_drewN ?_ _) | (with_reducible refine below_drew ?_))))
end Go.Proofs.Ytjfjpabfkembcaa.H
