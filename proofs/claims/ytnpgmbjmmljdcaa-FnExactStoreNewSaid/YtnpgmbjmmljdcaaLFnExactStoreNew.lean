/- StoreNew, the program's and the reference's, and the walk of its statement. -/
import Derived.Test.YtnpgmbjmmljdcaaHLoc
namespace Go.Proofs.Ytnpgmbjmmljdcaa.H
open Go.RowKit
set_option linter.unusedVariables false
set_option linter.unusedSimpArgs false
def newStore (b : Int) : Store := ⟨b, 0, [], []⟩
set_option maxHeartbeats 1000000 in
set_option maxRecDepth 100000 in
theorem specStoreNew_calls (w : World) (b : Int) : Calls Try.prog 23 #[.int .i64 b] w fun e w' => e = .returned (.agg #[.int .i64 b, .int .i64 0, .slice none 0 0, .slice none 0 0]) ∧ Below w.heap.size w w' := by
  go_enter Try.func23, Try.ntmps23
  go_wp2
  refine bodyPost_ret (v := .agg #[.int .i64 b, .int .i64 0, .slice none 0 0, .slice none 0 0]) (by simp [results, go_sem]) rfl ⟨rfl, ?_⟩
  (repeat (first | (with_reducible exact HB.out) | (with_reducible exact Below.refl _ _) | (with_reducible refine below_set ?_ (by first | omega | (dsimp only; omega) | (simp; done) | (simp; omega)) _) | (with_reducible refine below_alloc ?_ _) | (with_reducible refine below_drewN ?_ _) | (with_reducible refine below_drew ?_)))
set_option maxHeartbeats 1000000 in
set_option maxRecDepth 100000 in
theorem implStoreNew_calls (w : World) (b : Int) : Calls Try.prog 24 #[.int .i64 b] w fun e w' => e = .returned (.agg #[.int .i64 b, .int .i64 0, .slice none 0 0, .slice none 0 0]) ∧ Below w.heap.size w w' := by
  go_enter Try.func24, Try.ntmps24
  go_wp2
  refine bodyPost_ret (v := .agg #[.int .i64 b, .int .i64 0, .slice none 0 0, .slice none 0 0]) (by simp [results, go_sem]) rfl ⟨rfl, ?_⟩
  (repeat (first | (with_reducible exact HB.out) | (with_reducible exact Below.refl _ _) | (with_reducible refine below_set ?_ (by first | omega | (dsimp only; omega) | (simp; done) | (simp; omega)) _) | (with_reducible refine below_alloc ?_ _) | (with_reducible refine below_drewN ?_ _) | (with_reducible refine below_drew ?_)))
theorem own_new (w : World) (b : Int) : owStore w [] [.int .i64 b, .int .i64 0, .slice none 0 0, .slice none 0 0] (newStore b) := ⟨_, _, [], [], rfl, rfl, ow_nil _ _ _ _, ow_nil _ _ _ _⟩
theorem rd_new1 (w : World) : rdBoxes w (.slice none 0 0) [] := owRow_rd ow_box (ow_nil 55 _ _ _)
theorem rd_new2 (w : World) : rdInts w (.slice none 0 0) [] := owRow_rd ow_int (ow_nil 3 _ _ _)
set_option maxHeartbeats 1000000 in
set_option maxRecDepth 100000 in
theorem lawFnExactStoreNew (w : World) (b : Int) (hb0 : (Lit.int .i64 b).wf = true) : Calls Try.prog 4 #[.int .i64 b] w fun e w' => e = .returned (.bool true) ∧ Below w.heap.size w w' := by
  go_enter Try.func4, Try.ntmps4
  go_wp2_with (fail)
  refine (specStoreNew_calls _ _).mono ?_
  rintro e w1 ⟨rfl, hb⟩
  have HB := Aside.mk hb
  clear hb
  go_wp2_with (fail)
  refine (implStoreNew_calls _ _).mono ?_
  rintro e w2 ⟨rfl, hb⟩
  have L0 := Aside.mk ((Loc.new w1 #[.int .i64 b, .int .i64 0, .slice none 0 0, .slice none 0 0] 37).below hb)
  have l0 := L0.out.cells
  have q0 := L0.out.lt
  replace HB := Aside.mk (below_step (w0 := w) (by (repeat (first | (with_reducible exact HB.out) | (with_reducible exact Below.refl _ _) | (with_reducible refine below_set ?_ (by first | omega | (dsimp only; omega) | (simp; done) | (simp; omega)) _) | (with_reducible refine below_alloc ?_ _) | (with_reducible refine below_drewN ?_ _) | (with_reducible refine below_drew ?_)))) hb)
  clear hb
  go_wp2_with (fail)
  refine (eqStore_calls _ _ _ _ _ (newStore b) (rd_new1 _) (rd_new2 _) (rd_new1 _) (rd_new2 _)).mono ?_
  rintro e w3 ⟨rfl, hb⟩
  replace L0 := Aside.mk ((L0.out.alloc _).below hb)
  have L1 := Aside.mk ((Loc.new w2 #[.int .i64 b, .int .i64 0, .slice none 0 0, .slice none 0 0] 37).below hb)
  clear l0 q0
  have l0 := L0.out.cells
  have l1 := L1.out.cells
  replace HB := Aside.mk (below_step (w0 := w) (by (repeat (first | (with_reducible exact HB.out) | (with_reducible exact Below.refl _ _) | (with_reducible refine below_set ?_ (by first | omega | (dsimp only; omega) | (simp; done) | (simp; omega)) _) | (with_reducible refine below_alloc ?_ _) | (with_reducible refine below_drewN ?_ _) | (with_reducible refine below_drew ?_)))) hb)
  clear hb
  go_wp2_with (fail)
  refine (markStore_calls _ [] [] _ _ (newStore b) 1 (ow_nil _ _ _ _) (ow_nil _ _ _ _) List.nodup_nil (by decide) (by simp [newStore, cBoxes])).mono ?_
  rintro e w4 ⟨rfl, _, hk⟩
  replace L0 := Aside.mk (L0.out.keep hk (by simp))
  replace L1 := Aside.mk (L1.out.keep hk (by simp))
  clear l0 l1
  have l0 := L0.out.cells
  have l1 := L1.out.cells
  replace HB := Aside.mk (below_step HB.out hk.nil)
  clear hk
  rw [show (1 : Int) + cBoxes (newStore b).bx + ((newStore b).go.length : Int) = 1 from rfl]
  go_wp2_with (fail)
  refine (heldStore_calls _ _ _ (newStore b) 1 (rd_new1 _) (rd_new2 _) (by decide) (by simp [newStore, cBoxes])).mono ?_
  rintro e w5 ⟨rfl, hb⟩
  replace L0 := Aside.mk (L0.out.below hb)
  replace L1 := Aside.mk (L1.out.below hb)
  clear l0 l1
  have l0 := L0.out.cells
  have l1 := L1.out.cells
  replace HB := Aside.mk (below_step HB.out hb)
  clear hb
  rw [show (1 : Int) + cBoxes (newStore b).bx + ((newStore b).go.length : Int) = 1 from rfl]
  go_wp2_with (fail)
  refine (implStoreNew_calls _ _).mono ?_
  rintro e w6 ⟨rfl, hb⟩
  replace L0 := Aside.mk (L0.out.below hb)
  replace L1 := Aside.mk (L1.out.below hb)
  clear l0 l1
  have l0 := L0.out.cells
  have l1 := L1.out.cells
  have q0 := L0.out.lt
  have q1 := L1.out.lt
  replace HB := Aside.mk (below_step HB.out hb)
  clear hb
  go_wp2_with (fail)
  refine (eqStore_calls _ _ _ _ _ (newStore b) (rd_new1 _) (rd_new2 _) (rd_new1 _) (rd_new2 _)).mono ?_
  rintro e w7 ⟨rfl, hb⟩
  replace L0 := Aside.mk ((L0.out.alloc _).below hb)
  replace L1 := Aside.mk ((L1.out.alloc _).below hb)
  clear l0 l1 q0 q1
  have l0 := L0.out.cells
  have l1 := L1.out.cells
  replace HB := Aside.mk (below_step (w0 := w) (by (repeat (first | (with_reducible exact HB.out) | (with_reducible exact Below.refl _ _) | (with_reducible refine below_set ?_ (by first | omega | (dsimp only; omega) | (simp; done) | (simp; omega)) _) | (with_reducible refine below_alloc ?_ _) | (with_reducible refine below_drewN ?_ _) | (with_reducible refine below_drew ?_)))) hb)
  clear hb
  go_wp2_with (fail)
  refine (heldStore_calls _ _ _ (newStore b) 1 (rd_new1 _) (rd_new2 _) (by decide) (by simp [newStore, cBoxes])).mono ?_
  rintro e w8 ⟨rfl, hb⟩
  replace HB := Aside.mk (below_step HB.out hb)
  clear hb l0 l1
  rw [show (1 : Int) + cBoxes (newStore b).bx + ((newStore b).go.length : Int) = 1 from rfl]
  go_wp2
  go_ret
  exact ⟨rfl, HB.out⟩
end Go.Proofs.Ytnpgmbjmmljdcaa.H
