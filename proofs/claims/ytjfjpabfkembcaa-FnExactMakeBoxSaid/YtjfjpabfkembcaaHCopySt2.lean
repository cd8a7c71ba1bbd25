/- Copies of stores: the walks. -/
import Derived.Test.YtjfjpabfkembcaaHCopyStore
namespace Go.Proofs.Ytjfjpabfkembcaa.H
open Go.RowKit
set_option linter.unusedVariables false
set_option linter.unusedSimpArgs false
theorem New.app' {w0 w w1 : World} {D D' : List Nat} (h : New w0 w D) (hs : w0.heap.size ≤ w.heap.size) (h' : New w w1 D') (hs' : w.heap.size ≤ w1.heap.size) : New w0 w1 (D' ++ D) := by
  have k := New.app h hs h' hs'
  refine ⟨List.nodup_append.2 ⟨h'.1, h.1, fun a ha b hb e => ?_⟩, fun b hb => k.2 b (by rw [List.mem_append] at hb ⊢; exact hb.symm)⟩
  have := (h'.2 a ha).1
  have := (h.2 b hb).2
  omega
set_option maxHeartbeats 2000000 in
set_option maxRecDepth 100000 in
theorem copyStore_calls (w : World) (bv gv : Value) (s : Store) (h : rdBoxes w bv s.bx) (hg : rdInts w gv s.go) (hs : smStore s) :
    Calls Try.prog 93 #[.agg #[.int .i64 s.by_, .int .i64 s.tm, bv, gv]] w (RetStore w s) := by
  obtain ⟨A0, c0, rfl, _, _⟩ := rd_len h
  obtain ⟨A1, c1, rfl, _, _⟩ := rd_len hg
  have HR := Aside.mk h
  have HG := Aside.mk hg
  have HL := Aside.mk hs
  clear h hg hs
  obtain ⟨wz, hwz⟩ : ∃ wz : World, wz = (w.alloc (.cells #[.int .i64 s.by_, .int .i64 s.tm, .slice A0 s.bx.length c0, .slice A1 s.go.length c1] 45)).alloc (.cells #[.int .i64 0, .int .i64 0, .slice none 0 0, .slice none 0 0] 45) := ⟨_, rfl⟩
  have L0 := Aside.mk ((Loc.new w #[.int .i64 s.by_, .int .i64 s.tm, .slice A0 s.bx.length c0, .slice A1 s.go.length c1] 45).alloc (.cells #[.int .i64 0, .int .i64 0, .slice none 0 0, .slice none 0 0] 45))
  have L1 := Aside.mk (Loc.new1 w (.cells #[.int .i64 s.by_, .int .i64 s.tm, .slice A0 s.bx.length c0, .slice A1 s.go.length c1] 45) #[.int .i64 0, .int .i64 0, .slice none 0 0, .slice none 0 0] 45)
  have HB : Aside (Below w.heap.size w ((w.alloc (.cells #[.int .i64 s.by_, .int .i64 s.tm, .slice A0 s.bx.length c0, .slice A1 s.go.length c1] 45)).alloc (.cells #[.int .i64 0, .int .i64 0, .slice none 0 0, .slice none 0 0] 45))) := ⟨by (repeat (first | (with_reducible exact HB.out) | (with_reducible exact Below.refl _ _) | (with_reducible refine below_set ?_ (by first | omega | (dsimp only; omega) | (simp; done) | (simp; omega)) _) | (with_reducible refine below_alloc ?_ _) | (with_reducible refine below_drewN ?_ _) | (with_reducible refine below_drew ?_)))⟩
  rw [← hwz] at L0 L1 HB
  have HZ : Aside (wz.heap.size = w.heap.size + 2) := ⟨by rw [hwz]; simp⟩
  have HZ0 := Aside.mk (Below.refl wz.heap.size wz)
  have NN : Aside (New wz wz []) := ⟨⟨List.nodup_nil, by simp⟩⟩
  go_enter Try.func93, Try.ntmps93
  go_wp2
  rw [← hwz]
  clear hwz
  go_region_held3 (fun w' => w'.cell? ⟨w.heap.size, 0, none⟩ = some (.int .i64 s.by_) ∧ w'.cell? ⟨w.heap.size, 1, none⟩ = some (.int .i64 s.tm) ∧ w'.cell? ⟨w.heap.size, 2, none⟩ = some (.slice A0 s.bx.length c0) ∧ w'.cell? ⟨w.heap.size, 3, none⟩ = some (.slice A1 s.go.length c1))
    ((repeat' apply And.intro) <;> (first | (go_keep; done) | exact L0.out.cells 0 | exact L0.out.cells 1 | exact L0.out.cells 2 | exact L0.out.cells 3)) (first
    | (go_at_call 158; refine (copyBoxes_calls _ _ s.bx (rdBoxes_mov (by (repeat (first | (with_reducible exact HB.out) | (with_reducible exact Below.refl _ _) | (with_reducible refine below_set ?_ (by first | omega | (dsimp only; omega) | (simp; done) | (simp; omega)) _) | (with_reducible refine below_alloc ?_ _) | (with_reducible refine below_drewN ?_ _) | (with_reducible refine below_drew ?_)))) HR.out) HL.out.1.1 HL.out.1.2).mono ?_; rintro e w' ⟨xb, Db, rfl, ho, hn, hb⟩; obtain ⟨Ab, cb, rfl⟩ := cell_own ow_box ho; have HBn := Aside.mk (below_step (w0 := w) (by (repeat (first | (with_reducible exact HB.out) | (with_reducible exact Below.refl _ _) | (with_reducible refine below_set ?_ (by first | omega | (dsimp only; omega) | (simp; done) | (simp; omega)) _) | (with_reducible refine below_alloc ?_ _) | (with_reducible refine below_drewN ?_ _) | (with_reducible refine below_drew ?_)))) hb); have HOb := Aside.mk ho; (try (replace HOg := Aside.mk (owRow_below ow_int HOg.out hb))); (first | (have NN2 := Aside.mk (NN.out.app' HZ0.out.size hn hb.size); have HZ1 := Aside.mk (below_step HZ0.out hb); replace L0 := Aside.mk (L0.out.below hb); replace L1 := Aside.mk (L1.out.below hb)) | (have NN2 := Aside.mk (NN.out.drew.app' HZ0.out.size hn hb.size); have HZ1 := Aside.mk (below_step (below_drew HZ0.out) hb); replace L0 := Aside.mk (L0.out.drew.below hb); replace L1 := Aside.mk (L1.out.drew.below hb))); clear HB NN HZ0 ho hn; have HB := HBn; have NN := NN2; have HZ0 := HZ1; clear HBn NN2 HZ1; have l1 := L1.out.cells; have q1 := L1.out.lt; have f1 := L1.out.free)
    | (go_at_call 152; refine (copyInts_calls _ _ s.go (rdInts_mov (by (repeat (first | (with_reducible exact HB.out) | (with_reducible exact Below.refl _ _) | (with_reducible refine below_set ?_ (by first | omega | (dsimp only; omega) | (simp; done) | (simp; omega)) _) | (with_reducible refine below_alloc ?_ _) | (with_reducible refine below_drewN ?_ _) | (with_reducible refine below_drew ?_)))) HG.out) HL.out.2).mono ?_; rintro e w' ⟨xg, Dg, rfl, ho, hn, hb⟩; obtain ⟨Ag, cg, rfl⟩ := cell_own ow_int ho; have HBn := Aside.mk (below_step (w0 := w) (by (repeat (first | (with_reducible exact HB.out) | (with_reducible exact Below.refl _ _) | (with_reducible refine below_set ?_ (by first | omega | (dsimp only; omega) | (simp; done) | (simp; omega)) _) | (with_reducible refine below_alloc ?_ _) | (with_reducible refine below_drewN ?_ _) | (with_reducible refine below_drew ?_)))) hb); have HOg := Aside.mk ho; (try (replace HOb := Aside.mk (owRow_below ow_box HOb.out hb))); (first | (have NN2 := Aside.mk (NN.out.app HZ0.out.size hn hb.size); have HZ1 := Aside.mk (below_step HZ0.out hb); replace L0 := Aside.mk (L0.out.below hb); replace L1 := Aside.mk (L1.out.below hb)) | (have NN2 := Aside.mk (NN.out.drew.app HZ0.out.size hn hb.size); have HZ1 := Aside.mk (below_step (below_drew HZ0.out) hb); replace L0 := Aside.mk (L0.out.drew.below hb); replace L1 := Aside.mk (L1.out.drew.below hb))); clear HB NN HZ0 ho hn; have HB := HBn; have NN := NN2; have HZ0 := HZ1; clear HBn NN2 HZ1; have l1 := L1.out.cells; have q1 := L1.out.lt; have f1 := L1.out.free))
  all_goals
    clear hb
    have HN1 : Aside (New wz _ (Db ++ Dg)) := ⟨by simpa using NN.out⟩
    have HN0 := Aside.mk (HN1.out.from (w0 := w) (by have := HZ.out; omega))
    have HDb : Aside (∀ x ∈ Db, w.heap.size + 2 ≤ x) := ⟨fun x hx => by have := (HN1.out.2 x (by simp [hx])).1; have := HZ.out; omega⟩
    have HDg : Aside (∀ x ∈ Dg, w.heap.size + 2 ≤ x) := ⟨fun x hx => by have := (HN1.out.2 x (by simp [hx])).1; have := HZ.out; omega⟩
    go_wp2_with (fail)
    refine bodyPost_ret (v := .agg #[.int .i64 s.by_, .int .i64 s.tm, .slice Ab s.bx.length cb, .slice Ag s.go.length cg]) (by simp [results, go_sem, l1, q1]) rfl ⟨_, _, Db ++ Dg, rfl, ⟨_, _, Db, Dg, rfl, rfl, ?_, ?_⟩, ?_, ?_⟩
    · (repeat (first | (with_reducible exact HOb.out) | (with_reducible refine owRow_far ow_box (w.heap.size + 2) ?_ HDb.out (by first | omega | (dsimp only; omega) | (simp; done) | (simp; omega)) _) | (with_reducible refine owRow_alloc ow_box ?_ _)))
    · (repeat (first | (with_reducible exact HOg.out) | (with_reducible refine owRow_far ow_int (w.heap.size + 2) ?_ HDg.out (by first | omega | (dsimp only; omega) | (simp; done) | (simp; omega)) _) | (with_reducible refine owRow_alloc ow_int ?_ _)))
    · (repeat (first | (with_reducible exact HN0.out) | (with_reducible refine New.set ?_ _ _) | (with_reducible refine New.alloc ?_ _) | (with_reducible refine New.drew ?_)))
    · (repeat (first | (with_reducible exact HB.out) | (with_reducible exact Below.refl _ _) | (with_reducible refine below_set ?_ (by first | omega | (dsimp only; omega) | (simp; done) | (simp; omega)) _) | (with_reducible refine below_alloc ?_ _) | (with_reducible refine below_drewN ?_ _) | (with_reducible refine below_drew ?_)))
end Go.Proofs.Ytjfjpabfkembcaa.H
