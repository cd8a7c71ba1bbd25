/- Copies of mails and boxes: the walks. -/
import Derived.Test.YtjfjpabfkembcaaHCopy
import Derived.Test.YtjfjpabfkembcaaHTo
import Derived.Deep.RegionHeld3
import Derived.Deep.AppendLies
namespace Go.Proofs.Ytjfjpabfkembcaa.H
open Go.RowKit
set_option linter.unusedVariables false
set_option linter.unusedSimpArgs false
theorem Loc.new1 (w : World) (o : Obj) (cs : Array Value) (t : TypeId) : Loc ((w.alloc o).alloc (.cells cs t)) (w.heap.size + 1) cs t := by
  have h := Loc.new (w.alloc o) cs t
  rwa [show (w.alloc o).heap.size = w.heap.size + 1 by simp] at h
theorem Loc.new2 (w : World) (o o1 : Obj) (cs : Array Value) (t : TypeId) : Loc (((w.alloc o).alloc o1).alloc (.cells cs t)) (w.heap.size + 1 + 1) cs t := by
  have h := Loc.new1 (w.alloc o) o1 cs t
  rwa [show (w.alloc o).heap.size = w.heap.size + 1 by simp] at h
set_option maxHeartbeats 2000000 in
set_option maxRecDepth 100000 in
theorem copyMail_calls (w : World) (fv : Value) (m : Mail) (h : rdRegs w fv m.fl) (hl : m.fl.length ≤ 4000000) :
    Calls Try.prog 107 #[.agg #[.int .i64 m.g, .int .i64 m.u, fv, .string m.tx]] w (RetMail w m) := by
  obtain ⟨A0, c0, rfl, _, _⟩ := rd_len h
  have HR := Aside.mk h
  clear h
  go_enter Try.func107, Try.ntmps107
  go_wp2_with (fail)
  refine (copyRegs_calls _ _ m.fl (rdRegs_mov (by (repeat (first | (with_reducible exact HB.out) | (with_reducible exact Below.refl _ _) | (with_reducible refine below_set ?_ (by first | omega | (dsimp only; omega) | (simp; done) | (simp; omega)) _) | (with_reducible refine below_alloc ?_ _) | (with_reducible refine below_drewN ?_ _) | (with_reducible refine below_drew ?_)))) HR.out) hl).mono ?_
  rintro e w' ⟨v', D, rfl, ho, hn, hb⟩
  obtain ⟨A', c', rfl, _, _⟩ := rd_len (owRow_rd ow_reg ho)
  have L0 := ((Loc.new w #[.int .i64 m.g, .int .i64 m.u, .slice A0 m.fl.length c0, .string m.tx] 58).alloc (.cells #[.int .i64 0, .int .i64 0, .slice none 0 0, .string ⟨#[]⟩] 58)).below hb
  have L1 := (Loc.new1 w (.cells #[.int .i64 m.g, .int .i64 m.u, .slice A0 m.fl.length c0, .string m.tx] 58) #[.int .i64 0, .int .i64 0, .slice none 0 0, .string ⟨#[]⟩] 58).below hb
  have l0 := L0.cells
  have l1 := L1.cells
  have f0 := L0.free
  have f1 := L1.free
  have k0 := L0.lt
  have k1 := L1.lt
  have HB := Aside.mk (below_step (w0 := w) (by (repeat (first | (with_reducible exact HB.out) | (with_reducible exact Below.refl _ _) | (with_reducible refine below_set ?_ (by first | omega | (dsimp only; omega) | (simp; done) | (simp; omega)) _) | (with_reducible refine below_alloc ?_ _) | (with_reducible refine below_drewN ?_ _) | (with_reducible refine below_drew ?_)))) hb)
  have HO := Aside.mk ho
  have HD : Aside (∀ b ∈ D, w.heap.size + 2 ≤ b) := ⟨fun b hb => by have := (hn.2 b hb).1; simp at this; omega⟩
  have HN := Aside.mk (hn.from (w0 := w) (by simp; omega))
  clear hb ho hn L0 L1
  go_wp2
  refine bodyPost_ret (v := .agg #[.int .i64 m.g, .int .i64 m.u, .slice A' m.fl.length c', .string m.tx]) (by simp [results, go_sem, l0, l1]) rfl ⟨_, D, rfl, ?_, ?_, ?_⟩
  · (repeat (first | (with_reducible exact HO.out) | (with_reducible refine owRow_far ow_reg (w.heap.size + 2) ?_ HD.out (by first | omega | (dsimp only; omega) | (simp; done) | (simp; omega)) _) | (with_reducible refine owRow_alloc ow_reg ?_ _)))
  · (repeat (first | (with_reducible exact HN.out) | (with_reducible refine New.set ?_ _ _) | (with_reducible refine New.alloc ?_ _) | (with_reducible refine New.drew ?_)))
  · (repeat (first | (with_reducible exact HB.out) | (with_reducible exact Below.refl _ _) | (with_reducible refine below_set ?_ (by first | omega | (dsimp only; omega) | (simp; done) | (simp; omega)) _) | (with_reducible refine below_alloc ?_ _) | (with_reducible refine below_drewN ?_ _) | (with_reducible refine below_drew ?_)))
set_option maxHeartbeats 2000000 in
set_option maxRecDepth 100000 in
theorem l05Copy_calls (w : World) (fv : Value) (m : Mail) (h : rdRegs w fv m.fl) (hl : m.fl.length ≤ 4000000) :
    Calls Try.prog 104 #[.agg #[.int .i64 m.g, .int .i64 m.u, fv, .string m.tx]] w (RetMail w m) := by
  obtain ⟨A0, c0, rfl, _, _⟩ := rd_len h
  have HR := Aside.mk h
  clear h
  go_enter Try.func104, Try.ntmps104
  go_wp2_with (fail)
  refine (l04Copy_calls _ _ m.fl (rdRegs_mov (by (repeat (first | (with_reducible exact HB.out) | (with_reducible exact Below.refl _ _) | (with_reducible refine below_set ?_ (by first | omega | (dsimp only; omega) | (simp; done) | (simp; omega)) _) | (with_reducible refine below_alloc ?_ _) | (with_reducible refine below_drewN ?_ _) | (with_reducible refine below_drew ?_)))) HR.out) hl).mono ?_
  rintro e w' ⟨v', D, rfl, ho, hn, hb⟩
  obtain ⟨A', c', rfl, _, _⟩ := rd_len (owRow_rd ow_reg ho)
  have L0 := ((Loc.new w #[.int .i64 m.g, .int .i64 m.u, .slice A0 m.fl.length c0, .string m.tx] 58).alloc (.cells #[.int .i64 0, .int .i64 0, .slice none 0 0, .string ⟨#[]⟩] 58)).below hb
  have L1 := (Loc.new1 w (.cells #[.int .i64 m.g, .int .i64 m.u, .slice A0 m.fl.length c0, .string m.tx] 58) #[.int .i64 0, .int .i64 0, .slice none 0 0, .string ⟨#[]⟩] 58).below hb
  have l0 := L0.cells
  have l1 := L1.cells
  have f0 := L0.free
  have f1 := L1.free
  have k0 := L0.lt
  have k1 := L1.lt
  have HB := Aside.mk (below_step (w0 := w) (by (repeat (first | (with_reducible exact HB.out) | (with_reducible exact Below.refl _ _) | (with_reducible refine below_set ?_ (by first | omega | (dsimp only; omega) | (simp; done) | (simp; omega)) _) | (with_reducible refine below_alloc ?_ _) | (with_reducible refine below_drewN ?_ _) | (with_reducible refine below_drew ?_)))) hb)
  have HO := Aside.mk ho
  have HD : Aside (∀ b ∈ D, w.heap.size + 2 ≤ b) := ⟨fun b hb => by have := (hn.2 b hb).1; simp at this; omega⟩
  have HN := Aside.mk (hn.from (w0 := w) (by simp; omega))
  clear hb ho hn L0 L1
  go_wp2
  refine bodyPost_ret (v := .agg #[.int .i64 m.g, .int .i64 m.u, .slice A' m.fl.length c', .string m.tx]) (by simp [results, go_sem, l0, l1]) rfl ⟨_, D, rfl, ?_, ?_, ?_⟩
  · (repeat (first | (with_reducible exact HO.out) | (with_reducible refine owRow_far ow_reg (w.heap.size + 2) ?_ HD.out (by first | omega | (dsimp only; omega) | (simp; done) | (simp; omega)) _) | (with_reducible refine owRow_alloc ow_reg ?_ _)))
  · (repeat (first | (with_reducible exact HN.out) | (with_reducible refine New.set ?_ _ _) | (with_reducible refine New.alloc ?_ _) | (with_reducible refine New.drew ?_)))
  · (repeat (first | (with_reducible exact HB.out) | (with_reducible exact Below.refl _ _) | (with_reducible refine below_set ?_ (by first | omega | (dsimp only; omega) | (simp; done) | (simp; omega)) _) | (with_reducible refine below_alloc ?_ _) | (with_reducible refine below_drewN ?_ _) | (with_reducible refine below_drew ?_)))
end Go.Proofs.Ytjfjpabfkembcaa.H
