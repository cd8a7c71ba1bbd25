/- NextStamp, orElse: the walks. -/
import Derived.Test.YtjfjpabfkembcaaHStoreOk
import Derived.Test.YtjfjpabfkembcaaHStoreOkS
import Derived.Test.YtjfjpabfkembcaaHL07Copy
import Derived.Test.YtjfjpabfkembcaaHPure2
import Derived.Test.YtjfjpabfkembcaaHCopySt2
import Derived.Test.YtjfjpabfkembcaaHOwn3
namespace Go.Proofs.Ytjfjpabfkembcaa.H
open Go.RowKit
set_option linter.unusedVariables false
set_option linter.unusedSimpArgs false
/-- What a function that changes a store hands back; its blocks are new since w0. -/
def RetStoreB (w0 w : World) (r : Store × Bool) (e : Ending) (w' : World) : Prop := ∃ bv gv D, e = .returned (.tuple #[.agg #[.int .i64 r.1.by_, .int .i64 r.1.tm, bv, gv], .bool r.2]) ∧
  owStore w' D [.int .i64 r.1.by_, .int .i64 r.1.tm, bv, gv] r.1 ∧ New w0 w' D ∧ Below w.heap.size w w'
set_option maxHeartbeats 2000000 in
set_option maxRecDepth 100000 in
theorem nextStamp_calls (w : World) (s : Store) (A : Option Addr) (n c : Nat) (A' : Option Addr) (n' c' : Nat) (h0 : 0 ≤ s.tm) (h1 : s.tm ≤ 100000) :
    Calls Try.prog 98 #[.agg #[.int .i64 s.by_, .int .i64 s.tm, .slice A n c, .slice A' n' c']] w fun e w' => e = .returned (.agg #[.int .i64 (s.tm + 1), .int .i64 s.by_]) ∧ Below w.heap.size w w' := by
  go_enter Try.func98, Try.ntmps98
  go_wp2
  refine bodyPost_ret (v := .agg #[.int .i64 (s.tm + 1), .int .i64 s.by_]) (by simp [results, go_sem]) rfl ⟨rfl, ?_⟩
  (repeat (first | (with_reducible exact HB.out) | (with_reducible exact Below.refl _ _) | (with_reducible refine below_set ?_ (by first | omega | (dsimp only; omega) | (simp; done) | (simp; omega)) _) | (with_reducible refine below_alloc ?_ _) | (with_reducible refine below_drewN ?_ _) | (with_reducible refine below_drew ?_)))
set_option maxHeartbeats 2000000 in
set_option maxRecDepth 100000 in
theorem specNextStamp_calls (w : World) (s : Store) (A : Option Addr) (n c : Nat) (A' : Option Addr) (n' c' : Nat) (h0 : 0 ≤ s.tm) (h1 : s.tm ≤ 100000) :
    Calls Try.prog 91 #[.agg #[.int .i64 s.by_, .int .i64 s.tm, .slice A n c, .slice A' n' c']] w fun e w' => e = .returned (.agg #[.int .i64 (s.tm + 1), .int .i64 s.by_]) ∧ Below w.heap.size w w' := by
  go_enter Try.func91, Try.ntmps91
  go_wp2
  refine bodyPost_ret (v := .agg #[.int .i64 (s.tm + 1), .int .i64 s.by_]) (by simp [results, go_sem]) rfl ⟨rfl, ?_⟩
  (repeat (first | (with_reducible exact HB.out) | (with_reducible exact Below.refl _ _) | (with_reducible refine below_set ?_ (by first | omega | (dsimp only; omega) | (simp; done) | (simp; omega)) _) | (with_reducible refine below_alloc ?_ _) | (with_reducible refine below_drewN ?_ _) | (with_reducible refine below_drew ?_)))
set_option maxHeartbeats 2000000 in
set_option maxRecDepth 100000 in
theorem orElse_calls (w0 w : World) (ov og bv gv : Value) (o s : Store) (D : List Nat) (ho : owStore w D [.int .i64 o.by_, .int .i64 o.tm, ov, og] o) (hN : New w0 w D) (hw : w0.heap.size ≤ w.heap.size) (hto : ∀ b ∈ o.bx, txBox b)
    (h : rdBoxes w bv s.bx) (hg : rdInts w gv s.go) (hs : smStore s) :
    Calls Try.prog 99 #[.agg #[.int .i64 o.by_, .int .i64 o.tm, ov, og], .agg #[.int .i64 s.by_, .int .i64 s.tm, bv, gv]] w (RetStoreB w0 w (orElse o s)) := by
  obtain ⟨A0, c0, A1, c1, D0, D1, rfl, rfl, rfl, ho0, ho1⟩ := store_slices ho
  obtain ⟨A2, c2, rfl, _, _⟩ := rd_len h
  obtain ⟨A3, c3, rfl, _, _⟩ := rd_len hg
  have HO0 := Aside.mk ho0
  have HO1 := Aside.mk ho1
  have HN := Aside.mk hN
  have HR := Aside.mk h
  have HG := Aside.mk hg
  have HL := Aside.mk hs
  have HTO := Aside.mk hto
  have HW := Aside.mk hw
  clear ho ho0 ho1 hN h hg hs hto hw
  rcases h1 : storeOk o with _ | _
  all_goals
    have HK := Aside.mk h1
    clear h1
    go_enter Try.func99, Try.ntmps99
    go_wp2_with (fail)
    refine (storeOk_calls _ _ _ o (rdBoxes_mov (by (repeat (first | (with_reducible exact HB.out) | (with_reducible exact Below.refl _ _) | (with_reducible refine below_set ?_ (by first | omega | (dsimp only; omega) | (simp; done) | (simp; omega)) _) | (with_reducible refine below_alloc ?_ _) | (with_reducible refine below_drewN ?_ _) | (with_reducible refine below_drew ?_)))) (owRow_rd ow_box HO0.out)) (rdInts_mov (by (repeat (first | (with_reducible exact HB.out) | (with_reducible exact Below.refl _ _) | (with_reducible refine below_set ?_ (by first | omega | (dsimp only; omega) | (simp; done) | (simp; omega)) _) | (with_reducible refine below_alloc ?_ _) | (with_reducible refine below_drewN ?_ _) | (with_reducible refine below_drew ?_)))) (owRow_rd ow_int HO1.out)) HTO.out).mono ?_
    rintro e w1 ⟨he, hb⟩
    rw [HK.out] at he
    subst he
    have L0 := Aside.mk ((((Loc.new w #[.int .i64 o.by_, .int .i64 o.tm, .slice A0 o.bx.length c0, .slice A1 o.go.length c1] 45).alloc (.cells #[.int .i64 s.by_, .int .i64 s.tm, .slice A2 s.bx.length c2, .slice A3 s.go.length c3] 45)).alloc (.cells #[.int .i64 0, .int .i64 0, .slice none 0 0, .slice none 0 0] 45)).below hb)
    have L1 := Aside.mk (((Loc.new1 w (.cells #[.int .i64 o.by_, .int .i64 o.tm, .slice A0 o.bx.length c0, .slice A1 o.go.length c1] 45) #[.int .i64 s.by_, .int .i64 s.tm, .slice A2 s.bx.length c2, .slice A3 s.go.length c3] 45).alloc (.cells #[.int .i64 0, .int .i64 0, .slice none 0 0, .slice none 0 0] 45)).below hb)
    have L2 := Aside.mk ((Loc.new2 w (.cells #[.int .i64 o.by_, .int .i64 o.tm, .slice A0 o.bx.length c0, .slice A1 o.go.length c1] 45) (.cells #[.int .i64 s.by_, .int .i64 s.tm, .slice A2 s.bx.length c2, .slice A3 s.go.length c3] 45) #[.int .i64 0, .int .i64 0, .slice none 0 0, .slice none 0 0] 45).below hb)
    have HB := Aside.mk (below_step (w0 := w) (by (repeat (first | (with_reducible exact HB.out) | (with_reducible exact Below.refl _ _) | (with_reducible refine below_set ?_ (by first | omega | (dsimp only; omega) | (simp; done) | (simp; omega)) _) | (with_reducible refine below_alloc ?_ _) | (with_reducible refine below_drewN ?_ _) | (with_reducible refine below_drew ?_)))) hb)
    clear hb
    have l0 := L0.out.cells
    have l1 := L1.out.cells
    have l2 := L2.out.cells
    have q2 := L2.out.lt
    have f2 := L2.out.free
  · have HE : Aside (orElse o s = (s, false)) := ⟨by unfold orElse; rw [HK.out]; rfl⟩
    go_wp2_with (fail)
    refine (copyStore_calls _ _ _ s (rdBoxes_mov HB.out HR.out) (rdInts_mov HB.out HG.out) HL.out).mono ?_
    rintro e w2 ⟨mx, gx, E, rfl, ho, hn, hb⟩
    obtain ⟨Am, cm, Ag, cg, E0, E1, rfl, rfl, rfl, hom, hog⟩ := store_slices ho
    have HOm := Aside.mk hom
    have HOg := Aside.mk hog
    have HEm : Aside (∀ x ∈ E0, w.heap.size + 3 ≤ x) := ⟨fun x hx => by have := (hn.2 x (by simp [hx])).1; omega⟩
    have HEg : Aside (∀ x ∈ E1, w.heap.size + 3 ≤ x) := ⟨fun x hx => by have := (hn.2 x (by simp [hx])).1; omega⟩
    have HNx := Aside.mk (hn.from (w0 := w0) (by have := HW.out; have := HB.out.size; omega))
    replace L2 := Aside.mk (L2.out.below hb)
    replace HB := Aside.mk (below_step HB.out hb)
    clear hom hog ho hn hb l0 l1 l2 q2 f2
    have l2 := L2.out.cells
    have q2 := L2.out.lt
    have f2 := L2.out.free
    go_wp2
    refine bodyPost_ret (v := .tuple #[.agg #[.int .i64 s.by_, .int .i64 s.tm, .slice Am s.bx.length cm, .slice Ag s.go.length cg], .bool false]) (by simp [results, go_sem, l2, q2]) rfl ?_
    rw [HE.out]
    refine ⟨_, _, E0 ++ E1, rfl, ⟨_, _, E0, E1, rfl, rfl, ?_, ?_⟩, ?_, ?_⟩
    · (repeat (first | (with_reducible exact HOm.out) | (with_reducible refine owRow_far ow_box (w.heap.size + 3) ?_ HEm.out (by first | omega | (dsimp only; omega) | (simp; done) | (simp; omega)) _) | (with_reducible refine owRow_alloc ow_box ?_ _)))
    · (repeat (first | (with_reducible exact HOg.out) | (with_reducible refine owRow_far ow_int (w.heap.size + 3) ?_ HEg.out (by first | omega | (dsimp only; omega) | (simp; done) | (simp; omega)) _) | (with_reducible refine owRow_alloc ow_int ?_ _)))
    · (repeat (first | (with_reducible exact HNx.out) | (with_reducible refine New.set ?_ _ _) | (with_reducible refine New.alloc ?_ _) | (with_reducible refine New.drew ?_)))
    · (repeat (first | (with_reducible exact HB.out) | (with_reducible exact Below.refl _ _) | (with_reducible refine below_set ?_ (by first | omega | (dsimp only; omega) | (simp; done) | (simp; omega)) _) | (with_reducible refine below_alloc ?_ _) | (with_reducible refine below_drewN ?_ _) | (with_reducible refine below_drew ?_)))
  · have HE : Aside (orElse o s = (o, true)) := ⟨by unfold orElse; rw [HK.out]; rfl⟩
    have HOx := Aside.mk (owRow_below ow_box HO0.out HB.out)
    have HOy := Aside.mk (owRow_below ow_int HO1.out HB.out)
    have HLT : Aside (∀ x ∈ D0 ++ D1, x < w.heap.size) := ⟨fun x hx => (HN.out.2 x hx).2⟩
    have HNx := Aside.mk (HN.out.mono HB.out.size)
    have HD0 : Aside (w.heap.size + 1 + 1 ∉ D0) := ⟨fun hx => by have h := HLT.out _ (List.mem_append.2 (.inl hx)); omega⟩
    have HD1 : Aside (w.heap.size + 1 + 1 ∉ D1) := ⟨fun hx => by have h := HLT.out _ (List.mem_append.2 (.inr hx)); omega⟩
    go_wp2
    refine bodyPost_ret (v := .tuple #[.agg #[.int .i64 o.by_, .int .i64 o.tm, .slice A0 o.bx.length c0, .slice A1 o.go.length c1], .bool true]) (by simp [results, go_sem, l2, q2]) rfl ?_
    rw [HE.out]
    refine ⟨_, _, D0 ++ D1, rfl, ⟨_, _, D0, D1, rfl, rfl, ?_, ?_⟩, ?_, ?_⟩
    · rw [setsc4]
      exact owRow_sets ow_box HOx.out HD0.out _ _
    · rw [setsc4]
      exact owRow_sets ow_int HOy.out HD1.out _ _
    · (repeat (first | (with_reducible exact HNx.out) | (with_reducible refine New.set ?_ _ _) | (with_reducible refine New.alloc ?_ _) | (with_reducible refine New.drew ?_)))
    · (repeat (first | (with_reducible exact HB.out) | (with_reducible exact Below.refl _ _) | (with_reducible refine below_set ?_ (by first | omega | (dsimp only; omega) | (simp; done) | (simp; omega)) _) | (with_reducible refine below_alloc ?_ _) | (with_reducible refine below_drewN ?_ _) | (with_reducible refine below_drew ?_)))
end Go.Proofs.Ytjfjpabfkembcaa.H
