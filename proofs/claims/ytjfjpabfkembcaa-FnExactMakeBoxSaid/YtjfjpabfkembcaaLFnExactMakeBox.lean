/- The walk of the statement on MakeBox. Printed by this session's gen_law.py. -/
import Derived.Test.YtjfjpabfkembcaaHLaw
import Derived.Test.YtjfjpabfkembcaaHMakeBox
import Derived.Deep.DeepCutAuto
namespace Go.Proofs.Ytjfjpabfkembcaa.H
open Go.RowKit
set_option linter.unusedVariables false
set_option linter.unusedSimpArgs false
set_option maxHeartbeats 20000000 in
set_option maxRecDepth 100000 in
theorem lawFnExactMakeBox (w : World) (mv gv : Value) (s : Store) (h : rdBoxes w mv s.bx) (hg : rdInts w gv s.go) (ht : tmStore s) (g : Int) (_ : (Lit.int .i64 g).wf = true) (tx : ByteArray) (htx : tx.size ≤ 140737488351232) :
    Calls Try.prog 4 #[.agg #[.int .i64 s.by_, .int .i64 s.tm, mv, gv], .int .i64 g, .string tx] w fun e w' => e = .returned (.bool true) ∧ Below w.heap.size w w' := by
  obtain ⟨rb, ok, HRR⟩ : ∃ rb ok, Aside (makeBox s g tx = (rb, ok)) := ⟨_, _, ⟨rfl⟩⟩
  obtain ⟨Ap0, cp0, rfl, _, hm⟩ := rd_len h
  obtain ⟨Ap1, cp1, rfl, _, _⟩ := rd_len hg
  have HR := Aside.mk h
  have HG := Aside.mk hg
  have HT := Aside.mk ht
  clear h hg ht
  obtain ⟨wz, hwz⟩ : ∃ wz : World, wz.heap.size = w.heap.size + 1 := ⟨((w.alloc (.cells #[] 0))), by simp⟩
  have HZ := Aside.mk hwz
  clear hwz
  by_cases htl : (1048576 : Int) < (tx.size : Int)
  · go_enter Try.func4, Try.ntmps4
    go_wp2
    go_ret
    exact ⟨rfl, by (repeat (first | (with_reducible exact HB.out) | (with_reducible exact Below.refl _ _) | (with_reducible refine below_set ?_ (by first | omega | (dsimp only; omega) | (simp; done) | (simp; omega)) _) | (with_reducible refine below_alloc ?_ _) | (with_reducible refine below_drewN ?_ _) | (with_reducible refine below_drew ?_)))⟩
  have htx : tx.size ≤ 9223372036854775807 := by omega
  go_enter Try.func4, Try.ntmps4
  go_wp2_with (fail)
  refine (szStore_calls _ _ _ s _ (rdBoxes_mov (by (repeat (first | (with_reducible exact HB.out) | (with_reducible exact Below.refl _ _) | (with_reducible refine below_set ?_ (by first | omega | (dsimp only; omega) | (simp; done) | (simp; omega)) _) | (with_reducible refine below_alloc ?_ _) | (with_reducible refine below_drewN ?_ _) | (with_reducible refine below_drew ?_)))) HR.out) (rdInts_mov (by (repeat (first | (with_reducible exact HB.out) | (with_reducible exact Below.refl _ _) | (with_reducible refine below_set ?_ (by first | omega | (dsimp only; omega) | (simp; done) | (simp; omega)) _) | (with_reducible refine below_alloc ?_ _) | (with_reducible refine below_drewN ?_ _) | (with_reducible refine below_drew ?_)))) HG.out) HT.out (by decide) (by decide)).mono ?_
  rintro e w1 ⟨lf, rfl, hsz, hb⟩
  have L0 := Aside.mk ((Loc.new w #[.int .i64 s.by_, .int .i64 s.tm, .slice Ap0 s.bx.length cp0, .slice Ap1 s.go.length cp1] 41).below hb)
  have HB := Aside.mk (below_step (w0 := w) (by (repeat (first | (with_reducible exact HB.out) | (with_reducible exact Below.refl _ _) | (with_reducible refine below_set ?_ (by first | omega | (dsimp only; omega) | (simp; done) | (simp; omega)) _) | (with_reducible refine below_alloc ?_ _) | (with_reducible refine below_drewN ?_ _) | (with_reducible refine below_drew ?_)))) hb)
  have HS1 : Aside (wz.heap.size ≤ w1.heap.size) := ⟨by have := hb.size; have := HZ.out; simp at *; omega⟩
  clear hb
  (try clear l0)
  (try clear q0)
  (try clear f0)
  have l0 := L0.out.cells
  have q0 := L0.out.lt
  have f0 := L0.out.free
  by_cases hneg : lf < 0
  · go_wp2
    go_ret
    exact ⟨rfl, HB.out⟩
  have HS := Aside.mk (sz_le hsz hneg)
  have HL := Aside.mk (smStore_of_sz HS.out)
  have HTX : Aside (∀ b ∈ s.bx, txBox b) := ⟨fun b hb => tx_of_tm (HT.out b hb)⟩
  have HCB := Aside.mk (cStore_of_sz HS.out)
  have HCR := Aside.mk (makeBox_small HRR.out HS.out)
  clear hsz
  have HWL : Aside (wz.heap.size ≤ w1.heap.size) := HS1
  go_wp2_with (fail)
  refine (toStore_calls _ _ _ s (rdBoxes_mov HB.out HR.out) (rdInts_mov HB.out HG.out) HL.out).mono ?_
  rintro e wa ⟨mx, gx, D, rfl, ho, hn, hb⟩
  obtain ⟨Aa0, ca0, Aa1, ca1, Da0, Da1, rfl, rfl, _, ha0, ha1⟩ := store_slices ho
  have Ha0 := Aside.mk (owRow_rd ow_box ha0)
  have Ha1 := Aside.mk (owRow_rd ow_int ha1)
  have LLa := Aside.mk hb.size
  clear ho hn ha0 ha1
  replace L0 := Aside.mk (L0.out.below hb)
  replace HB := Aside.mk (below_step HB.out hb)
  (try clear l0)
  (try clear q0)
  (try clear f0)
  have l0 := L0.out.cells
  have q0 := L0.out.lt
  have f0 := L0.out.free
  clear hb
  replace HWL : Aside (wz.heap.size ≤ wa.heap.size) := ⟨by have := HWL.out; have := LLa.out; omega⟩
  clear LLa
  go_wp2_with (fail)
  refine (specMakeBox_calls _ _ _ s g tx Ha0.out Ha1.out HL.out HTX.out htx).mono ?_
  rintro e wW ⟨mx, gx, D, he, ho, hn, hb⟩
  rw [HRR.out] at he ho
  dsimp only at he ho
  subst he
  obtain ⟨AW0, cW0, AW1, cW1, DW0, DW1, rfl, rfl, rfl, hW0, hW1⟩ := store_slices ho
  have LLW := Aside.mk hb.size
  have ANW := Aside.mk hn
  replace L0 := Aside.mk (L0.out.below hb)
  replace HB := Aside.mk (below_step HB.out hb)
  (try clear l0)
  (try clear q0)
  (try clear f0)
  have l0 := L0.out.cells
  have q0 := L0.out.lt
  have f0 := L0.out.free
  clear hb
  have HW0 := Aside.mk hW0
  have HW1 := Aside.mk hW1
  have NW : Aside (New wz wW (DW0 ++ DW1)) := ⟨ANW.out.from (by have := HWL.out; omega)⟩
  clear ho hn hW0 hW1
  go_wp2_with (fail)
  replace L0 := Aside.mk (L0.out.alloc (.cells #[.int .i64 rb.by_, .int .i64 rb.tm, .slice AW0 rb.bx.length cW0, .slice AW1 rb.go.length cW1] 45))
  replace HW0 := Aside.mk (owRow_alloc ow_box HW0.out (.cells #[.int .i64 rb.by_, .int .i64 rb.tm, .slice AW0 rb.bx.length cW0, .slice AW1 rb.go.length cW1] 45))
  replace HW1 := Aside.mk (owRow_alloc ow_int HW1.out (.cells #[.int .i64 rb.by_, .int .i64 rb.tm, .slice AW0 rb.bx.length cW0, .slice AW1 rb.go.length cW1] 45))
  replace NW := Aside.mk (NW.out.alloc (.cells #[.int .i64 rb.by_, .int .i64 rb.tm, .slice AW0 rb.bx.length cW0, .slice AW1 rb.go.length cW1] 45))
  have LW := Aside.mk (Loc.new wW #[.int .i64 rb.by_, .int .i64 rb.tm, .slice AW0 rb.bx.length cW0, .slice AW1 rb.go.length cW1] 45)
  replace HB := Aside.mk (below_alloc HB.out (.cells #[.int .i64 rb.by_, .int .i64 rb.tm, .slice AW0 rb.bx.length cW0, .slice AW1 rb.go.length cW1] 45))
  have HWL2 : Aside (wz.heap.size ≤ (wW.alloc (.cells #[.int .i64 rb.by_, .int .i64 rb.tm, .slice AW0 rb.bx.length cW0, .slice AW1 rb.go.length cW1] 45)).heap.size) := ⟨by have := HWL.out; have := ANW.out; have := LLW.out; simp; omega⟩
  have HUW : Aside (∀ b, b < wa.heap.size → b < wW.heap.size) := ⟨fun b hb => by have := LLW.out; omega⟩
  obtain ⟨BW, hBW⟩ : ∃ BW, BW = wW.heap.size := ⟨_, rfl⟩
  have OW : Aside (BW ∉ DW0 ++ DW1 ∧ wz.heap.size ≤ BW) := ⟨fun hx => by have := (NW.out.2 _ hx).2; have := (ANW.out.2 _ hx).2; omega, by have := HWL.out; have := LLW.out; omega⟩
  rw [← hBW] at LW
  obtain ⟨vW, hvW⟩ : ∃ vW, vW = wW.alloc (.cells #[.int .i64 rb.by_, .int .i64 rb.tm, .slice AW0 rb.bx.length cW0, .slice AW1 rb.go.length cW1] 45) := ⟨_, rfl⟩
  rw [← hvW] at L0 LW HW0 HW1 NW HB HWL2
  try rw [← hBW]
  try rw [← hvW]
  clear hBW hvW HWL HUW ANW LLW
  have HWL := HWL2
  clear HWL2
  (try clear l0)
  (try clear q0)
  (try clear f0)
  (try clear lW)
  (try clear qW)
  (try clear fW)
  have l0 := L0.out.cells
  have q0 := L0.out.lt
  have f0 := L0.out.free
  have lW := LW.out.cells
  have qW := LW.out.lt
  have fW := LW.out.free
  clear Ha0 Ha1
  try clear HWL
  have HWL : Aside (wz.heap.size ≤ vW.heap.size) := ⟨by have := NW.out; have := OW.out; have := LW.out.lt; omega⟩
  have HBLW : Aside (BW < vW.heap.size) := ⟨LW.out.lt⟩
  have HNLW : Aside (∀ b ∈ DW0 ++ DW1, b < vW.heap.size) := ⟨fun b hb => (NW.out.2 b hb).2⟩
  go_wp2_with (fail)
  refine (toStore_calls _ _ _ s (rdBoxes_mov HB.out HR.out) (rdInts_mov HB.out HG.out) HL.out).mono ?_
  rintro e wX ⟨mx, gx, D, rfl, ho, hn, hb⟩
  obtain ⟨AX0, cX0, AX1, cX1, DX0, DX1, rfl, rfl, rfl, hX0, hX1⟩ := store_slices ho
  have LLX := Aside.mk hb.size
  have ANX := Aside.mk hn
  replace L0 := Aside.mk (L0.out.below hb)
  replace LW := Aside.mk (LW.out.below hb)
  replace HW0 := Aside.mk (owRow_below ow_box HW0.out hb)
  replace HW1 := Aside.mk (owRow_below ow_int HW1.out hb)
  replace NW := Aside.mk (NW.out.mono hb.size)
  replace HB := Aside.mk (below_step HB.out hb)
  (try clear l0)
  (try clear q0)
  (try clear f0)
  (try clear lW)
  (try clear qW)
  (try clear fW)
  have l0 := L0.out.cells
  have q0 := L0.out.lt
  have f0 := L0.out.free
  have lW := LW.out.cells
  have qW := LW.out.lt
  have fW := LW.out.free
  clear hb
  have APWX0 : Aside (BW ∉ DX0 ++ DX1 ∧ ∀ b ∈ DW0 ++ DW1, b ∉ DX0 ++ DX1) := ⟨fun hx => by have := (ANX.out.2 _ hx).1; have := HBLW.out; omega, fun b hb hx => by have := HNLW.out _ hb; have := (ANX.out.2 _ hx).1; omega⟩
  have HX0 := Aside.mk hX0
  have HX1 := Aside.mk hX1
  have NX : Aside (New wz wX (DX0 ++ DX1)) := ⟨ANX.out.from (by have := HWL.out; omega)⟩
  clear ho hn hX0 hX1
  go_wp2_with (fail)
  replace L0 := Aside.mk (L0.out.alloc (.cells #[.int .i64 s.by_, .int .i64 s.tm, .slice AX0 s.bx.length cX0, .slice AX1 s.go.length cX1] 45))
  replace LW := Aside.mk (LW.out.alloc (.cells #[.int .i64 s.by_, .int .i64 s.tm, .slice AX0 s.bx.length cX0, .slice AX1 s.go.length cX1] 45))
  replace HW0 := Aside.mk (owRow_alloc ow_box HW0.out (.cells #[.int .i64 s.by_, .int .i64 s.tm, .slice AX0 s.bx.length cX0, .slice AX1 s.go.length cX1] 45))
  replace HW1 := Aside.mk (owRow_alloc ow_int HW1.out (.cells #[.int .i64 s.by_, .int .i64 s.tm, .slice AX0 s.bx.length cX0, .slice AX1 s.go.length cX1] 45))
  replace NW := Aside.mk (NW.out.alloc (.cells #[.int .i64 s.by_, .int .i64 s.tm, .slice AX0 s.bx.length cX0, .slice AX1 s.go.length cX1] 45))
  replace HX0 := Aside.mk (owRow_alloc ow_box HX0.out (.cells #[.int .i64 s.by_, .int .i64 s.tm, .slice AX0 s.bx.length cX0, .slice AX1 s.go.length cX1] 45))
  replace HX1 := Aside.mk (owRow_alloc ow_int HX1.out (.cells #[.int .i64 s.by_, .int .i64 s.tm, .slice AX0 s.bx.length cX0, .slice AX1 s.go.length cX1] 45))
  replace NX := Aside.mk (NX.out.alloc (.cells #[.int .i64 s.by_, .int .i64 s.tm, .slice AX0 s.bx.length cX0, .slice AX1 s.go.length cX1] 45))
  have LX := Aside.mk (Loc.new wX #[.int .i64 s.by_, .int .i64 s.tm, .slice AX0 s.bx.length cX0, .slice AX1 s.go.length cX1] 45)
  replace HB := Aside.mk (below_alloc HB.out (.cells #[.int .i64 s.by_, .int .i64 s.tm, .slice AX0 s.bx.length cX0, .slice AX1 s.go.length cX1] 45))
  have HWL2 : Aside (wz.heap.size ≤ (wX.alloc (.cells #[.int .i64 s.by_, .int .i64 s.tm, .slice AX0 s.bx.length cX0, .slice AX1 s.go.length cX1] 45)).heap.size) := ⟨by have := HWL.out; have := ANX.out; have := LLX.out; simp; omega⟩
  have HUX : Aside (∀ b, b < vW.heap.size → b < wX.heap.size) := ⟨fun b hb => by have := LLX.out; omega⟩
  obtain ⟨BX, hBX⟩ : ∃ BX, BX = wX.heap.size := ⟨_, rfl⟩
  have OX : Aside (BX ∉ DX0 ++ DX1 ∧ wz.heap.size ≤ BX) := ⟨fun hx => by have := (NX.out.2 _ hx).2; have := (ANX.out.2 _ hx).2; omega, by have := HWL.out; have := LLX.out; omega⟩
  have APWX : Aside (BW ∉ DX0 ++ DX1 ∧ BX ∉ DW0 ++ DW1 ∧ ∀ b ∈ DW0 ++ DW1, b ∉ DX0 ++ DX1) := ⟨APWX0.out.1, fun hx => by have := HNLW.out _ hx; have := HUX.out _ this; omega, APWX0.out.2⟩
  clear APWX0
  rw [← hBX] at LX
  obtain ⟨vX, hvX⟩ : ∃ vX, vX = wX.alloc (.cells #[.int .i64 s.by_, .int .i64 s.tm, .slice AX0 s.bx.length cX0, .slice AX1 s.go.length cX1] 45) := ⟨_, rfl⟩
  rw [← hvX] at L0 LW LX HW0 HW1 HX0 HX1 NW NX HB HWL2
  try rw [← hBX]
  try rw [← hvX]
  clear hBX hvX HWL HUX ANX LLX
  have HWL := HWL2
  clear HWL2
  (try clear l0)
  (try clear q0)
  (try clear f0)
  (try clear lW)
  (try clear qW)
  (try clear fW)
  (try clear lX)
  (try clear qX)
  (try clear fX)
  have l0 := L0.out.cells
  have q0 := L0.out.lt
  have f0 := L0.out.free
  have lW := LW.out.cells
  have qW := LW.out.lt
  have fW := LW.out.free
  have lX := LX.out.cells
  have qX := LX.out.lt
  have fX := LX.out.free
  clear HBLW HNLW
  have HBLW : Aside (BW < vX.heap.size) := ⟨LW.out.lt⟩
  have HNLW : Aside (∀ b ∈ DW0 ++ DW1, b < vX.heap.size) := ⟨fun b hb => (NW.out.2 b hb).2⟩
  have HBLX : Aside (BX < vX.heap.size) := ⟨LX.out.lt⟩
  have HNLX : Aside (∀ b ∈ DX0 ++ DX1, b < vX.heap.size) := ⟨fun b hb => (NX.out.2 b hb).2⟩
  go_wp2_with (fail)
  refine (makeBox_calls _ _ _ s g tx (owRow_rd ow_box HX0.out) (owRow_rd ow_int HX1.out) HL.out HTX.out htx).mono ?_
  rintro e wG ⟨mx, gx, D, he, ho, hn, hb⟩
  rw [HRR.out] at he ho
  dsimp only at he ho
  subst he
  obtain ⟨AG0, cG0, AG1, cG1, DG0, DG1, rfl, rfl, rfl, hG0, hG1⟩ := store_slices ho
  have LLG := Aside.mk hb.size
  have ANG := Aside.mk hn
  replace L0 := Aside.mk (L0.out.below hb)
  replace LW := Aside.mk (LW.out.below hb)
  replace LX := Aside.mk (LX.out.below hb)
  replace HW0 := Aside.mk (owRow_below ow_box HW0.out hb)
  replace HW1 := Aside.mk (owRow_below ow_int HW1.out hb)
  replace NW := Aside.mk (NW.out.mono hb.size)
  replace HX0 := Aside.mk (owRow_below ow_box HX0.out hb)
  replace HX1 := Aside.mk (owRow_below ow_int HX1.out hb)
  replace NX := Aside.mk (NX.out.mono hb.size)
  replace HB := Aside.mk (below_step HB.out hb)
  (try clear l0)
  (try clear q0)
  (try clear f0)
  (try clear lW)
  (try clear qW)
  (try clear fW)
  (try clear lX)
  (try clear qX)
  (try clear fX)
  have l0 := L0.out.cells
  have q0 := L0.out.lt
  have f0 := L0.out.free
  have lW := LW.out.cells
  have qW := LW.out.lt
  have fW := LW.out.free
  have lX := LX.out.cells
  have qX := LX.out.lt
  have fX := LX.out.free
  clear hb
  have APWG0 : Aside (BW ∉ DG0 ++ DG1 ∧ ∀ b ∈ DW0 ++ DW1, b ∉ DG0 ++ DG1) := ⟨fun hx => by have := (ANG.out.2 _ hx).1; have := HBLW.out; omega, fun b hb hx => by have := HNLW.out _ hb; have := (ANG.out.2 _ hx).1; omega⟩
  have APXG0 : Aside (BX ∉ DG0 ++ DG1 ∧ ∀ b ∈ DX0 ++ DX1, b ∉ DG0 ++ DG1) := ⟨fun hx => by have := (ANG.out.2 _ hx).1; have := HBLX.out; omega, fun b hb hx => by have := HNLX.out _ hb; have := (ANG.out.2 _ hx).1; omega⟩
  have HG0 := Aside.mk hG0
  have HG1 := Aside.mk hG1
  have NG : Aside (New wz wG (DG0 ++ DG1)) := ⟨ANG.out.from (by have := HWL.out; omega)⟩
  clear ho hn hG0 hG1
  go_wp2_with (fail)
  replace L0 := Aside.mk (L0.out.alloc (.cells #[.int .i64 rb.by_, .int .i64 rb.tm, .slice AG0 rb.bx.length cG0, .slice AG1 rb.go.length cG1] 45))
  replace LW := Aside.mk (LW.out.alloc (.cells #[.int .i64 rb.by_, .int .i64 rb.tm, .slice AG0 rb.bx.length cG0, .slice AG1 rb.go.length cG1] 45))
  replace LX := Aside.mk (LX.out.alloc (.cells #[.int .i64 rb.by_, .int .i64 rb.tm, .slice AG0 rb.bx.length cG0, .slice AG1 rb.go.length cG1] 45))
  replace HW0 := Aside.mk (owRow_alloc ow_box HW0.out (.cells #[.int .i64 rb.by_, .int .i64 rb.tm, .slice AG0 rb.bx.length cG0, .slice AG1 rb.go.length cG1] 45))
  replace HW1 := Aside.mk (owRow_alloc ow_int HW1.out (.cells #[.int .i64 rb.by_, .int .i64 rb.tm, .slice AG0 rb.bx.length cG0, .slice AG1 rb.go.length cG1] 45))
  replace NW := Aside.mk (NW.out.alloc (.cells #[.int .i64 rb.by_, .int .i64 rb.tm, .slice AG0 rb.bx.length cG0, .slice AG1 rb.go.length cG1] 45))
  replace HX0 := Aside.mk (owRow_alloc ow_box HX0.out (.cells #[.int .i64 rb.by_, .int .i64 rb.tm, .slice AG0 rb.bx.length cG0, .slice AG1 rb.go.length cG1] 45))
  replace HX1 := Aside.mk (owRow_alloc ow_int HX1.out (.cells #[.int .i64 rb.by_, .int .i64 rb.tm, .slice AG0 rb.bx.length cG0, .slice AG1 rb.go.length cG1] 45))
  replace NX := Aside.mk (NX.out.alloc (.cells #[.int .i64 rb.by_, .int .i64 rb.tm, .slice AG0 rb.bx.length cG0, .slice AG1 rb.go.length cG1] 45))
  replace HG0 := Aside.mk (owRow_alloc ow_box HG0.out (.cells #[.int .i64 rb.by_, .int .i64 rb.tm, .slice AG0 rb.bx.length cG0, .slice AG1 rb.go.length cG1] 45))
  replace HG1 := Aside.mk (owRow_alloc ow_int HG1.out (.cells #[.int .i64 rb.by_, .int .i64 rb.tm, .slice AG0 rb.bx.length cG0, .slice AG1 rb.go.length cG1] 45))
  replace NG := Aside.mk (NG.out.alloc (.cells #[.int .i64 rb.by_, .int .i64 rb.tm, .slice AG0 rb.bx.length cG0, .slice AG1 rb.go.length cG1] 45))
  have LG := Aside.mk (Loc.new wG #[.int .i64 rb.by_, .int .i64 rb.tm, .slice AG0 rb.bx.length cG0, .slice AG1 rb.go.length cG1] 45)
  replace HB := Aside.mk (below_alloc HB.out (.cells #[.int .i64 rb.by_, .int .i64 rb.tm, .slice AG0 rb.bx.length cG0, .slice AG1 rb.go.length cG1] 45))
  have HWL2 : Aside (wz.heap.size ≤ (wG.alloc (.cells #[.int .i64 rb.by_, .int .i64 rb.tm, .slice AG0 rb.bx.length cG0, .slice AG1 rb.go.length cG1] 45)).heap.size) := ⟨by have := HWL.out; have := ANG.out; have := LLG.out; simp; omega⟩
  have HUG : Aside (∀ b, b < vX.heap.size → b < wG.heap.size) := ⟨fun b hb => by have := LLG.out; omega⟩
  obtain ⟨BG, hBG⟩ : ∃ BG, BG = wG.heap.size := ⟨_, rfl⟩
  have OG : Aside (BG ∉ DG0 ++ DG1 ∧ wz.heap.size ≤ BG) := ⟨fun hx => by have := (NG.out.2 _ hx).2; have := (ANG.out.2 _ hx).2; omega, by have := HWL.out; have := LLG.out; omega⟩
  have APWG : Aside (BW ∉ DG0 ++ DG1 ∧ BG ∉ DW0 ++ DW1 ∧ ∀ b ∈ DW0 ++ DW1, b ∉ DG0 ++ DG1) := ⟨APWG0.out.1, fun hx => by have := HNLW.out _ hx; have := HUG.out _ this; omega, APWG0.out.2⟩
  clear APWG0
  have APXG : Aside (BX ∉ DG0 ++ DG1 ∧ BG ∉ DX0 ++ DX1 ∧ ∀ b ∈ DX0 ++ DX1, b ∉ DG0 ++ DG1) := ⟨APXG0.out.1, fun hx => by have := HNLX.out _ hx; have := HUG.out _ this; omega, APXG0.out.2⟩
  clear APXG0
  rw [← hBG] at LG
  obtain ⟨vG, hvG⟩ : ∃ vG, vG = wG.alloc (.cells #[.int .i64 rb.by_, .int .i64 rb.tm, .slice AG0 rb.bx.length cG0, .slice AG1 rb.go.length cG1] 45) := ⟨_, rfl⟩
  rw [← hvG] at L0 LW LX LG HW0 HW1 HX0 HX1 HG0 HG1 NW NX NG HB HWL2
  try rw [← hBG]
  try rw [← hvG]
  clear hBG hvG HWL HUG ANG LLG
  have HWL := HWL2
  clear HWL2
  (try clear l0)
  (try clear q0)
  (try clear f0)
  (try clear lW)
  (try clear qW)
  (try clear fW)
  (try clear lX)
  (try clear qX)
  (try clear fX)
  (try clear lG)
  (try clear qG)
  (try clear fG)
  have l0 := L0.out.cells
  have q0 := L0.out.lt
  have f0 := L0.out.free
  have lW := LW.out.cells
  have qW := LW.out.lt
  have fW := LW.out.free
  have lX := LX.out.cells
  have qX := LX.out.lt
  have fX := LX.out.free
  have lG := LG.out.cells
  have qG := LG.out.lt
  have fG := LG.out.free
  clear HBLW HNLW HBLX HNLX
  try clear HWL
  go_wp2_with (fail)
  refine (eqStore_calls _ _ _ _ _ rb (owRow_rd ow_box HG0.out) (owRow_rd ow_int HG1.out) (owRow_rd ow_box HW0.out) (owRow_rd ow_int HW1.out)).mono ?_
  rintro e w6 ⟨rfl, hb⟩
  replace L0 := Aside.mk (L0.out.below hb)
  replace LW := Aside.mk (LW.out.below hb)
  replace LX := Aside.mk (LX.out.below hb)
  replace LG := Aside.mk (LG.out.below hb)
  replace HW0 := Aside.mk (owRow_below ow_box HW0.out hb)
  replace HW1 := Aside.mk (owRow_below ow_int HW1.out hb)
  replace NW := Aside.mk (NW.out.mono hb.size)
  replace HX0 := Aside.mk (owRow_below ow_box HX0.out hb)
  replace HX1 := Aside.mk (owRow_below ow_int HX1.out hb)
  replace NX := Aside.mk (NX.out.mono hb.size)
  replace HG0 := Aside.mk (owRow_below ow_box HG0.out hb)
  replace HG1 := Aside.mk (owRow_below ow_int HG1.out hb)
  replace NG := Aside.mk (NG.out.mono hb.size)
  replace HB := Aside.mk (below_step HB.out hb)
  (try clear l0)
  (try clear q0)
  (try clear f0)
  (try clear lW)
  (try clear qW)
  (try clear fW)
  (try clear lX)
  (try clear qX)
  (try clear fX)
  (try clear lG)
  (try clear qG)
  (try clear fG)
  have l0 := L0.out.cells
  have q0 := L0.out.lt
  have f0 := L0.out.free
  have lW := LW.out.cells
  have qW := LW.out.lt
  have fW := LW.out.free
  have lX := LX.out.cells
  have qX := LX.out.lt
  have fX := LX.out.free
  have lG := LG.out.cells
  have qG := LG.out.lt
  have fG := LG.out.free
  clear hb
  go_wp2_with (fail)
  refine zBegin (S := (fun w' => Loc w' w.heap.size #[.int .i64 s.by_, .int .i64 s.tm, .slice Ap0 s.bx.length cp0, .slice Ap1 s.go.length cp1] 41 ∧ Loc w' BW #[.int .i64 rb.by_, .int .i64 rb.tm, .slice AW0 rb.bx.length cW0, .slice AW1 rb.go.length cW1] 45 ∧ Loc w' BX #[.int .i64 s.by_, .int .i64 s.tm, .slice AX0 s.bx.length cX0, .slice AX1 s.go.length cX1] 45 ∧ Loc w' BG #[.int .i64 rb.by_, .int .i64 rb.tm, .slice AG0 rb.bx.length cG0, .slice AG1 rb.go.length cG1] 45)) (z := 5) (by kernel_rfl) (by exact ⟨L0.out.drew', LW.out.drew', LX.out.drew', LG.out.drew'⟩) (fun hHeld => ?_)
  refine zT 0 52 hHeld ?_
  refine zT 1 53 hHeld ?_
  refine zReady (rs := [2]) (by kernel_rfl) (by simp) ?_
  refine zOne (by decide) rfl (fun K hK => ?_) zNil
  go_simp
  refine (toStore_calls _ _ _ s (rdBoxes_mov (below_drew HB.out) HR.out) (rdInts_mov (below_drew HB.out) HG.out) HL.out).mono ?_
  rintro e w7 ⟨mx, gx, Da, rfl, hoa, _, hb⟩
  obtain ⟨Aa0, ca0, Aa1, ca1, Da0, Da1, rfl, rfl, _, ha0, ha1⟩ := store_slices hoa
  have Ha0 := Aside.mk (owRow_rd ow_box ha0)
  have Ha1 := Aside.mk (owRow_rd ow_int ha1)
  clear hoa ha0 ha1
  have hb0 := below_step (w0 := w6) (below_drew (Below.refl _ w6)) hb
  refine hK.out _ _ (by exact ⟨Loc.below hHeld.1 hb, Loc.below hHeld.2.1 hb, Loc.below hHeld.2.2.1 hb, Loc.below hHeld.2.2.2 hb⟩) (fun hHeld => ?_)
  clear hK K
  (try simp only [Act.put, List.setIfInBounds_toArray, List.set_cons_zero, List.set_cons_succ])
  replace L0 := Aside.mk (L0.out.below hb0)
  replace LW := Aside.mk (LW.out.below hb0)
  replace LX := Aside.mk (LX.out.below hb0)
  replace LG := Aside.mk (LG.out.below hb0)
  replace HW0 := Aside.mk (owRow_below ow_box HW0.out hb0)
  replace HW1 := Aside.mk (owRow_below ow_int HW1.out hb0)
  replace NW := Aside.mk (NW.out.mono hb0.size)
  replace HX0 := Aside.mk (owRow_below ow_box HX0.out hb0)
  replace HX1 := Aside.mk (owRow_below ow_int HX1.out hb0)
  replace NX := Aside.mk (NX.out.mono hb0.size)
  replace HG0 := Aside.mk (owRow_below ow_box HG0.out hb0)
  replace HG1 := Aside.mk (owRow_below ow_int HG1.out hb0)
  replace NG := Aside.mk (NG.out.mono hb0.size)
  replace HB := Aside.mk (below_step HB.out hb0)
  (try clear l0)
  (try clear q0)
  (try clear f0)
  (try clear lW)
  (try clear qW)
  (try clear fW)
  (try clear lX)
  (try clear qX)
  (try clear fX)
  (try clear lG)
  (try clear qG)
  (try clear fG)
  have l0 := L0.out.cells
  have q0 := L0.out.lt
  have f0 := L0.out.free
  have lW := LW.out.cells
  have qW := LW.out.lt
  have fW := LW.out.free
  have lX := LX.out.cells
  have qX := LX.out.lt
  have fX := LX.out.free
  have lG := LG.out.cells
  have qG := LG.out.lt
  have fG := LG.out.free
  clear hb hb0
  refine zReady (rs := [3]) (by kernel_rfl) (by simp) ?_
  refine zOne (by decide) rfl (fun K hK => ?_) zNil
  go_simp
  refine (eqStore_calls _ _ _ _ _ s (owRow_rd ow_box HX0.out) (owRow_rd ow_int HX1.out) Ha0.out Ha1.out).mono ?_
  rintro e w8 ⟨rfl, hb⟩
  refine hK.out _ _ (by exact ⟨Loc.below hHeld.1 hb, Loc.below hHeld.2.1 hb, Loc.below hHeld.2.2.1 hb, Loc.below hHeld.2.2.2 hb⟩) (fun hHeld => ?_)
  clear hK K
  (try simp only [Act.put, List.setIfInBounds_toArray, List.set_cons_zero, List.set_cons_succ])
  replace L0 := Aside.mk (L0.out.below hb)
  replace LW := Aside.mk (LW.out.below hb)
  replace LX := Aside.mk (LX.out.below hb)
  replace LG := Aside.mk (LG.out.below hb)
  replace HW0 := Aside.mk (owRow_below ow_box HW0.out hb)
  replace HW1 := Aside.mk (owRow_below ow_int HW1.out hb)
  replace NW := Aside.mk (NW.out.mono hb.size)
  replace HX0 := Aside.mk (owRow_below ow_box HX0.out hb)
  replace HX1 := Aside.mk (owRow_below ow_int HX1.out hb)
  replace NX := Aside.mk (NX.out.mono hb.size)
  replace HG0 := Aside.mk (owRow_below ow_box HG0.out hb)
  replace HG1 := Aside.mk (owRow_below ow_int HG1.out hb)
  replace NG := Aside.mk (NG.out.mono hb.size)
  replace HB := Aside.mk (below_step HB.out hb)
  (try clear l0)
  (try clear q0)
  (try clear f0)
  (try clear lW)
  (try clear qW)
  (try clear fW)
  (try clear lX)
  (try clear qX)
  (try clear fX)
  (try clear lG)
  (try clear qG)
  (try clear fG)
  have l0 := L0.out.cells
  have q0 := L0.out.lt
  have f0 := L0.out.free
  have lW := LW.out.cells
  have qW := LW.out.lt
  have fW := LW.out.free
  have lX := LX.out.cells
  have qX := LX.out.lt
  have fX := LX.out.free
  have lG := LG.out.cells
  have qG := LG.out.lt
  have fG := LG.out.free
  clear hb Ha0 Ha1
  refine zT 4 56 hHeld ?_
  refine zDone (by kernel_rfl) ?_ _
  clear hHeld
  go_wp2_with (fail)
  refine (markStore_calls _ DX0 DX1 _ _ s 1 HX0.out HX1.out NX.out.1 (by decide) (by have := HCB.out; omega)).mono ?_
  rintro e w9 ⟨rfl, _, hk⟩
  have hE0 : w.heap.size ∉ DX0 ++ DX1 := fun hx => by have := (NX.out.2 _ hx).1; have := HZ.out; omega
  replace L0 := Aside.mk (L0.out.keep hk hE0)
  replace LX := Aside.mk (LX.out.keep hk OX.out.1)
  replace LW := Aside.mk (LW.out.keep hk APWX.out.1)
  replace HW0 := Aside.mk (owRow_keep ow_box HW0.out hk (fun b hb => APWX.out.2.2 b (by simp [hb])))
  replace HW1 := Aside.mk (owRow_keep ow_int HW1.out hk (fun b hb => APWX.out.2.2 b (by simp [hb])))
  replace NW := Aside.mk (NW.out.mono hk.size)
  replace LG := Aside.mk (LG.out.keep hk APXG.out.2.1)
  replace HG0 := Aside.mk (owRow_keep ow_box HG0.out hk (fun b hb => (fun b hb hx => APXG.out.2.2 b hx hb) b (by simp [hb])))
  replace HG1 := Aside.mk (owRow_keep ow_int HG1.out hk (fun b hb => (fun b hb hx => APXG.out.2.2 b hx hb) b (by simp [hb])))
  replace NG := Aside.mk (NG.out.mono hk.size)
  replace HB := Aside.mk (NX.out.keepBelow hk HB.out (by have := HZ.out; omega))
  clear hk hE0 HX0 HX1 NX
  try clear LX lX qX fX
  (try clear l0)
  (try clear q0)
  (try clear f0)
  (try clear lW)
  (try clear qW)
  (try clear fW)
  (try clear lG)
  (try clear qG)
  (try clear fG)
  have l0 := L0.out.cells
  have q0 := L0.out.lt
  have f0 := L0.out.free
  have lW := LW.out.cells
  have qW := LW.out.lt
  have fW := LW.out.free
  have lG := LG.out.cells
  have qG := LG.out.lt
  have fG := LG.out.free
  obtain ⟨kx, hkx⟩ : ∃ kx : Int, kx = 1 + cBoxes s.bx + (s.go.length : Int) := ⟨_, rfl⟩
  have hkp : 0 ≤ kx := by have := cBoxes_nn s.bx; omega
  rw [← hkx]
  have hk0 : ¬ (kx < 0) := by omega
  clear hkx
  go_wp2_with (fail)
  refine (eqStore_calls _ _ _ _ _ rb (owRow_rd ow_box HG0.out) (owRow_rd ow_int HG1.out) (owRow_rd ow_box HW0.out) (owRow_rd ow_int HW1.out)).mono ?_
  rintro e w10 ⟨rfl, hb⟩
  replace L0 := Aside.mk (L0.out.below hb)
  replace LW := Aside.mk (LW.out.below hb)
  replace LG := Aside.mk (LG.out.below hb)
  replace HW0 := Aside.mk (owRow_below ow_box HW0.out hb)
  replace HW1 := Aside.mk (owRow_below ow_int HW1.out hb)
  replace NW := Aside.mk (NW.out.mono hb.size)
  replace HG0 := Aside.mk (owRow_below ow_box HG0.out hb)
  replace HG1 := Aside.mk (owRow_below ow_int HG1.out hb)
  replace NG := Aside.mk (NG.out.mono hb.size)
  replace HB := Aside.mk (below_step HB.out hb)
  (try clear l0)
  (try clear q0)
  (try clear f0)
  (try clear lW)
  (try clear qW)
  (try clear fW)
  (try clear lG)
  (try clear qG)
  (try clear fG)
  have l0 := L0.out.cells
  have q0 := L0.out.lt
  have f0 := L0.out.free
  have lW := LW.out.cells
  have qW := LW.out.lt
  have fW := LW.out.free
  have lG := LG.out.cells
  have qG := LG.out.lt
  have fG := LG.out.free
  clear hb
  go_wp2_with (fail)
  refine (markStore_calls _ DG0 DG1 _ _ rb 1 HG0.out HG1.out NG.out.1 (by decide) (by have := HCR.out; omega)).mono ?_
  rintro e w11 ⟨rfl, ⟨Dm, hom, _, _⟩, hk⟩
  have hE0 : w.heap.size ∉ DG0 ++ DG1 := fun hx => by have := (NG.out.2 _ hx).1; have := HZ.out; omega
  replace L0 := Aside.mk (L0.out.keep hk hE0)
  replace LG := Aside.mk (LG.out.keep hk OG.out.1)
  replace LW := Aside.mk (LW.out.keep hk APWG.out.1)
  replace HW0 := Aside.mk (owRow_keep ow_box HW0.out hk (fun b hb => APWG.out.2.2 b (by simp [hb])))
  replace HW1 := Aside.mk (owRow_keep ow_int HW1.out hk (fun b hb => APWG.out.2.2 b (by simp [hb])))
  replace NW := Aside.mk (NW.out.mono hk.size)
  replace HB := Aside.mk (NG.out.keepBelow hk HB.out (by have := HZ.out; omega))
  clear hk hE0 HG0 HG1 NG
  obtain ⟨hmG0, hmG1⟩ := markedStore_rd hom
  have HG0 := Aside.mk hmG0
  have HG1 := Aside.mk hmG1
  clear hmG0 hmG1 hom
  (try clear l0)
  (try clear q0)
  (try clear f0)
  (try clear lW)
  (try clear qW)
  (try clear fW)
  (try clear lG)
  (try clear qG)
  (try clear fG)
  have l0 := L0.out.cells
  have q0 := L0.out.lt
  have f0 := L0.out.free
  have lW := LW.out.cells
  have qW := LW.out.lt
  have fW := LW.out.free
  have lG := LG.out.cells
  have qG := LG.out.lt
  have fG := LG.out.free
  obtain ⟨kg, hkg⟩ : ∃ kg : Int, kg = 1 + cBoxes rb.bx + (rb.go.length : Int) := ⟨_, rfl⟩
  have HKG := Aside.mk hkg
  rw [← hkg]
  have hkg0 : ¬ (kg < 0) := by have := cBoxes_nn rb.bx; omega
  clear hkg
  go_wp2_with (fail)
  refine (heldStore_calls _ _ _ rb 1 HG0.out HG1.out (by decide) (by have := HCR.out; omega)).mono ?_
  rintro e w12 ⟨rfl, hb⟩
  rw [← HKG.out]
  replace L0 := Aside.mk (L0.out.below hb)
  replace LW := Aside.mk (LW.out.below hb)
  replace LG := Aside.mk (LG.out.below hb)
  replace HW0 := Aside.mk (owRow_below ow_box HW0.out hb)
  replace HW1 := Aside.mk (owRow_below ow_int HW1.out hb)
  replace NW := Aside.mk (NW.out.mono hb.size)
  replace HG0 := Aside.mk (rdBoxes_mov hb HG0.out)
  replace HG1 := Aside.mk (rdInts_mov hb HG1.out)
  replace HB := Aside.mk (below_step HB.out hb)
  (try clear l0)
  (try clear q0)
  (try clear f0)
  (try clear lW)
  (try clear qW)
  (try clear fW)
  (try clear lG)
  (try clear qG)
  (try clear fG)
  have l0 := L0.out.cells
  have q0 := L0.out.lt
  have f0 := L0.out.free
  have lW := LW.out.cells
  have qW := LW.out.lt
  have fW := LW.out.free
  have lG := LG.out.cells
  have qG := LG.out.lt
  have fG := LG.out.free
  clear hb
  have HWL : Aside (wz.heap.size ≤ w12.heap.size) := ⟨by have := OW.out; have := LW.out.lt; omega⟩
  have HBLW : Aside (BW < w12.heap.size) := ⟨LW.out.lt⟩
  have HNLW : Aside (∀ b ∈ DW0 ++ DW1, b < w12.heap.size) := ⟨fun b hb => (NW.out.2 b hb).2⟩
  go_wp2_with (fail)
  refine (toStore_calls _ _ _ s (rdBoxes_mov HB.out HR.out) (rdInts_mov HB.out HG.out) HL.out).mono ?_
  rintro e wa ⟨mx, gx, D, rfl, ho, hn, hb⟩
  obtain ⟨Aa0, ca0, Aa1, ca1, Da0, Da1, rfl, rfl, _, ha0, ha1⟩ := store_slices ho
  have Ha0 := Aside.mk (owRow_rd ow_box ha0)
  have Ha1 := Aside.mk (owRow_rd ow_int ha1)
  have LLa := Aside.mk hb.size
  clear ho hn ha0 ha1
  replace L0 := Aside.mk (L0.out.below hb)
  replace LW := Aside.mk (LW.out.below hb)
  replace LG := Aside.mk (LG.out.below hb)
  replace HW0 := Aside.mk (owRow_below ow_box HW0.out hb)
  replace HW1 := Aside.mk (owRow_below ow_int HW1.out hb)
  replace NW := Aside.mk (NW.out.mono hb.size)
  replace HG0 := Aside.mk (rdBoxes_mov hb HG0.out)
  replace HG1 := Aside.mk (rdInts_mov hb HG1.out)
  replace HB := Aside.mk (below_step HB.out hb)
  (try clear l0)
  (try clear q0)
  (try clear f0)
  (try clear lW)
  (try clear qW)
  (try clear fW)
  (try clear lG)
  (try clear qG)
  (try clear fG)
  have l0 := L0.out.cells
  have q0 := L0.out.lt
  have f0 := L0.out.free
  have lW := LW.out.cells
  have qW := LW.out.lt
  have fW := LW.out.free
  have lG := LG.out.cells
  have qG := LG.out.lt
  have fG := LG.out.free
  clear hb
  replace HWL : Aside (wz.heap.size ≤ wa.heap.size) := ⟨by have := HWL.out; have := LLa.out; omega⟩
  replace HBLW : Aside (BW < wa.heap.size) := ⟨by have := HBLW.out; have := LLa.out; omega⟩
  replace HNLW : Aside (∀ b ∈ DW0 ++ DW1, b < wa.heap.size) := ⟨fun b hb => by have := HNLW.out b hb; have := LLa.out; omega⟩
  clear LLa
  go_wp2_with (fail)
  refine (makeBox_calls _ _ _ s g tx Ha0.out Ha1.out HL.out HTX.out htx).mono ?_
  rintro e wH ⟨mx, gx, D, he, ho, hn, hb⟩
  rw [HRR.out] at he ho
  dsimp only at he ho
  subst he
  obtain ⟨AH0, cH0, AH1, cH1, DH0, DH1, rfl, rfl, rfl, hH0, hH1⟩ := store_slices ho
  have LLH := Aside.mk hb.size
  have ANH := Aside.mk hn
  replace L0 := Aside.mk (L0.out.below hb)
  replace LW := Aside.mk (LW.out.below hb)
  replace LG := Aside.mk (LG.out.below hb)
  replace HW0 := Aside.mk (owRow_below ow_box HW0.out hb)
  replace HW1 := Aside.mk (owRow_below ow_int HW1.out hb)
  replace NW := Aside.mk (NW.out.mono hb.size)
  replace HG0 := Aside.mk (rdBoxes_mov hb HG0.out)
  replace HG1 := Aside.mk (rdInts_mov hb HG1.out)
  replace HB := Aside.mk (below_step HB.out hb)
  (try clear l0)
  (try clear q0)
  (try clear f0)
  (try clear lW)
  (try clear qW)
  (try clear fW)
  (try clear lG)
  (try clear qG)
  (try clear fG)
  have l0 := L0.out.cells
  have q0 := L0.out.lt
  have f0 := L0.out.free
  have lW := LW.out.cells
  have qW := LW.out.lt
  have fW := LW.out.free
  have lG := LG.out.cells
  have qG := LG.out.lt
  have fG := LG.out.free
  clear hb
  have APWH0 : Aside (BW ∉ DH0 ++ DH1 ∧ ∀ b ∈ DW0 ++ DW1, b ∉ DH0 ++ DH1) := ⟨fun hx => by have := (ANH.out.2 _ hx).1; have := HBLW.out; omega, fun b hb hx => by have := HNLW.out _ hb; have := (ANH.out.2 _ hx).1; omega⟩
  have HH0 := Aside.mk hH0
  have HH1 := Aside.mk hH1
  have NH : Aside (New wz wH (DH0 ++ DH1)) := ⟨ANH.out.from (by have := HWL.out; omega)⟩
  clear ho hn hH0 hH1
  go_wp2_with (fail)
  replace L0 := Aside.mk (L0.out.alloc (.cells #[.int .i64 rb.by_, .int .i64 rb.tm, .slice AH0 rb.bx.length cH0, .slice AH1 rb.go.length cH1] 45))
  replace LW := Aside.mk (LW.out.alloc (.cells #[.int .i64 rb.by_, .int .i64 rb.tm, .slice AH0 rb.bx.length cH0, .slice AH1 rb.go.length cH1] 45))
  replace LG := Aside.mk (LG.out.alloc (.cells #[.int .i64 rb.by_, .int .i64 rb.tm, .slice AH0 rb.bx.length cH0, .slice AH1 rb.go.length cH1] 45))
  replace HW0 := Aside.mk (owRow_alloc ow_box HW0.out (.cells #[.int .i64 rb.by_, .int .i64 rb.tm, .slice AH0 rb.bx.length cH0, .slice AH1 rb.go.length cH1] 45))
  replace HW1 := Aside.mk (owRow_alloc ow_int HW1.out (.cells #[.int .i64 rb.by_, .int .i64 rb.tm, .slice AH0 rb.bx.length cH0, .slice AH1 rb.go.length cH1] 45))
  replace NW := Aside.mk (NW.out.alloc (.cells #[.int .i64 rb.by_, .int .i64 rb.tm, .slice AH0 rb.bx.length cH0, .slice AH1 rb.go.length cH1] 45))
  replace HH0 := Aside.mk (owRow_alloc ow_box HH0.out (.cells #[.int .i64 rb.by_, .int .i64 rb.tm, .slice AH0 rb.bx.length cH0, .slice AH1 rb.go.length cH1] 45))
  replace HH1 := Aside.mk (owRow_alloc ow_int HH1.out (.cells #[.int .i64 rb.by_, .int .i64 rb.tm, .slice AH0 rb.bx.length cH0, .slice AH1 rb.go.length cH1] 45))
  replace NH := Aside.mk (NH.out.alloc (.cells #[.int .i64 rb.by_, .int .i64 rb.tm, .slice AH0 rb.bx.length cH0, .slice AH1 rb.go.length cH1] 45))
  replace HG0 := Aside.mk (rdBoxes_mov (below_alloc (Below.refl _ _) (.cells #[.int .i64 rb.by_, .int .i64 rb.tm, .slice AH0 rb.bx.length cH0, .slice AH1 rb.go.length cH1] 45)) HG0.out)
  replace HG1 := Aside.mk (rdInts_mov (below_alloc (Below.refl _ _) (.cells #[.int .i64 rb.by_, .int .i64 rb.tm, .slice AH0 rb.bx.length cH0, .slice AH1 rb.go.length cH1] 45)) HG1.out)
  have LH := Aside.mk (Loc.new wH #[.int .i64 rb.by_, .int .i64 rb.tm, .slice AH0 rb.bx.length cH0, .slice AH1 rb.go.length cH1] 45)
  replace HB := Aside.mk (below_alloc HB.out (.cells #[.int .i64 rb.by_, .int .i64 rb.tm, .slice AH0 rb.bx.length cH0, .slice AH1 rb.go.length cH1] 45))
  have HWL2 : Aside (wz.heap.size ≤ (wH.alloc (.cells #[.int .i64 rb.by_, .int .i64 rb.tm, .slice AH0 rb.bx.length cH0, .slice AH1 rb.go.length cH1] 45)).heap.size) := ⟨by have := HWL.out; have := ANH.out; have := LLH.out; simp; omega⟩
  have HUH : Aside (∀ b, b < wa.heap.size → b < wH.heap.size) := ⟨fun b hb => by have := LLH.out; omega⟩
  obtain ⟨BH, hBH⟩ : ∃ BH, BH = wH.heap.size := ⟨_, rfl⟩
  have OH : Aside (BH ∉ DH0 ++ DH1 ∧ wz.heap.size ≤ BH) := ⟨fun hx => by have := (NH.out.2 _ hx).2; have := (ANH.out.2 _ hx).2; omega, by have := HWL.out; have := LLH.out; omega⟩
  have APWH : Aside (BW ∉ DH0 ++ DH1 ∧ BH ∉ DW0 ++ DW1 ∧ ∀ b ∈ DW0 ++ DW1, b ∉ DH0 ++ DH1) := ⟨APWH0.out.1, fun hx => by have := HNLW.out _ hx; have := HUH.out _ this; omega, APWH0.out.2⟩
  clear APWH0
  rw [← hBH] at LH
  obtain ⟨vH, hvH⟩ : ∃ vH, vH = wH.alloc (.cells #[.int .i64 rb.by_, .int .i64 rb.tm, .slice AH0 rb.bx.length cH0, .slice AH1 rb.go.length cH1] 45) := ⟨_, rfl⟩
  rw [← hvH] at L0 LW LG LH HW0 HW1 HH0 HH1 NW NH HG0 HG1 HB HWL2
  try rw [← hBH]
  try rw [← hvH]
  clear hBH hvH HWL HUH ANH LLH
  have HWL := HWL2
  clear HWL2
  (try clear l0)
  (try clear q0)
  (try clear f0)
  (try clear lW)
  (try clear qW)
  (try clear fW)
  (try clear lG)
  (try clear qG)
  (try clear fG)
  (try clear lH)
  (try clear qH)
  (try clear fH)
  have l0 := L0.out.cells
  have q0 := L0.out.lt
  have f0 := L0.out.free
  have lW := LW.out.cells
  have qW := LW.out.lt
  have fW := LW.out.free
  have lG := LG.out.cells
  have qG := LG.out.lt
  have fG := LG.out.free
  have lH := LH.out.cells
  have qH := LH.out.lt
  have fH := LH.out.free
  go_wp2_with (fail)
  refine (eqStore_calls _ _ _ _ _ rb (owRow_rd ow_box HH0.out) (owRow_rd ow_int HH1.out) (owRow_rd ow_box HW0.out) (owRow_rd ow_int HW1.out)).mono ?_
  rintro e w13 ⟨rfl, hb⟩
  replace L0 := Aside.mk (L0.out.below hb)
  replace LW := Aside.mk (LW.out.below hb)
  replace LG := Aside.mk (LG.out.below hb)
  replace LH := Aside.mk (LH.out.below hb)
  replace HW0 := Aside.mk (owRow_below ow_box HW0.out hb)
  replace HW1 := Aside.mk (owRow_below ow_int HW1.out hb)
  replace NW := Aside.mk (NW.out.mono hb.size)
  replace HH0 := Aside.mk (owRow_below ow_box HH0.out hb)
  replace HH1 := Aside.mk (owRow_below ow_int HH1.out hb)
  replace NH := Aside.mk (NH.out.mono hb.size)
  replace HG0 := Aside.mk (rdBoxes_mov hb HG0.out)
  replace HG1 := Aside.mk (rdInts_mov hb HG1.out)
  replace HB := Aside.mk (below_step HB.out hb)
  (try clear l0)
  (try clear q0)
  (try clear f0)
  (try clear lW)
  (try clear qW)
  (try clear fW)
  (try clear lG)
  (try clear qG)
  (try clear fG)
  (try clear lH)
  (try clear qH)
  (try clear fH)
  have l0 := L0.out.cells
  have q0 := L0.out.lt
  have f0 := L0.out.free
  have lW := LW.out.cells
  have qW := LW.out.lt
  have fW := LW.out.free
  have lG := LG.out.cells
  have qG := LG.out.lt
  have fG := LG.out.free
  have lH := LH.out.cells
  have qH := LH.out.lt
  have fH := LH.out.free
  clear hb
  go_wp2_with (fail)
  refine (heldStore_calls _ _ _ rb 1 HG0.out HG1.out (by decide) (by have := HCR.out; omega)).mono ?_
  rintro e w14 ⟨rfl, hb⟩
  rw [← HKG.out]
  replace L0 := Aside.mk (L0.out.below hb)
  replace LW := Aside.mk (LW.out.below hb)
  replace LG := Aside.mk (LG.out.below hb)
  replace LH := Aside.mk (LH.out.below hb)
  replace HW0 := Aside.mk (owRow_below ow_box HW0.out hb)
  replace HW1 := Aside.mk (owRow_below ow_int HW1.out hb)
  replace NW := Aside.mk (NW.out.mono hb.size)
  replace HH0 := Aside.mk (owRow_below ow_box HH0.out hb)
  replace HH1 := Aside.mk (owRow_below ow_int HH1.out hb)
  replace NH := Aside.mk (NH.out.mono hb.size)
  replace HG0 := Aside.mk (rdBoxes_mov hb HG0.out)
  replace HG1 := Aside.mk (rdInts_mov hb HG1.out)
  replace HB := Aside.mk (below_step HB.out hb)
  (try clear l0)
  (try clear q0)
  (try clear f0)
  (try clear lW)
  (try clear qW)
  (try clear fW)
  (try clear lG)
  (try clear qG)
  (try clear fG)
  (try clear lH)
  (try clear qH)
  (try clear fH)
  have l0 := L0.out.cells
  have q0 := L0.out.lt
  have f0 := L0.out.free
  have lW := LW.out.cells
  have qW := LW.out.lt
  have fW := LW.out.free
  have lG := LG.out.cells
  have qG := LG.out.lt
  have fG := LG.out.free
  have lH := LH.out.cells
  have qH := LH.out.lt
  have fH := LH.out.free
  clear hb
  go_wp2
  go_ret
  exact ⟨rfl, HB.out⟩
end Go.Proofs.Ytjfjpabfkembcaa.H
