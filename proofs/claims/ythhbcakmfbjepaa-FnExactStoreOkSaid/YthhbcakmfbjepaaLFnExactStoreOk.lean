/- The walk of the statement on StoreOk. -/
import Derived.Test.YthhbcakmfbjepaaHLaw
import Derived.Test.YthhbcakmfbjepaaHStoreOk
import Derived.Test.YthhbcakmfbjepaaHStoreOkS
namespace Go.Proofs.Ythhbcakmfbjepaa.H
open Go.RowKit
set_option linter.unusedVariables false
set_option linter.unusedSimpArgs false
set_option maxHeartbeats 2000000 in
set_option maxRecDepth 100000 in
theorem lawFnExactStoreOk (w : World) (bv gv : Value) (s : Store) (h : rdBoxes w bv s.bx) (hg : rdInts w gv s.go) (ht : tmStore s) :
    Calls Try.prog 4 #[.agg #[.int .i64 s.by_, .int .i64 s.tm, bv, gv]] w fun e w' => e = .returned (.bool true) ∧ Below w.heap.size w w' := by
  obtain ⟨r, HRR⟩ : ∃ r, Aside (storeOk s = r) := ⟨_, ⟨rfl⟩⟩
  obtain ⟨A0, c0, rfl, _, hm⟩ := rd_len h
  obtain ⟨A1, c1, rfl, _, _⟩ := rd_len hg
  have HR := Aside.mk h
  have HG := Aside.mk hg
  have HT := Aside.mk ht
  clear h hg ht
  go_enter Try.func4, Try.ntmps4
  go_wp2_with (fail)
  refine (szStore_calls _ _ _ s _ (rdBoxes_mov (by (repeat (first | (with_reducible exact HB.out) | (with_reducible exact Below.refl _ _) | (with_reducible refine below_set ?_ (by first | omega | (dsimp only; omega) | (simp; done) | (simp; omega)) _) | (with_reducible refine below_alloc ?_ _) | (with_reducible refine below_drewN ?_ _) | (with_reducible refine below_drew ?_)))) HR.out) (rdInts_mov (by (repeat (first | (with_reducible exact HB.out) | (with_reducible exact Below.refl _ _) | (with_reducible refine below_set ?_ (by first | omega | (dsimp only; omega) | (simp; done) | (simp; omega)) _) | (with_reducible refine below_alloc ?_ _) | (with_reducible refine below_drewN ?_ _) | (with_reducible refine below_drew ?_)))) HG.out) HT.out (by decide) (by decide)).mono ?_
  rintro e w1 ⟨lf, rfl, hsz, hb⟩
  have L0 := Aside.mk ((Loc.new w #[.int .i64 s.by_, .int .i64 s.tm, .slice A0 s.bx.length c0, .slice A1 s.go.length c1] 37).below hb)
  have HB := Aside.mk (below_step (w0 := w) (by (repeat (first | (with_reducible exact HB.out) | (with_reducible exact Below.refl _ _) | (with_reducible refine below_set ?_ (by first | omega | (dsimp only; omega) | (simp; done) | (simp; omega)) _) | (with_reducible refine below_alloc ?_ _) | (with_reducible refine below_drewN ?_ _) | (with_reducible refine below_drew ?_)))) hb)
  clear hb
  have l0 := L0.out.cells
  by_cases hneg : lf < 0
  · go_wp2
    go_ret
    exact ⟨rfl, HB.out⟩
  have HS := Aside.mk (sz_le hsz hneg)
  have HL := Aside.mk (smStore_of_sz HS.out)
  have HTX : Aside (∀ b ∈ s.bx, txBox b) := ⟨fun b hb => tx_of_tm (HT.out b hb)⟩
  clear hsz
  go_wp2_with (fail)
  refine (toStore_calls _ _ _ s (rdBoxes_mov HB.out HR.out) (rdInts_mov HB.out HG.out) HL.out).mono ?_
  rintro e w2 ⟨mx, gx, D, rfl, ho, hn, hb⟩
  obtain ⟨Ax, cx, Ay, cy, D1, D2, rfl, rfl, rfl, h1, h2⟩ := store_slices ho
  have Ha0 := Aside.mk (owRow_rd ow_box h1)
  have Ha1 := Aside.mk (owRow_rd ow_int h2)
  clear ho hn h1 h2
  replace L0 := Aside.mk (L0.out.below hb); replace HB := Aside.mk (below_step HB.out hb); (try clear l0); (try clear q0); (try clear f0); have l0 := L0.out.cells; have q0 := L0.out.lt; have f0 := L0.out.free
  clear hb
  go_wp2_with (fail)
  refine (specStoreOk_calls _ _ _ s Ha0.out Ha1.out HTX.out).mono ?_
  rintro e w3 ⟨he, hb⟩
  rw [HRR.out] at he
  subst he
  replace L0 := Aside.mk (L0.out.below hb); replace HB := Aside.mk (below_step HB.out hb); (try clear l0); (try clear q0); (try clear f0); have l0 := L0.out.cells; have q0 := L0.out.lt; have f0 := L0.out.free
  clear hb Ha0 Ha1
  go_wp2_with (fail)
  refine (toStore_calls _ _ _ s (rdBoxes_mov HB.out HR.out) (rdInts_mov HB.out HG.out) HL.out).mono ?_
  rintro e w4 ⟨mx, gx, D, rfl, ho, hn, hb⟩
  obtain ⟨AX0, cX0, AX1, cX1, DX0, DX1, rfl, rfl, rfl, h1, h2⟩ := store_slices ho
  have HX0 := Aside.mk (owRow_rd ow_box h1)
  have HX1 := Aside.mk (owRow_rd ow_int h2)
  clear ho hn h1 h2
  replace L0 := Aside.mk (L0.out.below hb); replace HB := Aside.mk (below_step HB.out hb); (try clear l0); (try clear q0); (try clear f0); have l0 := L0.out.cells; have q0 := L0.out.lt; have f0 := L0.out.free
  clear hb
  go_wp2_with (fail)
  replace L0 := Aside.mk (L0.out.alloc (.cells #[.int .i64 s.by_, .int .i64 s.tm, .slice AX0 s.bx.length cX0, .slice AX1 s.go.length cX1] 42))
  have LX := Aside.mk (Loc.new w4 #[.int .i64 s.by_, .int .i64 s.tm, .slice AX0 s.bx.length cX0, .slice AX1 s.go.length cX1] 42)
  replace HB := Aside.mk (below_alloc HB.out (.cells #[.int .i64 s.by_, .int .i64 s.tm, .slice AX0 s.bx.length cX0, .slice AX1 s.go.length cX1] 42))
  replace HX0 := Aside.mk (rdBoxes_mov (below_alloc (Below.refl _ _) (.cells #[.int .i64 s.by_, .int .i64 s.tm, .slice AX0 s.bx.length cX0, .slice AX1 s.go.length cX1] 42)) HX0.out)
  replace HX1 := Aside.mk (rdInts_mov (below_alloc (Below.refl _ _) (.cells #[.int .i64 s.by_, .int .i64 s.tm, .slice AX0 s.bx.length cX0, .slice AX1 s.go.length cX1] 42)) HX1.out)
  refine (storeOk_calls _ _ _ s HX0.out HX1.out HTX.out).mono ?_
  rintro e w5 ⟨he, hb⟩
  rw [HRR.out] at he
  subst he
  obtain ⟨BX, hBX⟩ : ∃ BX, BX = w4.heap.size := ⟨_, rfl⟩
  rw [← hBX] at LX
  try rw [← hBX]
  clear hBX
  replace HX0 := Aside.mk (rdBoxes_mov hb HX0.out)
  replace HX1 := Aside.mk (rdInts_mov hb HX1.out)
  replace L0 := Aside.mk (L0.out.below hb); replace LX := Aside.mk (LX.out.below hb); replace HB := Aside.mk (below_step HB.out hb); (try clear l0); (try clear q0); (try clear f0); (try clear lX); (try clear qX); (try clear fX); have l0 := L0.out.cells; have q0 := L0.out.lt; have f0 := L0.out.free; have lX := LX.out.cells; have qX := LX.out.lt; have fX := LX.out.free
  clear hb
  go_wp2_with (fail)
  refine zBegin (S := (fun w' => Loc w' w.heap.size #[.int .i64 s.by_, .int .i64 s.tm, .slice A0 s.bx.length c0, .slice A1 s.go.length c1] 37 ∧ Loc w' BX #[.int .i64 s.by_, .int .i64 s.tm, .slice AX0 s.bx.length cX0, .slice AX1 s.go.length cX1] 42)) (z := 5) (by kernel_rfl) (by exact ⟨L0.out.drew', LX.out.drew'⟩) (fun hHeld => ?_)
  refine zT 0 22 hHeld ?_
  refine zT 1 23 hHeld ?_
  refine zReady (rs := [2]) (by kernel_rfl) (by simp) ?_
  refine zOne (by decide) rfl (fun K hK => ?_) zNil
  go_simp
  refine (toStore_calls _ _ _ s (rdBoxes_mov (below_drew HB.out) HR.out) (rdInts_mov (below_drew HB.out) HG.out) HL.out).mono ?_; rintro e w7 ⟨mx, gx, Da, rfl, hoa, _, hb⟩; obtain ⟨Aa0, ca0, Aa1, ca1, Da0, Da1, rfl, rfl, _, ha0, ha1⟩ := store_slices hoa; have Ha0 := Aside.mk (owRow_rd ow_box ha0); have Ha1 := Aside.mk (owRow_rd ow_int ha1); clear hoa ha0 ha1; have hb0 := below_step (w0 := w5) (below_drew (Below.refl _ w5)) hb; replace HX0 := Aside.mk (rdBoxes_mov hb0 HX0.out); replace HX1 := Aside.mk (rdInts_mov hb0 HX1.out); replace HB := Aside.mk (below_step HB.out hb0); clear hb0
  refine hK.out _ _ (by ((repeat' apply And.intro) <;> (first | exact Loc.below hHeld.1 hb | exact Loc.alloc hHeld.1 _ | exact cell_b hb hHeld.1 | exact cell_alloc' hHeld.1 _ | exact below_step hHeld.1 hb | exact below_alloc hHeld.1 _ | exact Loc.below hHeld hb | exact Loc.alloc hHeld _ | exact cell_b hb hHeld | exact cell_alloc' hHeld _ | exact below_step hHeld hb | exact below_alloc hHeld _ | exact Loc.below hHeld.2.1 hb | exact Loc.alloc hHeld.2.1 _ | exact cell_b hb hHeld.2.1 | exact cell_alloc' hHeld.2.1 _ | exact below_step hHeld.2.1 hb | exact below_alloc hHeld.2.1 _ | exact Loc.below hHeld.2 hb | exact Loc.alloc hHeld.2 _ | exact cell_b hb hHeld.2 | exact cell_alloc' hHeld.2 _ | exact below_step hHeld.2 hb | exact below_alloc hHeld.2 _ | exact Loc.below hHeld.2.2.1 hb | exact Loc.alloc hHeld.2.2.1 _ | exact cell_b hb hHeld.2.2.1 | exact cell_alloc' hHeld.2.2.1 _ | exact below_step hHeld.2.2.1 hb | exact below_alloc hHeld.2.2.1 _ | exact Loc.below hHeld.2.2 hb | exact Loc.alloc hHeld.2.2 _ | exact cell_b hb hHeld.2.2 | exact cell_alloc' hHeld.2.2 _ | exact below_step hHeld.2.2 hb | exact below_alloc hHeld.2.2 _ | exact Loc.below hHeld.2.2.2.1 hb | exact Loc.alloc hHeld.2.2.2.1 _ | exact cell_b hb hHeld.2.2.2.1 | exact cell_alloc' hHeld.2.2.2.1 _ | exact below_step hHeld.2.2.2.1 hb | exact below_alloc hHeld.2.2.2.1 _ | exact Loc.below hHeld.2.2.2 hb | exact Loc.alloc hHeld.2.2.2 _ | exact cell_b hb hHeld.2.2.2 | exact cell_alloc' hHeld.2.2.2 _ | exact below_step hHeld.2.2.2 hb | exact below_alloc hHeld.2.2.2 _ | exact Loc.below hHeld.2.2.2.2.1 hb | exact Loc.alloc hHeld.2.2.2.2.1 _ | exact cell_b hb hHeld.2.2.2.2.1 | exact cell_alloc' hHeld.2.2.2.2.1 _ | exact below_step hHeld.2.2.2.2.1 hb | exact below_alloc hHeld.2.2.2.2.1 _ | exact Loc.below hHeld.2.2.2.2 hb | exact Loc.alloc hHeld.2.2.2.2 _ | exact cell_b hb hHeld.2.2.2.2 | exact cell_alloc' hHeld.2.2.2.2 _ | exact below_step hHeld.2.2.2.2 hb | exact below_alloc hHeld.2.2.2.2 _ | exact Loc.below hHeld.2.2.2.2.2.1 hb | exact Loc.alloc hHeld.2.2.2.2.2.1 _ | exact cell_b hb hHeld.2.2.2.2.2.1 | exact cell_alloc' hHeld.2.2.2.2.2.1 _ | exact below_step hHeld.2.2.2.2.2.1 hb | exact below_alloc hHeld.2.2.2.2.2.1 _ | exact Loc.below hHeld.2.2.2.2.2 hb | exact Loc.alloc hHeld.2.2.2.2.2 _ | exact cell_b hb hHeld.2.2.2.2.2 | exact cell_alloc' hHeld.2.2.2.2.2 _ | exact below_step hHeld.2.2.2.2.2 hb | exact below_alloc hHeld.2.2.2.2.2 _ | exact Loc.below hHeld.2.2.2.2.2.2.1 hb | exact Loc.alloc hHeld.2.2.2.2.2.2.1 _ | exact cell_b hb hHeld.2.2.2.2.2.2.1 | exact cell_alloc' hHeld.2.2.2.2.2.2.1 _ | exact below_step hHeld.2.2.2.2.2.2.1 hb | exact below_alloc hHeld.2.2.2.2.2.2.1 _ | exact Loc.below hHeld.2.2.2.2.2.2 hb | exact Loc.alloc hHeld.2.2.2.2.2.2 _ | exact cell_b hb hHeld.2.2.2.2.2.2 | exact cell_alloc' hHeld.2.2.2.2.2.2 _ | exact below_step hHeld.2.2.2.2.2.2 hb | exact below_alloc hHeld.2.2.2.2.2.2 _ | exact Loc.below hHeld.2.2.2.2.2.2.2.1 hb | exact Loc.alloc hHeld.2.2.2.2.2.2.2.1 _ | exact cell_b hb hHeld.2.2.2.2.2.2.2.1 | exact cell_alloc' hHeld.2.2.2.2.2.2.2.1 _ | exact below_step hHeld.2.2.2.2.2.2.2.1 hb | exact below_alloc hHeld.2.2.2.2.2.2.2.1 _ | exact Loc.below hHeld.2.2.2.2.2.2.2 hb | exact Loc.alloc hHeld.2.2.2.2.2.2.2 _ | exact cell_b hb hHeld.2.2.2.2.2.2.2 | exact cell_alloc' hHeld.2.2.2.2.2.2.2 _ | exact below_step hHeld.2.2.2.2.2.2.2 hb | exact below_alloc hHeld.2.2.2.2.2.2.2 _ | exact Loc.below hHeld.2.2.2.2.2.2.2.2.1 hb | exact Loc.alloc hHeld.2.2.2.2.2.2.2.2.1 _ | exact cell_b hb hHeld.2.2.2.2.2.2.2.2.1 | exact cell_alloc' hHeld.2.2.2.2.2.2.2.2.1 _ | exact below_step hHeld.2.2.2.2.2.2.2.2.1 hb | exact below_alloc hHeld.2.2.2.2.2.2.2.2.1 _ | exact Loc.below hHeld.2.2.2.2.2.2.2.2 hb | exact Loc.alloc hHeld.2.2.2.2.2.2.2.2 _ | exact cell_b hb hHeld.2.2.2.2.2.2.2.2 | exact cell_alloc' hHeld.2.2.2.2.2.2.2.2 _ | exact below_step hHeld.2.2.2.2.2.2.2.2 hb | exact below_alloc hHeld.2.2.2.2.2.2.2.2 _))) (fun hHeld => ?_)
  clear hK K
  (try simp only [Act.put, List.setIfInBounds_toArray, List.set_cons_zero, List.set_cons_succ])
  clear hb
  refine zReady (rs := [3]) (by kernel_rfl) (by simp) ?_
  refine zOne (by decide) rfl (fun K hK => ?_) zNil
  go_simp
  refine (eqStore_calls _ _ _ _ _ s HX0.out HX1.out Ha0.out Ha1.out).mono ?_; rintro e w8 ⟨rfl, hb⟩; replace HB := Aside.mk (below_step HB.out hb)
  refine hK.out _ _ (by ((repeat' apply And.intro) <;> (first | exact Loc.below hHeld.1 hb | exact Loc.alloc hHeld.1 _ | exact cell_b hb hHeld.1 | exact cell_alloc' hHeld.1 _ | exact below_step hHeld.1 hb | exact below_alloc hHeld.1 _ | exact Loc.below hHeld hb | exact Loc.alloc hHeld _ | exact cell_b hb hHeld | exact cell_alloc' hHeld _ | exact below_step hHeld hb | exact below_alloc hHeld _ | exact Loc.below hHeld.2.1 hb | exact Loc.alloc hHeld.2.1 _ | exact cell_b hb hHeld.2.1 | exact cell_alloc' hHeld.2.1 _ | exact below_step hHeld.2.1 hb | exact below_alloc hHeld.2.1 _ | exact Loc.below hHeld.2 hb | exact Loc.alloc hHeld.2 _ | exact cell_b hb hHeld.2 | exact cell_alloc' hHeld.2 _ | exact below_step hHeld.2 hb | exact below_alloc hHeld.2 _ | exact Loc.below hHeld.2.2.1 hb | exact Loc.alloc hHeld.2.2.1 _ | exact cell_b hb hHeld.2.2.1 | exact cell_alloc' hHeld.2.2.1 _ | exact below_step hHeld.2.2.1 hb | exact below_alloc hHeld.2.2.1 _ | exact Loc.below hHeld.2.2 hb | exact Loc.alloc hHeld.2.2 _ | exact cell_b hb hHeld.2.2 | exact cell_alloc' hHeld.2.2 _ | exact below_step hHeld.2.2 hb | exact below_alloc hHeld.2.2 _ | exact Loc.below hHeld.2.2.2.1 hb | exact Loc.alloc hHeld.2.2.2.1 _ | exact cell_b hb hHeld.2.2.2.1 | exact cell_alloc' hHeld.2.2.2.1 _ | exact below_step hHeld.2.2.2.1 hb | exact below_alloc hHeld.2.2.2.1 _ | exact Loc.below hHeld.2.2.2 hb | exact Loc.alloc hHeld.2.2.2 _ | exact cell_b hb hHeld.2.2.2 | exact cell_alloc' hHeld.2.2.2 _ | exact below_step hHeld.2.2.2 hb | exact below_alloc hHeld.2.2.2 _ | exact Loc.below hHeld.2.2.2.2.1 hb | exact Loc.alloc hHeld.2.2.2.2.1 _ | exact cell_b hb hHeld.2.2.2.2.1 | exact cell_alloc' hHeld.2.2.2.2.1 _ | exact below_step hHeld.2.2.2.2.1 hb | exact below_alloc hHeld.2.2.2.2.1 _ | exact Loc.below hHeld.2.2.2.2 hb | exact Loc.alloc hHeld.2.2.2.2 _ | exact cell_b hb hHeld.2.2.2.2 | exact cell_alloc' hHeld.2.2.2.2 _ | exact below_step hHeld.2.2.2.2 hb | exact below_alloc hHeld.2.2.2.2 _ | exact Loc.below hHeld.2.2.2.2.2.1 hb | exact Loc.alloc hHeld.2.2.2.2.2.1 _ | exact cell_b hb hHeld.2.2.2.2.2.1 | exact cell_alloc' hHeld.2.2.2.2.2.1 _ | exact below_step hHeld.2.2.2.2.2.1 hb | exact below_alloc hHeld.2.2.2.2.2.1 _ | exact Loc.below hHeld.2.2.2.2.2 hb | exact Loc.alloc hHeld.2.2.2.2.2 _ | exact cell_b hb hHeld.2.2.2.2.2 | exact cell_alloc' hHeld.2.2.2.2.2 _ | exact below_step hHeld.2.2.2.2.2 hb | exact below_alloc hHeld.2.2.2.2.2 _ | exact Loc.below hHeld.2.2.2.2.2.2.1 hb | exact Loc.alloc hHeld.2.2.2.2.2.2.1 _ | exact cell_b hb hHeld.2.2.2.2.2.2.1 | exact cell_alloc' hHeld.2.2.2.2.2.2.1 _ | exact below_step hHeld.2.2.2.2.2.2.1 hb | exact below_alloc hHeld.2.2.2.2.2.2.1 _ | exact Loc.below hHeld.2.2.2.2.2.2 hb | exact Loc.alloc hHeld.2.2.2.2.2.2 _ | exact cell_b hb hHeld.2.2.2.2.2.2 | exact cell_alloc' hHeld.2.2.2.2.2.2 _ | exact below_step hHeld.2.2.2.2.2.2 hb | exact below_alloc hHeld.2.2.2.2.2.2 _ | exact Loc.below hHeld.2.2.2.2.2.2.2.1 hb | exact Loc.alloc hHeld.2.2.2.2.2.2.2.1 _ | exact cell_b hb hHeld.2.2.2.2.2.2.2.1 | exact cell_alloc' hHeld.2.2.2.2.2.2.2.1 _ | exact below_step hHeld.2.2.2.2.2.2.2.1 hb | exact below_alloc hHeld.2.2.2.2.2.2.2.1 _ | exact Loc.below hHeld.2.2.2.2.2.2.2 hb | exact Loc.alloc hHeld.2.2.2.2.2.2.2 _ | exact cell_b hb hHeld.2.2.2.2.2.2.2 | exact cell_alloc' hHeld.2.2.2.2.2.2.2 _ | exact below_step hHeld.2.2.2.2.2.2.2 hb | exact below_alloc hHeld.2.2.2.2.2.2.2 _ | exact Loc.below hHeld.2.2.2.2.2.2.2.2.1 hb | exact Loc.alloc hHeld.2.2.2.2.2.2.2.2.1 _ | exact cell_b hb hHeld.2.2.2.2.2.2.2.2.1 | exact cell_alloc' hHeld.2.2.2.2.2.2.2.2.1 _ | exact below_step hHeld.2.2.2.2.2.2.2.2.1 hb | exact below_alloc hHeld.2.2.2.2.2.2.2.2.1 _ | exact Loc.below hHeld.2.2.2.2.2.2.2.2 hb | exact Loc.alloc hHeld.2.2.2.2.2.2.2.2 _ | exact cell_b hb hHeld.2.2.2.2.2.2.2.2 | exact cell_alloc' hHeld.2.2.2.2.2.2.2.2 _ | exact below_step hHeld.2.2.2.2.2.2.2.2 hb | exact below_alloc hHeld.2.2.2.2.2.2.2.2 _))) (fun hHeld => ?_)
  clear hK K
  (try simp only [Act.put, List.setIfInBounds_toArray, List.set_cons_zero, List.set_cons_succ])
  clear hb
  refine zT 4 26 hHeld ?_
  refine zDone (by kernel_rfl) ?_ _
  clear l0 q0 f0 lX qX fX
  go_wp2
  go_ret
  exact ⟨rfl, HB.out⟩
end Go.Proofs.Ythhbcakmfbjepaa.H
