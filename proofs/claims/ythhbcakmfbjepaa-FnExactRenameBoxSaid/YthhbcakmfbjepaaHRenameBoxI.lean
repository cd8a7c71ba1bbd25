/- RenameBox, the program's: the walk. Printed by this session's gen_rename.py. -/
import Derived.Test.YthhbcakmfbjepaaHMarkMailI
import Derived.Deep.DeepCutAuto
namespace Go.Proofs.Ythhbcakmfbjepaa.H
open Go.RowKit
set_option linter.unusedVariables false
set_option linter.unusedSimpArgs false
set_option maxHeartbeats 20000000 in
set_option maxRecDepth 100000 in
theorem renameBox_calls (w : World) (bv gv : Value) (s : Store) (g : Int) (tx : ByteArray) (h : rdBoxes w bv s.bx) (hg : rdInts w gv s.go) (hl : smStore s) (ht : ∀ b ∈ s.bx, txBox b) (htx : tx.size ≤ 9223372036854775807) :
    Calls Try.prog 46 #[.agg #[.int .i64 s.by_, .int .i64 s.tm, bv, gv], .int .i64 g, .string tx] w (RetStoreB w w (renameBox s g tx)) := by
  obtain ⟨A0, c0, rfl, _, hm⟩ := rd_len h
  obtain ⟨A1, c1, rfl, _, _⟩ := rd_len hg
  obtain ⟨wz, hwz⟩ : ∃ wz : World, wz.heap.size = w.heap.size + 2 := ⟨(w.alloc (.cells #[] 0)).alloc (.cells #[] 0), by simp⟩
  have HZ := Aside.mk hwz
  clear hwz
  have HR := Aside.mk h
  have HG := Aside.mk hg
  have HL := Aside.mk hl
  have HT := Aside.mk ht
  clear h hg hl ht
  rcases h1 : storeOk s with _ | _
  rotate_left
  by_cases h2 : 0 ≤ boxAt s.bx g
  by_cases h3 : 0 ≤ boxNamed s.bx tx
  rotate_left
  · obtain ⟨kk, hkk⟩ : ∃ kk : Nat, boxAt s.bx g = (kk : Int) := Int.eq_ofNat_of_zero_le h2
    have hlt : kk < s.bx.length := by have := boxAt_lt h2; rw [hkk] at this; simpa using this
    obtain ⟨m, hm0⟩ : ∃ m, m = s.bx[kk] := ⟨_, rfl⟩
    obtain ⟨rs, rk, HRS⟩ : ∃ rs rk, Aside (orElse { s with tm := s.tm + 1, bx := s.bx.set kk (renamed tx (s.tm + 1) s.by_ m) } s = (rs, rk)) := ⟨_, _, ⟨rfl⟩⟩
    have HE : Aside (renameBox s g tx = (rs, rk)) := ⟨by unfold renameBox; rw [h1, hkk, decide_eq_true (show (0 : Int) ≤ (kk : Int) by omega), decide_eq_true (show boxNamed s.bx tx < 0 by omega)]; simp only [Bool.and_self, if_true, Int.toNat_natCast]; rw [modify_set hlt, ← hm0]; exact HRS.out⟩
    have HTM : Aside (txBox m) := ⟨hm0 ▸ HT.out _ (List.getElem_mem hlt)⟩
    have HM0 := Aside.mk hm0
    have HKK := Aside.mk hkk
    have HKL := Aside.mk hlt
    have hq0 : (0 : Int) ≤ (kk : Int) := by omega
    have hq1 : (kk : Int) < (s.bx.length : Int) := by omega
    have htm := storeOk_tm h1
    obtain ⟨htm0, htm1⟩ := htm
    clear hm0 h2 hkk
    go_enter Try.func46, Try.ntmps46
    go_wp2_with (fail)
    refine (copyStore_calls _ _ _ s (rdBoxes_mov (by (repeat (first | (with_reducible exact HB.out) | (with_reducible exact Below.refl _ _) | (with_reducible refine below_set ?_ (by first | omega | (dsimp only; omega) | (simp; done) | (simp; omega)) _) | (with_reducible refine below_alloc ?_ _) | (with_reducible refine below_drewN ?_ _) | (with_reducible refine below_drew ?_)))) HR.out) (rdInts_mov (by (repeat (first | (with_reducible exact HB.out) | (with_reducible exact Below.refl _ _) | (with_reducible refine below_set ?_ (by first | omega | (dsimp only; omega) | (simp; done) | (simp; omega)) _) | (with_reducible refine below_alloc ?_ _) | (with_reducible refine below_drewN ?_ _) | (with_reducible refine below_drew ?_)))) HG.out) HL.out).mono ?_
    rintro e w1 ⟨mx, gx, D, rfl, ho, hn, hb⟩
    obtain ⟨Am, cm, Ag, cg, D1, D2, rfl, rfl, rfl, hom, hog⟩ := store_slices ho
    have L0 := Aside.mk (((Loc.new w #[.int .i64 s.by_, .int .i64 s.tm, .slice A0 s.bx.length c0, .slice A1 s.go.length c1] 42).alloc (.cells #[.int .i64 0, .int .i64 0, .slice none 0 0, .slice none 0 0] 42)).below hb)
    have L1 := Aside.mk ((Loc.new1 w (.cells #[.int .i64 s.by_, .int .i64 s.tm, .slice A0 s.bx.length c0, .slice A1 s.go.length c1] 42) #[.int .i64 0, .int .i64 0, .slice none 0 0, .slice none 0 0] 42).below hb)
    have HB := Aside.mk (below_step (w0 := w) (by (repeat (first | (with_reducible exact HB.out) | (with_reducible exact Below.refl _ _) | (with_reducible refine below_set ?_ (by first | omega | (dsimp only; omega) | (simp; done) | (simp; omega)) _) | (with_reducible refine below_alloc ?_ _) | (with_reducible refine below_drewN ?_ _) | (with_reducible refine below_drew ?_)))) hb)
    have HOm := Aside.mk hom
    have HOg := Aside.mk hog
    have HN : Aside (New wz w1 (D1 ++ D2)) := ⟨hn.from (by have := HZ.out; simp; omega)⟩
    clear ho hom hog hn hb
    have l0 := L0.out.cells
    have l1 := L1.out.cells
    have q0 := L0.out.lt
    have q1 := L1.out.lt
    go_wp2_with (fail)
    replace L0 := Aside.mk (L0.out.alloc (.cells #[.int .i64 s.by_, .int .i64 s.tm, .slice Am s.bx.length cm, .slice Ag s.go.length cg] 42))
    replace L1 := Aside.mk (L1.out.alloc (.cells #[.int .i64 s.by_, .int .i64 s.tm, .slice Am s.bx.length cm, .slice Ag s.go.length cg] 42))
    have L3 := Aside.mk (Loc.new w1 #[.int .i64 s.by_, .int .i64 s.tm, .slice Am s.bx.length cm, .slice Ag s.go.length cg] 42)
    replace HB := Aside.mk (below_alloc HB.out (.cells #[.int .i64 s.by_, .int .i64 s.tm, .slice Am s.bx.length cm, .slice Ag s.go.length cg] 42))
    replace HOm := Aside.mk (owRow_alloc ow_box HOm.out (.cells #[.int .i64 s.by_, .int .i64 s.tm, .slice Am s.bx.length cm, .slice Ag s.go.length cg] 42))
    replace HOg := Aside.mk (owRow_alloc ow_int HOg.out (.cells #[.int .i64 s.by_, .int .i64 s.tm, .slice Am s.bx.length cm, .slice Ag s.go.length cg] 42))
    have HN0 := HN
    replace HN := Aside.mk (HN.out.alloc (.cells #[.int .i64 s.by_, .int .i64 s.tm, .slice Am s.bx.length cm, .slice Ag s.go.length cg] 42))
    obtain ⟨B3, hB3⟩ : ∃ B3, B3 = w1.heap.size := ⟨_, rfl⟩
    have HB3 : Aside (w.heap.size + 2 ≤ B3 ∧ B3 ∉ D1 ++ D2) := ⟨by have := L1.out.lt; simp at this; omega, fun hx => by have := (HN0.out.2 _ hx).2; omega⟩
    rw [← hB3] at L3
    obtain ⟨w2, hw2⟩ : ∃ w2, w2 = w1.alloc (.cells #[.int .i64 s.by_, .int .i64 s.tm, .slice Am s.bx.length cm, .slice Ag s.go.length cg] 42) := ⟨_, rfl⟩
    rw [← hw2] at L0 L1 L3 HB HOm HOg HN
    clear l0 l1 q0 q1 HN0
    have l0 := L0.out.cells
    have l1 := L1.out.cells
    have l3 := L3.out.cells
    have q0 := L0.out.lt
    have q1 := L1.out.lt
    have q3 := L3.out.lt
    have f1 := L1.out.free
    have f3 := L3.out.free
    try rw [← hB3]
    try rw [← hw2]
    clear hB3 hw2
    go_wp2_with (first
      | (go_at_call 139; refine (boxAt_calls _ _ _ s g (rdBoxes_mov HB.out HR.out) rfl).mono ?_; rintro e w' ⟨he, hb⟩; (try rw [HKK.out] at he); subst he; replace L0 := Aside.mk (L0.out.below hb); replace L1 := Aside.mk (L1.out.below hb); replace L3 := Aside.mk (L3.out.below hb); replace HOm := Aside.mk (owRow_below ow_box HOm.out hb); replace HOg := Aside.mk (owRow_below ow_int HOg.out hb); replace HN := Aside.mk (HN.out.mono hb.size); replace HB := Aside.mk (below_step HB.out hb); (try clear l0); (try clear q0); (try clear f0); (try clear l1); (try clear q1); (try clear f1); (try clear l3); (try clear q3); (try clear f3); have l0 := L0.out.cells; have q0 := L0.out.lt; have f0 := L0.out.free; have l1 := L1.out.cells; have q1 := L1.out.lt; have f1 := L1.out.free; have l3 := L3.out.cells; have q3 := L3.out.lt; have f3 := L3.out.free; clear hb)
      | (go_at_call 27; refine (storeOk_calls _ _ _ s (rdBoxes_mov HB.out HR.out) (rdInts_mov HB.out HG.out) HT.out).mono ?_; rintro e w' ⟨he, hb⟩; rw [h1] at he; subst he; replace L0 := Aside.mk (L0.out.below hb); replace L1 := Aside.mk (L1.out.below hb); replace L3 := Aside.mk (L3.out.below hb); replace HOm := Aside.mk (owRow_below ow_box HOm.out hb); replace HOg := Aside.mk (owRow_below ow_int HOg.out hb); replace HN := Aside.mk (HN.out.mono hb.size); replace HB := Aside.mk (below_step HB.out hb); (try clear l0); (try clear q0); (try clear f0); (try clear l1); (try clear q1); (try clear f1); (try clear l3); (try clear q3); (try clear f3); have l0 := L0.out.cells; have q0 := L0.out.lt; have f0 := L0.out.free; have l1 := L1.out.cells; have q1 := L1.out.lt; have f1 := L1.out.free; have l3 := L3.out.cells; have q3 := L3.out.lt; have f3 := L3.out.free; clear hb)
      | (go_at_call 105; refine (boxNamed_calls _ _ _ s tx (rdBoxes_mov HB.out HR.out) rfl).mono ?_; rintro e w' ⟨rfl, hb⟩; replace L0 := Aside.mk (L0.out.below hb); replace L1 := Aside.mk (L1.out.below hb); replace L3 := Aside.mk (L3.out.below hb); replace HOm := Aside.mk (owRow_below ow_box HOm.out hb); replace HOg := Aside.mk (owRow_below ow_int HOg.out hb); replace HN := Aside.mk (HN.out.mono hb.size); replace HB := Aside.mk (below_step HB.out hb); (try clear l0); (try clear q0); (try clear f0); (try clear l1); (try clear q1); (try clear f1); (try clear l3); (try clear q3); (try clear f3); have l0 := L0.out.cells; have q0 := L0.out.lt; have f0 := L0.out.free; have l1 := L1.out.cells; have q1 := L1.out.lt; have f1 := L1.out.free; have l3 := L3.out.cells; have q3 := L3.out.lt; have f3 := L3.out.free; clear hb))
    clear h1 h3
    obtain ⟨wq, hwq⟩ : ∃ wq : World, wq = w' := ⟨_, rfl⟩
    subst hwq
    obtain ⟨g0, c', Di, xi, hv, hgD, hgi, hDi, hnd, hRi, hcell, hfr, ⟨cur, hcur⟩, FF⟩ := owRow_focus ow_box HOm.out HN.out.left.1 kk HKL.out (by decide)
    obtain rfl : Am = some ⟨g0, 0, none⟩ := by injection hv
    obtain ⟨mv, gw, E0, E1, hxi, hEE, hom, hog⟩ := hRi
    rw [← HM0.out] at hxi hom hog
    subst hxi hEE
    have y0 : wq.cell? ⟨g0, kk * 7, none⟩ = some (.int .i64 m.g) := hcell 0 _ rfl
    have y1 : wq.cell? ⟨g0, kk * 7 + 1, none⟩ = some (.string m.nm) := hcell 1 _ rfl
    have y2 : wq.cell? ⟨g0, kk * 7 + 2, none⟩ = some (.int .i64 m.t) := hcell 2 _ rfl
    have y3 : wq.cell? ⟨g0, kk * 7 + 3, none⟩ = some (.int .i64 m.b) := hcell 3 _ rfl
    have p1 := hfr (kk * 7 + 1)
    have p2 := hfr (kk * 7 + 2)
    have p3 := hfr (kk * 7 + 3)
    have HFF := Aside.mk FF
    have HCL := Aside.mk hcell
    have HFR := Aside.mk hfr
    have HOx := Aside.mk hom
    have HOy := Aside.mk hog
    have HDI := Aside.mk (And.intro hDi hnd)
    have HCU := Aside.mk hcur
    have HG0 : Aside (w.heap.size + 2 ≤ g0 ∧ g0 < wq.heap.size ∧ g0 ∉ D2 ∧ g0 ≠ B3 ∧ g0 ∉ E0 ++ E1) := ⟨by have h := HN.out.2 g0 (by simp [hgD]); have := HZ.out; exact ⟨by omega, h.2, HN.out.off g0 hgD, fun e => HB3.out.2 (by simp [← e, hgD]), hgi⟩⟩
    have hgl := HG0.out.2.1
    have hg0 : w.heap.size + 2 ≤ g0 := HG0.out.1
    have hgB : g0 ≠ B3 := HG0.out.2.2.2.1
    have hB3 := HB3.out.1
    have hne0 : w.heap.size ≠ g0 := by omega
    have hne1 : w.heap.size + 1 ≠ g0 := by omega
    have hneB : B3 ≠ g0 := fun e => hgB e.symm
    have hm0 : w.heap.size ≠ B3 := by omega
    have hm1 : w.heap.size + 1 ≠ B3 := by omega
    clear FF hcell hfr hv hom hog hDi hnd hgi hgD hcur
    go_wp2_with (fail)
    go_simp
    go_wp2_with (fail)
    obtain ⟨w7, hw7⟩ : ∃ w7, w7 = (wq.setCell ⟨B3, 1, none⟩ (.int .i64 (s.tm + 1))).setCell ⟨g0, kk * 7 + 1, none⟩ (.string tx) := ⟨_, rfl⟩
    rw [← hw7]
    have hs7 : w7.heap.size = wq.heap.size := by rw [hw7]; simp [World.setCell]
    have L07 : Aside (Loc w7 w.heap.size #[.int .i64 s.by_, .int .i64 s.tm, .slice A0 s.bx.length c0, .slice A1 s.go.length c1] 42) := ⟨by rw [hw7]; exact (L0.out.set (p := ⟨B3, 1, none⟩) hm0 _).set (p := ⟨g0, kk * 7 + 1, none⟩) hne0 _⟩
    have L17 : Aside (Loc w7 (w.heap.size + 1) #[.int .i64 0, .int .i64 0, .slice none 0 0, .slice none 0 0] 42) := ⟨by rw [hw7]; exact (L1.out.set (p := ⟨B3, 1, none⟩) hm1 _).set (p := ⟨g0, kk * 7 + 1, none⟩) hne1 _⟩
    have L37 : Aside (Loc w7 B3 #[.int .i64 s.by_, .int .i64 (s.tm + 1), .slice (some ⟨g0, 0, none⟩) s.bx.length cm, .slice Ag s.go.length cg] 42) := ⟨by rw [hw7]; exact (L3.out.put 1 (.int .i64 (s.tm + 1))).set (p := ⟨g0, kk * 7 + 1, none⟩) hneB _⟩
    have HW7 := Aside.mk hw7
    have HS7 := Aside.mk hs7
    have z2 : w7.cell? ⟨g0, kk * 7 + 2, none⟩ = some (.int .i64 m.t) := by rw [hw7]; rw [World.cell?_setCell_other _ _ _ _ (by intro e; injection e with e1 e2; omega)]; rw [World.cell?_setCell_other _ _ _ _ (by intro e; injection e with e1 e2; exact hgB e1.symm)]; exact y2
    have z3 : w7.cell? ⟨g0, kk * 7 + 3, none⟩ = some (.int .i64 m.b) := by rw [hw7]; rw [World.cell?_setCell_other _ _ _ _ (by intro e; injection e with e1 e2; omega)]; rw [World.cell?_setCell_other _ _ _ _ (by intro e; injection e with e1 e2; exact hgB e1.symm)]; exact y3
    have z1 : w7.cell? ⟨g0, kk * 7 + 1, none⟩ = some (.string tx) := by rw [hw7]; have hq : (wq.setCell ⟨B3, 1, none⟩ (.int .i64 (s.tm + 1))).cell? ⟨g0, kk * 7 + 1, none⟩ = some (.string m.nm) := (by rw [World.cell?_setCell_other _ _ _ _ (by intro e; injection e with e1 e2; exact hgB e1.symm)]; exact y1); exact World.cell?_setCell_same _ _ _ hq
    have r2 : w7.frozen? ⟨g0, kk * 7 + 2, none⟩ = false := by rw [hw7]; simp only [World.frozen?_setCell]; exact p2
    have r3 : w7.frozen? ⟨g0, kk * 7 + 3, none⟩ = false := by rw [hw7]; simp only [World.frozen?_setCell]; exact p3
    have ZZ := Aside.mk (And.intro z1 (And.intro z2 (And.intro z3 (And.intro r2 r3))))
    clear hw7 hs7 z1 z2 z3 r2 r3 y0 y1 y2 y3 p1 p2 p3 l0 l1 l3 q0 q1 q3 f0 f1 f3
    refine yBegin (S := (fun w' => Loc w' w.heap.size #[.int .i64 s.by_, .int .i64 s.tm, .slice A0 s.bx.length c0, .slice A1 s.go.length c1] 42 ∧ Loc w' (w.heap.size + 1) #[.int .i64 0, .int .i64 0, .slice none 0 0, .slice none 0 0] 42 ∧ Loc w' B3 #[.int .i64 s.by_, .int .i64 (s.tm + 1), .slice (some ⟨g0, 0, none⟩) s.bx.length cm, .slice Ag s.go.length cg] 42)) (z := 7) (by kernel_rfl) (by exact ⟨L07.out.drew', L17.out.drew', L37.out.drew'⟩) (fun hHeld => ?_)
    refine yT 0 39 hHeld ?_
    refine yT 1 40 hHeld ?_
    refine yT 2 41 hHeld ?_
    refine yT 3 42 hHeld ?_
    refine yReady (rs := [4]) (by kernel_rfl) (by simp) ?_
    refine yOne rfl (fun K hK => ?_) yNil
    go_simp
    refine (nextStamp_calls _ s _ _ _ _ _ _ htm0 htm1).mono ?_; rintro e wt ⟨rfl, hb⟩; have HBT := Aside.mk (below_step (w0 := w7) (below_drew (Below.refl _ _)) hb)
    refine hK.out _ _ (by ((repeat' apply And.intro) <;> (first | exact Loc.below hHeld.1 hb | exact Loc.alloc hHeld.1 _ | exact cell_b hb hHeld.1 | exact cell_alloc' hHeld.1 _ | exact below_step hHeld.1 hb | exact below_alloc hHeld.1 _ | exact Loc.below hHeld hb | exact Loc.alloc hHeld _ | exact cell_b hb hHeld | exact cell_alloc' hHeld _ | exact below_step hHeld hb | exact below_alloc hHeld _ | exact Loc.below hHeld.2.1 hb | exact Loc.alloc hHeld.2.1 _ | exact cell_b hb hHeld.2.1 | exact cell_alloc' hHeld.2.1 _ | exact below_step hHeld.2.1 hb | exact below_alloc hHeld.2.1 _ | exact Loc.below hHeld.2 hb | exact Loc.alloc hHeld.2 _ | exact cell_b hb hHeld.2 | exact cell_alloc' hHeld.2 _ | exact below_step hHeld.2 hb | exact below_alloc hHeld.2 _ | exact Loc.below hHeld.2.2.1 hb | exact Loc.alloc hHeld.2.2.1 _ | exact cell_b hb hHeld.2.2.1 | exact cell_alloc' hHeld.2.2.1 _ | exact below_step hHeld.2.2.1 hb | exact below_alloc hHeld.2.2.1 _ | exact Loc.below hHeld.2.2 hb | exact Loc.alloc hHeld.2.2 _ | exact cell_b hb hHeld.2.2 | exact cell_alloc' hHeld.2.2 _ | exact below_step hHeld.2.2 hb | exact below_alloc hHeld.2.2 _ | exact Loc.below hHeld.2.2.2.1 hb | exact Loc.alloc hHeld.2.2.2.1 _ | exact cell_b hb hHeld.2.2.2.1 | exact cell_alloc' hHeld.2.2.2.1 _ | exact below_step hHeld.2.2.2.1 hb | exact below_alloc hHeld.2.2.2.1 _ | exact Loc.below hHeld.2.2.2 hb | exact Loc.alloc hHeld.2.2.2 _ | exact cell_b hb hHeld.2.2.2 | exact cell_alloc' hHeld.2.2.2 _ | exact below_step hHeld.2.2.2 hb | exact below_alloc hHeld.2.2.2 _ | exact Loc.below hHeld.2.2.2.2.1 hb | exact Loc.alloc hHeld.2.2.2.2.1 _ | exact cell_b hb hHeld.2.2.2.2.1 | exact cell_alloc' hHeld.2.2.2.2.1 _ | exact below_step hHeld.2.2.2.2.1 hb | exact below_alloc hHeld.2.2.2.2.1 _ | exact Loc.below hHeld.2.2.2.2 hb | exact Loc.alloc hHeld.2.2.2.2 _ | exact cell_b hb hHeld.2.2.2.2 | exact cell_alloc' hHeld.2.2.2.2 _ | exact below_step hHeld.2.2.2.2 hb | exact below_alloc hHeld.2.2.2.2 _ | exact Loc.below hHeld.2.2.2.2.2.1 hb | exact Loc.alloc hHeld.2.2.2.2.2.1 _ | exact cell_b hb hHeld.2.2.2.2.2.1 | exact cell_alloc' hHeld.2.2.2.2.2.1 _ | exact below_step hHeld.2.2.2.2.2.1 hb | exact below_alloc hHeld.2.2.2.2.2.1 _ | exact Loc.below hHeld.2.2.2.2.2 hb | exact Loc.alloc hHeld.2.2.2.2.2 _ | exact cell_b hb hHeld.2.2.2.2.2 | exact cell_alloc' hHeld.2.2.2.2.2 _ | exact below_step hHeld.2.2.2.2.2 hb | exact below_alloc hHeld.2.2.2.2.2 _ | exact Loc.below hHeld.2.2.2.2.2.2.1 hb | exact Loc.alloc hHeld.2.2.2.2.2.2.1 _ | exact cell_b hb hHeld.2.2.2.2.2.2.1 | exact cell_alloc' hHeld.2.2.2.2.2.2.1 _ | exact below_step hHeld.2.2.2.2.2.2.1 hb | exact below_alloc hHeld.2.2.2.2.2.2.1 _ | exact Loc.below hHeld.2.2.2.2.2.2 hb | exact Loc.alloc hHeld.2.2.2.2.2.2 _ | exact cell_b hb hHeld.2.2.2.2.2.2 | exact cell_alloc' hHeld.2.2.2.2.2.2 _ | exact below_step hHeld.2.2.2.2.2.2 hb | exact below_alloc hHeld.2.2.2.2.2.2 _ | exact Loc.below hHeld.2.2.2.2.2.2.2.1 hb | exact Loc.alloc hHeld.2.2.2.2.2.2.2.1 _ | exact cell_b hb hHeld.2.2.2.2.2.2.2.1 | exact cell_alloc' hHeld.2.2.2.2.2.2.2.1 _ | exact below_step hHeld.2.2.2.2.2.2.2.1 hb | exact below_alloc hHeld.2.2.2.2.2.2.2.1 _ | exact Loc.below hHeld.2.2.2.2.2.2.2 hb | exact Loc.alloc hHeld.2.2.2.2.2.2.2 _ | exact cell_b hb hHeld.2.2.2.2.2.2.2 | exact cell_alloc' hHeld.2.2.2.2.2.2.2 _ | exact below_step hHeld.2.2.2.2.2.2.2 hb | exact below_alloc hHeld.2.2.2.2.2.2.2 _ | exact Loc.below hHeld.2.2.2.2.2.2.2.2.1 hb | exact Loc.alloc hHeld.2.2.2.2.2.2.2.2.1 _ | exact cell_b hb hHeld.2.2.2.2.2.2.2.2.1 | exact cell_alloc' hHeld.2.2.2.2.2.2.2.2.1 _ | exact below_step hHeld.2.2.2.2.2.2.2.2.1 hb | exact below_alloc hHeld.2.2.2.2.2.2.2.2.1 _ | exact Loc.below hHeld.2.2.2.2.2.2.2.2 hb | exact Loc.alloc hHeld.2.2.2.2.2.2.2.2 _ | exact cell_b hb hHeld.2.2.2.2.2.2.2.2 | exact cell_alloc' hHeld.2.2.2.2.2.2.2.2 _ | exact below_step hHeld.2.2.2.2.2.2.2.2 hb | exact below_alloc hHeld.2.2.2.2.2.2.2.2 _))) (fun hHeld => ?_)
    clear hK K
    (try simp only [Act.put, List.setIfInBounds_toArray, List.set_cons_zero, List.set_cons_succ])
    clear hb
    refine yP 5 44 hHeld ?_
    refine yT 6 45 hHeld ?_
    refine yReady (rs := [7]) (by kernel_rfl) (by simp) ?_
    refine yLast (Or.inl rfl) rfl (fun K hK => ?_) yNil
    have v2 := cell_b HBT.out ZZ.out.2.1; have v3 := cell_b HBT.out ZZ.out.2.2.1; have s2 := (HBT.out.frozen (p := ⟨g0, kk * 7 + 2, none⟩) (by rw [HS7.out]; exact hgl)).trans ZZ.out.2.2.2.1; have s3 := (HBT.out.frozen (p := ⟨g0, kk * 7 + 3, none⟩) (by rw [HS7.out]; exact hgl)).trans ZZ.out.2.2.2.2; have s1 : g0 < wt.heap.size := (by have := HBT.out.size; have := HS7.out; omega); go_simp
    refine hK.out _ _ ?_
    clear hK K
    (try simp only [Act.put, List.setIfInBounds_toArray, List.set_cons_zero, List.set_cons_succ])
    refine yDone (by kernel_rfl) ?_ _
    clear hHeld
    obtain ⟨w8, hw8⟩ : ∃ w8, w8 = (wt.setCell ⟨g0, kk * 7 + 2, none⟩ (.int .i64 (s.tm + 1))).setCell ⟨g0, kk * 7 + 2 + 1, none⟩ (.int .i64 s.by_) := ⟨_, rfl⟩
    rw [← hw8]
    have hB7 : Below w7.heap.size w7 wt := HBT.out
    have hs8 : w8.heap.size = wt.heap.size := by rw [hw8]; simp [World.setCell]
    have hsz : wq.heap.size ≤ w8.heap.size := by rw [hs8, ← HS7.out]; exact hB7.size
    have hsame : ∀ b, b < wq.heap.size → b ≠ g0 → b ≠ B3 → w8.heap[b]? = wq.heap[b]? := fun b h1 h2 h3 => by
      rw [hw8]
      refine (Below.heap_setCell _ _ _ b h2).trans ((Below.heap_setCell _ _ _ b h2).trans ((hB7.block b (by rw [HS7.out]; exact h1)).trans ?_))
      rw [HW7.out]
      exact (Below.heap_setCell _ _ _ b h2).trans (Below.heap_setCell _ _ _ b h3)
    have hD1 : ∀ b ∈ D1, b < wq.heap.size ∧ b ≠ B3 := fun b hb => ⟨(HN.out.2 b (by simp [hb])).2, fun e => HB3.out.2 (by rw [← e]; simp [hb])⟩
    have hDx : ∀ b ∈ E0 ++ E1, b < wq.heap.size ∧ b ≠ g0 ∧ b ≠ B3 := fun b hb => ⟨(hD1 b (HDI.out.1 b hb)).1, fun e => HG0.out.2.2.2.2 (e ▸ hb), (hD1 b (HDI.out.1 b hb)).2⟩
    have hbox : owBox w8 (E0 ++ E1) [.int .i64 m.g, .string tx, .int .i64 (s.tm + 1), .int .i64 s.by_, .int .i64 m.nx, mv, gw] (renamed tx (s.tm + 1) s.by_ m) := ⟨_, _, E0, E1, rfl, rfl,
      owRow_mov ow_mail HOx.out fun b hb => hsame b (hDx b (by simp [hb])).1 (hDx b (by simp [hb])).2.1 (hDx b (by simp [hb])).2.2, owRow_mov ow_int HOy.out fun b hb => hsame b (hDx b (by simp [hb])).1 (hDx b (by simp [hb])).2.1 (hDx b (by simp [hb])).2.2⟩
    have hsg1 : Seg g0 (kk * 7) (kk * 7 + 7) wq w7 := by rw [HW7.out]; exact ((Seg.refl HCU.out).keep (Below.heap_setCell _ _ _ g0 hgB)).set (kk * 7 + 1) (by omega) (by omega) _
    have hseg : Seg g0 (kk * 7) (kk * 7 + 7) wq w8 := by
      rw [hw8]
      exact ((hsg1.keep (hB7.block g0 (by rw [HS7.out]; exact hgl))).set (kk * 7 + 2) (by omega) (by omega) _).set (kk * 7 + 2 + 1) (by omega) (by omega) _
    have hoc : ∀ j, (j = 0 ∨ 4 ≤ j) → ∀ u, wq.cell? ⟨g0, kk * 7 + j, none⟩ = some u → w8.cell? ⟨g0, kk * 7 + j, none⟩ = some u := fun j hj u hu => by
      rw [hw8, World.cell?_setCell_other _ _ _ _ (by intro e; injection e with _ e; omega), World.cell?_setCell_other _ _ _ _ (by intro e; injection e with _ e; omega)]
      refine cell_b hB7 ?_
      rw [HW7.out]
      rw [World.cell?_setCell_other _ _ _ _ (by intro e; injection e with _ e; omega), World.cell?_setCell_other _ _ _ _ (by intro e; injection e with e _; exact hgB e.symm)]
      exact hu
    obtain ⟨E2, hk1, hk2, hmem⟩ := HFF.out w8 (E0 ++ E1) [.int .i64 m.g, .string tx, .int .i64 (s.tm + 1), .int .i64 s.by_, .int .i64 m.nx, mv, gw] (renamed tx (s.tm + 1) s.by_ m)
      (fun b hb hbg _ => hsame b (hD1 b hb).1 hbg (hD1 b hb).2) hseg
      (fun j u hu => by
        rcases j with _ | _ | _ | _ | _ | _ | _ | j
        · exact (hoc 0 (by omega) _ (HCL.out 0 _ rfl)).trans (by simpa using hu)
        · rw [hw8, World.cell?_setCell_other _ _ _ _ (by intro e; injection e with _ e; omega), World.cell?_setCell_other _ _ _ _ (by intro e; injection e with _ e; omega)]
          exact (cell_b hB7 ZZ.out.1).trans (by simpa using hu)
        · rw [hw8, World.cell?_setCell_other _ _ _ _ (by intro e; injection e with _ e; omega)]
          exact (World.cell?_setCell_same wt ⟨g0, kk * 7 + 2, none⟩ _ (cell_b hB7 ZZ.out.2.1)).trans (by simpa using hu)
        · have hq : (wt.setCell ⟨g0, kk * 7 + 2, none⟩ (.int .i64 (s.tm + 1))).cell? ⟨g0, kk * 7 + 2 + 1, none⟩ = some (.int .i64 m.b) := by rw [World.cell?_setCell_other _ _ _ _ (by intro e; injection e with _ e; omega)]; exact cell_b hB7 ZZ.out.2.2.1
          rw [hw8]
          exact (World.cell?_setCell_same _ ⟨g0, kk * 7 + 2 + 1, none⟩ _ hq).trans (by simpa using hu)
        · exact (hoc 4 (by omega) _ (HCL.out 4 _ rfl)).trans (by simpa using hu)
        · exact (hoc 5 (by omega) _ (HCL.out 5 _ rfl)).trans (by simpa using hu)
        · exact (hoc 6 (by omega) _ (HCL.out 6 _ rfl)).trans (by simpa using hu)
        · simp at hu) hbox HDI.out.2 (fun b hb => .inl hb)
    have hin : ∀ x ∈ E2, x ∈ D1 := fun x hx => (hmem x hx).elim id (HDI.out.1 x)
    have hnew : New wz w8 (E2 ++ D2) := New.both ⟨hk2, fun x hx => by have := HN.out.2 x (by simp [hin x hx]); omega⟩ (HN.out.right.mono hsz) (fun x hx hx2 => HN.out.off x (hin x hx) hx2)
    have hD2 : ∀ b ∈ D2, b < wq.heap.size ∧ b ≠ g0 ∧ b ≠ B3 := fun b hb => ⟨(HN.out.2 b (by simp [hb])).2, fun e => HG0.out.2.2.1 (e ▸ hb), fun e => HB3.out.2 (by rw [← e]; simp [hb])⟩
    have HIN0 : Aside (B3 ∉ E2 ∧ B3 ∉ D2) := ⟨fun hx => HB3.out.2 (List.mem_append.2 (.inl (hin _ hx))), fun hx => HB3.out.2 (List.mem_append.2 (.inr hx))⟩
    have L0' : Aside (Loc w8 w.heap.size #[.int .i64 s.by_, .int .i64 s.tm, .slice A0 s.bx.length c0, .slice A1 s.go.length c1] 42) := ⟨(hsame _ L0.out.lt hne0 hm0).trans L0.out⟩
    have L1' : Aside (Loc w8 (w.heap.size + 1) #[.int .i64 0, .int .i64 0, .slice none 0 0, .slice none 0 0] 42) := ⟨(hsame _ L1.out.lt hne1 hm1).trans L1.out⟩
    have L3' : Aside (Loc w8 B3 #[.int .i64 s.by_, .int .i64 (s.tm + 1), .slice (some ⟨g0, 0, none⟩) s.bx.length cm, .slice Ag s.go.length cg] 42) := ⟨by rw [hw8]; exact ((L37.out.below hB7).set (p := ⟨g0, kk * 7 + 2, none⟩) hneB _).set (p := ⟨g0, kk * 7 + 2 + 1, none⟩) hneB _⟩
    have HOm' := Aside.mk hk1
    have HOg' := Aside.mk (owRow_mov ow_int HOg.out fun b hb => hsame b (hD2 b hb).1 (hD2 b hb).2.1 (hD2 b hb).2.2)
    have HN' := Aside.mk hnew
    have HB' : Aside (Below w.heap.size w w8) := ⟨by
      have h7 : Below w.heap.size w w7 := by rw [HW7.out]; exact below_set (below_set HB.out (p := ⟨B3, 1, none⟩) (by show w.heap.size ≤ B3; omega) _) (p := ⟨g0, kk * 7 + 1, none⟩) (by show w.heap.size ≤ g0; omega) _
      rw [hw8]
      exact below_set (below_set (below_step h7 hB7) (p := ⟨g0, kk * 7 + 2, none⟩) (by show w.heap.size ≤ g0; omega) _) (p := ⟨g0, kk * 7 + 2 + 1, none⟩) (by show w.heap.size ≤ g0; omega) _⟩
    clear hw8 hB7 hs8 hsame hD1 hDx hbox hsg1 hseg hoc hk1 hk2 hmem hin hnew hD2 HFF HCL HFR HOx HOy HCU HW7 HS7 ZZ HBT L07 L17 L37 L0 L1 L3 HOm HOg HN HB
    have L0 := L0'
    have L1 := L1'
    have L3 := L3'
    have HOm := HOm'
    have HOg := HOg'
    have HN := HN'
    have HB := HB'
    clear L0' L1' L3' HOm' HOg' HN' HB'
    have l0 := L0.out.cells
    have l1 := L1.out.cells
    have l3 := L3.out.cells
    have q0 := L0.out.lt
    have q1 := L1.out.lt
    have q3 := L3.out.lt
    have f1 := L1.out.free
    have f3 := L3.out.free
    go_wp2_with (fail)
    have HWZ3 : Aside (wz.heap.size ≤ w8.heap.size) := ⟨by have := L1.out.lt; have := HZ.out; omega⟩
    have howS : owStore w8 (E2 ++ D2) [.int .i64 s.by_, .int .i64 (s.tm + 1), .slice (some ⟨g0, 0, none⟩) s.bx.length cm, .slice Ag s.go.length cg] ⟨s.by_, s.tm + 1, s.bx.set kk (renamed tx (s.tm + 1) s.by_ m), s.go⟩ := ⟨_, _, E2, D2, rfl, rfl, HOm.out, HOg.out⟩
    refine (orElse_calls wz _ _ _ _ _ ⟨s.by_, s.tm + 1, s.bx.set kk (renamed tx (s.tm + 1) s.by_ m), s.go⟩ s (E2 ++ D2) howS HN.out HWZ3.out (fun x hx => by rcases List.mem_or_eq_of_mem_set hx with h | h; exact HT.out x h; exact h ▸ ⟨htx, HTM.out.2⟩) (rdBoxes_mov HB.out HR.out) (rdInts_mov HB.out HG.out) HL.out).mono ?_
    rintro e w4 ⟨mx, gx, E, he, ho, hn, hb⟩
    clear howS
    rw [HRS.out] at he ho
    dsimp only at he ho
    subst he
    obtain ⟨An, cn, Ao, co, F0, F1, rfl, rfl, rfl, hom, hog⟩ := store_slices ho
    have HPm := Aside.mk hom
    have HPg := Aside.mk hog
    have HEm : Aside (∀ x ∈ F0, w.heap.size + 2 ≤ x) := ⟨fun x hx => by have := (hn.2 x (by simp [hx])).1; have := HZ.out; omega⟩
    have HEg : Aside (∀ x ∈ F1, w.heap.size + 2 ≤ x) := ⟨fun x hx => by have := (hn.2 x (by simp [hx])).1; have := HZ.out; omega⟩
    have HNx := Aside.mk (hn.from (w0 := w) (by have := HZ.out; omega))
    replace L1 := Aside.mk (L1.out.below hb)
    replace HB := Aside.mk (below_step HB.out hb)
    clear hom hog ho hn hb l0 l1 l3 q0 q1 q3 f1 f3
    have l1 := L1.out.cells
    have q1 := L1.out.lt
    have f1 := L1.out.free
    go_wp2
    refine bodyPost_ret (v := .tuple #[.agg #[.int .i64 rs.by_, .int .i64 rs.tm, .slice An rs.bx.length cn, .slice Ao rs.go.length co], .bool rk]) (by simp [results, go_sem, l1, q1]) rfl ?_
    rw [HE.out]
    refine ⟨_, _, F0 ++ F1, rfl, ⟨_, _, F0, F1, rfl, rfl, ?_, ?_⟩, ?_, ?_⟩
    · (repeat (first | (with_reducible exact HPm.out) | (with_reducible refine owRow_far ow_box (w.heap.size + 2) ?_ HEm.out (by first | omega | (dsimp only; omega) | (simp; done) | (simp; omega)) _) | (with_reducible refine owRow_alloc ow_box ?_ _)))
    · (repeat (first | (with_reducible exact HPg.out) | (with_reducible refine owRow_far ow_int (w.heap.size + 2) ?_ HEg.out (by first | omega | (dsimp only; omega) | (simp; done) | (simp; omega)) _) | (with_reducible refine owRow_alloc ow_int ?_ _)))
    · (repeat (first | (with_reducible exact HNx.out) | (with_reducible refine New.set ?_ _ _) | (with_reducible refine New.alloc ?_ _) | (with_reducible refine New.drew ?_)))
    · (repeat (first | (with_reducible exact HB.out) | (with_reducible exact Below.refl _ _) | (with_reducible refine below_set ?_ (by first | omega | (dsimp only; omega) | (simp; done) | (simp; omega)) _) | (with_reducible refine below_alloc ?_ _) | (with_reducible refine below_drewN ?_ _) | (with_reducible refine below_drew ?_)))
  all_goals
    have HE : Aside (renameBox s g tx = (s, false)) := ⟨by unfold renameBox; simp [*]; try omega⟩
    have HKK : Aside (boxAt s.bx g = boxAt s.bx g) := ⟨rfl⟩
    go_enter Try.func46, Try.ntmps46
    go_wp2_with (fail)
    refine (copyStore_calls _ _ _ s (rdBoxes_mov (by (repeat (first | (with_reducible exact HB.out) | (with_reducible exact Below.refl _ _) | (with_reducible refine below_set ?_ (by first | omega | (dsimp only; omega) | (simp; done) | (simp; omega)) _) | (with_reducible refine below_alloc ?_ _) | (with_reducible refine below_drewN ?_ _) | (with_reducible refine below_drew ?_)))) HR.out) (rdInts_mov (by (repeat (first | (with_reducible exact HB.out) | (with_reducible exact Below.refl _ _) | (with_reducible refine below_set ?_ (by first | omega | (dsimp only; omega) | (simp; done) | (simp; omega)) _) | (with_reducible refine below_alloc ?_ _) | (with_reducible refine below_drewN ?_ _) | (with_reducible refine below_drew ?_)))) HG.out) HL.out).mono ?_
    rintro e w1 ⟨mx, gx, D, rfl, ho, hn, hb⟩
    obtain ⟨Am, cm, Ag, cg, D1, D2, rfl, rfl, rfl, hom, hog⟩ := store_slices ho
    have L0 := Aside.mk (((Loc.new w #[.int .i64 s.by_, .int .i64 s.tm, .slice A0 s.bx.length c0, .slice A1 s.go.length c1] 42).alloc (.cells #[.int .i64 0, .int .i64 0, .slice none 0 0, .slice none 0 0] 42)).below hb)
    have L1 := Aside.mk ((Loc.new1 w (.cells #[.int .i64 s.by_, .int .i64 s.tm, .slice A0 s.bx.length c0, .slice A1 s.go.length c1] 42) #[.int .i64 0, .int .i64 0, .slice none 0 0, .slice none 0 0] 42).below hb)
    have HB := Aside.mk (below_step (w0 := w) (by (repeat (first | (with_reducible exact HB.out) | (with_reducible exact Below.refl _ _) | (with_reducible refine below_set ?_ (by first | omega | (dsimp only; omega) | (simp; done) | (simp; omega)) _) | (with_reducible refine below_alloc ?_ _) | (with_reducible refine below_drewN ?_ _) | (with_reducible refine below_drew ?_)))) hb)
    have HOm := Aside.mk hom
    have HOg := Aside.mk hog
    have HN : Aside (New wz w1 (D1 ++ D2)) := ⟨hn.from (by have := HZ.out; simp; omega)⟩
    clear ho hom hog hn hb
    have l0 := L0.out.cells
    have l1 := L1.out.cells
    have q0 := L0.out.lt
    have q1 := L1.out.lt
    go_wp2_with (fail)
    replace L0 := Aside.mk (L0.out.alloc (.cells #[.int .i64 s.by_, .int .i64 s.tm, .slice Am s.bx.length cm, .slice Ag s.go.length cg] 42))
    replace L1 := Aside.mk (L1.out.alloc (.cells #[.int .i64 s.by_, .int .i64 s.tm, .slice Am s.bx.length cm, .slice Ag s.go.length cg] 42))
    have L3 := Aside.mk (Loc.new w1 #[.int .i64 s.by_, .int .i64 s.tm, .slice Am s.bx.length cm, .slice Ag s.go.length cg] 42)
    replace HB := Aside.mk (below_alloc HB.out (.cells #[.int .i64 s.by_, .int .i64 s.tm, .slice Am s.bx.length cm, .slice Ag s.go.length cg] 42))
    replace HOm := Aside.mk (owRow_alloc ow_box HOm.out (.cells #[.int .i64 s.by_, .int .i64 s.tm, .slice Am s.bx.length cm, .slice Ag s.go.length cg] 42))
    replace HOg := Aside.mk (owRow_alloc ow_int HOg.out (.cells #[.int .i64 s.by_, .int .i64 s.tm, .slice Am s.bx.length cm, .slice Ag s.go.length cg] 42))
    have HN0 := HN
    replace HN := Aside.mk (HN.out.alloc (.cells #[.int .i64 s.by_, .int .i64 s.tm, .slice Am s.bx.length cm, .slice Ag s.go.length cg] 42))
    obtain ⟨B3, hB3⟩ : ∃ B3, B3 = w1.heap.size := ⟨_, rfl⟩
    have HB3 : Aside (w.heap.size + 2 ≤ B3 ∧ B3 ∉ D1 ++ D2) := ⟨by have := L1.out.lt; simp at this; omega, fun hx => by have := (HN0.out.2 _ hx).2; omega⟩
    rw [← hB3] at L3
    obtain ⟨w2, hw2⟩ : ∃ w2, w2 = w1.alloc (.cells #[.int .i64 s.by_, .int .i64 s.tm, .slice Am s.bx.length cm, .slice Ag s.go.length cg] 42) := ⟨_, rfl⟩
    rw [← hw2] at L0 L1 L3 HB HOm HOg HN
    clear l0 l1 q0 q1 HN0
    have l0 := L0.out.cells
    have l1 := L1.out.cells
    have l3 := L3.out.cells
    have q0 := L0.out.lt
    have q1 := L1.out.lt
    have q3 := L3.out.lt
    have f1 := L1.out.free
    have f3 := L3.out.free
    try rw [← hB3]
    try rw [← hw2]
    clear hB3 hw2
    go_wp2_with (first
      | (go_at_call 139; refine (boxAt_calls _ _ _ s g (rdBoxes_mov HB.out HR.out) rfl).mono ?_; rintro e w' ⟨he, hb⟩; (try rw [HKK.out] at he); subst he; replace L0 := Aside.mk (L0.out.below hb); replace L1 := Aside.mk (L1.out.below hb); replace L3 := Aside.mk (L3.out.below hb); replace HOm := Aside.mk (owRow_below ow_box HOm.out hb); replace HOg := Aside.mk (owRow_below ow_int HOg.out hb); replace HN := Aside.mk (HN.out.mono hb.size); replace HB := Aside.mk (below_step HB.out hb); (try clear l0); (try clear q0); (try clear f0); (try clear l1); (try clear q1); (try clear f1); (try clear l3); (try clear q3); (try clear f3); have l0 := L0.out.cells; have q0 := L0.out.lt; have f0 := L0.out.free; have l1 := L1.out.cells; have q1 := L1.out.lt; have f1 := L1.out.free; have l3 := L3.out.cells; have q3 := L3.out.lt; have f3 := L3.out.free; clear hb)
      | (go_at_call 27; refine (storeOk_calls _ _ _ s (rdBoxes_mov HB.out HR.out) (rdInts_mov HB.out HG.out) HT.out).mono ?_; rintro e w' ⟨he, hb⟩; rw [h1] at he; subst he; replace L0 := Aside.mk (L0.out.below hb); replace L1 := Aside.mk (L1.out.below hb); replace L3 := Aside.mk (L3.out.below hb); replace HOm := Aside.mk (owRow_below ow_box HOm.out hb); replace HOg := Aside.mk (owRow_below ow_int HOg.out hb); replace HN := Aside.mk (HN.out.mono hb.size); replace HB := Aside.mk (below_step HB.out hb); (try clear l0); (try clear q0); (try clear f0); (try clear l1); (try clear q1); (try clear f1); (try clear l3); (try clear q3); (try clear f3); have l0 := L0.out.cells; have q0 := L0.out.lt; have f0 := L0.out.free; have l1 := L1.out.cells; have q1 := L1.out.lt; have f1 := L1.out.free; have l3 := L3.out.cells; have q3 := L3.out.lt; have f3 := L3.out.free; clear hb)
      | (go_at_call 105; refine (boxNamed_calls _ _ _ s tx (rdBoxes_mov HB.out HR.out) rfl).mono ?_; rintro e w' ⟨rfl, hb⟩; replace L0 := Aside.mk (L0.out.below hb); replace L1 := Aside.mk (L1.out.below hb); replace L3 := Aside.mk (L3.out.below hb); replace HOm := Aside.mk (owRow_below ow_box HOm.out hb); replace HOg := Aside.mk (owRow_below ow_int HOg.out hb); replace HN := Aside.mk (HN.out.mono hb.size); replace HB := Aside.mk (below_step HB.out hb); (try clear l0); (try clear q0); (try clear f0); (try clear l1); (try clear q1); (try clear f1); (try clear l3); (try clear q3); (try clear f3); have l0 := L0.out.cells; have q0 := L0.out.lt; have f0 := L0.out.free; have l1 := L1.out.cells; have q1 := L1.out.lt; have f1 := L1.out.free; have l3 := L3.out.cells; have q3 := L3.out.lt; have f3 := L3.out.free; clear hb))
    have HDm : Aside (∀ x ∈ D1, w.heap.size + 2 ≤ x) := ⟨fun x hx => by have := (HN.out.2 x (by simp [hx])).1; have := HZ.out; omega⟩
    have HDg : Aside (∀ x ∈ D2, w.heap.size + 2 ≤ x) := ⟨fun x hx => by have := (HN.out.2 x (by simp [hx])).1; have := HZ.out; omega⟩
    have HN0 := Aside.mk (HN.out.from (w0 := w) (by have := HZ.out; omega))
    go_wp2
    refine bodyPost_ret (v := .tuple #[.agg #[.int .i64 s.by_, .int .i64 s.tm, .slice Am s.bx.length cm, .slice Ag s.go.length cg], .bool false]) (by simp [results, go_sem, l1, l3, q1, q3]) rfl ?_
    rw [HE.out]
    refine ⟨_, _, D1 ++ D2, rfl, ⟨_, _, D1, D2, rfl, rfl, ?_, ?_⟩, ?_, ?_⟩
    · (repeat (first | (with_reducible exact HOm.out) | (with_reducible refine owRow_far ow_box (w.heap.size + 2) ?_ HDm.out (by first | omega | (dsimp only; omega) | (simp; done) | (simp; omega)) _) | (with_reducible refine owRow_alloc ow_box ?_ _)))
    · (repeat (first | (with_reducible exact HOg.out) | (with_reducible refine owRow_far ow_int (w.heap.size + 2) ?_ HDg.out (by first | omega | (dsimp only; omega) | (simp; done) | (simp; omega)) _) | (with_reducible refine owRow_alloc ow_int ?_ _)))
    · (repeat (first | (with_reducible exact HN0.out) | (with_reducible refine New.set ?_ _ _) | (with_reducible refine New.alloc ?_ _) | (with_reducible refine New.drew ?_)))
    · (repeat (first | (with_reducible exact HB.out) | (with_reducible exact Below.refl _ _) | (with_reducible refine below_set ?_ (by first | omega | (dsimp only; omega) | (simp; done) | (simp; omega)) _) | (with_reducible refine below_alloc ?_ _) | (with_reducible refine below_drewN ?_ _) | (with_reducible refine below_drew ?_)))
end Go.Proofs.Ythhbcakmfbjepaa.H
