/- The walk of the statement on SetFlags. -/
import Derived.Test.YtnpgmbjmmljdcaaHLoc
import Derived.Test.YtnpgmbjmmljdcaaHSet2
namespace Go.Proofs.Ytnpgmbjmmljdcaa.H
open Go.RowKit
set_option linter.unusedVariables false
set_option linter.unusedSimpArgs false
theorem owRow_keep {α : Type} {e sz s : Nat} {R : World → List Nat → List Value → α → Prop} {K : World → List Value → α → Prop} (o : Ow s R K) {w w' : World} {D Dx : List Nat} {v : Value} {l : List α} (h : owRow e sz R w D v l)
    (hk : Keep Dx w w') (hd : ∀ b ∈ D, b ∉ Dx) : owRow e sz R w' D v l := owRow_mov o h fun b hb => hk.block b (owRow_lt o h b hb) (hd b hb)
theorem owRow_drew {α : Type} {e sz s : Nat} {R : World → List Nat → List Value → α → Prop} {K : World → List Value → α → Prop} (o : Ow s R K) {w : World} {D : List Nat} {v : Value} {l : List α} (h : owRow e sz R w D v l) :
    owRow e sz R w.drew D v l := owRow_mov o h fun _ _ => rfl
theorem setFrom_len (n t b : Int) : ∀ (l : List Reg) (i : Nat), (setFrom n t b i l).length = l.length
  | [], _ => rfl
  | _ :: l, i => by simp [setFrom, setFrom_len n t b l]
theorem setFlags_len (l : List Reg) (n t b : Int) : (setFlags l n t b).length = l.length := by
  unfold setFlags
  split
  · exact setFrom_len n t b l 0
  · rfl
theorem New.apart {w0 w1 w2 w3 : World} {D D' : List Nat} (h : New w0 w1 D) (h' : New w2 w3 D') (hs : w1.heap.size ≤ w2.heap.size) : (∀ b ∈ D, b ∉ D') ∧ (∀ b ∈ D', b ∉ D) :=
  ⟨fun b hb hb' => by have := (h.2 b hb).2; have := (h'.2 b hb').1; omega, fun b hb hb' => by have := (h.2 b hb').2; have := (h'.2 b hb).1; omega⟩
theorem New.keepBelow {w0 w1 w w' : World} {D : List Nat} (h : New w0 w1 D) (hk : Keep D w w') {W : World} (hB : Below W.heap.size W w) (hs : W.heap.size ≤ w0.heap.size) : Below W.heap.size W w' :=
  hB.trans (hk.below (w0 := W) (fun b hb => by have := (h.2 b hb).1; omega) hB.size)
theorem specSetFlagsR (w : World) (v : Value) (l : List Reg) (n t b : Int) (R : List Reg) (hr : setFlags l n t b = R) (h : rdRegs w v l) (hl : l.length ≤ 4000000) :
    Calls Try.prog 16 #[v, .int .i64 n, .agg #[.int .i64 t, .int .i64 b]] w (RetRow owRegs R w) := hr ▸ specSetFlags_calls w v l n t b h hl
theorem setFlagsR (w : World) (v : Value) (l : List Reg) (n t b : Int) (R : List Reg) (hr : setFlags l n t b = R) (h : rdRegs w v l) (hl : l.length ≤ 4000000) :
    Calls Try.prog 19 #[v, .int .i64 n, .agg #[.int .i64 t, .int .i64 b]] w (RetRow owRegs R w) := hr ▸ setFlags_calls w v l n t b h hl
set_option maxHeartbeats 2000000 in
set_option maxRecDepth 100000 in
theorem lawFnExactSetFlags (w : World) (v : Value) (l : List Reg) (hR : rdRegs w v l) (n : Int) (hn : (Lit.int .i64 n).wf = true) (t b : Int) :
    Calls Try.prog 3 #[v, .int .i64 n, .agg #[.int .i64 t, .int .i64 b]] w fun e w' => e = .returned (.bool true) ∧ Below w.heap.size w w' := by
  obtain ⟨R, HRR⟩ : ∃ R, Aside (setFlags l n t b = R) := ⟨_, ⟨rfl⟩⟩
  obtain ⟨A, c, rfl, _, hm⟩ := rd_len hR
  have HR := Aside.mk hR
  clear hR hn
  go_enter Try.func3, Try.ntmps3
  go_wp2_with (fail)
  refine (szRegs_calls _ _ l _ (rdRegs_mov (by (repeat (first | (with_reducible exact HB.out) | (with_reducible exact Below.refl _ _) | (with_reducible refine below_set ?_ (by first | omega | (dsimp only; omega) | (simp; done) | (simp; omega)) _) | (with_reducible refine below_alloc ?_ _) | (with_reducible refine below_drewN ?_ _) | (with_reducible refine below_drew ?_)))) HR.out) (by decide) (by decide)).mono ?_
  rintro e w1 ⟨lf, rfl, hsz, hb⟩
  have L0 := Aside.mk ((Loc.new w #[.int .i64 t, .int .i64 b] 24).below hb)
  have HB := Aside.mk (below_step (w0 := w) (by (repeat (first | (with_reducible exact HB.out) | (with_reducible exact Below.refl _ _) | (with_reducible refine below_set ?_ (by first | omega | (dsimp only; omega) | (simp; done) | (simp; omega)) _) | (with_reducible refine below_alloc ?_ _) | (with_reducible refine below_drewN ?_ _) | (with_reducible refine below_drew ?_)))) hb)
  clear hb
  have l0 := L0.out.cells
  by_cases hneg : lf < 0
  · go_wp2
    go_ret
    exact ⟨rfl, HB.out⟩
  have hle : l.length ≤ 1048576 := by unfold isSz at hsz; omega
  have HL := Aside.mk hle
  clear hsz hle
  go_wp2_with (fail)
  clear l0
  have l0 := L0.out.cells
  have x0 := l0 0
  have x1 := l0 1
  dsimp at x0 x1
  clear l0
  go_region_held3 (fun w' => w'.cell? ⟨w.heap.size, 0, none⟩ = some (.int .i64 t) ∧ w'.cell? ⟨w.heap.size, 1, none⟩ = some (.int .i64 b)) ((repeat' apply And.intro) <;> (first | exact L0.out.cells 0 | exact L0.out.cells 1)) (first
    | (go_at_call 17; refine (toRegs_calls _ _ l (rdRegs_mov (by (repeat (first | (with_reducible exact HB.out) | (with_reducible exact Below.refl _ _) | (with_reducible refine below_set ?_ (by first | omega | (dsimp only; omega) | (simp; done) | (simp; omega)) _) | (with_reducible refine below_alloc ?_ _) | (with_reducible refine below_drewN ?_ _) | (with_reducible refine below_drew ?_)))) HR.out) (by have := HL.out; omega)).mono ?_; rintro e w' ⟨fv, Df, rfl, ho, hnf, hb⟩; obtain ⟨Af, cf, rfl⟩ := cell_own ow_reg ho; have HX := Aside.mk (owRow_rd ow_reg ho); have HBn := Aside.mk (below_step (w0 := w) (by (repeat (first | (with_reducible exact HB.out) | (with_reducible exact Below.refl _ _) | (with_reducible refine below_set ?_ (by first | omega | (dsimp only; omega) | (simp; done) | (simp; omega)) _) | (with_reducible refine below_alloc ?_ _) | (with_reducible refine below_drewN ?_ _) | (with_reducible refine below_drew ?_)))) hb); clear HB; have HB := HBn; clear HBn; (try (first | replace L0 := Aside.mk (L0.out.below hb) | replace L0 := Aside.mk (L0.out.drew.below hb))); clear hnf ho)
    | (go_at_call 18; refine (toStamp_calls _ t b).mono ?_; rintro e w' ⟨rfl, hb⟩; have HBn := Aside.mk (below_step (w0 := w) (by (repeat (first | (with_reducible exact HB.out) | (with_reducible exact Below.refl _ _) | (with_reducible refine below_set ?_ (by first | omega | (dsimp only; omega) | (simp; done) | (simp; omega)) _) | (with_reducible refine below_alloc ?_ _) | (with_reducible refine below_drewN ?_ _) | (with_reducible refine below_drew ?_)))) hb); clear HB; have HB := HBn; clear HBn; try (replace HX := Aside.mk (rdRegs_mov hb HX.out)); (try (first | replace L0 := Aside.mk (L0.out.below hb) | replace L0 := Aside.mk (L0.out.drew.below hb))))
    | (go_at_call 16; refine (specSetFlagsR _ _ l n t b R HRR.out HX.out (by have := HL.out; omega)).mono ?_; rintro e w' ⟨vw, DW, rfl, how, hnw, hb⟩; obtain ⟨AW, cW, rfl⟩ := cell_own ow_reg how; have HBn := Aside.mk (below_step (w0 := w) (by (repeat (first | (with_reducible exact HB.out) | (with_reducible exact Below.refl _ _) | (with_reducible refine below_set ?_ (by first | omega | (dsimp only; omega) | (simp; done) | (simp; omega)) _) | (with_reducible refine below_alloc ?_ _) | (with_reducible refine below_drewN ?_ _) | (with_reducible refine below_drew ?_)))) hb); clear HB; have HB := HBn; clear HBn; (try (first | replace L0 := Aside.mk (L0.out.below hb) | replace L0 := Aside.mk (L0.out.drew.below hb))); have HW := Aside.mk how; have NW := Aside.mk hnw; clear how hnw HX))
  all_goals
    clear x0 x1
    have l0 := L0.out.cells
    have HQ := Aside.mk L0.out.lt
    clear hb
    go_wp2_with (fail)
    refine (toRegs_calls _ _ l (rdRegs_mov HB.out HR.out) (by have := HL.out; omega)).mono ?_
    rintro e w4 ⟨xv, Dx, rfl, ho, hn, hb⟩
    obtain ⟨Ax, cx, rfl⟩ := cell_own ow_reg ho
    have AWX := Aside.mk (NW.out.apart hn (Nat.le_refl _))
    replace L0 := Aside.mk (L0.out.below hb)
    replace HB := Aside.mk (below_step HB.out hb)
    replace HW := Aside.mk (owRow_below ow_reg HW.out hb)
    replace NW := Aside.mk (NW.out.mono hb.size)
    have HX := Aside.mk ho
    have NX := Aside.mk hn
    have HQX := HQ
    clear ho hn
    clear hb l0
    have l0 := L0.out.cells
    go_wp2_with (fail)
    refine (toStamp_calls _ t b).mono ?_
    rintro e w5 ⟨rfl, hb⟩
    replace L0 := Aside.mk (L0.out.below hb)
    replace HB := Aside.mk (below_step HB.out hb)
    replace HW := Aside.mk (owRow_below ow_reg HW.out hb)
    replace NW := Aside.mk (NW.out.mono hb.size)
    replace HX := Aside.mk (owRow_below ow_reg HX.out hb)
    replace NX := Aside.mk (NX.out.mono hb.size)
    clear hb l0
    have l0 := L0.out.cells
    go_wp2_with (fail)
    refine (setFlagsR _ _ l n t b R HRR.out (owRow_rd ow_reg HX.out) (by have := HL.out; omega)).mono ?_
    rintro e w6 ⟨gv, Dg, rfl, ho, hn, hb⟩
    obtain ⟨Ag, cg, rfl⟩ := cell_own ow_reg ho
    have AWG := Aside.mk (NW.out.apart hn (Nat.le_refl _))
    have AXG := Aside.mk (NX.out.apart hn (Nat.le_refl _))
    have HQG := Aside.mk L0.out.lt
    replace L0 := Aside.mk (L0.out.below hb)
    replace HB := Aside.mk (below_step HB.out hb)
    replace HW := Aside.mk (owRow_below ow_reg HW.out hb)
    replace HX := Aside.mk (owRow_below ow_reg HX.out hb)
    have HG := Aside.mk ho
    have NG := Aside.mk hn
    clear ho hn
    clear hb l0
    have l0 := L0.out.cells
    go_wp2_with (fail)
    refine (eqRegs_calls _ _ _ _ (owRow_rd ow_reg HG.out) (owRow_rd ow_reg HW.out)).mono ?_
    rintro e w7 ⟨rfl, hb⟩
    replace L0 := Aside.mk (L0.out.below hb)
    replace HB := Aside.mk (below_step HB.out hb)
    replace HW := Aside.mk (owRow_below ow_reg HW.out hb)
    replace HX := Aside.mk (owRow_below ow_reg HX.out hb)
    replace HG := Aside.mk (owRow_below ow_reg HG.out hb)
    clear hb l0
    have l0 := L0.out.cells
    go_wp2_with (fail)
    refine (toRegs_calls _ _ l (rdRegs_mov HB.out HR.out) (by have := HL.out; omega)).mono ?_
    rintro e w8 ⟨yv, Dy, rfl, ho, _, hb⟩
    obtain ⟨Ay, cy, rfl⟩ := cell_own ow_reg ho
    have HY := Aside.mk (owRow_rd ow_reg ho)
    clear ho
    replace L0 := Aside.mk (L0.out.below hb)
    replace HB := Aside.mk (below_step HB.out hb)
    replace HW := Aside.mk (owRow_below ow_reg HW.out hb)
    replace HX := Aside.mk (owRow_below ow_reg HX.out hb)
    replace HG := Aside.mk (owRow_below ow_reg HG.out hb)
    clear hb l0
    have l0 := L0.out.cells
    go_wp2_with (fail)
    refine (eqRegs_calls _ _ _ l (owRow_rd ow_reg HX.out) HY.out).mono ?_
    rintro e w9 ⟨rfl, hb⟩
    clear HY
    replace L0 := Aside.mk (L0.out.below hb)
    replace HB := Aside.mk (below_step HB.out hb)
    replace HW := Aside.mk (owRow_below ow_reg HW.out hb)
    replace HX := Aside.mk (owRow_below ow_reg HX.out hb)
    replace HG := Aside.mk (owRow_below ow_reg HG.out hb)
    clear hb l0
    have l0 := L0.out.cells
    go_wp2_with (fail)
    refine (markRegs_calls _ Dx _ l 1 HX.out NX.out.1 (by decide) (by have := HL.out; omega)).mono ?_
    rintro e w10 ⟨rfl, _, hk⟩
    have hnx : w.heap.size ∉ Dx := fun h => by have := (NX.out.2 _ h).1; have := HQX.out; omega
    replace L0 := Aside.mk (L0.out.keep hk hnx)
    replace HW := Aside.mk (owRow_keep ow_reg HW.out hk AWX.out.1)
    replace HG := Aside.mk (owRow_keep ow_reg HG.out hk AXG.out.2)
    replace HB := Aside.mk (NX.out.keepBelow hk HB.out (Nat.le_of_lt HQX.out))
    clear HX hk hnx l0
    have l0 := L0.out.cells
    obtain ⟨kk, hkk⟩ : ∃ kk : Int, kk = 1 + 3 * (l.length : Int) := ⟨_, rfl⟩
    rw [← hkk]
    have HK := Aside.mk hkk
    have hk0 : ¬ (kk < 0) := by omega
    have hk1 : 0 ≤ kk := by omega
    clear hkk
    go_wp2_with (fail)
    refine (eqRegs_calls _ _ _ _ (owRow_rd ow_reg HG.out) (owRow_rd ow_reg HW.out)).mono ?_
    rintro e w11 ⟨rfl, hb⟩
    replace L0 := Aside.mk (L0.out.below hb)
    replace HB := Aside.mk (below_step HB.out hb)
    replace HW := Aside.mk (owRow_below ow_reg HW.out hb)
    replace HG := Aside.mk (owRow_below ow_reg HG.out hb)
    clear hb l0
    have l0 := L0.out.cells
    have HLR : Aside (R.length = l.length) := ⟨by rw [← HRR.out]; exact setFlags_len l n t b⟩
    go_wp2_with (fail)
    refine (markRegs_calls _ Dg _ _ 1 HG.out NG.out.1 (by decide) (by rw [HLR.out]; have := HL.out; omega)).mono ?_
    rintro e w12 ⟨rfl, ⟨Dg2, ho, _, _⟩, hk⟩
    have hnx : w.heap.size ∉ Dg := fun h => by have := (NG.out.2 _ h).1; have := HQG.out; omega
    replace L0 := Aside.mk (L0.out.keep hk hnx)
    replace HW := Aside.mk (owRow_keep ow_reg HW.out hk AWG.out.1)
    replace HG := Aside.mk ho
    replace HB := Aside.mk (NG.out.keepBelow hk HB.out (Nat.le_of_lt HQG.out))
    clear ho hk hnx l0
    have l0 := L0.out.cells
    rw [show (1 : Int) + 3 * (R.length : Int) = kk by rw [HLR.out]; exact HK.out.symm]
    go_wp2_with (fail)
    refine (heldRegs_calls _ _ R 1 (owRow_rd ow_reg HG.out) (by decide) (by rw [HLR.out]; have := HL.out; omega)).mono ?_
    rintro e w13 ⟨rfl, hb⟩
    rw [show (1 : Int) + 3 * (R.length : Int) = kk by rw [HLR.out]; exact HK.out.symm]
    replace L0 := Aside.mk (L0.out.below hb)
    replace HB := Aside.mk (below_step HB.out hb)
    replace HW := Aside.mk (owRow_below ow_reg HW.out hb)
    replace HG := Aside.mk (owRow_below ow_reg HG.out hb)
    clear hb l0
    have l0 := L0.out.cells
    go_wp2_with (fail)
    clear l0
    go_region_held3 (fun w' => w'.cell? ⟨w.heap.size, 0, none⟩ = some (.int .i64 t) ∧ w'.cell? ⟨w.heap.size, 1, none⟩ = some (.int .i64 b)) ((repeat' apply And.intro) <;> (first | exact L0.out.cells 0 | exact L0.out.cells 1)) (first
      | (go_at_call 17; refine (toRegs_calls _ _ l (rdRegs_mov (by (repeat (first | (with_reducible exact HB.out) | (with_reducible exact Below.refl _ _) | (with_reducible refine below_set ?_ (by first | omega | (dsimp only; omega) | (simp; done) | (simp; omega)) _) | (with_reducible refine below_alloc ?_ _) | (with_reducible refine below_drewN ?_ _) | (with_reducible refine below_drew ?_)))) HR.out) (by have := HL.out; omega)).mono ?_; rintro e w' ⟨fv, Df, rfl, ho, hnf, hb⟩; obtain ⟨Af, cf, rfl⟩ := cell_own ow_reg ho; have HX := Aside.mk (owRow_rd ow_reg ho); have HBn := Aside.mk (below_step (w0 := w) (by (repeat (first | (with_reducible exact HB.out) | (with_reducible exact Below.refl _ _) | (with_reducible refine below_set ?_ (by first | omega | (dsimp only; omega) | (simp; done) | (simp; omega)) _) | (with_reducible refine below_alloc ?_ _) | (with_reducible refine below_drewN ?_ _) | (with_reducible refine below_drew ?_)))) hb); clear HB; have HB := HBn; clear HBn; (first | (replace L0 := Aside.mk (L0.out.below hb); replace HW := Aside.mk (owRow_below ow_reg HW.out hb); replace HG := Aside.mk (owRow_below ow_reg HG.out hb)) | (replace L0 := Aside.mk (L0.out.drew.below hb); replace HW := Aside.mk (owRow_below ow_reg (owRow_drew ow_reg HW.out) hb); replace HG := Aside.mk (owRow_below ow_reg (owRow_drew ow_reg HG.out) hb))); clear hnf ho)
      | (go_at_call 18; refine (toStamp_calls _ t b).mono ?_; rintro e w' ⟨rfl, hb⟩; have HBn := Aside.mk (below_step (w0 := w) (by (repeat (first | (with_reducible exact HB.out) | (with_reducible exact Below.refl _ _) | (with_reducible refine below_set ?_ (by first | omega | (dsimp only; omega) | (simp; done) | (simp; omega)) _) | (with_reducible refine below_alloc ?_ _) | (with_reducible refine below_drewN ?_ _) | (with_reducible refine below_drew ?_)))) hb); clear HB; have HB := HBn; clear HBn; try (replace HX := Aside.mk (rdRegs_mov hb HX.out)); (first | (replace L0 := Aside.mk (L0.out.below hb); replace HW := Aside.mk (owRow_below ow_reg HW.out hb); replace HG := Aside.mk (owRow_below ow_reg HG.out hb)) | (replace L0 := Aside.mk (L0.out.drew.below hb); replace HW := Aside.mk (owRow_below ow_reg (owRow_drew ow_reg HW.out) hb); replace HG := Aside.mk (owRow_below ow_reg (owRow_drew ow_reg HG.out) hb))))
      | (go_at_call 19; refine (setFlagsR _ _ l n t b R HRR.out HX.out (by have := HL.out; omega)).mono ?_; rintro e w' ⟨vw, DH, rfl, how, hnw, hb⟩; obtain ⟨AH, cH, rfl⟩ := cell_own ow_reg how; have HBn := Aside.mk (below_step (w0 := w) (by (repeat (first | (with_reducible exact HB.out) | (with_reducible exact Below.refl _ _) | (with_reducible refine below_set ?_ (by first | omega | (dsimp only; omega) | (simp; done) | (simp; omega)) _) | (with_reducible refine below_alloc ?_ _) | (with_reducible refine below_drewN ?_ _) | (with_reducible refine below_drew ?_)))) hb); clear HB; have HB := HBn; clear HBn; (first | (replace L0 := Aside.mk (L0.out.below hb); replace HW := Aside.mk (owRow_below ow_reg HW.out hb); replace HG := Aside.mk (owRow_below ow_reg HG.out hb)) | (replace L0 := Aside.mk (L0.out.drew.below hb); replace HW := Aside.mk (owRow_below ow_reg (owRow_drew ow_reg HW.out) hb); replace HG := Aside.mk (owRow_below ow_reg (owRow_drew ow_reg HG.out) hb))); have HH := Aside.mk how; have NH := Aside.mk hnw; clear how hnw HX))
    all_goals
      have l0 := L0.out.cells
      go_wp2_with (fail)
      refine (eqRegs_calls _ _ _ _ (owRow_rd ow_reg HH.out) (owRow_rd ow_reg HW.out)).mono ?_
      rintro e w17 ⟨rfl, hb⟩
      replace L0 := Aside.mk (L0.out.below hb)
      replace HB := Aside.mk (below_step HB.out hb)
      replace HW := Aside.mk (owRow_below ow_reg HW.out hb)
      replace HG := Aside.mk (owRow_below ow_reg HG.out hb)
      clear hb l0
      have l0 := L0.out.cells
      go_wp2_with (fail)
      refine (heldRegs_calls _ _ R 1 (owRow_rd ow_reg HG.out) (by decide) (by rw [HLR.out]; have := HL.out; omega)).mono ?_
      rintro e w18 ⟨rfl, hb⟩
      rw [show (1 : Int) + 3 * (R.length : Int) = kk by rw [HLR.out]; exact HK.out.symm]
      replace HB := Aside.mk (below_step HB.out hb)
      clear hb
      go_wp2
      go_ret
      exact ⟨rfl, HB.out⟩
end Go.Proofs.Ytnpgmbjmmljdcaa.H
