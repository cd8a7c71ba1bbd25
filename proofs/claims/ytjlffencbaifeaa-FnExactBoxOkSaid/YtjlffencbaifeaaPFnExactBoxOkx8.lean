-- Written for this claim by the session's own wip/myprint.py (a patched run of the kit's printer). Not trusted: Lean checks it.
import Derived.Test.YtjlffencbaifeaaPFnExactBoxOkx0
import Derived.Test.YtjlffencbaifeaaPFnExactBoxOkx1
import Derived.Test.YtjlffencbaifeaaPFnExactBoxOkx3
import Derived.Test.YtjlffencbaifeaaPFnExactBoxOkx4
import Derived.Test.YtjlffencbaifeaaPFnExactBoxOkx6
import Derived.Test.YtjlffencbaifeaaPFnExactBoxOkx7
namespace Go.Proofs.Ytjlffencbaifeaa.PFnExactBoxOk
open Go.RowKit Go.Proofs.YtjlffencbaifeaaW.PrintWords Go.Proofs.YtjlffencbaifeaaW.PrintLast Go.Proofs.YtjlffencbaifeaaW.PrintMore
attribute [local go_sem] gtr_str max2_str max2_int min2_int max_two min_two max_three min_three max_four min_four   -- for this text's walks alone
set_option linter.unusedVariables false
set_option linter.unusedSimpArgs false

/-! ### laws_eqMailS: function 87 -/
def laws_eqMailS.l0 : Nat → List (S24) → List (S24) → Int → Option (Bool)
 | 0, _, _, _ => none
 | k + 1, x0, x1, x5 => if x5 < (x0.length : Int) then (if 0 ≤ x5 then (if x5 < (x1.length : Int) then ((laws_eqMail.f k ((rd_T24 x0 x5).f0) ((rd_T24 x0 x5).f1) ((rd_T24 x0 x5).f2) ((rd_T24 x0 x5).f3) ((rd_T24 x1 x5).f0) ((rd_T24 x1 x5).f1) ((rd_T24 x1 x5).f2) ((rd_T24 x1 x5).f3)).bind fun t241 => (if t241 = true then (laws_eqMailS.l0 k x0 x1 (wrap64 (x5 + 1))) else (some false))) else (none)) else (none)) else (some true)
def laws_eqMailS.f (k : Nat) (l0 : List (S24)) (l1 : List (S24)) : Option (Bool) := if (l0.length : Int) = (l1.length : Int) then (laws_eqMailS.l0 k l0 l1 0) else (some false)
theorem laws_eqMailS.mono_l : ∀ k, (∀ y0 y1 y2, LeO (laws_eqMailS.l0 k y0 y1 y2) (laws_eqMailS.l0 (k + 1) y0 y1 y2))
 | 0 => fun _ _ _ r h => by simp [laws_eqMailS.l0] at h
 | k + 1 => by
  have ih0 := laws_eqMailS.mono_l k
  ·intro y0 y1 y2
   unfold laws_eqMailS.l0
   repeat' first
   | (with_reducible exact ih0 _ _ _)
   | (with_reducible exact laws_eqMail.mono _ _ _ _ _ _ _ _ _)
   | (with_reducible exact LeO.refl _)
   | (with_reducible exact LeO.none _)
   | (with_reducible refine LeO.ite ?_ ?_)
   | (with_reducible refine LeO.bind ?_ (fun _ => ?_))
   | exact ih0 _ _ _
   | exact laws_eqMail.mono _ _ _ _ _ _ _ _ _
   | exact LeO.none _
   | refine LeO.ite ?_ ?_
   | refine LeO.bind ?_ (fun _ => ?_)
theorem laws_eqMailS.mono : ∀ a0 a1 k, LeO (laws_eqMailS.f k a0 a1) (laws_eqMailS.f (k + 1) a0 a1) := by
 intro a0 a1 k
 have ih0 := laws_eqMailS.mono_l k
 unfold laws_eqMailS.f
 repeat' first
   | (with_reducible exact ih0 _ _ _)
   | (with_reducible exact laws_eqMail.mono _ _ _ _ _ _ _ _ _)
   | (with_reducible exact LeO.refl _)
   | (with_reducible exact LeO.none _)
   | (with_reducible refine LeO.ite ?_ ?_)
   | (with_reducible refine LeO.bind ?_ (fun _ => ?_))
   | exact ih0 _ _ _
   | exact laws_eqMail.mono _ _ _ _ _ _ _ _ _
   | exact LeO.none _
   | refine LeO.ite ?_ ?_
   | refine LeO.bind ?_ (fun _ => ?_)
def laws_eqMailS.T6 : Bool × List (List Nat × List Nat) := (true, [([], []), ([], []), ([0, 1], [0, 1]), ([2], [2]), ([], []), ([], []), ([4, 5], [4, 5]), ([6], [6]), ([3, 7], [3, 7]), ([8], [8])])
def laws_eqMailS.B6 : List Nat := [0, 0, 3, 7, 0, 0, 48, 112, 255, 511]
theorem laws_eqMailS.tab6 : rtab .any (opsOf Try.f87 6) = laws_eqMailS.T6 := by kernel_rfl
theorem laws_eqMailS.bits6 : waitsOk laws_eqMailS.T6.2 laws_eqMailS.B6 = true := by kernel_rfl
set_option maxHeartbeats 8000000 in
set_option maxRecDepth 100000 in
theorem laws_eqMailS.calls (k : Nat) (A0 : Option Addr) (c0 : Nat) (l0 : List (S24)) (A1 : Option Addr) (c1 : Nat) (l1 : List (S24)) (r : Bool) (w : World) (hr0 : Kd.C k24 w A0 l0.length l0) (hc0 : l0.length ≤ c0) (hr1 : Kd.C k24 w A1 l1.length l1) (hc1 : l1.length ≤ c1) (h : laws_eqMailS.f k l0 l1 = some r) :
  Calls Try.prog 87 #[.slice A0 l0.length c0, .slice A1 l1.length c1] w fun e w' => e = .returned (.bool r) ∧ Below w.heap.size w w' := by
 have hu24 := Try.underlying24
 have HR0 := Aside0.mk hr0
 have HC0 := Aside0.mk hc0
 clear hr0 hc0
 have HR1 := Aside0.mk hr1
 have HC1 := Aside0.mk hc1
 clear hr1 hc1
 have HB := Aside0.mk (Below.refl w.heap.size w)
 have H : (if (l0.length : Int) = (l1.length : Int) then (laws_eqMailS.l0 k l0 l1 0) else (some false)) = some r := h
 clear h
 by_cases c3 : (l0.length : Int) = (l1.length : Int)
 ·rw [if_pos c3] at H
  have c3b0 : ((l0.length : Int) == (l1.length : Int)) = true := beq_iff_eq.mpr c3
  have c3b1 : ((l0.length : Int) != (l1.length : Int)) = false := bne_eq_false_iff_eq.mpr c3
  have c3b2 : (l0.length == l1.length) = true := by first | simpa using c3 | (simp at c3 ⊢; omega)
  clear c3
  have H' := Aside0.mk H
  clear H
  go_enter Try.func87, Try.ntmps87
  go_wp2
  go_loopg [5] k (fun kq v5 w' => ∃ (x5_1 : Int), v5 = .int .i64 x5_1 ∧ Aside0 (laws_eqMailS.l0 kq l0 l1 x5_1 = some r) ∧ Aside0 (kq ≤ k) ∧ Aside0 (Below w.heap.size w w'))
  case atStart => exact ⟨(0), aF, H', ⟨Nat.le_refl _⟩, ⟨aH⟩⟩
  case round =>
   clear H'
   try clear c1
   try clear p2
   try clear c3
   try clear c3b0
   try clear c3b1
   try clear c3b2
   obtain ⟨x5_1, rfl, HA, HK1, HB⟩ := hrel
   cases gk with
   | zero => exact absurd HA.out (by simp [laws_eqMailS.l0])
   | succ k1 =>
    have H := HA.out
    clear HA
    simp only [laws_eqMailS.l0] at H
    by_cases c4 : x5_1 < (l0.length : Int)
    ·rw [if_pos c4] at H
     have c4b0 : decide (x5_1 < (l0.length : Int)) = true := decide_eq_true c4
     clear c4
     by_cases c5 : 0 ≤ x5_1
     ·rw [if_pos c5] at H
      have c5b0 : decide (0 ≤ x5_1) = true := decide_eq_true c5
      clear c5
      by_cases c6 : x5_1 < (l1.length : Int)
      ·rw [if_pos c6] at H
       have c6b0 : decide (x5_1 < (l1.length : Int)) = true := decide_eq_true c6
       clear c6
       replace H := Option.bind_eq_some_iff.mp H
       obtain ⟨t241, A70, H⟩ := H
       replace H : (if t241 = true then (laws_eqMailS.l0 k1 l0 l1 (wrap64 (x5_1 + 1))) else (some false)) = some r := H
       have A7 := Aside0.mk A70
       clear A70
       by_cases c8 : t241 = true
       ·subst c8
        have H1 := wT H
        clear H
        have H := H1
        clear H1
        have H' := Aside0.mk H
        clear H
        try go_wp2
        have n0_ := Aside0.mk (below_drew1 HB.out)
        clear HB
        have HB := n0_
        clear n0_
        have p239 : 0 ≤ (x5_1 : Int) := of_decide_eq_true (by first | (with_reducible assumption) | assumption)
        have q239 : x5_1 < (l0.length : Int) := of_decide_eq_true (by first | (with_reducible assumption) | assumption)
        obtain ⟨ad239, A239_2, c239_2, e239, hx239_0, hx239_1, hx239_2, hx239_3, hl239_2, hi239_2⟩ := at_T24 HR0.out x5_1 p239 q239
        have hw239_3 := hx239_3
        have hw239_2 := hx239_2
        have hw239_1 := hx239_1
        have hw239_0 := hx239_0
        cases e239
        replace hx239_0 := pw_cell_below HB.out hx239_0
        replace hx239_1 := pw_cell_below HB.out hx239_1
        replace hx239_2 := pw_cell_below HB.out hx239_2
        replace hx239_3 := pw_cell_below HB.out hx239_3
        have HR239_2 := Aside0.mk hi239_2
        have HC239_2 := Aside0.mk hl239_2
        clear hi239_2 hl239_2
        replace p239 := eq_true p239
        replace q239 := eq_true q239
        have p240 : 0 ≤ (x5_1 : Int) := of_decide_eq_true (by first | (with_reducible assumption) | assumption)
        have q240 : x5_1 < (l1.length : Int) := of_decide_eq_true (by first | (with_reducible assumption) | assumption)
        obtain ⟨ad240, A240_2, c240_2, e240, hx240_0, hx240_1, hx240_2, hx240_3, hl240_2, hi240_2⟩ := at_T24 HR1.out x5_1 p240 q240
        have hw240_3 := hx240_3
        have hw240_2 := hx240_2
        have hw240_1 := hx240_1
        have hw240_0 := hx240_0
        cases e240
        replace hx240_0 := pw_cell_below HB.out hx240_0
        replace hx240_1 := pw_cell_below HB.out hx240_1
        replace hx240_2 := pw_cell_below HB.out hx240_2
        replace hx240_3 := pw_cell_below HB.out hx240_3
        have HR240_2 := Aside0.mk hi240_2
        have HC240_2 := Aside0.mk hl240_2
        clear hi240_2 hl240_2
        replace p240 := eq_true p240
        replace q240 := eq_true q240
        refine start_ (n := 10) (S := fun w' => w'.cell? (ad239.add ((x5_1).toNat * 4)) = some (.int .i64 ((rd_T24 l0 x5_1).f0)) ∧ w'.cell? ⟨(ad239.add ((x5_1).toNat * 4)).block, (ad239.add ((x5_1).toNat * 4)).off + 1, none⟩ = some (.int .i64 ((rd_T24 l0 x5_1).f1)) ∧ w'.cell? ⟨(ad239.add ((x5_1).toNat * 4)).block, (ad239.add ((x5_1).toNat * 4)).off + 2, none⟩ = some (.slice A239_2 ((rd_T24 l0 x5_1).f2).length c239_2) ∧ w'.cell? ⟨(ad239.add ((x5_1).toNat * 4)).block, (ad239.add ((x5_1).toNat * 4)).off + 3, none⟩ = some (.string ((rd_T24 l0 x5_1).f3)) ∧ w'.cell? (ad240.add ((x5_1).toNat * 4)) = some (.int .i64 ((rd_T24 l1 x5_1).f0)) ∧ w'.cell? ⟨(ad240.add ((x5_1).toNat * 4)).block, (ad240.add ((x5_1).toNat * 4)).off + 1, none⟩ = some (.int .i64 ((rd_T24 l1 x5_1).f1)) ∧ w'.cell? ⟨(ad240.add ((x5_1).toNat * 4)).block, (ad240.add ((x5_1).toNat * 4)).off + 2, none⟩ = some (.slice A240_2 ((rd_T24 l1 x5_1).f2).length c240_2) ∧ w'.cell? ⟨(ad240.add ((x5_1).toNat * 4)).block, (ad240.add ((x5_1).toNat * 4)).off + 3, none⟩ = some (.string ((rd_T24 l1 x5_1).f3))) (ds := []) #[false, false, false, false, false, false, false, false, false, false] (by kernel_rfl) rfl rfl ⟨(pw_cell_below HB.out hw239_0), (pw_cell_below HB.out hw239_1), (pw_cell_below HB.out hw239_2), (pw_cell_below HB.out hw239_3), (pw_cell_below HB.out hw240_0), (pw_cell_below HB.out hw240_1), (pw_cell_below HB.out hw240_2), (pw_cell_below HB.out hw240_3)⟩ (fun hHeld => ?_); refine with_tabW laws_eqMailS.tab6 laws_eqMailS.bits6 (fun HT_ HW_ => ?_)
        generalize wr.drew = w9 at HB HR239_2 HR240_2 hx239_0 hx239_1 hx239_2 hx239_3 hx240_0 hx240_1 hx240_2 hx240_3 hHeld ⊢
        refine pP 0 17 #[true, false, false, false, false, false, false, false, false, false] ?_
        refine pP 1 18 #[true, true, false, false, false, false, false, false, false, false] ?_
        refine pP 2 19 #[true, true, true, false, false, false, false, false, false, false] ?_
        refine pP 4 21 #[true, true, true, false, true, false, false, false, false, false] ?_
        refine pP 5 22 #[true, true, true, false, true, true, false, false, false, false] ?_
        refine pP 6 23 #[true, true, true, false, true, true, true, false, false, false] ?_
        refine tP 3 20 #[true, true, true, true, true, true, true, false, false, false] ?_
        refine tP 7 24 #[true, true, true, true, true, true, true, true, false, false] ?_
        refine one_ (i := 8) (N := some 25) #[true, true, true, true, true, true, true, true, true, false] rfl rfl (one_of HT_.out (by kernel_rfl)) (by decide) (fun K hK => ?_)
        refine goes_ Try.func14 (by kernel_rfl) rfl #[.agg #[.int .i64 ((rd_T24 l0 x5_1).f0), .int .i64 ((rd_T24 l0 x5_1).f1), .slice A239_2 ((rd_T24 l0 x5_1).f2).length c239_2, .string ((rd_T24 l0 x5_1).f3)], .agg #[.int .i64 ((rd_T24 l1 x5_1).f0), .int .i64 ((rd_T24 l1 x5_1).f1), .slice A240_2 ((rd_T24 l1 x5_1).f2).length c240_2, .string ((rd_T24 l1 x5_1).f3)]] (by rfl) rfl rfl (by (try simp only [List.map_toArray, List.map_cons, List.map_nil]); first | done | rfl | (simp only [List.length_drop, List.length_take]; rfl)) ?_
        with_reducible refine (laws_eqMail.calls k1 ((rd_T24 l0 x5_1).f0) ((rd_T24 l0 x5_1).f1) _ _ ((rd_T24 l0 x5_1).f2) ((rd_T24 l0 x5_1).f3) ((rd_T24 l1 x5_1).f0) ((rd_T24 l1 x5_1).f1) _ _ ((rd_T24 l1 x5_1).f2) ((rd_T24 l1 x5_1).f3) true _ ?side1 ?side2 ?side3 ?side4 A7.out).mono ?_
        (case side1 => repeat (first | exact (Kd.C_below HR239_2.out HB.out) | (with_reducible refine Kd.C_alloc ?_ _) | (with_reducible refine Kd.C_drewN ?_ _) | (with_reducible refine Kd.C_drew ?_)))
        (case side2 => exact HC239_2.out)
        (case side3 => repeat (first | exact (Kd.C_below HR240_2.out HB.out) | (with_reducible refine Kd.C_alloc ?_ _) | (with_reducible refine Kd.C_drewN ?_ _) | (with_reducible refine Kd.C_drew ?_)))
        (case side4 => exact HC240_2.out)
        rintro e w10 ⟨rfl, hb⟩
        refine ⟨_, rfl, ?_⟩
        have n0_ := Aside0.mk (below_step aH hb)
        clear HB
        have HB := n0_
        clear n0_
        (try clear hb)
        (try clear hb2)
        (try clear hk)
        (try clear hi)
        refine hK.out _ _ ⟨(pw_cell_below HB.out hw239_0), (pw_cell_below HB.out hw239_1), (pw_cell_below HB.out hw239_2), (pw_cell_below HB.out hw239_3), (pw_cell_below HB.out hw240_0), (pw_cell_below HB.out hw240_1), (pw_cell_below HB.out hw240_2), (pw_cell_below HB.out hw240_3)⟩ (fun hHeld => ?_)
        clear hK K
        refine nP 25 ?_
        refine pP 9 26 #[true, true, true, true, true, true, true, true, true, true] ?_
        refine done_ (done_of HT_.out (by kernel_rfl)) ?_
        try go_wp2
        go_roundg k1
        case measure => have := HK1.out; omega
        case rel => exact ⟨(wrap64 (x5_1 + 1)), aF, H', ⟨by have := HK1.out; omega⟩, ⟨aH⟩⟩
       ·replace c8 := Bool.eq_false_iff.mpr c8
        subst c8
        have H1 := wF H
        clear H
        have H := H1
        clear H1
        obtain rfl := Option.some.inj H
        try go_wp2
        have n0_ := Aside0.mk (below_drew1 HB.out)
        clear HB
        have HB := n0_
        clear n0_
        have p239 : 0 ≤ (x5_1 : Int) := of_decide_eq_true (by first | (with_reducible assumption) | assumption)
        have q239 : x5_1 < (l0.length : Int) := of_decide_eq_true (by first | (with_reducible assumption) | assumption)
        obtain ⟨ad239, A239_2, c239_2, e239, hx239_0, hx239_1, hx239_2, hx239_3, hl239_2, hi239_2⟩ := at_T24 HR0.out x5_1 p239 q239
        have hw239_3 := hx239_3
        have hw239_2 := hx239_2
        have hw239_1 := hx239_1
        have hw239_0 := hx239_0
        cases e239
        replace hx239_0 := pw_cell_below HB.out hx239_0
        replace hx239_1 := pw_cell_below HB.out hx239_1
        replace hx239_2 := pw_cell_below HB.out hx239_2
        replace hx239_3 := pw_cell_below HB.out hx239_3
        have HR239_2 := Aside0.mk hi239_2
        have HC239_2 := Aside0.mk hl239_2
        clear hi239_2 hl239_2
        replace p239 := eq_true p239
        replace q239 := eq_true q239
        have p240 : 0 ≤ (x5_1 : Int) := of_decide_eq_true (by first | (with_reducible assumption) | assumption)
        have q240 : x5_1 < (l1.length : Int) := of_decide_eq_true (by first | (with_reducible assumption) | assumption)
        obtain ⟨ad240, A240_2, c240_2, e240, hx240_0, hx240_1, hx240_2, hx240_3, hl240_2, hi240_2⟩ := at_T24 HR1.out x5_1 p240 q240
        have hw240_3 := hx240_3
        have hw240_2 := hx240_2
        have hw240_1 := hx240_1
        have hw240_0 := hx240_0
        cases e240
        replace hx240_0 := pw_cell_below HB.out hx240_0
        replace hx240_1 := pw_cell_below HB.out hx240_1
        replace hx240_2 := pw_cell_below HB.out hx240_2
        replace hx240_3 := pw_cell_below HB.out hx240_3
        have HR240_2 := Aside0.mk hi240_2
        have HC240_2 := Aside0.mk hl240_2
        clear hi240_2 hl240_2
        replace p240 := eq_true p240
        replace q240 := eq_true q240
        refine start_ (n := 10) (S := fun w' => w'.cell? (ad239.add ((x5_1).toNat * 4)) = some (.int .i64 ((rd_T24 l0 x5_1).f0)) ∧ w'.cell? ⟨(ad239.add ((x5_1).toNat * 4)).block, (ad239.add ((x5_1).toNat * 4)).off + 1, none⟩ = some (.int .i64 ((rd_T24 l0 x5_1).f1)) ∧ w'.cell? ⟨(ad239.add ((x5_1).toNat * 4)).block, (ad239.add ((x5_1).toNat * 4)).off + 2, none⟩ = some (.slice A239_2 ((rd_T24 l0 x5_1).f2).length c239_2) ∧ w'.cell? ⟨(ad239.add ((x5_1).toNat * 4)).block, (ad239.add ((x5_1).toNat * 4)).off + 3, none⟩ = some (.string ((rd_T24 l0 x5_1).f3)) ∧ w'.cell? (ad240.add ((x5_1).toNat * 4)) = some (.int .i64 ((rd_T24 l1 x5_1).f0)) ∧ w'.cell? ⟨(ad240.add ((x5_1).toNat * 4)).block, (ad240.add ((x5_1).toNat * 4)).off + 1, none⟩ = some (.int .i64 ((rd_T24 l1 x5_1).f1)) ∧ w'.cell? ⟨(ad240.add ((x5_1).toNat * 4)).block, (ad240.add ((x5_1).toNat * 4)).off + 2, none⟩ = some (.slice A240_2 ((rd_T24 l1 x5_1).f2).length c240_2) ∧ w'.cell? ⟨(ad240.add ((x5_1).toNat * 4)).block, (ad240.add ((x5_1).toNat * 4)).off + 3, none⟩ = some (.string ((rd_T24 l1 x5_1).f3))) (ds := []) #[false, false, false, false, false, false, false, false, false, false] (by kernel_rfl) rfl rfl ⟨(pw_cell_below HB.out hw239_0), (pw_cell_below HB.out hw239_1), (pw_cell_below HB.out hw239_2), (pw_cell_below HB.out hw239_3), (pw_cell_below HB.out hw240_0), (pw_cell_below HB.out hw240_1), (pw_cell_below HB.out hw240_2), (pw_cell_below HB.out hw240_3)⟩ (fun hHeld => ?_); refine with_tabW laws_eqMailS.tab6 laws_eqMailS.bits6 (fun HT_ HW_ => ?_)
        generalize wr.drew = w11 at HB HR239_2 HR240_2 hx239_0 hx239_1 hx239_2 hx239_3 hx240_0 hx240_1 hx240_2 hx240_3 hHeld ⊢
        refine pP 0 17 #[true, false, false, false, false, false, false, false, false, false] ?_
        refine pP 1 18 #[true, true, false, false, false, false, false, false, false, false] ?_
        refine pP 2 19 #[true, true, true, false, false, false, false, false, false, false] ?_
        refine pP 4 21 #[true, true, true, false, true, false, false, false, false, false] ?_
        refine pP 5 22 #[true, true, true, false, true, true, false, false, false, false] ?_
        refine pP 6 23 #[true, true, true, false, true, true, true, false, false, false] ?_
        refine tP 3 20 #[true, true, true, true, true, true, true, false, false, false] ?_
        refine tP 7 24 #[true, true, true, true, true, true, true, true, false, false] ?_
        refine one_ (i := 8) (N := some 25) #[true, true, true, true, true, true, true, true, true, false] rfl rfl (one_of HT_.out (by kernel_rfl)) (by decide) (fun K hK => ?_)
        refine goes_ Try.func14 (by kernel_rfl) rfl #[.agg #[.int .i64 ((rd_T24 l0 x5_1).f0), .int .i64 ((rd_T24 l0 x5_1).f1), .slice A239_2 ((rd_T24 l0 x5_1).f2).length c239_2, .string ((rd_T24 l0 x5_1).f3)], .agg #[.int .i64 ((rd_T24 l1 x5_1).f0), .int .i64 ((rd_T24 l1 x5_1).f1), .slice A240_2 ((rd_T24 l1 x5_1).f2).length c240_2, .string ((rd_T24 l1 x5_1).f3)]] (by rfl) rfl rfl (by (try simp only [List.map_toArray, List.map_cons, List.map_nil]); first | done | rfl | (simp only [List.length_drop, List.length_take]; rfl)) ?_
        with_reducible refine (laws_eqMail.calls k1 ((rd_T24 l0 x5_1).f0) ((rd_T24 l0 x5_1).f1) _ _ ((rd_T24 l0 x5_1).f2) ((rd_T24 l0 x5_1).f3) ((rd_T24 l1 x5_1).f0) ((rd_T24 l1 x5_1).f1) _ _ ((rd_T24 l1 x5_1).f2) ((rd_T24 l1 x5_1).f3) false _ ?side1 ?side2 ?side3 ?side4 A7.out).mono ?_
        (case side1 => repeat (first | exact (Kd.C_below HR239_2.out HB.out) | (with_reducible refine Kd.C_alloc ?_ _) | (with_reducible refine Kd.C_drewN ?_ _) | (with_reducible refine Kd.C_drew ?_)))
        (case side2 => exact HC239_2.out)
        (case side3 => repeat (first | exact (Kd.C_below HR240_2.out HB.out) | (with_reducible refine Kd.C_alloc ?_ _) | (with_reducible refine Kd.C_drewN ?_ _) | (with_reducible refine Kd.C_drew ?_)))
        (case side4 => exact HC240_2.out)
        rintro e w12 ⟨rfl, hb⟩
        refine ⟨_, rfl, ?_⟩
        have n0_ := Aside0.mk (below_step aH hb)
        clear HB
        have HB := n0_
        clear n0_
        (try clear hb)
        (try clear hb2)
        (try clear hk)
        (try clear hi)
        refine hK.out _ _ ⟨(pw_cell_below HB.out hw239_0), (pw_cell_below HB.out hw239_1), (pw_cell_below HB.out hw239_2), (pw_cell_below HB.out hw239_3), (pw_cell_below HB.out hw240_0), (pw_cell_below HB.out hw240_1), (pw_cell_below HB.out hw240_2), (pw_cell_below HB.out hw240_3)⟩ (fun hHeld => ?_)
        clear hK K
        refine nP 25 ?_
        refine pP 9 26 #[true, true, true, true, true, true, true, true, true, true] ?_
        refine done_ (done_of HT_.out (by kernel_rfl)) ?_
        try go_wp2
        go_ret
        exact ⟨by first | rfl | (simp [errW_none, errW_some] <;> rfl) | (simp [*, errW_none, errW_some] <;> rfl), aH⟩
      ·rw [if_neg c6] at H
       exact absurd H (by simp)
     ·rw [if_neg c5] at H
      exact absurd H (by simp)
    ·rw [if_neg c4] at H
     have c4b0 : decide (x5_1 < (l0.length : Int)) = false := decide_eq_false c4
     clear c4
     obtain rfl := Option.some.inj H
     go_wp2
     go_ret
     exact ⟨by first | rfl | (simp [errW_none, errW_some] <;> rfl) | (simp [*, errW_none, errW_some] <;> rfl), aH⟩
 ·rw [if_neg c3] at H
  have c3b0 : ((l0.length : Int) == (l1.length : Int)) = false := beq_eq_false_iff_ne.mpr c3
  have c3b1 : ((l0.length : Int) != (l1.length : Int)) = true := bne_iff_ne.mpr c3
  have c3b2 : (l0.length == l1.length) = false := by first | simpa using c3 | (simp at c3 ⊢; omega)
  obtain rfl := Option.some.inj H
  go_enter Try.func87, Try.ntmps87
  go_wp2
  go_ret
  exact ⟨by first | rfl | (simp [errW_none, errW_some] <;> rfl) | (simp [*, errW_none, errW_some] <;> rfl), aH⟩

/-! ### laws_eqBox: function 35 -/
def laws_eqBox.f (k : Nat) (a0_0 : Int) (a0_1 : ByteArray) (a0_2 : Int) (a0_3 : Int) (a0_4 : Int) (l0_5 : List (S24)) (l0_6 : List Int) (a1_0 : Int) (a1_1 : ByteArray) (a1_2 : Int) (a1_3 : Int) (a1_4 : Int) (l1_5 : List (S24)) (l1_6 : List Int) : Option (Bool) := if a0_0 = a1_0 then (if a0_1.toList = a1_1.toList then ((laws_eqStamp.f a0_2 a0_3 a1_2 a1_3).bind fun t244 => (if t244 = true then (if a0_4 = a1_4 then ((laws_eqMailS.f k l0_5 l1_5).bind fun t245 => (if t245 = true then ((laws_eqIntS.f k l0_6 l1_6).bind fun t246 => (if t246 = true then (some true) else (some false))) else (some false))) else (some false)) else (some false))) else (some false)) else (some false)
theorem laws_eqBox.mono : ∀ a0 a1 a2 a3 a4 a5 a6 a7 a8 a9 a10 a11 a12 a13 k, LeO (laws_eqBox.f k a0 a1 a2 a3 a4 a5 a6 a7 a8 a9 a10 a11 a12 a13) (laws_eqBox.f (k + 1) a0 a1 a2 a3 a4 a5 a6 a7 a8 a9 a10 a11 a12 a13) := by
 intro a0 a1 a2 a3 a4 a5 a6 a7 a8 a9 a10 a11 a12 a13 k
 unfold laws_eqBox.f
 repeat' first
   | (with_reducible exact laws_eqIntS.mono _ _ _)
   | (with_reducible exact laws_eqMailS.mono _ _ _)
   | (with_reducible exact LeO.refl _)
   | (with_reducible exact LeO.none _)
   | (with_reducible refine LeO.ite ?_ ?_)
   | (with_reducible refine LeO.bind ?_ (fun _ => ?_))
   | exact laws_eqIntS.mono _ _ _
   | exact laws_eqMailS.mono _ _ _
   | exact LeO.none _
   | refine LeO.ite ?_ ?_
   | refine LeO.bind ?_ (fun _ => ?_)
set_option maxHeartbeats 8000000 in
set_option maxRecDepth 100000 in
theorem laws_eqBox.calls (k : Nat) (a0_0 : Int) (a0_1 : ByteArray) (a0_2 : Int) (a0_3 : Int) (a0_4 : Int) (A0_5 : Option Addr) (c0_5 : Nat) (l0_5 : List (S24)) (A0_6 : Option Addr) (c0_6 : Nat) (l0_6 : List Int) (a1_0 : Int) (a1_1 : ByteArray) (a1_2 : Int) (a1_3 : Int) (a1_4 : Int) (A1_5 : Option Addr) (c1_5 : Nat) (l1_5 : List (S24)) (A1_6 : Option Addr) (c1_6 : Nat) (l1_6 : List Int) (r : Bool) (w : World) (hr0_5 : Kd.C k24 w A0_5 l0_5.length l0_5) (hc0_5 : l0_5.length ≤ c0_5) (hr0_6 : Kd.C (Kd.int .i64) w A0_6 l0_6.length l0_6) (hc0_6 : l0_6.length ≤ c0_6) (hr1_5 : Kd.C k24 w A1_5 l1_5.length l1_5) (hc1_5 : l1_5.length ≤ c1_5) (hr1_6 : Kd.C (Kd.int .i64) w A1_6 l1_6.length l1_6) (hc1_6 : l1_6.length ≤ c1_6) (h : laws_eqBox.f k a0_0 a0_1 a0_2 a0_3 a0_4 l0_5 l0_6 a1_0 a1_1 a1_2 a1_3 a1_4 l1_5 l1_6 = some r) :
  Calls Try.prog 35 #[.agg #[.int .i64 a0_0, .string a0_1, .int .i64 a0_2, .int .i64 a0_3, .int .i64 a0_4, .slice A0_5 l0_5.length c0_5, .slice A0_6 l0_6.length c0_6], .agg #[.int .i64 a1_0, .string a1_1, .int .i64 a1_2, .int .i64 a1_3, .int .i64 a1_4, .slice A1_5 l1_5.length c1_5, .slice A1_6 l1_6.length c1_6]] w fun e w' => e = .returned (.bool r) ∧ Below w.heap.size w w' := by
 have hu59 := Try.underlying59
 have hu36 := Try.underlying36
 have HR0_5 := Aside0.mk hr0_5
 have HC0_5 := Aside0.mk hc0_5
 clear hr0_5 hc0_5
 have HR0_6 := Aside0.mk hr0_6
 have HC0_6 := Aside0.mk hc0_6
 clear hr0_6 hc0_6
 have HR1_5 := Aside0.mk hr1_5
 have HC1_5 := Aside0.mk hc1_5
 clear hr1_5 hc1_5
 have HR1_6 := Aside0.mk hr1_6
 have HC1_6 := Aside0.mk hc1_6
 clear hr1_6 hc1_6
 have HB := Aside0.mk (Below.refl w.heap.size w)
 have H := h
 unfold laws_eqBox.f at H
 clear h
 by_cases c3 : a0_0 = a1_0
 ·rw [if_pos c3] at H
  have c3b0 : (a0_0 == a1_0) = true := beq_iff_eq.mpr c3
  have c3b1 : (a0_0 != a1_0) = false := bne_eq_false_iff_eq.mpr c3
  clear c3
  by_cases c4 : a0_1.toList = a1_1.toList
  ·rw [if_pos c4] at H
   have c4b0 : (a0_1.toList == a1_1.toList) = true := beq_iff_eq.mpr c4
   have c4b1 : (a0_1.toList != a1_1.toList) = false := bne_eq_false_iff_eq.mpr c4
   clear c4
   replace H := Option.bind_eq_some_iff.mp H
   obtain ⟨t244, A50, H⟩ := H
   try dsimp only at H
   have A5 := Aside0.mk A50
   clear A50
   by_cases c6 : t244 = true
   ·subst c6
    have H1 := wT H
    clear H
    have H := H1
    clear H1
    by_cases c7 : a0_4 = a1_4
    ·rw [if_pos c7] at H
     have c7b0 : (a0_4 == a1_4) = true := beq_iff_eq.mpr c7
     have c7b1 : (a0_4 != a1_4) = false := bne_eq_false_iff_eq.mpr c7
     clear c7
     replace H := Option.bind_eq_some_iff.mp H
     obtain ⟨t245, A80, H⟩ := H
     try dsimp only at H
     have A8 := Aside0.mk A80
     clear A80
     by_cases c9 : t245 = true
     ·subst c9
      have H1 := wT H
      clear H
      have H := H1
      clear H1
      replace H := Option.bind_eq_some_iff.mp H
      obtain ⟨t246, A100, H⟩ := H
      replace H : (if t246 = true then (some true) else (some false)) = some r := H
      have A10 := Aside0.mk A100
      clear A100
      by_cases c11 : t246 = true
      ·subst c11
       have H1 := wT H
       clear H
       have H := H1
       clear H1
       obtain rfl := Option.some.inj H
       go_enter Try.func35, Try.ntmps35
       go_wp2_with (first | ((with_reducible refine gate_dst (N := 2) rfl ?_); refine bE 2 #[.int .i64 a0_0, .string a0_1, .int .i64 a0_2, .int .i64 a0_3, .int .i64 a0_4, .slice A0_5 l0_5.length c0_5, .slice A0_6 l0_6.length c0_6] 59 ?_; intro gb242 hg w12 hbox hb; have n0_ := Aside0.mk (below_step aH hb); have n1_ := Aside0.mk (hbox); have n2_ := Aside0.mk ((gS hg : w.heap.size ≤ gb242)); have n3_ := Aside0.mk ((gS hg : w.heap.size ≤ gb242)); clear HB; have HB := n0_; have BK242 := n1_; have GW242 := n2_; have GE242 := n3_; clear n0_ n1_ n2_ n3_; clear hb hbox hg) | ((with_reducible refine gate_dst (N := 3) rfl ?_); refine bE 3 #[.int .i64 a1_0, .string a1_1, .int .i64 a1_2, .int .i64 a1_3, .int .i64 a1_4, .slice A1_5 l1_5.length c1_5, .slice A1_6 l1_6.length c1_6] 59 ?_; intro gb243 hg w13 hbox hb; have n0_ := Aside0.mk (kB BK242.out hb); have n1_ := Aside0.mk (below_step aH hb); have n2_ := Aside0.mk (hbox); have n3_ := Aside0.mk ((gS hg : w.heap.size ≤ gb243)); have n4_ := Aside0.mk ((gS hg : w.heap.size ≤ gb243)); have n5_ := Aside0.mk (gL hg BK242.out); have n6_ := Aside0.mk (gG hg BK242.out); clear BK242; clear HB; have BK242 := n0_; have HB := n1_; have BK243 := n2_; have GW243 := n3_; have GE243 := n4_; have NB242_243 := n5_; have NB243_242 := n6_; clear n0_ n1_ n2_ n3_ n4_ n5_ n6_; clear hb hbox hg; have hnb14 := NB242_243.out; have hnc14 := NB243_242.out; have hcz15_0 : w13.cell? ⟨gb242, 0, none⟩ = some (.int .i64 a0_0) := cR BK242.out 0; have hcz15_1 : w13.cell? ⟨gb242, 1, none⟩ = some (.string a0_1) := cR BK242.out 1; have hcz15_2 : w13.cell? ⟨gb242, 2, none⟩ = some (.int .i64 a0_2) := cR BK242.out 2; have hcz15_3 : w13.cell? ⟨gb242, 3, none⟩ = some (.int .i64 a0_3) := cR BK242.out 3; have hcz15_4 : w13.cell? ⟨gb242, 4, none⟩ = some (.int .i64 a0_4) := cR BK242.out 4; have hcz15_5 : w13.cell? ⟨gb242, 5, none⟩ = some (.slice A0_5 l0_5.length c0_5) := cR BK242.out 5; have hcz15_6 : w13.cell? ⟨gb242, 6, none⟩ = some (.slice A0_6 l0_6.length c0_6) := cR BK242.out 6; have hfz15_0 := blk_frozen BK242.out 0; have hfz15_1 := blk_frozen BK242.out 1; have hfz15_2 := blk_frozen BK242.out 2; have hfz15_3 := blk_frozen BK242.out 3; have hfz15_4 := blk_frozen BK242.out 4; have hfz15_5 := blk_frozen BK242.out 5; have hfz15_6 := blk_frozen BK242.out 6; have hcz16_0 : w13.cell? ⟨gb243, 0, none⟩ = some (.int .i64 a1_0) := cR BK243.out 0; have hcz16_1 : w13.cell? ⟨gb243, 1, none⟩ = some (.string a1_1) := cR BK243.out 1; have hcz16_2 : w13.cell? ⟨gb243, 2, none⟩ = some (.int .i64 a1_2) := cR BK243.out 2; have hcz16_3 : w13.cell? ⟨gb243, 3, none⟩ = some (.int .i64 a1_3) := cR BK243.out 3; have hcz16_4 : w13.cell? ⟨gb243, 4, none⟩ = some (.int .i64 a1_4) := cR BK243.out 4; have hcz16_5 : w13.cell? ⟨gb243, 5, none⟩ = some (.slice A1_5 l1_5.length c1_5) := cR BK243.out 5; have hcz16_6 : w13.cell? ⟨gb243, 6, none⟩ = some (.slice A1_6 l1_6.length c1_6) := cR BK243.out 6; have hfz16_0 := blk_frozen BK243.out 0; have hfz16_1 := blk_frozen BK243.out 1; have hfz16_2 := blk_frozen BK243.out 2; have hfz16_3 := blk_frozen BK243.out 3; have hfz16_4 := blk_frozen BK243.out 4; have hfz16_5 := blk_frozen BK243.out 5; have hfz16_6 := blk_frozen BK243.out 6) | ((with_reducible refine gate_callee (f := 21) rfl ?_); refine gL_ (some 19) Try.func21 #[.agg #[.int .i64 a0_2, .int .i64 a0_3], .agg #[.int .i64 a1_2, .int .i64 a1_3]] ?_; (with_reducible refine (laws_eqStamp.calls a0_2 a0_3 a1_2 a1_3 true _ A5.out).mono ?_); rintro e w17 ⟨rfl, hb⟩; refine ⟨_, rfl, ?_⟩; have n0_ := Aside0.mk (kB BK242.out hb); have n1_ := Aside0.mk (kB BK243.out hb); have n2_ := Aside0.mk (below_step aH hb); clear BK242; clear BK243; clear HB; have BK242 := n0_; have BK243 := n1_; have HB := n2_; clear n0_ n1_ n2_; (try clear hb); (try clear hb2); (try clear hk); (try clear hi); have hcz18_0 : w17.cell? ⟨gb242, 0, none⟩ = some (.int .i64 a0_0) := cR BK242.out 0; have hcz18_1 : w17.cell? ⟨gb242, 1, none⟩ = some (.string a0_1) := cR BK242.out 1; have hcz18_2 : w17.cell? ⟨gb242, 2, none⟩ = some (.int .i64 a0_2) := cR BK242.out 2; have hcz18_3 : w17.cell? ⟨gb242, 3, none⟩ = some (.int .i64 a0_3) := cR BK242.out 3; have hcz18_4 : w17.cell? ⟨gb242, 4, none⟩ = some (.int .i64 a0_4) := cR BK242.out 4; have hcz18_5 : w17.cell? ⟨gb242, 5, none⟩ = some (.slice A0_5 l0_5.length c0_5) := cR BK242.out 5; have hcz18_6 : w17.cell? ⟨gb242, 6, none⟩ = some (.slice A0_6 l0_6.length c0_6) := cR BK242.out 6; have hfz18_0 := blk_frozen BK242.out 0; have hfz18_1 := blk_frozen BK242.out 1; have hfz18_2 := blk_frozen BK242.out 2; have hfz18_3 := blk_frozen BK242.out 3; have hfz18_4 := blk_frozen BK242.out 4; have hfz18_5 := blk_frozen BK242.out 5; have hfz18_6 := blk_frozen BK242.out 6; have hcz19_0 : w17.cell? ⟨gb243, 0, none⟩ = some (.int .i64 a1_0) := cR BK243.out 0; have hcz19_1 : w17.cell? ⟨gb243, 1, none⟩ = some (.string a1_1) := cR BK243.out 1; have hcz19_2 : w17.cell? ⟨gb243, 2, none⟩ = some (.int .i64 a1_2) := cR BK243.out 2; have hcz19_3 : w17.cell? ⟨gb243, 3, none⟩ = some (.int .i64 a1_3) := cR BK243.out 3; have hcz19_4 : w17.cell? ⟨gb243, 4, none⟩ = some (.int .i64 a1_4) := cR BK243.out 4; have hcz19_5 : w17.cell? ⟨gb243, 5, none⟩ = some (.slice A1_5 l1_5.length c1_5) := cR BK243.out 5; have hcz19_6 : w17.cell? ⟨gb243, 6, none⟩ = some (.slice A1_6 l1_6.length c1_6) := cR BK243.out 6; have hfz19_0 := blk_frozen BK243.out 0; have hfz19_1 := blk_frozen BK243.out 1; have hfz19_2 := blk_frozen BK243.out 2; have hfz19_3 := blk_frozen BK243.out 3; have hfz19_4 := blk_frozen BK243.out 4; have hfz19_5 := blk_frozen BK243.out 5; have hfz19_6 := blk_frozen BK243.out 6) | ((with_reducible refine gate_callee (f := 87) rfl ?_); refine gL_ (some 30) Try.func87 #[.slice A0_5 l0_5.length c0_5, .slice A1_5 l1_5.length c1_5] ?_; (with_reducible refine (laws_eqMailS.calls k _ _ l0_5 _ _ l1_5 true _ ?side1 ?side2 ?side3 ?side4 A8.out).mono ?_); (case side1 => repeat (first | exact (Kd.C_below HR0_5.out HB.out) | (with_reducible refine Kd.C_alloc ?_ _) | (with_reducible refine Kd.C_drewN ?_ _) | (with_reducible refine Kd.C_drew ?_))); (case side2 => exact HC0_5.out); (case side3 => repeat (first | exact (Kd.C_below HR1_5.out HB.out) | (with_reducible refine Kd.C_alloc ?_ _) | (with_reducible refine Kd.C_drewN ?_ _) | (with_reducible refine Kd.C_drew ?_))); (case side4 => exact HC1_5.out); rintro e w20 ⟨rfl, hb⟩; refine ⟨_, rfl, ?_⟩; have n0_ := Aside0.mk (kB BK242.out hb); have n1_ := Aside0.mk (kB BK243.out hb); have n2_ := Aside0.mk (below_step aH hb); clear BK242; clear BK243; clear HB; have BK242 := n0_; have BK243 := n1_; have HB := n2_; clear n0_ n1_ n2_; (try clear hb); (try clear hb2); (try clear hk); (try clear hi); have hcz21_0 : w20.cell? ⟨gb242, 0, none⟩ = some (.int .i64 a0_0) := cR BK242.out 0; have hcz21_1 : w20.cell? ⟨gb242, 1, none⟩ = some (.string a0_1) := cR BK242.out 1; have hcz21_2 : w20.cell? ⟨gb242, 2, none⟩ = some (.int .i64 a0_2) := cR BK242.out 2; have hcz21_3 : w20.cell? ⟨gb242, 3, none⟩ = some (.int .i64 a0_3) := cR BK242.out 3; have hcz21_4 : w20.cell? ⟨gb242, 4, none⟩ = some (.int .i64 a0_4) := cR BK242.out 4; have hcz21_5 : w20.cell? ⟨gb242, 5, none⟩ = some (.slice A0_5 l0_5.length c0_5) := cR BK242.out 5; have hcz21_6 : w20.cell? ⟨gb242, 6, none⟩ = some (.slice A0_6 l0_6.length c0_6) := cR BK242.out 6; have hfz21_0 := blk_frozen BK242.out 0; have hfz21_1 := blk_frozen BK242.out 1; have hfz21_2 := blk_frozen BK242.out 2; have hfz21_3 := blk_frozen BK242.out 3; have hfz21_4 := blk_frozen BK242.out 4; have hfz21_5 := blk_frozen BK242.out 5; have hfz21_6 := blk_frozen BK242.out 6; have hcz22_0 : w20.cell? ⟨gb243, 0, none⟩ = some (.int .i64 a1_0) := cR BK243.out 0; have hcz22_1 : w20.cell? ⟨gb243, 1, none⟩ = some (.string a1_1) := cR BK243.out 1; have hcz22_2 : w20.cell? ⟨gb243, 2, none⟩ = some (.int .i64 a1_2) := cR BK243.out 2; have hcz22_3 : w20.cell? ⟨gb243, 3, none⟩ = some (.int .i64 a1_3) := cR BK243.out 3; have hcz22_4 : w20.cell? ⟨gb243, 4, none⟩ = some (.int .i64 a1_4) := cR BK243.out 4; have hcz22_5 : w20.cell? ⟨gb243, 5, none⟩ = some (.slice A1_5 l1_5.length c1_5) := cR BK243.out 5; have hcz22_6 : w20.cell? ⟨gb243, 6, none⟩ = some (.slice A1_6 l1_6.length c1_6) := cR BK243.out 6; have hfz22_0 := blk_frozen BK243.out 0; have hfz22_1 := blk_frozen BK243.out 1; have hfz22_2 := blk_frozen BK243.out 2; have hfz22_3 := blk_frozen BK243.out 3; have hfz22_4 := blk_frozen BK243.out 4; have hfz22_5 := blk_frozen BK243.out 5; have hfz22_6 := blk_frozen BK243.out 6) | ((with_reducible refine gate_callee (f := 63) rfl ?_); refine gL_ (some 36) Try.func63 #[.slice A0_6 l0_6.length c0_6, .slice A1_6 l1_6.length c1_6] ?_; (with_reducible refine (laws_eqIntS.calls k _ _ l0_6 _ _ l1_6 true _ ?side1 ?side2 ?side3 ?side4 A10.out).mono ?_); (case side1 => repeat (first | exact (Kd.C_below HR0_6.out HB.out) | (with_reducible refine Kd.C_alloc ?_ _) | (with_reducible refine Kd.C_drewN ?_ _) | (with_reducible refine Kd.C_drew ?_))); (case side2 => exact HC0_6.out); (case side3 => repeat (first | exact (Kd.C_below HR1_6.out HB.out) | (with_reducible refine Kd.C_alloc ?_ _) | (with_reducible refine Kd.C_drewN ?_ _) | (with_reducible refine Kd.C_drew ?_))); (case side4 => exact HC1_6.out); rintro e w' ⟨rfl, ⟨nd, rfl⟩⟩; refine ⟨_, rfl, ?_⟩))
       go_ret
       exact ⟨by first | rfl | (simp [errW_none, errW_some] <;> rfl) | (simp [*, errW_none, errW_some] <;> rfl), aH⟩
      ·replace c11 := Bool.eq_false_iff.mpr c11
       subst c11
       have H1 := wF H
       clear H
       have H := H1
       clear H1
       obtain rfl := Option.some.inj H
       go_enter Try.func35, Try.ntmps35
       go_wp2_with (first | ((with_reducible refine gate_dst (N := 2) rfl ?_); refine bE 2 #[.int .i64 a0_0, .string a0_1, .int .i64 a0_2, .int .i64 a0_3, .int .i64 a0_4, .slice A0_5 l0_5.length c0_5, .slice A0_6 l0_6.length c0_6] 59 ?_; intro gb242 hg w23 hbox hb; have n0_ := Aside0.mk (below_step aH hb); have n1_ := Aside0.mk (hbox); have n2_ := Aside0.mk ((gS hg : w.heap.size ≤ gb242)); have n3_ := Aside0.mk ((gS hg : w.heap.size ≤ gb242)); clear HB; have HB := n0_; have BK242 := n1_; have GW242 := n2_; have GE242 := n3_; clear n0_ n1_ n2_ n3_; clear hb hbox hg) | ((with_reducible refine gate_dst (N := 3) rfl ?_); refine bE 3 #[.int .i64 a1_0, .string a1_1, .int .i64 a1_2, .int .i64 a1_3, .int .i64 a1_4, .slice A1_5 l1_5.length c1_5, .slice A1_6 l1_6.length c1_6] 59 ?_; intro gb243 hg w24 hbox hb; have n0_ := Aside0.mk (kB BK242.out hb); have n1_ := Aside0.mk (below_step aH hb); have n2_ := Aside0.mk (hbox); have n3_ := Aside0.mk ((gS hg : w.heap.size ≤ gb243)); have n4_ := Aside0.mk ((gS hg : w.heap.size ≤ gb243)); have n5_ := Aside0.mk (gL hg BK242.out); have n6_ := Aside0.mk (gG hg BK242.out); clear BK242; clear HB; have BK242 := n0_; have HB := n1_; have BK243 := n2_; have GW243 := n3_; have GE243 := n4_; have NB242_243 := n5_; have NB243_242 := n6_; clear n0_ n1_ n2_ n3_ n4_ n5_ n6_; clear hb hbox hg; have hnb25 := NB242_243.out; have hnc25 := NB243_242.out; have hcz26_0 : w24.cell? ⟨gb242, 0, none⟩ = some (.int .i64 a0_0) := cR BK242.out 0; have hcz26_1 : w24.cell? ⟨gb242, 1, none⟩ = some (.string a0_1) := cR BK242.out 1; have hcz26_2 : w24.cell? ⟨gb242, 2, none⟩ = some (.int .i64 a0_2) := cR BK242.out 2; have hcz26_3 : w24.cell? ⟨gb242, 3, none⟩ = some (.int .i64 a0_3) := cR BK242.out 3; have hcz26_4 : w24.cell? ⟨gb242, 4, none⟩ = some (.int .i64 a0_4) := cR BK242.out 4; have hcz26_5 : w24.cell? ⟨gb242, 5, none⟩ = some (.slice A0_5 l0_5.length c0_5) := cR BK242.out 5; have hcz26_6 : w24.cell? ⟨gb242, 6, none⟩ = some (.slice A0_6 l0_6.length c0_6) := cR BK242.out 6; have hfz26_0 := blk_frozen BK242.out 0; have hfz26_1 := blk_frozen BK242.out 1; have hfz26_2 := blk_frozen BK242.out 2; have hfz26_3 := blk_frozen BK242.out 3; have hfz26_4 := blk_frozen BK242.out 4; have hfz26_5 := blk_frozen BK242.out 5; have hfz26_6 := blk_frozen BK242.out 6; have hcz27_0 : w24.cell? ⟨gb243, 0, none⟩ = some (.int .i64 a1_0) := cR BK243.out 0; have hcz27_1 : w24.cell? ⟨gb243, 1, none⟩ = some (.string a1_1) := cR BK243.out 1; have hcz27_2 : w24.cell? ⟨gb243, 2, none⟩ = some (.int .i64 a1_2) := cR BK243.out 2; have hcz27_3 : w24.cell? ⟨gb243, 3, none⟩ = some (.int .i64 a1_3) := cR BK243.out 3; have hcz27_4 : w24.cell? ⟨gb243, 4, none⟩ = some (.int .i64 a1_4) := cR BK243.out 4; have hcz27_5 : w24.cell? ⟨gb243, 5, none⟩ = some (.slice A1_5 l1_5.length c1_5) := cR BK243.out 5; have hcz27_6 : w24.cell? ⟨gb243, 6, none⟩ = some (.slice A1_6 l1_6.length c1_6) := cR BK243.out 6; have hfz27_0 := blk_frozen BK243.out 0; have hfz27_1 := blk_frozen BK243.out 1; have hfz27_2 := blk_frozen BK243.out 2; have hfz27_3 := blk_frozen BK243.out 3; have hfz27_4 := blk_frozen BK243.out 4; have hfz27_5 := blk_frozen BK243.out 5; have hfz27_6 := blk_frozen BK243.out 6) | ((with_reducible refine gate_callee (f := 21) rfl ?_); refine gL_ (some 19) Try.func21 #[.agg #[.int .i64 a0_2, .int .i64 a0_3], .agg #[.int .i64 a1_2, .int .i64 a1_3]] ?_; (with_reducible refine (laws_eqStamp.calls a0_2 a0_3 a1_2 a1_3 true _ A5.out).mono ?_); rintro e w28 ⟨rfl, hb⟩; refine ⟨_, rfl, ?_⟩; have n0_ := Aside0.mk (kB BK242.out hb); have n1_ := Aside0.mk (kB BK243.out hb); have n2_ := Aside0.mk (below_step aH hb); clear BK242; clear BK243; clear HB; have BK242 := n0_; have BK243 := n1_; have HB := n2_; clear n0_ n1_ n2_; (try clear hb); (try clear hb2); (try clear hk); (try clear hi); have hcz29_0 : w28.cell? ⟨gb242, 0, none⟩ = some (.int .i64 a0_0) := cR BK242.out 0; have hcz29_1 : w28.cell? ⟨gb242, 1, none⟩ = some (.string a0_1) := cR BK242.out 1; have hcz29_2 : w28.cell? ⟨gb242, 2, none⟩ = some (.int .i64 a0_2) := cR BK242.out 2; have hcz29_3 : w28.cell? ⟨gb242, 3, none⟩ = some (.int .i64 a0_3) := cR BK242.out 3; have hcz29_4 : w28.cell? ⟨gb242, 4, none⟩ = some (.int .i64 a0_4) := cR BK242.out 4; have hcz29_5 : w28.cell? ⟨gb242, 5, none⟩ = some (.slice A0_5 l0_5.length c0_5) := cR BK242.out 5; have hcz29_6 : w28.cell? ⟨gb242, 6, none⟩ = some (.slice A0_6 l0_6.length c0_6) := cR BK242.out 6; have hfz29_0 := blk_frozen BK242.out 0; have hfz29_1 := blk_frozen BK242.out 1; have hfz29_2 := blk_frozen BK242.out 2; have hfz29_3 := blk_frozen BK242.out 3; have hfz29_4 := blk_frozen BK242.out 4; have hfz29_5 := blk_frozen BK242.out 5; have hfz29_6 := blk_frozen BK242.out 6; have hcz30_0 : w28.cell? ⟨gb243, 0, none⟩ = some (.int .i64 a1_0) := cR BK243.out 0; have hcz30_1 : w28.cell? ⟨gb243, 1, none⟩ = some (.string a1_1) := cR BK243.out 1; have hcz30_2 : w28.cell? ⟨gb243, 2, none⟩ = some (.int .i64 a1_2) := cR BK243.out 2; have hcz30_3 : w28.cell? ⟨gb243, 3, none⟩ = some (.int .i64 a1_3) := cR BK243.out 3; have hcz30_4 : w28.cell? ⟨gb243, 4, none⟩ = some (.int .i64 a1_4) := cR BK243.out 4; have hcz30_5 : w28.cell? ⟨gb243, 5, none⟩ = some (.slice A1_5 l1_5.length c1_5) := cR BK243.out 5; have hcz30_6 : w28.cell? ⟨gb243, 6, none⟩ = some (.slice A1_6 l1_6.length c1_6) := cR BK243.out 6; have hfz30_0 := blk_frozen BK243.out 0; have hfz30_1 := blk_frozen BK243.out 1; have hfz30_2 := blk_frozen BK243.out 2; have hfz30_3 := blk_frozen BK243.out 3; have hfz30_4 := blk_frozen BK243.out 4; have hfz30_5 := blk_frozen BK243.out 5; have hfz30_6 := blk_frozen BK243.out 6) | ((with_reducible refine gate_callee (f := 87) rfl ?_); refine gL_ (some 30) Try.func87 #[.slice A0_5 l0_5.length c0_5, .slice A1_5 l1_5.length c1_5] ?_; (with_reducible refine (laws_eqMailS.calls k _ _ l0_5 _ _ l1_5 true _ ?side1 ?side2 ?side3 ?side4 A8.out).mono ?_); (case side1 => repeat (first | exact (Kd.C_below HR0_5.out HB.out) | (with_reducible refine Kd.C_alloc ?_ _) | (with_reducible refine Kd.C_drewN ?_ _) | (with_reducible refine Kd.C_drew ?_))); (case side2 => exact HC0_5.out); (case side3 => repeat (first | exact (Kd.C_below HR1_5.out HB.out) | (with_reducible refine Kd.C_alloc ?_ _) | (with_reducible refine Kd.C_drewN ?_ _) | (with_reducible refine Kd.C_drew ?_))); (case side4 => exact HC1_5.out); rintro e w31 ⟨rfl, hb⟩; refine ⟨_, rfl, ?_⟩; have n0_ := Aside0.mk (kB BK242.out hb); have n1_ := Aside0.mk (kB BK243.out hb); have n2_ := Aside0.mk (below_step aH hb); clear BK242; clear BK243; clear HB; have BK242 := n0_; have BK243 := n1_; have HB := n2_; clear n0_ n1_ n2_; (try clear hb); (try clear hb2); (try clear hk); (try clear hi); have hcz32_0 : w31.cell? ⟨gb242, 0, none⟩ = some (.int .i64 a0_0) := cR BK242.out 0; have hcz32_1 : w31.cell? ⟨gb242, 1, none⟩ = some (.string a0_1) := cR BK242.out 1; have hcz32_2 : w31.cell? ⟨gb242, 2, none⟩ = some (.int .i64 a0_2) := cR BK242.out 2; have hcz32_3 : w31.cell? ⟨gb242, 3, none⟩ = some (.int .i64 a0_3) := cR BK242.out 3; have hcz32_4 : w31.cell? ⟨gb242, 4, none⟩ = some (.int .i64 a0_4) := cR BK242.out 4; have hcz32_5 : w31.cell? ⟨gb242, 5, none⟩ = some (.slice A0_5 l0_5.length c0_5) := cR BK242.out 5; have hcz32_6 : w31.cell? ⟨gb242, 6, none⟩ = some (.slice A0_6 l0_6.length c0_6) := cR BK242.out 6; have hfz32_0 := blk_frozen BK242.out 0; have hfz32_1 := blk_frozen BK242.out 1; have hfz32_2 := blk_frozen BK242.out 2; have hfz32_3 := blk_frozen BK242.out 3; have hfz32_4 := blk_frozen BK242.out 4; have hfz32_5 := blk_frozen BK242.out 5; have hfz32_6 := blk_frozen BK242.out 6; have hcz33_0 : w31.cell? ⟨gb243, 0, none⟩ = some (.int .i64 a1_0) := cR BK243.out 0; have hcz33_1 : w31.cell? ⟨gb243, 1, none⟩ = some (.string a1_1) := cR BK243.out 1; have hcz33_2 : w31.cell? ⟨gb243, 2, none⟩ = some (.int .i64 a1_2) := cR BK243.out 2; have hcz33_3 : w31.cell? ⟨gb243, 3, none⟩ = some (.int .i64 a1_3) := cR BK243.out 3; have hcz33_4 : w31.cell? ⟨gb243, 4, none⟩ = some (.int .i64 a1_4) := cR BK243.out 4; have hcz33_5 : w31.cell? ⟨gb243, 5, none⟩ = some (.slice A1_5 l1_5.length c1_5) := cR BK243.out 5; have hcz33_6 : w31.cell? ⟨gb243, 6, none⟩ = some (.slice A1_6 l1_6.length c1_6) := cR BK243.out 6; have hfz33_0 := blk_frozen BK243.out 0; have hfz33_1 := blk_frozen BK243.out 1; have hfz33_2 := blk_frozen BK243.out 2; have hfz33_3 := blk_frozen BK243.out 3; have hfz33_4 := blk_frozen BK243.out 4; have hfz33_5 := blk_frozen BK243.out 5; have hfz33_6 := blk_frozen BK243.out 6) | ((with_reducible refine gate_callee (f := 63) rfl ?_); refine gL_ (some 36) Try.func63 #[.slice A0_6 l0_6.length c0_6, .slice A1_6 l1_6.length c1_6] ?_; (with_reducible refine (laws_eqIntS.calls k _ _ l0_6 _ _ l1_6 false _ ?side1 ?side2 ?side3 ?side4 A10.out).mono ?_); (case side1 => repeat (first | exact (Kd.C_below HR0_6.out HB.out) | (with_reducible refine Kd.C_alloc ?_ _) | (with_reducible refine Kd.C_drewN ?_ _) | (with_reducible refine Kd.C_drew ?_))); (case side2 => exact HC0_6.out); (case side3 => repeat (first | exact (Kd.C_below HR1_6.out HB.out) | (with_reducible refine Kd.C_alloc ?_ _) | (with_reducible refine Kd.C_drewN ?_ _) | (with_reducible refine Kd.C_drew ?_))); (case side4 => exact HC1_6.out); rintro e w' ⟨rfl, ⟨nd, rfl⟩⟩; refine ⟨_, rfl, ?_⟩))
       go_ret
       exact ⟨by first | rfl | (simp [errW_none, errW_some] <;> rfl) | (simp [*, errW_none, errW_some] <;> rfl), aH⟩
     ·replace c9 := Bool.eq_false_iff.mpr c9
      subst c9
      have H1 := wF H
      clear H
      have H := H1
      clear H1
      obtain rfl := Option.some.inj H
      go_enter Try.func35, Try.ntmps35
      go_wp2_with (first | ((with_reducible refine gate_dst (N := 2) rfl ?_); refine bE 2 #[.int .i64 a0_0, .string a0_1, .int .i64 a0_2, .int .i64 a0_3, .int .i64 a0_4, .slice A0_5 l0_5.length c0_5, .slice A0_6 l0_6.length c0_6] 59 ?_; intro gb242 hg w34 hbox hb; have n0_ := Aside0.mk (below_step aH hb); have n1_ := Aside0.mk (hbox); have n2_ := Aside0.mk ((gS hg : w.heap.size ≤ gb242)); have n3_ := Aside0.mk ((gS hg : w.heap.size ≤ gb242)); clear HB; have HB := n0_; have BK242 := n1_; have GW242 := n2_; have GE242 := n3_; clear n0_ n1_ n2_ n3_; clear hb hbox hg) | ((with_reducible refine gate_dst (N := 3) rfl ?_); refine bE 3 #[.int .i64 a1_0, .string a1_1, .int .i64 a1_2, .int .i64 a1_3, .int .i64 a1_4, .slice A1_5 l1_5.length c1_5, .slice A1_6 l1_6.length c1_6] 59 ?_; intro gb243 hg w35 hbox hb; have n0_ := Aside0.mk (kB BK242.out hb); have n1_ := Aside0.mk (below_step aH hb); have n2_ := Aside0.mk (hbox); have n3_ := Aside0.mk ((gS hg : w.heap.size ≤ gb243)); have n4_ := Aside0.mk ((gS hg : w.heap.size ≤ gb243)); have n5_ := Aside0.mk (gL hg BK242.out); have n6_ := Aside0.mk (gG hg BK242.out); clear BK242; clear HB; have BK242 := n0_; have HB := n1_; have BK243 := n2_; have GW243 := n3_; have GE243 := n4_; have NB242_243 := n5_; have NB243_242 := n6_; clear n0_ n1_ n2_ n3_ n4_ n5_ n6_; clear hb hbox hg; have hnb36 := NB242_243.out; have hnc36 := NB243_242.out; have hcz37_0 : w35.cell? ⟨gb242, 0, none⟩ = some (.int .i64 a0_0) := cR BK242.out 0; have hcz37_1 : w35.cell? ⟨gb242, 1, none⟩ = some (.string a0_1) := cR BK242.out 1; have hcz37_2 : w35.cell? ⟨gb242, 2, none⟩ = some (.int .i64 a0_2) := cR BK242.out 2; have hcz37_3 : w35.cell? ⟨gb242, 3, none⟩ = some (.int .i64 a0_3) := cR BK242.out 3; have hcz37_4 : w35.cell? ⟨gb242, 4, none⟩ = some (.int .i64 a0_4) := cR BK242.out 4; have hcz37_5 : w35.cell? ⟨gb242, 5, none⟩ = some (.slice A0_5 l0_5.length c0_5) := cR BK242.out 5; have hcz37_6 : w35.cell? ⟨gb242, 6, none⟩ = some (.slice A0_6 l0_6.length c0_6) := cR BK242.out 6; have hfz37_0 := blk_frozen BK242.out 0; have hfz37_1 := blk_frozen BK242.out 1; have hfz37_2 := blk_frozen BK242.out 2; have hfz37_3 := blk_frozen BK242.out 3; have hfz37_4 := blk_frozen BK242.out 4; have hfz37_5 := blk_frozen BK242.out 5; have hfz37_6 := blk_frozen BK242.out 6; have hcz38_0 : w35.cell? ⟨gb243, 0, none⟩ = some (.int .i64 a1_0) := cR BK243.out 0; have hcz38_1 : w35.cell? ⟨gb243, 1, none⟩ = some (.string a1_1) := cR BK243.out 1; have hcz38_2 : w35.cell? ⟨gb243, 2, none⟩ = some (.int .i64 a1_2) := cR BK243.out 2; have hcz38_3 : w35.cell? ⟨gb243, 3, none⟩ = some (.int .i64 a1_3) := cR BK243.out 3; have hcz38_4 : w35.cell? ⟨gb243, 4, none⟩ = some (.int .i64 a1_4) := cR BK243.out 4; have hcz38_5 : w35.cell? ⟨gb243, 5, none⟩ = some (.slice A1_5 l1_5.length c1_5) := cR BK243.out 5; have hcz38_6 : w35.cell? ⟨gb243, 6, none⟩ = some (.slice A1_6 l1_6.length c1_6) := cR BK243.out 6; have hfz38_0 := blk_frozen BK243.out 0; have hfz38_1 := blk_frozen BK243.out 1; have hfz38_2 := blk_frozen BK243.out 2; have hfz38_3 := blk_frozen BK243.out 3; have hfz38_4 := blk_frozen BK243.out 4; have hfz38_5 := blk_frozen BK243.out 5; have hfz38_6 := blk_frozen BK243.out 6) | ((with_reducible refine gate_callee (f := 21) rfl ?_); refine gL_ (some 19) Try.func21 #[.agg #[.int .i64 a0_2, .int .i64 a0_3], .agg #[.int .i64 a1_2, .int .i64 a1_3]] ?_; (with_reducible refine (laws_eqStamp.calls a0_2 a0_3 a1_2 a1_3 true _ A5.out).mono ?_); rintro e w39 ⟨rfl, hb⟩; refine ⟨_, rfl, ?_⟩; have n0_ := Aside0.mk (kB BK242.out hb); have n1_ := Aside0.mk (kB BK243.out hb); have n2_ := Aside0.mk (below_step aH hb); clear BK242; clear BK243; clear HB; have BK242 := n0_; have BK243 := n1_; have HB := n2_; clear n0_ n1_ n2_; (try clear hb); (try clear hb2); (try clear hk); (try clear hi); have hcz40_0 : w39.cell? ⟨gb242, 0, none⟩ = some (.int .i64 a0_0) := cR BK242.out 0; have hcz40_1 : w39.cell? ⟨gb242, 1, none⟩ = some (.string a0_1) := cR BK242.out 1; have hcz40_2 : w39.cell? ⟨gb242, 2, none⟩ = some (.int .i64 a0_2) := cR BK242.out 2; have hcz40_3 : w39.cell? ⟨gb242, 3, none⟩ = some (.int .i64 a0_3) := cR BK242.out 3; have hcz40_4 : w39.cell? ⟨gb242, 4, none⟩ = some (.int .i64 a0_4) := cR BK242.out 4; have hcz40_5 : w39.cell? ⟨gb242, 5, none⟩ = some (.slice A0_5 l0_5.length c0_5) := cR BK242.out 5; have hcz40_6 : w39.cell? ⟨gb242, 6, none⟩ = some (.slice A0_6 l0_6.length c0_6) := cR BK242.out 6; have hfz40_0 := blk_frozen BK242.out 0; have hfz40_1 := blk_frozen BK242.out 1; have hfz40_2 := blk_frozen BK242.out 2; have hfz40_3 := blk_frozen BK242.out 3; have hfz40_4 := blk_frozen BK242.out 4; have hfz40_5 := blk_frozen BK242.out 5; have hfz40_6 := blk_frozen BK242.out 6; have hcz41_0 : w39.cell? ⟨gb243, 0, none⟩ = some (.int .i64 a1_0) := cR BK243.out 0; have hcz41_1 : w39.cell? ⟨gb243, 1, none⟩ = some (.string a1_1) := cR BK243.out 1; have hcz41_2 : w39.cell? ⟨gb243, 2, none⟩ = some (.int .i64 a1_2) := cR BK243.out 2; have hcz41_3 : w39.cell? ⟨gb243, 3, none⟩ = some (.int .i64 a1_3) := cR BK243.out 3; have hcz41_4 : w39.cell? ⟨gb243, 4, none⟩ = some (.int .i64 a1_4) := cR BK243.out 4; have hcz41_5 : w39.cell? ⟨gb243, 5, none⟩ = some (.slice A1_5 l1_5.length c1_5) := cR BK243.out 5; have hcz41_6 : w39.cell? ⟨gb243, 6, none⟩ = some (.slice A1_6 l1_6.length c1_6) := cR BK243.out 6; have hfz41_0 := blk_frozen BK243.out 0; have hfz41_1 := blk_frozen BK243.out 1; have hfz41_2 := blk_frozen BK243.out 2; have hfz41_3 := blk_frozen BK243.out 3; have hfz41_4 := blk_frozen BK243.out 4; have hfz41_5 := blk_frozen BK243.out 5; have hfz41_6 := blk_frozen BK243.out 6) | ((with_reducible refine gate_callee (f := 87) rfl ?_); refine gL_ (some 30) Try.func87 #[.slice A0_5 l0_5.length c0_5, .slice A1_5 l1_5.length c1_5] ?_; (with_reducible refine (laws_eqMailS.calls k _ _ l0_5 _ _ l1_5 false _ ?side1 ?side2 ?side3 ?side4 A8.out).mono ?_); (case side1 => repeat (first | exact (Kd.C_below HR0_5.out HB.out) | (with_reducible refine Kd.C_alloc ?_ _) | (with_reducible refine Kd.C_drewN ?_ _) | (with_reducible refine Kd.C_drew ?_))); (case side2 => exact HC0_5.out); (case side3 => repeat (first | exact (Kd.C_below HR1_5.out HB.out) | (with_reducible refine Kd.C_alloc ?_ _) | (with_reducible refine Kd.C_drewN ?_ _) | (with_reducible refine Kd.C_drew ?_))); (case side4 => exact HC1_5.out); rintro e w42 ⟨rfl, hb⟩; refine ⟨_, rfl, ?_⟩; have n0_ := Aside0.mk (kB BK242.out hb); have n1_ := Aside0.mk (kB BK243.out hb); have n2_ := Aside0.mk (below_step aH hb); clear BK242; clear BK243; clear HB; have BK242 := n0_; have BK243 := n1_; have HB := n2_; clear n0_ n1_ n2_; (try clear hb); (try clear hb2); (try clear hk); (try clear hi)))
      go_ret
      exact ⟨by first | rfl | (simp [errW_none, errW_some] <;> rfl) | (simp [*, errW_none, errW_some] <;> rfl), aH⟩
    ·rw [if_neg c7] at H
     have c7b0 : (a0_4 == a1_4) = false := beq_eq_false_iff_ne.mpr c7
     have c7b1 : (a0_4 != a1_4) = true := bne_iff_ne.mpr c7
     obtain rfl := Option.some.inj H
     go_enter Try.func35, Try.ntmps35
     go_wp2_with (first | ((with_reducible refine gate_dst (N := 2) rfl ?_); refine bE 2 #[.int .i64 a0_0, .string a0_1, .int .i64 a0_2, .int .i64 a0_3, .int .i64 a0_4, .slice A0_5 l0_5.length c0_5, .slice A0_6 l0_6.length c0_6] 59 ?_; intro gb242 hg w43 hbox hb; have n0_ := Aside0.mk (below_step aH hb); have n1_ := Aside0.mk (hbox); have n2_ := Aside0.mk ((gS hg : w.heap.size ≤ gb242)); have n3_ := Aside0.mk ((gS hg : w.heap.size ≤ gb242)); clear HB; have HB := n0_; have BK242 := n1_; have GW242 := n2_; have GE242 := n3_; clear n0_ n1_ n2_ n3_; clear hb hbox hg) | ((with_reducible refine gate_dst (N := 3) rfl ?_); refine bE 3 #[.int .i64 a1_0, .string a1_1, .int .i64 a1_2, .int .i64 a1_3, .int .i64 a1_4, .slice A1_5 l1_5.length c1_5, .slice A1_6 l1_6.length c1_6] 59 ?_; intro gb243 hg w44 hbox hb; have n0_ := Aside0.mk (kB BK242.out hb); have n1_ := Aside0.mk (below_step aH hb); have n2_ := Aside0.mk (hbox); have n3_ := Aside0.mk ((gS hg : w.heap.size ≤ gb243)); have n4_ := Aside0.mk ((gS hg : w.heap.size ≤ gb243)); have n5_ := Aside0.mk (gL hg BK242.out); have n6_ := Aside0.mk (gG hg BK242.out); clear BK242; clear HB; have BK242 := n0_; have HB := n1_; have BK243 := n2_; have GW243 := n3_; have GE243 := n4_; have NB242_243 := n5_; have NB243_242 := n6_; clear n0_ n1_ n2_ n3_ n4_ n5_ n6_; clear hb hbox hg; have hnb45 := NB242_243.out; have hnc45 := NB243_242.out; have hcz46_0 : w44.cell? ⟨gb242, 0, none⟩ = some (.int .i64 a0_0) := cR BK242.out 0; have hcz46_1 : w44.cell? ⟨gb242, 1, none⟩ = some (.string a0_1) := cR BK242.out 1; have hcz46_2 : w44.cell? ⟨gb242, 2, none⟩ = some (.int .i64 a0_2) := cR BK242.out 2; have hcz46_3 : w44.cell? ⟨gb242, 3, none⟩ = some (.int .i64 a0_3) := cR BK242.out 3; have hcz46_4 : w44.cell? ⟨gb242, 4, none⟩ = some (.int .i64 a0_4) := cR BK242.out 4; have hcz46_5 : w44.cell? ⟨gb242, 5, none⟩ = some (.slice A0_5 l0_5.length c0_5) := cR BK242.out 5; have hcz46_6 : w44.cell? ⟨gb242, 6, none⟩ = some (.slice A0_6 l0_6.length c0_6) := cR BK242.out 6; have hfz46_0 := blk_frozen BK242.out 0; have hfz46_1 := blk_frozen BK242.out 1; have hfz46_2 := blk_frozen BK242.out 2; have hfz46_3 := blk_frozen BK242.out 3; have hfz46_4 := blk_frozen BK242.out 4; have hfz46_5 := blk_frozen BK242.out 5; have hfz46_6 := blk_frozen BK242.out 6; have hcz47_0 : w44.cell? ⟨gb243, 0, none⟩ = some (.int .i64 a1_0) := cR BK243.out 0; have hcz47_1 : w44.cell? ⟨gb243, 1, none⟩ = some (.string a1_1) := cR BK243.out 1; have hcz47_2 : w44.cell? ⟨gb243, 2, none⟩ = some (.int .i64 a1_2) := cR BK243.out 2; have hcz47_3 : w44.cell? ⟨gb243, 3, none⟩ = some (.int .i64 a1_3) := cR BK243.out 3; have hcz47_4 : w44.cell? ⟨gb243, 4, none⟩ = some (.int .i64 a1_4) := cR BK243.out 4; have hcz47_5 : w44.cell? ⟨gb243, 5, none⟩ = some (.slice A1_5 l1_5.length c1_5) := cR BK243.out 5; have hcz47_6 : w44.cell? ⟨gb243, 6, none⟩ = some (.slice A1_6 l1_6.length c1_6) := cR BK243.out 6; have hfz47_0 := blk_frozen BK243.out 0; have hfz47_1 := blk_frozen BK243.out 1; have hfz47_2 := blk_frozen BK243.out 2; have hfz47_3 := blk_frozen BK243.out 3; have hfz47_4 := blk_frozen BK243.out 4; have hfz47_5 := blk_frozen BK243.out 5; have hfz47_6 := blk_frozen BK243.out 6) | ((with_reducible refine gate_callee (f := 21) rfl ?_); refine gL_ (some 19) Try.func21 #[.agg #[.int .i64 a0_2, .int .i64 a0_3], .agg #[.int .i64 a1_2, .int .i64 a1_3]] ?_; (with_reducible refine (laws_eqStamp.calls a0_2 a0_3 a1_2 a1_3 true _ A5.out).mono ?_); rintro e w48 ⟨rfl, hb⟩; refine ⟨_, rfl, ?_⟩; have n0_ := Aside0.mk (kB BK242.out hb); have n1_ := Aside0.mk (kB BK243.out hb); have n2_ := Aside0.mk (below_step aH hb); clear BK242; clear BK243; clear HB; have BK242 := n0_; have BK243 := n1_; have HB := n2_; clear n0_ n1_ n2_; (try clear hb); (try clear hb2); (try clear hk); (try clear hi); have hcz49_0 : w48.cell? ⟨gb242, 0, none⟩ = some (.int .i64 a0_0) := cR BK242.out 0; have hcz49_1 : w48.cell? ⟨gb242, 1, none⟩ = some (.string a0_1) := cR BK242.out 1; have hcz49_2 : w48.cell? ⟨gb242, 2, none⟩ = some (.int .i64 a0_2) := cR BK242.out 2; have hcz49_3 : w48.cell? ⟨gb242, 3, none⟩ = some (.int .i64 a0_3) := cR BK242.out 3; have hcz49_4 : w48.cell? ⟨gb242, 4, none⟩ = some (.int .i64 a0_4) := cR BK242.out 4; have hcz49_5 : w48.cell? ⟨gb242, 5, none⟩ = some (.slice A0_5 l0_5.length c0_5) := cR BK242.out 5; have hcz49_6 : w48.cell? ⟨gb242, 6, none⟩ = some (.slice A0_6 l0_6.length c0_6) := cR BK242.out 6; have hfz49_0 := blk_frozen BK242.out 0; have hfz49_1 := blk_frozen BK242.out 1; have hfz49_2 := blk_frozen BK242.out 2; have hfz49_3 := blk_frozen BK242.out 3; have hfz49_4 := blk_frozen BK242.out 4; have hfz49_5 := blk_frozen BK242.out 5; have hfz49_6 := blk_frozen BK242.out 6; have hcz50_0 : w48.cell? ⟨gb243, 0, none⟩ = some (.int .i64 a1_0) := cR BK243.out 0; have hcz50_1 : w48.cell? ⟨gb243, 1, none⟩ = some (.string a1_1) := cR BK243.out 1; have hcz50_2 : w48.cell? ⟨gb243, 2, none⟩ = some (.int .i64 a1_2) := cR BK243.out 2; have hcz50_3 : w48.cell? ⟨gb243, 3, none⟩ = some (.int .i64 a1_3) := cR BK243.out 3; have hcz50_4 : w48.cell? ⟨gb243, 4, none⟩ = some (.int .i64 a1_4) := cR BK243.out 4; have hcz50_5 : w48.cell? ⟨gb243, 5, none⟩ = some (.slice A1_5 l1_5.length c1_5) := cR BK243.out 5; have hcz50_6 : w48.cell? ⟨gb243, 6, none⟩ = some (.slice A1_6 l1_6.length c1_6) := cR BK243.out 6; have hfz50_0 := blk_frozen BK243.out 0; have hfz50_1 := blk_frozen BK243.out 1; have hfz50_2 := blk_frozen BK243.out 2; have hfz50_3 := blk_frozen BK243.out 3; have hfz50_4 := blk_frozen BK243.out 4; have hfz50_5 := blk_frozen BK243.out 5; have hfz50_6 := blk_frozen BK243.out 6))
     go_ret
     exact ⟨by first | rfl | (simp [errW_none, errW_some] <;> rfl) | (simp [*, errW_none, errW_some] <;> rfl), aH⟩
   ·replace c6 := Bool.eq_false_iff.mpr c6
    subst c6
    have H1 := wF H
    clear H
    have H := H1
    clear H1
    obtain rfl := Option.some.inj H
    go_enter Try.func35, Try.ntmps35
    go_wp2_with (first | ((with_reducible refine gate_dst (N := 2) rfl ?_); refine bE 2 #[.int .i64 a0_0, .string a0_1, .int .i64 a0_2, .int .i64 a0_3, .int .i64 a0_4, .slice A0_5 l0_5.length c0_5, .slice A0_6 l0_6.length c0_6] 59 ?_; intro gb242 hg w51 hbox hb; have n0_ := Aside0.mk (below_step aH hb); have n1_ := Aside0.mk (hbox); have n2_ := Aside0.mk ((gS hg : w.heap.size ≤ gb242)); have n3_ := Aside0.mk ((gS hg : w.heap.size ≤ gb242)); clear HB; have HB := n0_; have BK242 := n1_; have GW242 := n2_; have GE242 := n3_; clear n0_ n1_ n2_ n3_; clear hb hbox hg) | ((with_reducible refine gate_dst (N := 3) rfl ?_); refine bE 3 #[.int .i64 a1_0, .string a1_1, .int .i64 a1_2, .int .i64 a1_3, .int .i64 a1_4, .slice A1_5 l1_5.length c1_5, .slice A1_6 l1_6.length c1_6] 59 ?_; intro gb243 hg w52 hbox hb; have n0_ := Aside0.mk (kB BK242.out hb); have n1_ := Aside0.mk (below_step aH hb); have n2_ := Aside0.mk (hbox); have n3_ := Aside0.mk ((gS hg : w.heap.size ≤ gb243)); have n4_ := Aside0.mk ((gS hg : w.heap.size ≤ gb243)); have n5_ := Aside0.mk (gL hg BK242.out); have n6_ := Aside0.mk (gG hg BK242.out); clear BK242; clear HB; have BK242 := n0_; have HB := n1_; have BK243 := n2_; have GW243 := n3_; have GE243 := n4_; have NB242_243 := n5_; have NB243_242 := n6_; clear n0_ n1_ n2_ n3_ n4_ n5_ n6_; clear hb hbox hg; have hnb53 := NB242_243.out; have hnc53 := NB243_242.out; have hcz54_0 : w52.cell? ⟨gb242, 0, none⟩ = some (.int .i64 a0_0) := cR BK242.out 0; have hcz54_1 : w52.cell? ⟨gb242, 1, none⟩ = some (.string a0_1) := cR BK242.out 1; have hcz54_2 : w52.cell? ⟨gb242, 2, none⟩ = some (.int .i64 a0_2) := cR BK242.out 2; have hcz54_3 : w52.cell? ⟨gb242, 3, none⟩ = some (.int .i64 a0_3) := cR BK242.out 3; have hcz54_4 : w52.cell? ⟨gb242, 4, none⟩ = some (.int .i64 a0_4) := cR BK242.out 4; have hcz54_5 : w52.cell? ⟨gb242, 5, none⟩ = some (.slice A0_5 l0_5.length c0_5) := cR BK242.out 5; have hcz54_6 : w52.cell? ⟨gb242, 6, none⟩ = some (.slice A0_6 l0_6.length c0_6) := cR BK242.out 6; have hfz54_0 := blk_frozen BK242.out 0; have hfz54_1 := blk_frozen BK242.out 1; have hfz54_2 := blk_frozen BK242.out 2; have hfz54_3 := blk_frozen BK242.out 3; have hfz54_4 := blk_frozen BK242.out 4; have hfz54_5 := blk_frozen BK242.out 5; have hfz54_6 := blk_frozen BK242.out 6; have hcz55_0 : w52.cell? ⟨gb243, 0, none⟩ = some (.int .i64 a1_0) := cR BK243.out 0; have hcz55_1 : w52.cell? ⟨gb243, 1, none⟩ = some (.string a1_1) := cR BK243.out 1; have hcz55_2 : w52.cell? ⟨gb243, 2, none⟩ = some (.int .i64 a1_2) := cR BK243.out 2; have hcz55_3 : w52.cell? ⟨gb243, 3, none⟩ = some (.int .i64 a1_3) := cR BK243.out 3; have hcz55_4 : w52.cell? ⟨gb243, 4, none⟩ = some (.int .i64 a1_4) := cR BK243.out 4; have hcz55_5 : w52.cell? ⟨gb243, 5, none⟩ = some (.slice A1_5 l1_5.length c1_5) := cR BK243.out 5; have hcz55_6 : w52.cell? ⟨gb243, 6, none⟩ = some (.slice A1_6 l1_6.length c1_6) := cR BK243.out 6; have hfz55_0 := blk_frozen BK243.out 0; have hfz55_1 := blk_frozen BK243.out 1; have hfz55_2 := blk_frozen BK243.out 2; have hfz55_3 := blk_frozen BK243.out 3; have hfz55_4 := blk_frozen BK243.out 4; have hfz55_5 := blk_frozen BK243.out 5; have hfz55_6 := blk_frozen BK243.out 6) | ((with_reducible refine gate_callee (f := 21) rfl ?_); refine gL_ (some 19) Try.func21 #[.agg #[.int .i64 a0_2, .int .i64 a0_3], .agg #[.int .i64 a1_2, .int .i64 a1_3]] ?_; (with_reducible refine (laws_eqStamp.calls a0_2 a0_3 a1_2 a1_3 false _ A5.out).mono ?_); rintro e w56 ⟨rfl, hb⟩; refine ⟨_, rfl, ?_⟩; have n0_ := Aside0.mk (kB BK242.out hb); have n1_ := Aside0.mk (kB BK243.out hb); have n2_ := Aside0.mk (below_step aH hb); clear BK242; clear BK243; clear HB; have BK242 := n0_; have BK243 := n1_; have HB := n2_; clear n0_ n1_ n2_; (try clear hb); (try clear hb2); (try clear hk); (try clear hi)))
    go_ret
    exact ⟨by first | rfl | (simp [errW_none, errW_some] <;> rfl) | (simp [*, errW_none, errW_some] <;> rfl), aH⟩
  ·rw [if_neg c4] at H
   have c4b0 : (a0_1.toList == a1_1.toList) = false := beq_eq_false_iff_ne.mpr c4
   have c4b1 : (a0_1.toList != a1_1.toList) = true := bne_iff_ne.mpr c4
   obtain rfl := Option.some.inj H
   go_enter Try.func35, Try.ntmps35
   go_wp2_with (first | ((with_reducible refine gate_dst (N := 2) rfl ?_); refine bE 2 #[.int .i64 a0_0, .string a0_1, .int .i64 a0_2, .int .i64 a0_3, .int .i64 a0_4, .slice A0_5 l0_5.length c0_5, .slice A0_6 l0_6.length c0_6] 59 ?_; intro gb242 hg w57 hbox hb; have n0_ := Aside0.mk (below_step aH hb); have n1_ := Aside0.mk (hbox); have n2_ := Aside0.mk ((gS hg : w.heap.size ≤ gb242)); have n3_ := Aside0.mk ((gS hg : w.heap.size ≤ gb242)); clear HB; have HB := n0_; have BK242 := n1_; have GW242 := n2_; have GE242 := n3_; clear n0_ n1_ n2_ n3_; clear hb hbox hg) | ((with_reducible refine gate_dst (N := 3) rfl ?_); refine bE 3 #[.int .i64 a1_0, .string a1_1, .int .i64 a1_2, .int .i64 a1_3, .int .i64 a1_4, .slice A1_5 l1_5.length c1_5, .slice A1_6 l1_6.length c1_6] 59 ?_; intro gb243 hg w58 hbox hb; have n0_ := Aside0.mk (kB BK242.out hb); have n1_ := Aside0.mk (below_step aH hb); have n2_ := Aside0.mk (hbox); have n3_ := Aside0.mk ((gS hg : w.heap.size ≤ gb243)); have n4_ := Aside0.mk ((gS hg : w.heap.size ≤ gb243)); have n5_ := Aside0.mk (gL hg BK242.out); have n6_ := Aside0.mk (gG hg BK242.out); clear BK242; clear HB; have BK242 := n0_; have HB := n1_; have BK243 := n2_; have GW243 := n3_; have GE243 := n4_; have NB242_243 := n5_; have NB243_242 := n6_; clear n0_ n1_ n2_ n3_ n4_ n5_ n6_; clear hb hbox hg; have hnb59 := NB242_243.out; have hnc59 := NB243_242.out; have hcz60_0 : w58.cell? ⟨gb242, 0, none⟩ = some (.int .i64 a0_0) := cR BK242.out 0; have hcz60_1 : w58.cell? ⟨gb242, 1, none⟩ = some (.string a0_1) := cR BK242.out 1; have hcz60_2 : w58.cell? ⟨gb242, 2, none⟩ = some (.int .i64 a0_2) := cR BK242.out 2; have hcz60_3 : w58.cell? ⟨gb242, 3, none⟩ = some (.int .i64 a0_3) := cR BK242.out 3; have hcz60_4 : w58.cell? ⟨gb242, 4, none⟩ = some (.int .i64 a0_4) := cR BK242.out 4; have hcz60_5 : w58.cell? ⟨gb242, 5, none⟩ = some (.slice A0_5 l0_5.length c0_5) := cR BK242.out 5; have hcz60_6 : w58.cell? ⟨gb242, 6, none⟩ = some (.slice A0_6 l0_6.length c0_6) := cR BK242.out 6; have hfz60_0 := blk_frozen BK242.out 0; have hfz60_1 := blk_frozen BK242.out 1; have hfz60_2 := blk_frozen BK242.out 2; have hfz60_3 := blk_frozen BK242.out 3; have hfz60_4 := blk_frozen BK242.out 4; have hfz60_5 := blk_frozen BK242.out 5; have hfz60_6 := blk_frozen BK242.out 6; have hcz61_0 : w58.cell? ⟨gb243, 0, none⟩ = some (.int .i64 a1_0) := cR BK243.out 0; have hcz61_1 : w58.cell? ⟨gb243, 1, none⟩ = some (.string a1_1) := cR BK243.out 1; have hcz61_2 : w58.cell? ⟨gb243, 2, none⟩ = some (.int .i64 a1_2) := cR BK243.out 2; have hcz61_3 : w58.cell? ⟨gb243, 3, none⟩ = some (.int .i64 a1_3) := cR BK243.out 3; have hcz61_4 : w58.cell? ⟨gb243, 4, none⟩ = some (.int .i64 a1_4) := cR BK243.out 4; have hcz61_5 : w58.cell? ⟨gb243, 5, none⟩ = some (.slice A1_5 l1_5.length c1_5) := cR BK243.out 5; have hcz61_6 : w58.cell? ⟨gb243, 6, none⟩ = some (.slice A1_6 l1_6.length c1_6) := cR BK243.out 6; have hfz61_0 := blk_frozen BK243.out 0; have hfz61_1 := blk_frozen BK243.out 1; have hfz61_2 := blk_frozen BK243.out 2; have hfz61_3 := blk_frozen BK243.out 3; have hfz61_4 := blk_frozen BK243.out 4; have hfz61_5 := blk_frozen BK243.out 5; have hfz61_6 := blk_frozen BK243.out 6))
   go_ret
   exact ⟨by first | rfl | (simp [errW_none, errW_some] <;> rfl) | (simp [*, errW_none, errW_some] <;> rfl), aH⟩
 ·rw [if_neg c3] at H
  have c3b0 : (a0_0 == a1_0) = false := beq_eq_false_iff_ne.mpr c3
  have c3b1 : (a0_0 != a1_0) = true := bne_iff_ne.mpr c3
  obtain rfl := Option.some.inj H
  go_enter Try.func35, Try.ntmps35
  go_wp2_with (first | ((with_reducible refine gate_dst (N := 2) rfl ?_); refine bE 2 #[.int .i64 a0_0, .string a0_1, .int .i64 a0_2, .int .i64 a0_3, .int .i64 a0_4, .slice A0_5 l0_5.length c0_5, .slice A0_6 l0_6.length c0_6] 59 ?_; intro gb242 hg w62 hbox hb; have n0_ := Aside0.mk (below_step aH hb); have n1_ := Aside0.mk (hbox); have n2_ := Aside0.mk ((gS hg : w.heap.size ≤ gb242)); have n3_ := Aside0.mk ((gS hg : w.heap.size ≤ gb242)); clear HB; have HB := n0_; have BK242 := n1_; have GW242 := n2_; have GE242 := n3_; clear n0_ n1_ n2_ n3_; clear hb hbox hg) | ((with_reducible refine gate_dst (N := 3) rfl ?_); refine bE 3 #[.int .i64 a1_0, .string a1_1, .int .i64 a1_2, .int .i64 a1_3, .int .i64 a1_4, .slice A1_5 l1_5.length c1_5, .slice A1_6 l1_6.length c1_6] 59 ?_; intro gb243 hg w63 hbox hb; have n0_ := Aside0.mk (kB BK242.out hb); have n1_ := Aside0.mk (below_step aH hb); have n2_ := Aside0.mk (hbox); have n3_ := Aside0.mk ((gS hg : w.heap.size ≤ gb243)); have n4_ := Aside0.mk ((gS hg : w.heap.size ≤ gb243)); have n5_ := Aside0.mk (gL hg BK242.out); have n6_ := Aside0.mk (gG hg BK242.out); clear BK242; clear HB; have BK242 := n0_; have HB := n1_; have BK243 := n2_; have GW243 := n3_; have GE243 := n4_; have NB242_243 := n5_; have NB243_242 := n6_; clear n0_ n1_ n2_ n3_ n4_ n5_ n6_; clear hb hbox hg; have hnb64 := NB242_243.out; have hnc64 := NB243_242.out; have hcz65_0 : w63.cell? ⟨gb242, 0, none⟩ = some (.int .i64 a0_0) := cR BK242.out 0; have hcz65_1 : w63.cell? ⟨gb242, 1, none⟩ = some (.string a0_1) := cR BK242.out 1; have hcz65_2 : w63.cell? ⟨gb242, 2, none⟩ = some (.int .i64 a0_2) := cR BK242.out 2; have hcz65_3 : w63.cell? ⟨gb242, 3, none⟩ = some (.int .i64 a0_3) := cR BK242.out 3; have hcz65_4 : w63.cell? ⟨gb242, 4, none⟩ = some (.int .i64 a0_4) := cR BK242.out 4; have hcz65_5 : w63.cell? ⟨gb242, 5, none⟩ = some (.slice A0_5 l0_5.length c0_5) := cR BK242.out 5; have hcz65_6 : w63.cell? ⟨gb242, 6, none⟩ = some (.slice A0_6 l0_6.length c0_6) := cR BK242.out 6; have hfz65_0 := blk_frozen BK242.out 0; have hfz65_1 := blk_frozen BK242.out 1; have hfz65_2 := blk_frozen BK242.out 2; have hfz65_3 := blk_frozen BK242.out 3; have hfz65_4 := blk_frozen BK242.out 4; have hfz65_5 := blk_frozen BK242.out 5; have hfz65_6 := blk_frozen BK242.out 6; have hcz66_0 : w63.cell? ⟨gb243, 0, none⟩ = some (.int .i64 a1_0) := cR BK243.out 0; have hcz66_1 : w63.cell? ⟨gb243, 1, none⟩ = some (.string a1_1) := cR BK243.out 1; have hcz66_2 : w63.cell? ⟨gb243, 2, none⟩ = some (.int .i64 a1_2) := cR BK243.out 2; have hcz66_3 : w63.cell? ⟨gb243, 3, none⟩ = some (.int .i64 a1_3) := cR BK243.out 3; have hcz66_4 : w63.cell? ⟨gb243, 4, none⟩ = some (.int .i64 a1_4) := cR BK243.out 4; have hcz66_5 : w63.cell? ⟨gb243, 5, none⟩ = some (.slice A1_5 l1_5.length c1_5) := cR BK243.out 5; have hcz66_6 : w63.cell? ⟨gb243, 6, none⟩ = some (.slice A1_6 l1_6.length c1_6) := cR BK243.out 6; have hfz66_0 := blk_frozen BK243.out 0; have hfz66_1 := blk_frozen BK243.out 1; have hfz66_2 := blk_frozen BK243.out 2; have hfz66_3 := blk_frozen BK243.out 3; have hfz66_4 := blk_frozen BK243.out 4; have hfz66_5 := blk_frozen BK243.out 5; have hfz66_6 := blk_frozen BK243.out 6))
  go_ret
  exact ⟨by first | rfl | (simp [errW_none, errW_some] <;> rfl) | (simp [*, errW_none, errW_some] <;> rfl), aH⟩

/-! ### laws_FnExactBoxOk: function 8 -/
def laws_FnExactBoxOk.f (k : Nat) (a0_0 : Int) (a0_1 : ByteArray) (a0_2 : Int) (a0_3 : Int) (a0_4 : Int) (l0_5 : List (S131)) (l0_6 : List Int) : Option (Bool) := (laws_szBox.f k a0_0 a0_1 a0_2 a0_3 a0_4 l0_5 l0_6 1048576).bind fun t248 => (if t248 < 0 then (some true) else ((laws_toBox.f k a0_0 a0_1 a0_2 a0_3 a0_4 l0_5 l0_6).bind fun bt249 => ((spec_BoxOk.f k bt249.1 bt249.2.1 bt249.2.2.1 bt249.2.2.2.1 bt249.2.2.2.2.1 bt249.2.2.2.2.2.1 bt249.2.2.2.2.2.2).bind fun t260 => ((laws_toBox.f k a0_0 a0_1 a0_2 a0_3 a0_4 l0_5 l0_6).bind fun bt261 => ((impl_BoxOk.f k bt261.1 bt261.2.1 bt261.2.2.1 bt261.2.2.2.1 bt261.2.2.2.2.1 bt261.2.2.2.2.2.1 bt261.2.2.2.2.2.2).bind fun t273 => (if (t273 != t260) = true then (none) else ((laws_toBox.f k a0_0 a0_1 a0_2 a0_3 a0_4 l0_5 l0_6).bind fun bt274 => ((laws_eqBox.f k bt261.1 bt261.2.1 bt261.2.2.1 bt261.2.2.2.1 bt261.2.2.2.2.1 bt261.2.2.2.2.2.1 bt261.2.2.2.2.2.2 bt274.1 bt274.2.1 bt274.2.2.1 bt274.2.2.2.1 bt274.2.2.2.2.1 bt274.2.2.2.2.2.1 bt274.2.2.2.2.2.2).bind fun t285 => (if t285 = true then (some true) else (none))))))))))
theorem laws_FnExactBoxOk.mono : ∀ a0 a1 a2 a3 a4 a5 a6 k, LeO (laws_FnExactBoxOk.f k a0 a1 a2 a3 a4 a5 a6) (laws_FnExactBoxOk.f (k + 1) a0 a1 a2 a3 a4 a5 a6) := by
 intro a0 a1 a2 a3 a4 a5 a6 k
 unfold laws_FnExactBoxOk.f
 repeat' first
   | (with_reducible exact impl_BoxOk.mono _ _ _ _ _ _ _ _)
   | (with_reducible exact laws_eqBox.mono _ _ _ _ _ _ _ _ _ _ _ _ _ _ _)
   | (with_reducible exact laws_szBox.mono _ _ _ _ _ _ _ _ _)
   | (with_reducible exact laws_toBox.mono _ _ _ _ _ _ _ _)
   | (with_reducible exact spec_BoxOk.mono _ _ _ _ _ _ _ _)
   | (with_reducible exact LeO.refl _)
   | (with_reducible exact LeO.none _)
   | (with_reducible refine LeO.ite ?_ ?_)
   | (with_reducible refine LeO.bind ?_ (fun _ => ?_))
   | exact impl_BoxOk.mono _ _ _ _ _ _ _ _
   | exact laws_eqBox.mono _ _ _ _ _ _ _ _ _ _ _ _ _ _ _
   | exact laws_szBox.mono _ _ _ _ _ _ _ _ _
   | exact laws_toBox.mono _ _ _ _ _ _ _ _
   | exact spec_BoxOk.mono _ _ _ _ _ _ _ _
   | exact LeO.none _
   | refine LeO.ite ?_ ?_
   | refine LeO.bind ?_ (fun _ => ?_)
set_option maxHeartbeats 8000000 in
set_option maxRecDepth 100000 in
theorem laws_FnExactBoxOk.calls (k : Nat) (a0_0 : Int) (a0_1 : ByteArray) (a0_2 : Int) (a0_3 : Int) (a0_4 : Int) (A0_5 : Option Addr) (c0_5 : Nat) (l0_5 : List (S131)) (A0_6 : Option Addr) (c0_6 : Nat) (l0_6 : List Int) (r : Bool) (w : World) (hr0_5 : Kd.C k131 w A0_5 l0_5.length l0_5) (hc0_5 : l0_5.length ≤ c0_5) (hr0_6 : Kd.C (Kd.int .i64) w A0_6 l0_6.length l0_6) (hc0_6 : l0_6.length ≤ c0_6) (h : laws_FnExactBoxOk.f k a0_0 a0_1 a0_2 a0_3 a0_4 l0_5 l0_6 = some r) :
  Calls Try.prog 8 #[.agg #[.int .i64 a0_0, .string a0_1, .int .i64 a0_2, .int .i64 a0_3, .int .i64 a0_4, .slice A0_5 l0_5.length c0_5, .slice A0_6 l0_6.length c0_6]] w fun e w' => e = .returned (.bool r) ∧ Below w.heap.size w w' := by
 have hu54 := Try.underlying54
 have hu59 := Try.underlying59
 have HR0_5 := Aside0.mk hr0_5
 have HC0_5 := Aside0.mk hc0_5
 clear hr0_5 hc0_5
 have HR0_6 := Aside0.mk hr0_6
 have HC0_6 := Aside0.mk hc0_6
 clear hr0_6 hc0_6
 have HB := Aside0.mk (Below.refl w.heap.size w)
 have H := h
 unfold laws_FnExactBoxOk.f at H
 clear h
 replace H := Option.bind_eq_some_iff.mp H
 obtain ⟨t248, A20, H⟩ := H
 try dsimp only at H
 have A2 := Aside0.mk A20
 clear A20
 by_cases c3 : t248 < 0
 ·rw [if_pos c3] at H
  have c3b0 : decide (t248 < 0) = true := decide_eq_true c3
  clear c3
  obtain rfl := Option.some.inj H
  go_enter Try.func8, Try.ntmps8
  go_wp2_with (first | ((with_reducible refine gate_dst (N := 1) rfl ?_); refine bE 1 #[.int .i64 a0_0, .string a0_1, .int .i64 a0_2, .int .i64 a0_3, .int .i64 a0_4, .slice A0_5 l0_5.length c0_5, .slice A0_6 l0_6.length c0_6] 54 ?_; intro gb247 hg w4 hbox hb; have n0_ := Aside0.mk (below_step aH hb); have n1_ := Aside0.mk (hbox); have n2_ := Aside0.mk ((gS hg : w.heap.size ≤ gb247)); have n3_ := Aside0.mk ((gS hg : w.heap.size ≤ gb247)); clear HB; have HB := n0_; have BK247 := n1_; have GW247 := n2_; have GE247 := n3_; clear n0_ n1_ n2_ n3_; clear hb hbox hg; have hcz5_0 : w4.cell? ⟨gb247, 0, none⟩ = some (.int .i64 a0_0) := cR BK247.out 0; have hcz5_1 : w4.cell? ⟨gb247, 1, none⟩ = some (.string a0_1) := cR BK247.out 1; have hcz5_2 : w4.cell? ⟨gb247, 2, none⟩ = some (.int .i64 a0_2) := cR BK247.out 2; have hcz5_3 : w4.cell? ⟨gb247, 3, none⟩ = some (.int .i64 a0_3) := cR BK247.out 3; have hcz5_4 : w4.cell? ⟨gb247, 4, none⟩ = some (.int .i64 a0_4) := cR BK247.out 4; have hcz5_5 : w4.cell? ⟨gb247, 5, none⟩ = some (.slice A0_5 l0_5.length c0_5) := cR BK247.out 5; have hcz5_6 : w4.cell? ⟨gb247, 6, none⟩ = some (.slice A0_6 l0_6.length c0_6) := cR BK247.out 6; have hfz5_0 := blk_frozen BK247.out 0; have hfz5_1 := blk_frozen BK247.out 1; have hfz5_2 := blk_frozen BK247.out 2; have hfz5_3 := blk_frozen BK247.out 3; have hfz5_4 := blk_frozen BK247.out 4; have hfz5_5 := blk_frozen BK247.out 5; have hfz5_6 := blk_frozen BK247.out 6) | ((with_reducible refine gate_callee (f := 31) rfl ?_); refine gL_ (some 9) Try.func31 #[.agg #[.int .i64 a0_0, .string a0_1, .int .i64 a0_2, .int .i64 a0_3, .int .i64 a0_4, .slice A0_5 l0_5.length c0_5, .slice A0_6 l0_6.length c0_6], .int .i64 1048576] ?_; (with_reducible refine (laws_szBox.calls k a0_0 a0_1 a0_2 a0_3 a0_4 _ _ l0_5 _ _ l0_6 1048576 t248 _ ?side1 ?side2 ?side3 ?side4 A2.out).mono ?_); (case side1 => repeat (first | exact (Kd.C_below HR0_5.out HB.out) | (with_reducible refine Kd.C_alloc ?_ _) | (with_reducible refine Kd.C_drewN ?_ _) | (with_reducible refine Kd.C_drew ?_))); (case side2 => exact HC0_5.out); (case side3 => repeat (first | exact (Kd.C_below HR0_6.out HB.out) | (with_reducible refine Kd.C_alloc ?_ _) | (with_reducible refine Kd.C_drewN ?_ _) | (with_reducible refine Kd.C_drew ?_))); (case side4 => exact HC0_6.out); rintro e w6 ⟨rfl, hb⟩; refine ⟨_, rfl, ?_⟩; have n0_ := Aside0.mk (kB BK247.out hb); have n1_ := Aside0.mk (below_step aH hb); clear BK247; clear HB; have BK247 := n0_; have HB := n1_; clear n0_ n1_; (try clear hb); (try clear hb2); (try clear hk); (try clear hi)))
  go_ret
  exact ⟨by first | rfl | (simp [errW_none, errW_some] <;> rfl) | (simp [*, errW_none, errW_some] <;> rfl), aH⟩
 ·rw [if_neg c3] at H
  have c3b0 : decide (t248 < 0) = false := decide_eq_false c3
  clear c3
  replace H := Option.bind_eq_some_iff.mp H
  obtain ⟨⟨t249, t250, t251, t252, t253, t254, t257⟩, A70, H⟩ := H
  try dsimp only at H
  have A7 := Aside0.mk A70
  clear A70
  replace H := Option.bind_eq_some_iff.mp H
  obtain ⟨t260, A80, H⟩ := H
  try dsimp only at H
  have A8 := Aside0.mk A80
  clear A80
  replace H := Option.bind_eq_some_iff.mp H
  obtain ⟨⟨t261, t262, t263, t264, t265, t266, t269⟩, A90, H⟩ := H
  try dsimp only at H
  have A9 := Aside0.mk A90
  clear A90
  replace H := Option.bind_eq_some_iff.mp H
  obtain ⟨t273, A100, H⟩ := H
  try dsimp only at H
  have A10 := Aside0.mk A100
  clear A100
  by_cases c11 : (t273 != t260) = true
  ·rw [if_pos c11] at H
   exact absurd H (by simp)
  ·rw [if_neg c11] at H
   have c11b0 : (t273 != t260) = false := by simpa using c11
   (try (have c11b1 : decide (t273 = t260) = true := by simpa using c11))
   (try (have c11b2 : (t273 == t260) = true := by simpa using c11))
   clear c11
   replace H := Option.bind_eq_some_iff.mp H
   obtain ⟨⟨t274, t275, t276, t277, t278, t279, t282⟩, A120, H⟩ := H
   try dsimp only at H
   have A12 := Aside0.mk A120
   clear A120
   replace H := Option.bind_eq_some_iff.mp H
   obtain ⟨t285, A130, H⟩ := H
   replace H : (if t285 = true then (some true) else (none)) = some r := H
   have A13 := Aside0.mk A130
   clear A130
   by_cases c14 : t285 = true
   ·subst c14
    have H1 := wT H
    clear H
    have H := H1
    clear H1
    obtain rfl := Option.some.inj H
    go_enter Try.func8, Try.ntmps8
    try go_wp2_with (first | ((with_reducible refine gate_dst (N := 1) rfl ?_); refine bE 1 #[.int .i64 a0_0, .string a0_1, .int .i64 a0_2, .int .i64 a0_3, .int .i64 a0_4, .slice A0_5 l0_5.length c0_5, .slice A0_6 l0_6.length c0_6] 54 ?_; intro gb247 hg w15 hbox hb; have n0_ := Aside0.mk (below_step aH hb); have n1_ := Aside0.mk (hbox); have n2_ := Aside0.mk ((gS hg : w.heap.size ≤ gb247)); have n3_ := Aside0.mk ((gS hg : w.heap.size ≤ gb247)); clear HB; have HB := n0_; have BK247 := n1_; have GW247 := n2_; have GE247 := n3_; clear n0_ n1_ n2_ n3_; clear hb hbox hg; have hcz16_0 : w15.cell? ⟨gb247, 0, none⟩ = some (.int .i64 a0_0) := cR BK247.out 0; have hcz16_1 : w15.cell? ⟨gb247, 1, none⟩ = some (.string a0_1) := cR BK247.out 1; have hcz16_2 : w15.cell? ⟨gb247, 2, none⟩ = some (.int .i64 a0_2) := cR BK247.out 2; have hcz16_3 : w15.cell? ⟨gb247, 3, none⟩ = some (.int .i64 a0_3) := cR BK247.out 3; have hcz16_4 : w15.cell? ⟨gb247, 4, none⟩ = some (.int .i64 a0_4) := cR BK247.out 4; have hcz16_5 : w15.cell? ⟨gb247, 5, none⟩ = some (.slice A0_5 l0_5.length c0_5) := cR BK247.out 5; have hcz16_6 : w15.cell? ⟨gb247, 6, none⟩ = some (.slice A0_6 l0_6.length c0_6) := cR BK247.out 6; have hfz16_0 := blk_frozen BK247.out 0; have hfz16_1 := blk_frozen BK247.out 1; have hfz16_2 := blk_frozen BK247.out 2; have hfz16_3 := blk_frozen BK247.out 3; have hfz16_4 := blk_frozen BK247.out 4; have hfz16_5 := blk_frozen BK247.out 5; have hfz16_6 := blk_frozen BK247.out 6) | ((with_reducible refine gate_callee (f := 31) rfl ?_); refine gL_ (some 9) Try.func31 #[.agg #[.int .i64 a0_0, .string a0_1, .int .i64 a0_2, .int .i64 a0_3, .int .i64 a0_4, .slice A0_5 l0_5.length c0_5, .slice A0_6 l0_6.length c0_6], .int .i64 1048576] ?_; (with_reducible refine (laws_szBox.calls k a0_0 a0_1 a0_2 a0_3 a0_4 _ _ l0_5 _ _ l0_6 1048576 t248 _ ?side1 ?side2 ?side3 ?side4 A2.out).mono ?_); (case side1 => repeat (first | exact (Kd.C_below HR0_5.out HB.out) | (with_reducible refine Kd.C_alloc ?_ _) | (with_reducible refine Kd.C_drewN ?_ _) | (with_reducible refine Kd.C_drew ?_))); (case side2 => exact HC0_5.out); (case side3 => repeat (first | exact (Kd.C_below HR0_6.out HB.out) | (with_reducible refine Kd.C_alloc ?_ _) | (with_reducible refine Kd.C_drewN ?_ _) | (with_reducible refine Kd.C_drew ?_))); (case side4 => exact HC0_6.out); rintro e w17 ⟨rfl, hb⟩; refine ⟨_, rfl, ?_⟩; have n0_ := Aside0.mk (kB BK247.out hb); have n1_ := Aside0.mk (below_step aH hb); clear BK247; clear HB; have BK247 := n0_; have HB := n1_; clear n0_ n1_; (try clear hb); (try clear hb2); (try clear hk); (try clear hi); have hcz18_0 : w17.cell? ⟨gb247, 0, none⟩ = some (.int .i64 a0_0) := cR BK247.out 0; have hcz18_1 : w17.cell? ⟨gb247, 1, none⟩ = some (.string a0_1) := cR BK247.out 1; have hcz18_2 : w17.cell? ⟨gb247, 2, none⟩ = some (.int .i64 a0_2) := cR BK247.out 2; have hcz18_3 : w17.cell? ⟨gb247, 3, none⟩ = some (.int .i64 a0_3) := cR BK247.out 3; have hcz18_4 : w17.cell? ⟨gb247, 4, none⟩ = some (.int .i64 a0_4) := cR BK247.out 4; have hcz18_5 : w17.cell? ⟨gb247, 5, none⟩ = some (.slice A0_5 l0_5.length c0_5) := cR BK247.out 5; have hcz18_6 : w17.cell? ⟨gb247, 6, none⟩ = some (.slice A0_6 l0_6.length c0_6) := cR BK247.out 6; have hfz18_0 := blk_frozen BK247.out 0; have hfz18_1 := blk_frozen BK247.out 1; have hfz18_2 := blk_frozen BK247.out 2; have hfz18_3 := blk_frozen BK247.out 3; have hfz18_4 := blk_frozen BK247.out 4; have hfz18_5 := blk_frozen BK247.out 5; have hfz18_6 := blk_frozen BK247.out 6) | ((with_reducible refine gate_callee (f := 33) rfl ?_); refine gL_ (some 13) Try.func33 #[.agg #[.int .i64 a0_0, .string a0_1, .int .i64 a0_2, .int .i64 a0_3, .int .i64 a0_4, .slice A0_5 l0_5.length c0_5, .slice A0_6 l0_6.length c0_6]] ?_; (with_reducible refine (laws_toBox.calls k a0_0 a0_1 a0_2 a0_3 a0_4 _ _ l0_5 _ _ l0_6 t249 t250 t251 t252 t253 t254 t257 _ ?side1 ?side2 ?side3 ?side4 A7.out).mono ?_); (case side1 => repeat (first | exact (Kd.C_below HR0_5.out HB.out) | (with_reducible refine Kd.C_alloc ?_ _) | (with_reducible refine Kd.C_drewN ?_ _) | (with_reducible refine Kd.C_drew ?_))); (case side2 => exact HC0_5.out); (case side3 => repeat (first | exact (Kd.C_below HR0_6.out HB.out) | (with_reducible refine Kd.C_alloc ?_ _) | (with_reducible refine Kd.C_drewN ?_ _) | (with_reducible refine Kd.C_drew ?_))); (case side4 => exact HC0_6.out); rintro e w19 ⟨v255, v258, rfl, ho0, ho1, hb⟩; refine ⟨_, rfl, ?_⟩; have n0_ := Aside0.mk (Kd.S_lower ho0 (below_size aH)); have n1_ := Aside0.mk (Kd.R_lower ho1 (below_size aH)); have n2_ := Aside0.mk (kB BK247.out hb); have n3_ := Aside0.mk (below_step aH hb); clear BK247; clear HB; have HO256 := n0_; have HO259 := n1_; have BK247 := n2_; have HB := n3_; clear n0_ n1_ n2_ n3_; (try clear hb); (try clear hb2); (try clear hk); (try clear hi); (try clear ho0); (try clear ho1); obtain ⟨Ao20, co20, eo20⟩ := Kd.S_slice HO256.out; subst eo20; obtain ⟨Ao21, co21, eo21⟩ := Kd.R_slice HO259.out; subst eo21) | ((with_reducible refine gate_callee (f := 32) rfl ?_); refine gL_ (some 14) Try.func32 #[.agg #[.int .i64 t249, .string t250, .int .i64 t251, .int .i64 t252, .int .i64 t253, .slice Ao20 t254.length co20, .slice Ao21 t257.length co21]] ?_; (with_reducible refine (spec_BoxOk.calls k t249 t250 t251 t252 t253 _ _ t254 _ _ t257 t260 _ ?side1 ?side2 ?side3 ?side4 A8.out).mono ?_); (case side1 => repeat (first | exact (Kd.S_reads' HO256.out).2.2 | (with_reducible refine Kd.C_alloc ?_ _) | (with_reducible refine Kd.C_drewN ?_ _) | (with_reducible refine Kd.C_drew ?_))); (case side2 => exact (Kd.S_reads' HO256.out).2.1); (case side3 => repeat (first | exact (Kd.R_reads' HO259.out).2.2 | (with_reducible refine Kd.C_alloc ?_ _) | (with_reducible refine Kd.C_drewN ?_ _) | (with_reducible refine Kd.C_drew ?_))); (case side4 => exact (Kd.R_reads' HO259.out).2.1); rintro e w22 ⟨rfl, hb⟩; refine ⟨_, rfl, ?_⟩; have n0_ := Aside0.mk (Kd.S_below (by (with_reducible repeat (first | apply Kd.S_alloc | apply Kd.S_drewN | apply Kd.S_drew)); exact HO256.out) hb); have n1_ := Aside0.mk (Kd.R_below (aR HO259.out) hb); have n2_ := Aside0.mk (kB BK247.out hb); have n3_ := Aside0.mk (below_step aH hb); clear HO256; clear HO259; clear BK247; clear HB; have HO256 := n0_; have HO259 := n1_; have BK247 := n2_; have HB := n3_; clear n0_ n1_ n2_ n3_; (try clear hb); (try clear hb2); (try clear hk); (try clear hi); have hcz23_0 : w22.cell? ⟨gb247, 0, none⟩ = some (.int .i64 a0_0) := cR BK247.out 0; have hcz23_1 : w22.cell? ⟨gb247, 1, none⟩ = some (.string a0_1) := cR BK247.out 1; have hcz23_2 : w22.cell? ⟨gb247, 2, none⟩ = some (.int .i64 a0_2) := cR BK247.out 2; have hcz23_3 : w22.cell? ⟨gb247, 3, none⟩ = some (.int .i64 a0_3) := cR BK247.out 3; have hcz23_4 : w22.cell? ⟨gb247, 4, none⟩ = some (.int .i64 a0_4) := cR BK247.out 4; have hcz23_5 : w22.cell? ⟨gb247, 5, none⟩ = some (.slice A0_5 l0_5.length c0_5) := cR BK247.out 5; have hcz23_6 : w22.cell? ⟨gb247, 6, none⟩ = some (.slice A0_6 l0_6.length c0_6) := cR BK247.out 6; have hfz23_0 := blk_frozen BK247.out 0; have hfz23_1 := blk_frozen BK247.out 1; have hfz23_2 := blk_frozen BK247.out 2; have hfz23_3 := blk_frozen BK247.out 3; have hfz23_4 := blk_frozen BK247.out 4; have hfz23_5 := blk_frozen BK247.out 5; have hfz23_6 := blk_frozen BK247.out 6) | ((with_reducible refine gate_callee (f := 33) rfl ?_); refine gL_ (some 16) Try.func33 #[.agg #[.int .i64 a0_0, .string a0_1, .int .i64 a0_2, .int .i64 a0_3, .int .i64 a0_4, .slice A0_5 l0_5.length c0_5, .slice A0_6 l0_6.length c0_6]] ?_; (with_reducible refine (laws_toBox.calls k a0_0 a0_1 a0_2 a0_3 a0_4 _ _ l0_5 _ _ l0_6 t261 t262 t263 t264 t265 t266 t269 _ ?side1 ?side2 ?side3 ?side4 A9.out).mono ?_); (case side1 => repeat (first | exact (Kd.C_below HR0_5.out HB.out) | (with_reducible refine Kd.C_alloc ?_ _) | (with_reducible refine Kd.C_drewN ?_ _) | (with_reducible refine Kd.C_drew ?_))); (case side2 => exact HC0_5.out); (case side3 => repeat (first | exact (Kd.C_below HR0_6.out HB.out) | (with_reducible refine Kd.C_alloc ?_ _) | (with_reducible refine Kd.C_drewN ?_ _) | (with_reducible refine Kd.C_drew ?_))); (case side4 => exact HC0_6.out); rintro e w24 ⟨v267, v270, rfl, ho0, ho1, hb⟩; refine ⟨_, rfl, ?_⟩; have n0_ := Aside0.mk (Kd.S_elder' (by (with_reducible repeat (first | apply Kd.S_alloc | apply Kd.S_drewN | apply Kd.S_drew)); exact HO256.out) (Kd.S_base ho0) hb); have n1_ := Aside0.mk (Kd.R_elder' (aR HO259.out) (Kd.R_base ho1) hb); have n2_ := Aside0.mk (Kd.S_lower (Kd.S_new' ho0 (Kd.S_lt (by (with_reducible repeat (first | apply Kd.S_alloc | apply Kd.S_drewN | apply Kd.S_drew)); exact HO256.out))) (below_size aH)); have n3_ := Aside0.mk (Kd.R_lower (Kd.R_new' ho1 (Kd.R_lt (aR HO259.out))) (below_size aH)); have n4_ := Aside0.mk (kB BK247.out hb); have n5_ := Aside0.mk (below_step aH hb); clear HO256; clear HO259; clear BK247; clear HB; have HO256 := n0_; have HO259 := n1_; have HO268 := n2_; have HO271 := n3_; have BK247 := n4_; have HB := n5_; clear n0_ n1_ n2_ n3_ n4_ n5_; (try clear hb); (try clear hb2); (try clear hk); (try clear hi); (try clear ho0); (try clear ho1)) | ((with_reducible refine gate_dst (N := 5) rfl ?_); refine box_event ?hg (N := 5) ?hd (cs := #[.int .i64 0, .string (⟨#[]⟩ : ByteArray), .int .i64 0, .int .i64 0, .int .i64 0, .slice none 0 0, .slice none 0 0]) (t := 59) ?hr ?_; (case hd => rfl); (case hg => rfl); (case hr => first | (go_simp; done) | (go_simp; rfl)); intro gb272 hg w25 hbox hb; have n0_ := Aside0.mk (Kd.S_below (by (with_reducible repeat (first | apply Kd.S_alloc | apply Kd.S_drewN | apply Kd.S_drew)); exact HO256.out) hb); have n1_ := Aside0.mk (Kd.R_below (aR HO259.out) hb); have n2_ := Aside0.mk (Kd.S_below (by (with_reducible repeat (first | apply Kd.S_alloc | apply Kd.S_drewN | apply Kd.S_drew)); exact HO268.out) hb); have n3_ := Aside0.mk (Kd.R_below (aR HO271.out) hb); have n4_ := Aside0.mk (kB BK247.out hb); have n5_ := Aside0.mk (below_step aH hb); have n6_ := Aside0.mk (hbox); have n7_ := Aside0.mk ((gS hg : w.heap.size ≤ gb272)); have n8_ := Aside0.mk ((gS hg : w.heap.size ≤ gb272)); have n9_ := Aside0.mk (gL hg BK247.out); have n10_ := Aside0.mk (gG hg BK247.out); clear HO256; clear HO259; clear HO268; clear HO271; clear BK247; clear HB; have HO256 := n0_; have HO259 := n1_; have HO268 := n2_; have HO271 := n3_; have BK247 := n4_; have HB := n5_; have BK272 := n6_; have GW272 := n7_; have GE272 := n8_; have NB247_272 := n9_; have NB272_247 := n10_; clear n0_ n1_ n2_ n3_ n4_ n5_ n6_ n7_ n8_ n9_ n10_; clear hb hbox hg; have hnb26 := NB272_247.out; have hnc26 := NB247_272.out; have hcz27_0 : w25.cell? ⟨gb272, 0, none⟩ = some (.int .i64 0) := cR BK272.out 0; have hcz27_1 : w25.cell? ⟨gb272, 1, none⟩ = some (.string (⟨#[]⟩ : ByteArray)) := cR BK272.out 1; have hcz27_2 : w25.cell? ⟨gb272, 2, none⟩ = some (.int .i64 0) := cR BK272.out 2; have hcz27_3 : w25.cell? ⟨gb272, 3, none⟩ = some (.int .i64 0) := cR BK272.out 3; have hcz27_4 : w25.cell? ⟨gb272, 4, none⟩ = some (.int .i64 0) := cR BK272.out 4; have hcz27_5 : w25.cell? ⟨gb272, 5, none⟩ = some (.slice none 0 0) := cR BK272.out 5; have hcz27_6 : w25.cell? ⟨gb272, 6, none⟩ = some (.slice none 0 0) := cR BK272.out 6; have hfz27_0 := blk_frozen BK272.out 0; have hfz27_1 := blk_frozen BK272.out 1; have hfz27_2 := blk_frozen BK272.out 2; have hfz27_3 := blk_frozen BK272.out 3; have hfz27_4 := blk_frozen BK272.out 4; have hfz27_5 := blk_frozen BK272.out 5; have hfz27_6 := blk_frozen BK272.out 6; obtain ⟨Ao28, co28, eo28⟩ := Kd.S_slice HO268.out; subst eo28; obtain ⟨Ao29, co29, eo29⟩ := Kd.R_slice HO271.out; subst eo29) | ((with_reducible refine gate_callee (f := 34) rfl ?_); refine gL_ (some 18) Try.func34 #[.agg #[.int .i64 t261, .string t262, .int .i64 t263, .int .i64 t264, .int .i64 t265, .slice Ao28 t266.length co28, .slice Ao29 t269.length co29]] ?_; (with_reducible refine (impl_BoxOk.calls k t261 t262 t263 t264 t265 _ _ t266 _ _ t269 t273 _ ?side1 ?side2 ?side3 ?side4 A10.out).mono ?_); (case side1 => refine (Kd.S_reads' (e := 24) (base := w.heap.size) (ok := fun k_ => (True ∧ some k_ ≠ (.slice Ao20 t254.length co20 : Value).ownBlock)) (n := t266.length) (c := co28) ?_).2.2; exact (by (with_reducible repeat (first | apply Kd.S_alloc | apply Kd.S_drewN | apply Kd.S_drew)); exact (Kd.S_mono (Kd.S_far (p := ⟨gb272, 6, none⟩) (Kd.S_far (p := ⟨gb272, 5, none⟩) (Kd.S_far (p := ⟨gb272, 4, none⟩) (Kd.S_far (p := ⟨gb272, 3, none⟩) (Kd.S_far (p := ⟨gb272, 2, none⟩) (Kd.S_far (p := ⟨gb272, 1, none⟩) (Kd.S_far (p := ⟨gb272, 0, none⟩) (Kd.S_types HO268.out BK272.out (by decide)) (fun _ hk => hk.2) (.int .i64 t261)) (fun _ hk => hk.2) (.string t262)) (fun _ hk => hk.2) (.int .i64 t263)) (fun _ hk => hk.2) (.int .i64 t264)) (fun _ hk => hk.2) (.int .i64 t265)) (fun _ hk => hk.2) (.slice Ao28 t266.length co28)) (fun _ hk => hk.2) (.slice Ao29 t269.length co29)) (fun _ h_ => h_.1)))); (case side2 => exact (Kd.S_reads' HO268.out).2.1); (case side3 => refine (Kd.R_reads' (e := 3) (base := w.heap.size) (ok := fun k_ => (True ∧ some k_ ≠ (.slice Ao21 t257.length co21 : Value).ownBlock)) (n := t269.length) (c := co29) ?_).2.2; exact (aR (Kd.R_mono (Kd.R_far (p := ⟨gb272, 6, none⟩) (Kd.R_far (p := ⟨gb272, 5, none⟩) (Kd.R_far (p := ⟨gb272, 4, none⟩) (Kd.R_far (p := ⟨gb272, 3, none⟩) (Kd.R_far (p := ⟨gb272, 2, none⟩) (Kd.R_far (p := ⟨gb272, 1, none⟩) (Kd.R_far (p := ⟨gb272, 0, none⟩) (Kd.R_types HO271.out BK272.out (by decide)) (fun _ hk => hk.2) (.int .i64 t261)) (fun _ hk => hk.2) (.string t262)) (fun _ hk => hk.2) (.int .i64 t263)) (fun _ hk => hk.2) (.int .i64 t264)) (fun _ hk => hk.2) (.int .i64 t265)) (fun _ hk => hk.2) (.slice Ao28 t266.length co28)) (fun _ hk => hk.2) (.slice Ao29 t269.length co29)) (fun _ h_ => h_.1)))); (case side4 => exact (Kd.R_reads' HO271.out).2.1); rintro e w30 ⟨rfl, hb⟩; refine ⟨_, rfl, ?_⟩; have n0_ := Aside0.mk (Kd.S_below (by (with_reducible repeat (first | apply Kd.S_alloc | apply Kd.S_drewN | apply Kd.S_drew)); exact (Kd.S_mono (Kd.S_far (p := ⟨gb272, 6, none⟩) (Kd.S_far (p := ⟨gb272, 5, none⟩) (Kd.S_far (p := ⟨gb272, 4, none⟩) (Kd.S_far (p := ⟨gb272, 3, none⟩) (Kd.S_far (p := ⟨gb272, 2, none⟩) (Kd.S_far (p := ⟨gb272, 1, none⟩) (Kd.S_far (p := ⟨gb272, 0, none⟩) (Kd.S_types HO256.out BK272.out (by decide)) (fun _ hk => hk.2) (.int .i64 t261)) (fun _ hk => hk.2) (.string t262)) (fun _ hk => hk.2) (.int .i64 t263)) (fun _ hk => hk.2) (.int .i64 t264)) (fun _ hk => hk.2) (.int .i64 t265)) (fun _ hk => hk.2) (.slice Ao28 t266.length co28)) (fun _ hk => hk.2) (.slice Ao29 t269.length co29)) (fun _ h_ => h_.1))) hb); have n1_ := Aside0.mk (Kd.R_below (aR (Kd.R_mono (Kd.R_far (p := ⟨gb272, 6, none⟩) (Kd.R_far (p := ⟨gb272, 5, none⟩) (Kd.R_far (p := ⟨gb272, 4, none⟩) (Kd.R_far (p := ⟨gb272, 3, none⟩) (Kd.R_far (p := ⟨gb272, 2, none⟩) (Kd.R_far (p := ⟨gb272, 1, none⟩) (Kd.R_far (p := ⟨gb272, 0, none⟩) (Kd.R_types HO259.out BK272.out (by decide)) (fun _ hk => hk.2) (.int .i64 t261)) (fun _ hk => hk.2) (.string t262)) (fun _ hk => hk.2) (.int .i64 t263)) (fun _ hk => hk.2) (.int .i64 t264)) (fun _ hk => hk.2) (.int .i64 t265)) (fun _ hk => hk.2) (.slice Ao28 t266.length co28)) (fun _ hk => hk.2) (.slice Ao29 t269.length co29)) (fun _ h_ => h_.1))) hb); have n2_ := Aside0.mk (Kd.S_below (by (with_reducible repeat (first | apply Kd.S_alloc | apply Kd.S_drewN | apply Kd.S_drew)); exact (Kd.S_mono (Kd.S_far (p := ⟨gb272, 6, none⟩) (Kd.S_far (p := ⟨gb272, 5, none⟩) (Kd.S_far (p := ⟨gb272, 4, none⟩) (Kd.S_far (p := ⟨gb272, 3, none⟩) (Kd.S_far (p := ⟨gb272, 2, none⟩) (Kd.S_far (p := ⟨gb272, 1, none⟩) (Kd.S_far (p := ⟨gb272, 0, none⟩) (Kd.S_types HO268.out BK272.out (by decide)) (fun _ hk => hk.2) (.int .i64 t261)) (fun _ hk => hk.2) (.string t262)) (fun _ hk => hk.2) (.int .i64 t263)) (fun _ hk => hk.2) (.int .i64 t264)) (fun _ hk => hk.2) (.int .i64 t265)) (fun _ hk => hk.2) (.slice Ao28 t266.length co28)) (fun _ hk => hk.2) (.slice Ao29 t269.length co29)) (fun _ h_ => h_.1))) hb); have n3_ := Aside0.mk (Kd.R_below (aR (Kd.R_mono (Kd.R_far (p := ⟨gb272, 6, none⟩) (Kd.R_far (p := ⟨gb272, 5, none⟩) (Kd.R_far (p := ⟨gb272, 4, none⟩) (Kd.R_far (p := ⟨gb272, 3, none⟩) (Kd.R_far (p := ⟨gb272, 2, none⟩) (Kd.R_far (p := ⟨gb272, 1, none⟩) (Kd.R_far (p := ⟨gb272, 0, none⟩) (Kd.R_types HO271.out BK272.out (by decide)) (fun _ hk => hk.2) (.int .i64 t261)) (fun _ hk => hk.2) (.string t262)) (fun _ hk => hk.2) (.int .i64 t263)) (fun _ hk => hk.2) (.int .i64 t264)) (fun _ hk => hk.2) (.int .i64 t265)) (fun _ hk => hk.2) (.slice Ao28 t266.length co28)) (fun _ hk => hk.2) (.slice Ao29 t269.length co29)) (fun _ h_ => h_.1))) hb); have n4_ := Aside0.mk (blk_below (g := gb247) (o := .cells #[.int .i64 a0_0, .string a0_1, .int .i64 a0_2, .int .i64 a0_3, .int .i64 a0_4, .slice A0_5 l0_5.length c0_5, .slice A0_6 l0_6.length c0_6] 54 (0, 0)) (by (with_reducible repeat (first | refine blk_drewN ?_ _ | refine blk_drew ?_ | refine blk_alloc ?_ _)); refine blk_far ?_ NB247_272.out _; (with_reducible repeat (first | refine blk_drewN ?_ _ | refine blk_drew ?_ | refine blk_alloc ?_ _)); refine blk_far ?_ NB247_272.out _; (with_reducible repeat (first | refine blk_drewN ?_ _ | refine blk_drew ?_ | refine blk_alloc ?_ _)); refine blk_far ?_ NB247_272.out _; (with_reducible repeat (first | refine blk_drewN ?_ _ | refine blk_drew ?_ | refine blk_alloc ?_ _)); refine blk_far ?_ NB247_272.out _; (with_reducible repeat (first | refine blk_drewN ?_ _ | refine blk_drew ?_ | refine blk_alloc ?_ _)); refine blk_far ?_ NB247_272.out _; (with_reducible repeat (first | refine blk_drewN ?_ _ | refine blk_drew ?_ | refine blk_alloc ?_ _)); refine blk_far ?_ NB247_272.out _; (with_reducible repeat (first | refine blk_drewN ?_ _ | refine blk_drew ?_ | refine blk_alloc ?_ _)); refine blk_far ?_ NB247_272.out _; (with_reducible repeat (first | refine blk_drewN ?_ _ | refine blk_drew ?_ | refine blk_alloc ?_ _)); exact BK247.out) hb); have n5_ := Aside0.mk (blk_below (g := gb272) (o := .cells #[.int .i64 t261, .string t262, .int .i64 t263, .int .i64 t264, .int .i64 t265, .slice Ao28 t266.length co28, .slice Ao29 t269.length co29] 59 (0, 0)) (by (with_reducible repeat (first | refine blk_drewN ?_ _ | refine blk_drew ?_ | refine blk_alloc ?_ _)); refine blk_put (cs := #[.int .i64 t261, .string t262, .int .i64 t263, .int .i64 t264, .int .i64 t265, .slice Ao28 t266.length co28, .slice none 0 0]) ?_ 6 _ rfl; (with_reducible repeat (first | refine blk_drewN ?_ _ | refine blk_drew ?_ | refine blk_alloc ?_ _)); refine blk_put (cs := #[.int .i64 t261, .string t262, .int .i64 t263, .int .i64 t264, .int .i64 t265, .slice none 0 0, .slice none 0 0]) ?_ 5 _ rfl; (with_reducible repeat (first | refine blk_drewN ?_ _ | refine blk_drew ?_ | refine blk_alloc ?_ _)); refine blk_put (cs := #[.int .i64 t261, .string t262, .int .i64 t263, .int .i64 t264, .int .i64 0, .slice none 0 0, .slice none 0 0]) ?_ 4 _ rfl; (with_reducible repeat (first | refine blk_drewN ?_ _ | refine blk_drew ?_ | refine blk_alloc ?_ _)); refine blk_put (cs := #[.int .i64 t261, .string t262, .int .i64 t263, .int .i64 0, .int .i64 0, .slice none 0 0, .slice none 0 0]) ?_ 3 _ rfl; (with_reducible repeat (first | refine blk_drewN ?_ _ | refine blk_drew ?_ | refine blk_alloc ?_ _)); refine blk_put (cs := #[.int .i64 t261, .string t262, .int .i64 0, .int .i64 0, .int .i64 0, .slice none 0 0, .slice none 0 0]) ?_ 2 _ rfl; (with_reducible repeat (first | refine blk_drewN ?_ _ | refine blk_drew ?_ | refine blk_alloc ?_ _)); refine blk_put (cs := #[.int .i64 t261, .string (⟨#[]⟩ : ByteArray), .int .i64 0, .int .i64 0, .int .i64 0, .slice none 0 0, .slice none 0 0]) ?_ 1 _ rfl; (with_reducible repeat (first | refine blk_drewN ?_ _ | refine blk_drew ?_ | refine blk_alloc ?_ _)); refine blk_put (cs := #[.int .i64 0, .string (⟨#[]⟩ : ByteArray), .int .i64 0, .int .i64 0, .int .i64 0, .slice none 0 0, .slice none 0 0]) ?_ 0 _ rfl; (with_reducible repeat (first | refine blk_drewN ?_ _ | refine blk_drew ?_ | refine blk_alloc ?_ _)); exact BK272.out) hb); have n6_ := Aside0.mk (below_step aH hb); clear HO256; clear HO259; clear HO268; clear HO271; clear BK247; clear BK272; clear HB; have HO256 := n0_; have HO259 := n1_; have HO268 := n2_; have HO271 := n3_; have BK247 := n4_; have BK272 := n5_; have HB := n6_; clear n0_ n1_ n2_ n3_ n4_ n5_ n6_; (try clear hb); (try clear hb2); (try clear hk); (try clear hi)))
    have n0_ := Aside0.mk (Kd.S_drew HO256.out)
    have n1_ := Aside0.mk (Kd.R_drew HO259.out)
    have n2_ := Aside0.mk (Kd.S_drew HO268.out)
    have n3_ := Aside0.mk (Kd.R_drew HO271.out)
    have n4_ := Aside0.mk (blk_drew BK247.out)
    have n5_ := Aside0.mk (blk_drew BK272.out)
    have n6_ := Aside0.mk (below_drew1 HB.out)
    clear HO256
    clear HO259
    clear HO268
    clear HO271
    clear BK247
    clear BK272
    clear HB
    have HO256 := n0_
    have HO259 := n1_
    have HO268 := n2_
    have HO271 := n3_
    have BK247 := n4_
    have BK272 := n5_
    have HB := n6_
    clear n0_ n1_ n2_ n3_ n4_ n5_ n6_
    refine start_ (n := 5) (S := fun w' => w'.cell? ⟨gb272, 0, none⟩ = some (.int .i64 t261) ∧ w'.cell? ⟨gb272, 1, none⟩ = some (.string t262) ∧ w'.cell? ⟨gb272, 2, none⟩ = some (.int .i64 t263) ∧ w'.cell? ⟨gb272, 3, none⟩ = some (.int .i64 t264) ∧ w'.cell? ⟨gb272, 4, none⟩ = some (.int .i64 t265) ∧ w'.cell? ⟨gb272, 5, none⟩ = some (.slice Ao28 t266.length co28) ∧ w'.cell? ⟨gb272, 6, none⟩ = some (.slice Ao29 t269.length co29) ∧ w'.cell? ⟨gb247, 0, none⟩ = some (.int .i64 a0_0) ∧ w'.cell? ⟨gb247, 1, none⟩ = some (.string a0_1) ∧ w'.cell? ⟨gb247, 2, none⟩ = some (.int .i64 a0_2) ∧ w'.cell? ⟨gb247, 3, none⟩ = some (.int .i64 a0_3) ∧ w'.cell? ⟨gb247, 4, none⟩ = some (.int .i64 a0_4) ∧ w'.cell? ⟨gb247, 5, none⟩ = some (.slice A0_5 l0_5.length c0_5) ∧ w'.cell? ⟨gb247, 6, none⟩ = some (.slice A0_6 l0_6.length c0_6)) (ds := []) #[false, false, false, false, false] (by kernel_rfl) rfl rfl ⟨cR BK272.out 0, cR BK272.out 1, cR BK272.out 2, cR BK272.out 3, cR BK272.out 4, cR BK272.out 5, cR BK272.out 6, cR BK247.out 0, cR BK247.out 1, cR BK247.out 2, cR BK247.out 3, cR BK247.out 4, cR BK247.out 5, cR BK247.out 6⟩ (fun hHeld => ?_)
    generalize w30.drew = w31 at HO256 HO259 HO268 HO271 BK247 BK272 HB hHeld ⊢
    refine take_ (i := 0) (N := some 22) (v := ?_) (a' := ?_) #[true, false, false, false, false] rfl rfl (by kernel_rfl) (fun _ _ _ h => h) (Or.inl ⟨by rfl, ?_⟩) hHeld ?_ ?_
    rotate_left
    ·rintro w' ⟨s0, s1, s2, s3, s4, s5, s6, s7, s8, s9, s10, s11, s12, s13⟩
     go_simp
     with_reducible rfl
    rotate_left
    ·simp only [Act.put, List.setIfInBounds_toArray, List.set_cons_zero, List.set_cons_succ, i64_w, i32_w]
     rfl
    refine take_ (i := 1) (N := some 23) (v := ?_) (a' := ?_) #[true, true, false, false, false] rfl rfl (by kernel_rfl) (fun _ _ _ h => h) (Or.inl ⟨by rfl, ?_⟩) hHeld ?_ ?_
    rotate_left
    ·rintro w' ⟨s0, s1, s2, s3, s4, s5, s6, s7, s8, s9, s10, s11, s12, s13⟩
     go_simp
     with_reducible rfl
    rotate_left
    ·simp only [Act.put, List.setIfInBounds_toArray, List.set_cons_zero, List.set_cons_succ, i64_w, i32_w]
     rfl
    refine one_ (i := 2) (N := some 24) #[true, true, true, false, false] rfl rfl (by kernel_rfl) (by decide) (fun K hK => ?_)
    refine goes_ Try.func33 (by kernel_rfl) rfl #[.agg #[.int .i64 a0_0, .string a0_1, .int .i64 a0_2, .int .i64 a0_3, .int .i64 a0_4, .slice A0_5 l0_5.length c0_5, .slice A0_6 l0_6.length c0_6]] (by rfl) rfl rfl (by (try simp only [List.map_toArray, List.map_cons, List.map_nil]); first | done | rfl | (simp only [List.length_drop, List.length_take]; rfl)) ?_
    with_reducible refine (laws_toBox.calls k a0_0 a0_1 a0_2 a0_3 a0_4 _ _ l0_5 _ _ l0_6 t274 t275 t276 t277 t278 t279 t282 _ ?side1 ?side2 ?side3 ?side4 A12.out).mono ?_
    (case side1 => repeat (first | exact (Kd.C_below HR0_5.out HB.out) | (with_reducible refine Kd.C_alloc ?_ _) | (with_reducible refine Kd.C_drewN ?_ _) | (with_reducible refine Kd.C_drew ?_)))
    (case side2 => exact HC0_5.out)
    (case side3 => repeat (first | exact (Kd.C_below HR0_6.out HB.out) | (with_reducible refine Kd.C_alloc ?_ _) | (with_reducible refine Kd.C_drewN ?_ _) | (with_reducible refine Kd.C_drew ?_)))
    (case side4 => exact HC0_6.out)
    rintro e w32 ⟨v280, v283, rfl, ho0, ho1, hb⟩
    refine ⟨_, rfl, ?_⟩
    have n0_ := Aside0.mk (Kd.S_elder' (by (with_reducible repeat (first | apply Kd.S_alloc | apply Kd.S_drewN | apply Kd.S_drew)); exact HO256.out) (Kd.S_base ho0) hb)
    have n1_ := Aside0.mk (Kd.R_elder' (aR HO259.out) (Kd.R_base ho1) hb)
    have n2_ := Aside0.mk (Kd.S_elder' (by (with_reducible repeat (first | apply Kd.S_alloc | apply Kd.S_drewN | apply Kd.S_drew)); exact HO268.out) (Kd.S_base ho0) hb)
    have n3_ := Aside0.mk (Kd.R_elder' (aR HO271.out) (Kd.R_base ho1) hb)
    have n4_ := Aside0.mk (Kd.S_lower (Kd.S_new' (Kd.S_new' ho0 (Kd.S_lt (by (with_reducible repeat (first | apply Kd.S_alloc | apply Kd.S_drewN | apply Kd.S_drew)); exact HO256.out))) (Kd.S_lt (by (with_reducible repeat (first | apply Kd.S_alloc | apply Kd.S_drewN | apply Kd.S_drew)); exact HO268.out))) (below_size aH))
    have n5_ := Aside0.mk (Kd.R_lower (Kd.R_new' (Kd.R_new' ho1 (Kd.R_lt (aR HO259.out))) (Kd.R_lt (aR HO271.out))) (below_size aH))
    have n6_ := Aside0.mk (kB BK247.out hb)
    have n7_ := Aside0.mk (kB BK272.out hb)
    have n8_ := Aside0.mk (below_step aH hb)
    clear HO256
    clear HO259
    clear HO268
    clear HO271
    clear BK247
    clear BK272
    clear HB
    have HO256 := n0_
    have HO259 := n1_
    have HO268 := n2_
    have HO271 := n3_
    have HO281 := n4_
    have HO284 := n5_
    have BK247 := n6_
    have BK272 := n7_
    have HB := n8_
    clear n0_ n1_ n2_ n3_ n4_ n5_ n6_ n7_ n8_
    (try clear hb)
    (try clear hb2)
    (try clear hk)
    (try clear hi)
    (try clear ho0)
    (try clear ho1)
    obtain ⟨Ao33, co33, eo33⟩ := Kd.S_slice HO281.out
    (first | subst eo33 | (injection eo33 with f1_ f2_ f3_; have f4_ := f1_.symm; have f5_ := f3_.symm; clear f1_ f2_ f3_; subst f4_; subst f5_))
    obtain ⟨Ao34, co34, eo34⟩ := Kd.R_slice HO284.out
    (first | subst eo34 | (injection eo34 with f1_ f2_ f3_; have f4_ := f1_.symm; have f5_ := f3_.symm; clear f1_ f2_ f3_; subst f4_; subst f5_))
    refine hK.out _ _ ⟨cR BK272.out 0, cR BK272.out 1, cR BK272.out 2, cR BK272.out 3, cR BK272.out 4, cR BK272.out 5, cR BK272.out 6, cR BK247.out 0, cR BK247.out 1, cR BK247.out 2, cR BK247.out 3, cR BK247.out 4, cR BK247.out 5, cR BK247.out 6⟩ (fun hHeld => ?_)
    clear hK K
    refine nP 24 ?_
    refine one_ (i := 3) (N := some 25) #[true, true, true, true, false] rfl rfl (by kernel_rfl) (by decide) (fun K hK => ?_)
    refine goes_ Try.func35 (by kernel_rfl) rfl #[.agg #[.int .i64 t261, .string t262, .int .i64 t263, .int .i64 t264, .int .i64 t265, .slice Ao28 t266.length co28, .slice Ao29 t269.length co29], .agg #[.int .i64 t274, .string t275, .int .i64 t276, .int .i64 t277, .int .i64 t278, .slice Ao33 t279.length co33, .slice Ao34 t282.length co34]] (by rfl) rfl rfl (by (try simp only [List.map_toArray, List.map_cons, List.map_nil]); first | done | rfl | (simp only [List.length_drop, List.length_take]; rfl)) ?_
    with_reducible refine (laws_eqBox.calls k t261 t262 t263 t264 t265 _ _ t266 _ _ t269 t274 t275 t276 t277 t278 _ _ t279 _ _ t282 true _ ?side1 ?side2 ?side3 ?side4 ?side5 ?side6 ?side7 ?side8 A13.out).mono ?_
    (case side1 => repeat (first | exact (Kd.S_reads' HO268.out).2.2 | (with_reducible refine Kd.C_alloc ?_ _) | (with_reducible refine Kd.C_drewN ?_ _) | (with_reducible refine Kd.C_drew ?_)))
    (case side2 => exact (Kd.S_reads' HO268.out).2.1)
    (case side3 => repeat (first | exact (Kd.R_reads' HO271.out).2.2 | (with_reducible refine Kd.C_alloc ?_ _) | (with_reducible refine Kd.C_drewN ?_ _) | (with_reducible refine Kd.C_drew ?_)))
    (case side4 => exact (Kd.R_reads' HO271.out).2.1)
    (case side5 => repeat (first | exact (Kd.S_reads' HO281.out).2.2 | (with_reducible refine Kd.C_alloc ?_ _) | (with_reducible refine Kd.C_drewN ?_ _) | (with_reducible refine Kd.C_drew ?_)))
    (case side6 => exact (Kd.S_reads' HO281.out).2.1)
    (case side7 => repeat (first | exact (Kd.R_reads' HO284.out).2.2 | (with_reducible refine Kd.C_alloc ?_ _) | (with_reducible refine Kd.C_drewN ?_ _) | (with_reducible refine Kd.C_drew ?_)))
    (case side8 => exact (Kd.R_reads' HO284.out).2.1)
    rintro e w35 ⟨rfl, hb⟩
    refine ⟨_, rfl, ?_⟩
    have n0_ := Aside0.mk (Kd.S_below (by (with_reducible repeat (first | apply Kd.S_alloc | apply Kd.S_drewN | apply Kd.S_drew)); exact HO256.out) hb)
    have n1_ := Aside0.mk (Kd.R_below (aR HO259.out) hb)
    have n2_ := Aside0.mk (Kd.S_below (by (with_reducible repeat (first | apply Kd.S_alloc | apply Kd.S_drewN | apply Kd.S_drew)); exact HO268.out) hb)
    have n3_ := Aside0.mk (Kd.R_below (aR HO271.out) hb)
    have n4_ := Aside0.mk (Kd.S_below (by (with_reducible repeat (first | apply Kd.S_alloc | apply Kd.S_drewN | apply Kd.S_drew)); exact HO281.out) hb)
    have n5_ := Aside0.mk (Kd.R_below (aR HO284.out) hb)
    have n6_ := Aside0.mk (kB BK247.out hb)
    have n7_ := Aside0.mk (kB BK272.out hb)
    have n8_ := Aside0.mk (below_step aH hb)
    clear HO256
    clear HO259
    clear HO268
    clear HO271
    clear HO281
    clear HO284
    clear BK247
    clear BK272
    clear HB
    have HO256 := n0_
    have HO259 := n1_
    have HO268 := n2_
    have HO271 := n3_
    have HO281 := n4_
    have HO284 := n5_
    have BK247 := n6_
    have BK272 := n7_
    have HB := n8_
    clear n0_ n1_ n2_ n3_ n4_ n5_ n6_ n7_ n8_
    (try clear hb)
    (try clear hb2)
    (try clear hk)
    (try clear hi)
    refine hK.out _ _ ⟨cR BK272.out 0, cR BK272.out 1, cR BK272.out 2, cR BK272.out 3, cR BK272.out 4, cR BK272.out 5, cR BK272.out 6, cR BK247.out 0, cR BK247.out 1, cR BK247.out 2, cR BK247.out 3, cR BK247.out 4, cR BK247.out 5, cR BK247.out 6⟩ (fun hHeld => ?_)
    clear hK K
    refine nP 25 ?_
    refine pure_ (i := 4) (N := some 26) (v := ?_) (a' := ?_) #[true, true, true, true, true] rfl rfl (by kernel_rfl) (fun _ _ _ h => h) (Or.inl ⟨by rfl, ?_⟩) ?_ ?_
    rotate_left
    ·intro w'
     go_simp
     with_reducible rfl
    rotate_left
    ·simp only [Act.put, List.setIfInBounds_toArray, List.set_cons_zero, List.set_cons_succ, i64_w, i32_w]
     rfl
    refine done_ (by kernel_rfl) ?_
    try go_wp2
    go_ret
    exact ⟨by first | rfl | (simp [errW_none, errW_some] <;> rfl) | (simp [*, errW_none, errW_some] <;> rfl), aH⟩
   ·replace c14 := Bool.eq_false_iff.mpr c14
    subst c14
    have H1 := wF H
    clear H
    have H := H1
    clear H1
    exact absurd H (by simp)

end Go.Proofs.Ytjlffencbaifeaa.PFnExactBoxOk
