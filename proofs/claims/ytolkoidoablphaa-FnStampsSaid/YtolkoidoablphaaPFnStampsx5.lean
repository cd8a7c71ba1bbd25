-- Written for this claim by the session's own wip/myprint.py (a patched run of the kit's printer). Not trusted: Lean checks it.
import Derived.Test.YtolkoidoablphaaPFnStampsx0
import Derived.Test.YtolkoidoablphaaPFnStampsx1
import Derived.Test.YtolkoidoablphaaPFnStampsx2
import Derived.Test.YtolkoidoablphaaPFnStampsx3
import Derived.Test.YtolkoidoablphaaPFnStampsx4
namespace Go.Proofs.Ytolkoidoablphaa.PFnStamps
open Go.RowKit Go.Proofs.YtolkoidoablphaaW.PrintWords Go.Proofs.YtolkoidoablphaaW.PrintLast Go.Proofs.YtolkoidoablphaaW.PrintMore
abbrev bb5_0 : Array Bool := (bA 51 0)
abbrev bb5_1 : Array Bool := (bA 51 1)
abbrev bb5_2 : Array Bool := (bA 51 3)
abbrev bb5_3 : Array Bool := (bA 51 7)
abbrev bb5_4 : Array Bool := (bA 51 15)
abbrev bb5_5 : Array Bool := (bA 51 31)
abbrev bb5_6 : Array Bool := (bA 51 63)
abbrev bb5_7 : Array Bool := (bA 51 127)
abbrev bb5_8 : Array Bool := (bA 51 255)
abbrev bb5_9 : Array Bool := (bA 51 511)
abbrev bb5_10 : Array Bool := (bA 51 1023)
abbrev bb5_11 : Array Bool := (bA 51 2047)
abbrev bb5_12 : Array Bool := (bA 51 4095)
abbrev bb5_13 : Array Bool := (bA 51 8191)
abbrev bb5_14 : Array Bool := (bA 51 16383)
abbrev bb5_15 : Array Bool := (bA 51 32767)
abbrev bb5_16 : Array Bool := (bA 51 65535)
abbrev bb5_17 : Array Bool := (bA 51 131071)
abbrev bb5_18 : Array Bool := (bA 51 262143)
abbrev bb5_19 : Array Bool := (bA 51 524287)
abbrev bb5_20 : Array Bool := (bA 51 1048575)
abbrev bb5_21 : Array Bool := (bA 51 2097151)
abbrev bb5_22 : Array Bool := (bA 51 4194303)
abbrev bb5_23 : Array Bool := (bA 51 8388607)
abbrev bb5_24 : Array Bool := (bA 51 16777215)
abbrev bb5_25 : Array Bool := (bA 51 33554431)
abbrev bb5_26 : Array Bool := (bA 51 67108863)
abbrev bb5_27 : Array Bool := (bA 51 134217727)
abbrev bb5_28 : Array Bool := (bA 51 268435455)
abbrev bb5_29 : Array Bool := (bA 51 536870911)
abbrev bb5_30 : Array Bool := (bA 51 1073741823)
abbrev bb5_31 : Array Bool := (bA 51 2147483647)
abbrev bb5_32 : Array Bool := (bA 51 4294967295)
abbrev bb5_33 : Array Bool := (bA 51 12884901887)
abbrev bb5_34 : Array Bool := (bA 51 17179869183)
abbrev bb5_35 : Array Bool := (bA 51 34359738367)
abbrev bb5_36 : Array Bool := (bA 51 68719476735)
abbrev bb5_37 : Array Bool := (bA 51 137438953471)
abbrev bb5_38 : Array Bool := (bA 51 274877906943)
abbrev bb5_39 : Array Bool := (bA 51 549755813887)
abbrev bb5_40 : Array Bool := (bA 51 2748779069439)
abbrev bb5_41 : Array Bool := (bA 51 3298534883327)
abbrev bb5_42 : Array Bool := (bA 51 7696581394431)
abbrev bb5_43 : Array Bool := (bA 51 8796093022207)
abbrev bb5_44 : Array Bool := (bA 51 17592186044415)
abbrev bb5_45 : Array Bool := (bA 51 35184372088831)
abbrev bb5_46 : Array Bool := (bA 51 70368744177663)
abbrev bb5_47 : Array Bool := (bA 51 140737488355327)
abbrev bb5_48 : Array Bool := (bA 51 281474976710655)
abbrev bb5_49 : Array Bool := (bA 51 562949953421311)
abbrev bb5_50 : Array Bool := (bA 51 1125899906842623)
abbrev bb5_51 : Array Bool := (bA 51 2251799813685247)
attribute [local go_sem] max2_str max2_int min2_int max_two min_two max_three min_three max_four min_four   -- for this text's walks alone
set_option linter.unusedVariables false
set_option linter.unusedSimpArgs false

attribute [local go_sem high] eqA29
/-! ### laws_FnStamps: function 9 -/
def laws_FnStamps.f (k : Nat) (l0 : List Int) : Option (Bool) := (laws_big.f l0).bind fun t221 => (if t221 = true then (some true) else ((spec_DrawRegs.f k l0).bind fun bt222 => ((impl_Later.f bt222.2.1 bt222.2.2.1 bt222.2.2.2.2.1 bt222.2.2.2.2.2.1).bind fun t237 => ((impl_Later.f bt222.2.2.2.2.1 bt222.2.2.2.2.2.1 bt222.2.1 bt222.2.2.1).bind fun t238 => ((spec_DrawRegOk.f k l0).bind fun bt239 => (if t237 = true then (if (true == (!(bt222.2.1 == bt222.2.2.2.2.1) || (!(bt222.2.2.1 == bt222.2.2.2.2.2.1)))) = true then (if t238 = true then (none) else ((impl_Later.f bt222.2.2.2.2.1 bt222.2.2.2.2.2.1 bt222.2.2.2.2.2.2.2.1 bt222.2.2.2.2.2.2.2.2).bind fun t243 => (if t243 = true then ((impl_Later.f bt222.2.1 bt222.2.2.1 bt222.2.2.2.2.2.2.2.1 bt222.2.2.2.2.2.2.2.2).bind fun t244 => (if t244 = true then ((impl_RegOk.f bt239.1 bt239.2.1 bt239.2.2).bind fun t245 => ((spec_RegOk.f bt239.1 bt239.2.1 bt239.2.2).bind fun t246 => (if (t245 == t246) = true then ((impl_StampOk.f bt239.2.1 bt239.2.2).bind fun t247 => ((spec_StampOk.f bt239.2.1 bt239.2.2).bind fun t248 => (if (t247 == t248) = true then ((impl_RegOk.f bt222.1 bt222.2.1 bt222.2.2.1).bind fun t249 => (some t249)) else (none)))) else (none)))) else (none))) else ((impl_RegOk.f bt239.1 bt239.2.1 bt239.2.2).bind fun t250 => ((spec_RegOk.f bt239.1 bt239.2.1 bt239.2.2).bind fun t251 => (if (t250 == t251) = true then ((impl_StampOk.f bt239.2.1 bt239.2.2).bind fun t252 => ((spec_StampOk.f bt239.2.1 bt239.2.2).bind fun t253 => (if (t252 == t253) = true then ((impl_RegOk.f bt222.1 bt222.2.1 bt222.2.2.1).bind fun t254 => (some t254)) else (none)))) else (none))))))) else (none)) else (if (t238 == (!(bt222.2.1 == bt222.2.2.2.2.1) || (!(bt222.2.2.1 == bt222.2.2.2.2.2.1)))) = true then ((impl_RegOk.f bt239.1 bt239.2.1 bt239.2.2).bind fun t255 => ((spec_RegOk.f bt239.1 bt239.2.1 bt239.2.2).bind fun t256 => (if (t255 == t256) = true then ((impl_StampOk.f bt239.2.1 bt239.2.2).bind fun t257 => ((spec_StampOk.f bt239.2.1 bt239.2.2).bind fun t258 => (if (t257 == t258) = true then ((impl_RegOk.f bt222.1 bt222.2.1 bt222.2.2.1).bind fun t259 => (some t259)) else (none)))) else (none)))) else (none))))))))
theorem laws_FnStamps.mono : ∀ a0 k, LeO (laws_FnStamps.f k a0) (laws_FnStamps.f (k + 1) a0) := by
 intro a0 k
 unfold laws_FnStamps.f
 repeat' first
   | (with_reducible exact spec_DrawRegOk.mono _ _)
   | (with_reducible exact spec_DrawRegs.mono _ _)
   | (with_reducible exact LeO.refl _)
   | (with_reducible exact LeO.none _)
   | (with_reducible refine LeO.ite ?_ ?_)
   | (with_reducible refine LeO.bind ?_ (fun _ => ?_))
   | exact spec_DrawRegOk.mono _ _
   | exact spec_DrawRegs.mono _ _
   | exact LeO.none _
   | refine LeO.ite ?_ ?_
   | refine LeO.bind ?_ (fun _ => ?_)
def laws_FnStamps.T10 : Bool × List (List Nat × List Nat) := (true, [([], []), ([0], [0]), ([1], [1]), ([1, 2], [1, 2]), ([], []), ([], []), ([4, 5], [4, 5]), ([3, 6], [3, 6]), ([7, 1], [7]), ([8], [8]), ([9, 8, 8], [8, 9]), ([10], [10]), ([10, 11, 8], [8, 10, 11]), ([12, 8], [8, 12]), ([8, 13], [8, 13]), ([14, 10], [14]), ([15], [15]), ([16, 15], [15, 16]), ([17, 15, 15], [15, 17]), ([18], [18]), ([18], [18]), ([19, 20, 18, 18], [18, 19, 20]), ([21, 18], [18, 21]), ([18, 22, 15], [15, 18, 22]), ([23, 21, 15], [15, 23]), ([24], [24]), ([24], [24]), ([25, 26, 24, 24], [24, 25, 26]), ([24, 27, 15], [15, 24, 27]), ([15, 28], [15, 28]), ([29, 27], [29]), ([30], [30]), ([31, 30, 30], [30, 31]), ([30], [30]), ([33, 32, 30], [30, 33]), ([32, 34, 30], [30, 32, 34]), ([30, 35], [30, 35]), ([36, 34], [36]), ([37], [37]), ([38, 37], [37, 38]), ([39, 37, 37], [37, 39]), ([37], [37]), ([41, 37], [37, 41]), ([42, 40, 37], [37, 42]), ([40, 43, 37], [37, 40, 43]), ([37, 44], [37, 44]), ([45, 43], [45]), ([46], [46]), ([47, 46, 46], [46, 47]), ([46, 48], [46, 48]), ([49, 48, 0, 1, 2, 3, 4, 5, 6, 7, 8, 9, 10, 11, 12, 13, 14, 15, 16, 17, 18, 19, 20, 21, 22, 23, 24, 25, 26, 27, 28, 29, 30, 31, 32, 33, 34, 35, 36, 37, 38, 39, 40, 41, 42, 43, 44, 45, 46, 47, 48, 49], [49])])
def laws_FnStamps.B10 : List Nat := [0, 1, 3, 7, 0, 0, 48, 127, 255, 511, 1023, 2047, 4095, 8191, 16383, 32767, 65535, 131071, 262143, 524287, 524287, 2097151, 4194303, 8388607, 16777215, 33554431, 33554431, 134217727, 268435455, 536870911, 1073741823, 2147483647, 4294967295, 2147483647, 17179869183, 34359738367, 68719476735, 137438953471, 274877906943, 549755813887, 1099511627775, 274877906943, 2473901162495, 8796093022207, 17592186044415, 35184372088831, 70368744177663, 140737488355327, 281474976710655, 562949953421311, 1125899906842623]
theorem laws_FnStamps.tab10 : rtab .any (opsOf Try.f9 10) = laws_FnStamps.T10 := by kernel_rfl
theorem laws_FnStamps.bits10 : waitsOk laws_FnStamps.T10.2 laws_FnStamps.B10 = true := by kernel_rfl
set_option maxHeartbeats 8000000 in
set_option maxRecDepth 100000 in
theorem laws_FnStamps.calls (k : Nat) (A0 : Option Addr) (c0 : Nat) (l0 : List Int) (r : Bool) (w : World) (hr0 : Kd.C (Kd.int .u8) w A0 l0.length l0) (hc0 : l0.length ≤ c0) (h : laws_FnStamps.f k l0 = some r) :
  Calls Try.prog 9 #[.slice A0 l0.length c0] w fun e w' => e = .returned (.bool r) ∧ Below w.heap.size w w' := by
 have hu31 := Try.underlying31
 have hu29 := Try.underlying29
 have HR0 := Aside0.mk hr0
 have HC0 := Aside0.mk hc0
 clear hr0 hc0
 have HB := Aside0.mk (Below.refl w.heap.size w)
 have H := h
 unfold laws_FnStamps.f at H
 clear h
 replace H := Option.bind_eq_some_iff.mp H
 obtain ⟨t221, A20, H⟩ := H
 try dsimp only at H
 have A2 := Aside0.mk A20
 clear A20
 by_cases c3 : t221 = true
 ·subst c3
  have H1 := wT H
  clear H
  have H := H1
  clear H1
  obtain rfl := Option.some.inj H
  go_enter Try.func9, Try.ntmps9
  go_wp2_with (first | ((with_reducible refine gate_callee (f := 30) rfl ?_); refine gL_ (some 13) Try.func30 #[.slice A0 l0.length c0] ?_; (with_reducible refine (laws_big.calls _ _ l0 true _ ?side1 ?side2 A2.out).mono ?_); (case side1 => repeat (first | exact HR0.out | (with_reducible refine Kd.C_alloc ?_ _) | (with_reducible refine Kd.C_drewN ?_ _) | (with_reducible refine Kd.C_drew ?_))); (case side2 => exact HC0.out); rintro e w' ⟨rfl, ⟨nd, rfl⟩⟩; refine ⟨_, rfl, ?_⟩))
  go_ret
  exact ⟨by first | rfl | (simp [errW_none, errW_some] <;> rfl) | (simp [*, errW_none, errW_some] <;> rfl), aH⟩
 ·replace c3 := Bool.eq_false_iff.mpr c3
  subst c3
  have H1 := wF H
  clear H
  have H := H1
  clear H1
  replace H := Option.bind_eq_some_iff.mp H
  obtain ⟨⟨t222, t223, t224, t225, t226, t227, t228, t229, t230⟩, A40, H⟩ := H
  try dsimp only at H
  have A4 := Aside0.mk A40
  clear A40
  replace H := Option.bind_eq_some_iff.mp H
  obtain ⟨t237, A50, H⟩ := H
  try dsimp only at H
  have A5 := Aside0.mk A50
  clear A50
  replace H := Option.bind_eq_some_iff.mp H
  obtain ⟨t238, A60, H⟩ := H
  try dsimp only at H
  have A6 := Aside0.mk A60
  clear A60
  replace H := Option.bind_eq_some_iff.mp H
  obtain ⟨⟨t239, t240, t241⟩, A70, H⟩ := H
  try dsimp only at H
  have A7 := Aside0.mk A70
  clear A70
  by_cases c8 : t237 = true
  ·subst c8
   have H1 := wT H
   clear H
   have H := H1
   clear H1
   by_cases c9 : (true == (!(t223 == t226) || (!(t224 == t227)))) = true
   ·rw [if_pos c9] at H
    have c9b0 : (true == (!(t223 == t226) || (!(t224 == t227)))) = true := c9
    (try (have c9b1 : decide (true = (!(t223 == t226) || (!(t224 == t227)))) = true := by simpa using c9))
    (try (have c9b2 : (true == (!(t223 == t226) || (!(t224 == t227)))) = true := by simpa using c9))
    clear c9
    by_cases c10 : t238 = true
    ·subst c10
     have H1 := wT H
     clear H
     have H := H1
     clear H1
     exact absurd H (by simp)
    ·replace c10 := Bool.eq_false_iff.mpr c10
     subst c10
     have H1 := wF H
     clear H
     have H := H1
     clear H1
     replace H := Option.bind_eq_some_iff.mp H
     obtain ⟨t243, A110, H⟩ := H
     try dsimp only at H
     have A11 := Aside0.mk A110
     clear A110
     by_cases c12 : t243 = true
     ·subst c12
      have H1 := wT H
      clear H
      have H := H1
      clear H1
      replace H := Option.bind_eq_some_iff.mp H
      obtain ⟨t244, A130, H⟩ := H
      try dsimp only at H
      have A13 := Aside0.mk A130
      clear A130
      by_cases c14 : t244 = true
      ·subst c14
       have H1 := wT H
       clear H
       have H := H1
       clear H1
       replace H := Option.bind_eq_some_iff.mp H
       obtain ⟨t245, A150, H⟩ := H
       try dsimp only at H
       have A15 := Aside0.mk A150
       clear A150
       replace H := Option.bind_eq_some_iff.mp H
       obtain ⟨t246, A160, H⟩ := H
       try dsimp only at H
       have A16 := Aside0.mk A160
       clear A160
       by_cases c17 : (t245 == t246) = true
       ·rw [if_pos c17] at H
        have c17b0 : (t245 == t246) = true := c17
        (try (have c17b1 : decide (t245 = t246) = true := by simpa using c17))
        (try (have c17b2 : (t245 == t246) = true := by simpa using c17))
        clear c17
        replace H := Option.bind_eq_some_iff.mp H
        obtain ⟨t247, A180, H⟩ := H
        try dsimp only at H
        have A18 := Aside0.mk A180
        clear A180
        replace H := Option.bind_eq_some_iff.mp H
        obtain ⟨t248, A190, H⟩ := H
        replace H : (if (t247 == t248) = true then ((impl_RegOk.f t222 t223 t224).bind fun t249 => (some t249)) else (none)) = some r := H
        have A19 := Aside0.mk A190
        clear A190
        by_cases c20 : (t247 == t248) = true
        ·rw [if_pos c20] at H
         have c20b0 : (t247 == t248) = true := c20
         (try (have c20b1 : decide (t247 = t248) = true := by simpa using c20))
         (try (have c20b2 : (t247 == t248) = true := by simpa using c20))
         clear c20
         replace H := Option.bind_eq_some_iff.mp H
         obtain ⟨t249, A210, H⟩ := H
         replace H : (some t249) = some r := H
         have A21 := Aside0.mk A210
         clear A210
         obtain rfl := Option.some.inj H
         go_enter Try.func9, Try.ntmps9
         try go_wp2_with (first | ((with_reducible refine gate_callee (f := 30) rfl ?_); refine gL_ (some 13) Try.func30 #[.slice A0 l0.length c0] ?_; (with_reducible refine (laws_big.calls _ _ l0 false _ ?side1 ?side2 A2.out).mono ?_); (case side1 => repeat (first | exact HR0.out | (with_reducible refine Kd.C_alloc ?_ _) | (with_reducible refine Kd.C_drewN ?_ _) | (with_reducible refine Kd.C_drew ?_))); (case side2 => exact HC0.out); rintro e w' ⟨rfl, ⟨nd, rfl⟩⟩; refine ⟨_, rfl, ?_⟩) | ((with_reducible refine gate_callee (f := 31) rfl ?_); refine gL_ (some 16) Try.func31 #[.slice A0 l0.length c0] ?_; (with_reducible refine (spec_DrawRegs.calls k _ _ l0 t222 t223 t224 t225 t226 t227 t228 t229 t230 _ ?side1 ?side2 A4.out).mono ?_); (case side1 => repeat (first | exact HR0.out | (with_reducible refine Kd.C_alloc ?_ _) | (with_reducible refine Kd.C_drewN ?_ _) | (with_reducible refine Kd.C_drew ?_))); (case side2 => exact HC0.out); rintro e w22 ⟨rfl, hb⟩; refine ⟨_, rfl, ?_⟩; have n0_ := Aside0.mk (below_step aH hb); clear HB; have HB := n0_; clear n0_; (try clear hb); (try clear hb2); (try clear hk); (try clear hi)) | ((with_reducible refine gate_dst (N := 3) rfl ?_); refine bE 3 #[.int .i64 0, .int .i64 0, .int .i64 0] 31 ?_; intro gb231 hg w23 hbox hb; have n0_ := Aside0.mk (below_step aH hb); have n1_ := Aside0.mk (hbox); have n2_ := Aside0.mk ((gS hg : w.heap.size ≤ gb231)); have n3_ := Aside0.mk ((gS hg : w.heap.size ≤ gb231)); clear HB; have HB := n0_; have BK231 := n1_; have GW231 := n2_; have GE231 := n3_; clear n0_ n1_ n2_ n3_; clear hb hbox hg) | ((with_reducible refine gate_dst (N := 4) rfl ?_); refine bE 4 #[.int .i64 0, .int .i64 0, .int .i64 0] 31 ?_; intro gb232 hg w24 hbox hb; have n0_ := Aside0.mk (kB BK231.out hb); have n1_ := Aside0.mk (below_step aH hb); have n2_ := Aside0.mk (hbox); have n3_ := Aside0.mk ((gS hg : w.heap.size ≤ gb232)); have n4_ := Aside0.mk ((gS hg : w.heap.size ≤ gb232)); have n5_ := Aside0.mk (gL hg BK231.out); have n6_ := Aside0.mk (gG hg BK231.out); clear BK231; clear HB; have BK231 := n0_; have HB := n1_; have BK232 := n2_; have GW232 := n3_; have GE232 := n4_; have NB231_232 := n5_; have NB232_231 := n6_; clear n0_ n1_ n2_ n3_ n4_ n5_ n6_; clear hb hbox hg) | ((with_reducible refine gate_dst (N := 5) rfl ?_); refine bE 5 #[.int .i64 0, .int .i64 0, .int .i64 0] 31 ?_; intro gb233 hg w25 hbox hb; have n0_ := Aside0.mk (kB BK231.out hb); have n1_ := Aside0.mk (kB BK232.out hb); have n2_ := Aside0.mk (below_step aH hb); have n3_ := Aside0.mk (hbox); have n4_ := Aside0.mk ((gS hg : w.heap.size ≤ gb233)); have n5_ := Aside0.mk ((gS hg : w.heap.size ≤ gb233)); have n6_ := Aside0.mk (gL hg BK231.out); have n7_ := Aside0.mk (gG hg BK231.out); have n8_ := Aside0.mk (gL hg BK232.out); have n9_ := Aside0.mk (gG hg BK232.out); clear BK231; clear BK232; clear HB; have BK231 := n0_; have BK232 := n1_; have HB := n2_; have BK233 := n3_; have GW233 := n4_; have GE233 := n5_; have NB231_233 := n6_; have NB233_231 := n7_; have NB232_233 := n8_; have NB233_232 := n9_; clear n0_ n1_ n2_ n3_ n4_ n5_ n6_ n7_ n8_ n9_; clear hb hbox hg; have hnb26 := NB231_232.out; have hnc26 := NB232_231.out; have hnb27 := NB231_233.out; have hnc27 := NB233_231.out; have hcz28_0 : w25.cell? ⟨gb231, 0, none⟩ = some (.int .i64 0) := cR BK231.out 0; have hcz28_1 : w25.cell? ⟨gb231, 1, none⟩ = some (.int .i64 0) := cR BK231.out 1; have hcz28_2 : w25.cell? ⟨gb231, 2, none⟩ = some (.int .i64 0) := cR BK231.out 2; have hfz28_0 := blk_frozen BK231.out 0; have hfz28_1 := blk_frozen BK231.out 1; have hfz28_2 := blk_frozen BK231.out 2; have hnb29 := NB232_233.out; have hnc29 := NB233_232.out; have hcz30_0 : w25.cell? ⟨gb232, 0, none⟩ = some (.int .i64 0) := cR BK232.out 0; have hcz30_1 : w25.cell? ⟨gb232, 1, none⟩ = some (.int .i64 0) := cR BK232.out 1; have hcz30_2 : w25.cell? ⟨gb232, 2, none⟩ = some (.int .i64 0) := cR BK232.out 2; have hfz30_0 := blk_frozen BK232.out 0; have hfz30_1 := blk_frozen BK232.out 1; have hfz30_2 := blk_frozen BK232.out 2; have hcz31_0 : w25.cell? ⟨gb233, 0, none⟩ = some (.int .i64 0) := cR BK233.out 0; have hcz31_1 : w25.cell? ⟨gb233, 1, none⟩ = some (.int .i64 0) := cR BK233.out 1; have hcz31_2 : w25.cell? ⟨gb233, 2, none⟩ = some (.int .i64 0) := cR BK233.out 2; have hfz31_0 := blk_frozen BK233.out 0; have hfz31_1 := blk_frozen BK233.out 1; have hfz31_2 := blk_frozen BK233.out 2) | ((with_reducible refine gate_dst (N := 6) rfl ?_); refine bE 6 #[.int .i64 0, .int .i64 0] 29 ?_; intro gb234 hg w32 hbox hb; have n0_ := Aside0.mk (blk_below (g := gb231) (o := .cells #[.int .i64 t222, .int .i64 t223, .int .i64 t224] 31 (0, 0)) (by (with_reducible repeat (first | refine blk_drewN ?_ _ | refine blk_drew ?_ | refine blk_alloc ?_ _)); refine blk_far ?_ NB231_233.out _; (with_reducible repeat (first | refine blk_drewN ?_ _ | refine blk_drew ?_ | refine blk_alloc ?_ _)); refine blk_far ?_ NB231_233.out _; (with_reducible repeat (first | refine blk_drewN ?_ _ | refine blk_drew ?_ | refine blk_alloc ?_ _)); refine blk_far ?_ NB231_233.out _; (with_reducible repeat (first | refine blk_drewN ?_ _ | refine blk_drew ?_ | refine blk_alloc ?_ _)); refine blk_far ?_ NB231_232.out _; (with_reducible repeat (first | refine blk_drewN ?_ _ | refine blk_drew ?_ | refine blk_alloc ?_ _)); refine blk_far ?_ NB231_232.out _; (with_reducible repeat (first | refine blk_drewN ?_ _ | refine blk_drew ?_ | refine blk_alloc ?_ _)); refine blk_far ?_ NB231_232.out _; (with_reducible repeat (first | refine blk_drewN ?_ _ | refine blk_drew ?_ | refine blk_alloc ?_ _)); refine blk_put (cs := #[.int .i64 t222, .int .i64 t223, .int .i64 0]) ?_ 2 _ rfl; (with_reducible repeat (first | refine blk_drewN ?_ _ | refine blk_drew ?_ | refine blk_alloc ?_ _)); refine blk_put (cs := #[.int .i64 t222, .int .i64 0, .int .i64 0]) ?_ 1 _ rfl; (with_reducible repeat (first | refine blk_drewN ?_ _ | refine blk_drew ?_ | refine blk_alloc ?_ _)); refine blk_put (cs := #[.int .i64 0, .int .i64 0, .int .i64 0]) ?_ 0 _ rfl; (with_reducible repeat (first | refine blk_drewN ?_ _ | refine blk_drew ?_ | refine blk_alloc ?_ _)); exact BK231.out) hb); have n1_ := Aside0.mk (blk_below (g := gb232) (o := .cells #[.int .i64 t225, .int .i64 t226, .int .i64 t227] 31 (0, 0)) (by (with_reducible repeat (first | refine blk_drewN ?_ _ | refine blk_drew ?_ | refine blk_alloc ?_ _)); refine blk_far ?_ NB232_233.out _; (with_reducible repeat (first | refine blk_drewN ?_ _ | refine blk_drew ?_ | refine blk_alloc ?_ _)); refine blk_far ?_ NB232_233.out _; (with_reducible repeat (first | refine blk_drewN ?_ _ | refine blk_drew ?_ | refine blk_alloc ?_ _)); refine blk_far ?_ NB232_233.out _; (with_reducible repeat (first | refine blk_drewN ?_ _ | refine blk_drew ?_ | refine blk_alloc ?_ _)); refine blk_put (cs := #[.int .i64 t225, .int .i64 t226, .int .i64 0]) ?_ 2 _ rfl; (with_reducible repeat (first | refine blk_drewN ?_ _ | refine blk_drew ?_ | refine blk_alloc ?_ _)); refine blk_put (cs := #[.int .i64 t225, .int .i64 0, .int .i64 0]) ?_ 1 _ rfl; (with_reducible repeat (first | refine blk_drewN ?_ _ | refine blk_drew ?_ | refine blk_alloc ?_ _)); refine blk_put (cs := #[.int .i64 0, .int .i64 0, .int .i64 0]) ?_ 0 _ rfl; (with_reducible repeat (first | refine blk_drewN ?_ _ | refine blk_drew ?_ | refine blk_alloc ?_ _)); refine blk_far ?_ NB232_231.out _; (with_reducible repeat (first | refine blk_drewN ?_ _ | refine blk_drew ?_ | refine blk_alloc ?_ _)); refine blk_far ?_ NB232_231.out _; (with_reducible repeat (first | refine blk_drewN ?_ _ | refine blk_drew ?_ | refine blk_alloc ?_ _)); refine blk_far ?_ NB232_231.out _; (with_reducible repeat (first | refine blk_drewN ?_ _ | refine blk_drew ?_ | refine blk_alloc ?_ _)); exact BK232.out) hb); have n2_ := Aside0.mk (blk_below (g := gb233) (o := .cells #[.int .i64 t228, .int .i64 t229, .int .i64 t230] 31 (0, 0)) (by (with_reducible repeat (first | refine blk_drewN ?_ _ | refine blk_drew ?_ | refine blk_alloc ?_ _)); refine blk_put (cs := #[.int .i64 t228, .int .i64 t229, .int .i64 0]) ?_ 2 _ rfl; (with_reducible repeat (first | refine blk_drewN ?_ _ | refine blk_drew ?_ | refine blk_alloc ?_ _)); refine blk_put (cs := #[.int .i64 t228, .int .i64 0, .int .i64 0]) ?_ 1 _ rfl; (with_reducible repeat (first | refine blk_drewN ?_ _ | refine blk_drew ?_ | refine blk_alloc ?_ _)); refine blk_put (cs := #[.int .i64 0, .int .i64 0, .int .i64 0]) ?_ 0 _ rfl; (with_reducible repeat (first | refine blk_drewN ?_ _ | refine blk_drew ?_ | refine blk_alloc ?_ _)); refine blk_far ?_ NB233_232.out _; (with_reducible repeat (first | refine blk_drewN ?_ _ | refine blk_drew ?_ | refine blk_alloc ?_ _)); refine blk_far ?_ NB233_232.out _; (with_reducible repeat (first | refine blk_drewN ?_ _ | refine blk_drew ?_ | refine blk_alloc ?_ _)); refine blk_far ?_ NB233_232.out _; (with_reducible repeat (first | refine blk_drewN ?_ _ | refine blk_drew ?_ | refine blk_alloc ?_ _)); refine blk_far ?_ NB233_231.out _; (with_reducible repeat (first | refine blk_drewN ?_ _ | refine blk_drew ?_ | refine blk_alloc ?_ _)); refine blk_far ?_ NB233_231.out _; (with_reducible repeat (first | refine blk_drewN ?_ _ | refine blk_drew ?_ | refine blk_alloc ?_ _)); refine blk_far ?_ NB233_231.out _; (with_reducible repeat (first | refine blk_drewN ?_ _ | refine blk_drew ?_ | refine blk_alloc ?_ _)); exact BK233.out) hb); have n3_ := Aside0.mk (below_step aH hb); have n4_ := Aside0.mk (hbox); have n5_ := Aside0.mk ((gS hg : w.heap.size ≤ gb234)); have n6_ := Aside0.mk ((gS hg : w.heap.size ≤ gb234)); have n7_ := Aside0.mk ((by rw [hg]; exact Nat.ne_of_lt (blk_lt (g := gb231) (o := .cells #[.int .i64 t222, .int .i64 t223, .int .i64 t224] 31 (0, 0)) (by (with_reducible repeat (first | refine blk_drewN ?_ _ | refine blk_drew ?_ | refine blk_alloc ?_ _)); refine blk_far ?_ NB231_233.out _; (with_reducible repeat (first | refine blk_drewN ?_ _ | refine blk_drew ?_ | refine blk_alloc ?_ _)); refine blk_far ?_ NB231_233.out _; (with_reducible repeat (first | refine blk_drewN ?_ _ | refine blk_drew ?_ | refine blk_alloc ?_ _)); refine blk_far ?_ NB231_233.out _; (with_reducible repeat (first | refine blk_drewN ?_ _ | refine blk_drew ?_ | refine blk_alloc ?_ _)); refine blk_far ?_ NB231_232.out _; (with_reducible repeat (first | refine blk_drewN ?_ _ | refine blk_drew ?_ | refine blk_alloc ?_ _)); refine blk_far ?_ NB231_232.out _; (with_reducible repeat (first | refine blk_drewN ?_ _ | refine blk_drew ?_ | refine blk_alloc ?_ _)); refine blk_far ?_ NB231_232.out _; (with_reducible repeat (first | refine blk_drewN ?_ _ | refine blk_drew ?_ | refine blk_alloc ?_ _)); refine blk_put (cs := #[.int .i64 t222, .int .i64 t223, .int .i64 0]) ?_ 2 _ rfl; (with_reducible repeat (first | refine blk_drewN ?_ _ | refine blk_drew ?_ | refine blk_alloc ?_ _)); refine blk_put (cs := #[.int .i64 t222, .int .i64 0, .int .i64 0]) ?_ 1 _ rfl; (with_reducible repeat (first | refine blk_drewN ?_ _ | refine blk_drew ?_ | refine blk_alloc ?_ _)); refine blk_put (cs := #[.int .i64 0, .int .i64 0, .int .i64 0]) ?_ 0 _ rfl; (with_reducible repeat (first | refine blk_drewN ?_ _ | refine blk_drew ?_ | refine blk_alloc ?_ _)); exact BK231.out)) : gb231 ≠ gb234)); have n8_ := Aside0.mk ((by rw [hg]; exact Nat.ne_of_gt (blk_lt (g := gb231) (o := .cells #[.int .i64 t222, .int .i64 t223, .int .i64 t224] 31 (0, 0)) (by (with_reducible repeat (first | refine blk_drewN ?_ _ | refine blk_drew ?_ | refine blk_alloc ?_ _)); refine blk_far ?_ NB231_233.out _; (with_reducible repeat (first | refine blk_drewN ?_ _ | refine blk_drew ?_ | refine blk_alloc ?_ _)); refine blk_far ?_ NB231_233.out _; (with_reducible repeat (first | refine blk_drewN ?_ _ | refine blk_drew ?_ | refine blk_alloc ?_ _)); refine blk_far ?_ NB231_233.out _; (with_reducible repeat (first | refine blk_drewN ?_ _ | refine blk_drew ?_ | refine blk_alloc ?_ _)); refine blk_far ?_ NB231_232.out _; (with_reducible repeat (first | refine blk_drewN ?_ _ | refine blk_drew ?_ | refine blk_alloc ?_ _)); refine blk_far ?_ NB231_232.out _; (with_reducible repeat (first | refine blk_drewN ?_ _ | refine blk_drew ?_ | refine blk_alloc ?_ _)); refine blk_far ?_ NB231_232.out _; (with_reducible repeat (first | refine blk_drewN ?_ _ | refine blk_drew ?_ | refine blk_alloc ?_ _)); refine blk_put (cs := #[.int .i64 t222, .int .i64 t223, .int .i64 0]) ?_ 2 _ rfl; (with_reducible repeat (first | refine blk_drewN ?_ _ | refine blk_drew ?_ | refine blk_alloc ?_ _)); refine blk_put (cs := #[.int .i64 t222, .int .i64 0, .int .i64 0]) ?_ 1 _ rfl; (with_reducible repeat (first | refine blk_drewN ?_ _ | refine blk_drew ?_ | refine blk_alloc ?_ _)); refine blk_put (cs := #[.int .i64 0, .int .i64 0, .int .i64 0]) ?_ 0 _ rfl; (with_reducible repeat (first | refine blk_drewN ?_ _ | refine blk_drew ?_ | refine blk_alloc ?_ _)); exact BK231.out)) : gb234 ≠ gb231)); have n9_ := Aside0.mk ((by rw [hg]; exact Nat.ne_of_lt (blk_lt (g := gb232) (o := .cells #[.int .i64 t225, .int .i64 t226, .int .i64 t227] 31 (0, 0)) (by (with_reducible repeat (first | refine blk_drewN ?_ _ | refine blk_drew ?_ | refine blk_alloc ?_ _)); refine blk_far ?_ NB232_233.out _; (with_reducible repeat (first | refine blk_drewN ?_ _ | refine blk_drew ?_ | refine blk_alloc ?_ _)); refine blk_far ?_ NB232_233.out _; (with_reducible repeat (first | refine blk_drewN ?_ _ | refine blk_drew ?_ | refine blk_alloc ?_ _)); refine blk_far ?_ NB232_233.out _; (with_reducible repeat (first | refine blk_drewN ?_ _ | refine blk_drew ?_ | refine blk_alloc ?_ _)); refine blk_put (cs := #[.int .i64 t225, .int .i64 t226, .int .i64 0]) ?_ 2 _ rfl; (with_reducible repeat (first | refine blk_drewN ?_ _ | refine blk_drew ?_ | refine blk_alloc ?_ _)); refine blk_put (cs := #[.int .i64 t225, .int .i64 0, .int .i64 0]) ?_ 1 _ rfl; (with_reducible repeat (first | refine blk_drewN ?_ _ | refine blk_drew ?_ | refine blk_alloc ?_ _)); refine blk_put (cs := #[.int .i64 0, .int .i64 0, .int .i64 0]) ?_ 0 _ rfl; (with_reducible repeat (first | refine blk_drewN ?_ _ | refine blk_drew ?_ | refine blk_alloc ?_ _)); refine blk_far ?_ NB232_231.out _; (with_reducible repeat (first | refine blk_drewN ?_ _ | refine blk_drew ?_ | refine blk_alloc ?_ _)); refine blk_far ?_ NB232_231.out _; (with_reducible repeat (first | refine blk_drewN ?_ _ | refine blk_drew ?_ | refine blk_alloc ?_ _)); refine blk_far ?_ NB232_231.out _; (with_reducible repeat (first | refine blk_drewN ?_ _ | refine blk_drew ?_ | refine blk_alloc ?_ _)); exact BK232.out)) : gb232 ≠ gb234)); have n10_ := Aside0.mk ((by rw [hg]; exact Nat.ne_of_gt (blk_lt (g := gb232) (o := .cells #[.int .i64 t225, .int .i64 t226, .int .i64 t227] 31 (0, 0)) (by (with_reducible repeat (first | refine blk_drewN ?_ _ | refine blk_drew ?_ | refine blk_alloc ?_ _)); refine blk_far ?_ NB232_233.out _; (with_reducible repeat (first | refine blk_drewN ?_ _ | refine blk_drew ?_ | refine blk_alloc ?_ _)); refine blk_far ?_ NB232_233.out _; (with_reducible repeat (first | refine blk_drewN ?_ _ | refine blk_drew ?_ | refine blk_alloc ?_ _)); refine blk_far ?_ NB232_233.out _; (with_reducible repeat (first | refine blk_drewN ?_ _ | refine blk_drew ?_ | refine blk_alloc ?_ _)); refine blk_put (cs := #[.int .i64 t225, .int .i64 t226, .int .i64 0]) ?_ 2 _ rfl; (with_reducible repeat (first | refine blk_drewN ?_ _ | refine blk_drew ?_ | refine blk_alloc ?_ _)); refine blk_put (cs := #[.int .i64 t225, .int .i64 0, .int .i64 0]) ?_ 1 _ rfl; (with_reducible repeat (first | refine blk_drewN ?_ _ | refine blk_drew ?_ | refine blk_alloc ?_ _)); refine blk_put (cs := #[.int .i64 0, .int .i64 0, .int .i64 0]) ?_ 0 _ rfl; (with_reducible repeat (first | refine blk_drewN ?_ _ | refine blk_drew ?_ | refine blk_alloc ?_ _)); refine blk_far ?_ NB232_231.out _; (with_reducible repeat (first | refine blk_drewN ?_ _ | refine blk_drew ?_ | refine blk_alloc ?_ _)); refine blk_far ?_ NB232_231.out _; (with_reducible repeat (first | refine blk_drewN ?_ _ | refine blk_drew ?_ | refine blk_alloc ?_ _)); refine blk_far ?_ NB232_231.out _; (with_reducible repeat (first | refine blk_drewN ?_ _ | refine blk_drew ?_ | refine blk_alloc ?_ _)); exact BK232.out)) : gb234 ≠ gb232)); have n11_ := Aside0.mk ((by rw [hg]; exact Nat.ne_of_lt (blk_lt (g := gb233) (o := .cells #[.int .i64 t228, .int .i64 t229, .int .i64 t230] 31 (0, 0)) (by (with_reducible repeat (first | refine blk_drewN ?_ _ | refine blk_drew ?_ | refine blk_alloc ?_ _)); refine blk_put (cs := #[.int .i64 t228, .int .i64 t229, .int .i64 0]) ?_ 2 _ rfl; (with_reducible repeat (first | refine blk_drewN ?_ _ | refine blk_drew ?_ | refine blk_alloc ?_ _)); refine blk_put (cs := #[.int .i64 t228, .int .i64 0, .int .i64 0]) ?_ 1 _ rfl; (with_reducible repeat (first | refine blk_drewN ?_ _ | refine blk_drew ?_ | refine blk_alloc ?_ _)); refine blk_put (cs := #[.int .i64 0, .int .i64 0, .int .i64 0]) ?_ 0 _ rfl; (with_reducible repeat (first | refine blk_drewN ?_ _ | refine blk_drew ?_ | refine blk_alloc ?_ _)); refine blk_far ?_ NB233_232.out _; (with_reducible repeat (first | refine blk_drewN ?_ _ | refine blk_drew ?_ | refine blk_alloc ?_ _)); refine blk_far ?_ NB233_232.out _; (with_reducible repeat (first | refine blk_drewN ?_ _ | refine blk_drew ?_ | refine blk_alloc ?_ _)); refine blk_far ?_ NB233_232.out _; (with_reducible repeat (first | refine blk_drewN ?_ _ | refine blk_drew ?_ | refine blk_alloc ?_ _)); refine blk_far ?_ NB233_231.out _; (with_reducible repeat (first | refine blk_drewN ?_ _ | refine blk_drew ?_ | refine blk_alloc ?_ _)); refine blk_far ?_ NB233_231.out _; (with_reducible repeat (first | refine blk_drewN ?_ _ | refine blk_drew ?_ | refine blk_alloc ?_ _)); refine blk_far ?_ NB233_231.out _; (with_reducible repeat (first | refine blk_drewN ?_ _ | refine blk_drew ?_ | refine blk_alloc ?_ _)); exact BK233.out)) : gb233 ≠ gb234)); have n12_ := Aside0.mk ((by rw [hg]; exact Nat.ne_of_gt (blk_lt (g := gb233) (o := .cells #[.int .i64 t228, .int .i64 t229, .int .i64 t230] 31 (0, 0)) (by (with_reducible repeat (first | refine blk_drewN ?_ _ | refine blk_drew ?_ | refine blk_alloc ?_ _)); refine blk_put (cs := #[.int .i64 t228, .int .i64 t229, .int .i64 0]) ?_ 2 _ rfl; (with_reducible repeat (first | refine blk_drewN ?_ _ | refine blk_drew ?_ | refine blk_alloc ?_ _)); refine blk_put (cs := #[.int .i64 t228, .int .i64 0, .int .i64 0]) ?_ 1 _ rfl; (with_reducible repeat (first | refine blk_drewN ?_ _ | refine blk_drew ?_ | refine blk_alloc ?_ _)); refine blk_put (cs := #[.int .i64 0, .int .i64 0, .int .i64 0]) ?_ 0 _ rfl; (with_reducible repeat (first | refine blk_drewN ?_ _ | refine blk_drew ?_ | refine blk_alloc ?_ _)); refine blk_far ?_ NB233_232.out _; (with_reducible repeat (first | refine blk_drewN ?_ _ | refine blk_drew ?_ | refine blk_alloc ?_ _)); refine blk_far ?_ NB233_232.out _; (with_reducible repeat (first | refine blk_drewN ?_ _ | refine blk_drew ?_ | refine blk_alloc ?_ _)); refine blk_far ?_ NB233_232.out _; (with_reducible repeat (first | refine blk_drewN ?_ _ | refine blk_drew ?_ | refine blk_alloc ?_ _)); refine blk_far ?_ NB233_231.out _; (with_reducible repeat (first | refine blk_drewN ?_ _ | refine blk_drew ?_ | refine blk_alloc ?_ _)); refine blk_far ?_ NB233_231.out _; (with_reducible repeat (first | refine blk_drewN ?_ _ | refine blk_drew ?_ | refine blk_alloc ?_ _)); refine blk_far ?_ NB233_231.out _; (with_reducible repeat (first | refine blk_drewN ?_ _ | refine blk_drew ?_ | refine blk_alloc ?_ _)); exact BK233.out)) : gb234 ≠ gb233)); clear BK231; clear BK232; clear BK233; clear HB; have BK231 := n0_; have BK232 := n1_; have BK233 := n2_; have HB := n3_; have BK234 := n4_; have GW234 := n5_; have GE234 := n6_; have NB231_234 := n7_; have NB234_231 := n8_; have NB232_234 := n9_; have NB234_232 := n10_; have NB233_234 := n11_; have NB234_233 := n12_; clear n0_ n1_ n2_ n3_ n4_ n5_ n6_ n7_ n8_ n9_ n10_ n11_ n12_; clear hb hbox hg; have hnb33 := NB234_231.out; have hnc33 := NB231_234.out; have hnb34 := NB234_232.out; have hnc34 := NB232_234.out; have hnb35 := NB234_233.out; have hnc35 := NB233_234.out; have hcz36_0 : w32.cell? ⟨gb234, 0, none⟩ = some (.int .i64 0) := cR BK234.out 0; have hcz36_1 : w32.cell? ⟨gb234, 1, none⟩ = some (.int .i64 0) := cR BK234.out 1; have hfz36_0 := blk_frozen BK234.out 0; have hfz36_1 := blk_frozen BK234.out 1; have hcz37_0 : w32.cell? ⟨gb232, 0, none⟩ = some (.int .i64 t225) := cR BK232.out 0; have hcz37_1 : w32.cell? ⟨gb232, 1, none⟩ = some (.int .i64 t226) := cR BK232.out 1; have hcz37_2 : w32.cell? ⟨gb232, 2, none⟩ = some (.int .i64 t227) := cR BK232.out 2; have hfz37_0 := blk_frozen BK232.out 0; have hfz37_1 := blk_frozen BK232.out 1; have hfz37_2 := blk_frozen BK232.out 2) | ((with_reducible refine gate_dst (N := 7) rfl ?_); refine bE 7 #[.int .i64 0, .int .i64 0] 29 ?_; intro gb235 hg w38 hbox hb; have n0_ := Aside0.mk (blk_below (g := gb231) (o := .cells #[.int .i64 t222, .int .i64 t223, .int .i64 t224] 31 (0, 0)) (by (with_reducible repeat (first | refine blk_drewN ?_ _ | refine blk_drew ?_ | refine blk_alloc ?_ _)); refine blk_far ?_ NB231_234.out _; (with_reducible repeat (first | refine blk_drewN ?_ _ | refine blk_drew ?_ | refine blk_alloc ?_ _)); refine blk_far ?_ NB231_234.out _; (with_reducible repeat (first | refine blk_drewN ?_ _ | refine blk_drew ?_ | refine blk_alloc ?_ _)); exact BK231.out) hb); have n1_ := Aside0.mk (blk_below (g := gb232) (o := .cells #[.int .i64 t225, .int .i64 t226, .int .i64 t227] 31 (0, 0)) (by (with_reducible repeat (first | refine blk_drewN ?_ _ | refine blk_drew ?_ | refine blk_alloc ?_ _)); refine blk_far ?_ NB232_234.out _; (with_reducible repeat (first | refine blk_drewN ?_ _ | refine blk_drew ?_ | refine blk_alloc ?_ _)); refine blk_far ?_ NB232_234.out _; (with_reducible repeat (first | refine blk_drewN ?_ _ | refine blk_drew ?_ | refine blk_alloc ?_ _)); exact BK232.out) hb); have n2_ := Aside0.mk (blk_below (g := gb233) (o := .cells #[.int .i64 t228, .int .i64 t229, .int .i64 t230] 31 (0, 0)) (by (with_reducible repeat (first | refine blk_drewN ?_ _ | refine blk_drew ?_ | refine blk_alloc ?_ _)); refine blk_far ?_ NB233_234.out _; (with_reducible repeat (first | refine blk_drewN ?_ _ | refine blk_drew ?_ | refine blk_alloc ?_ _)); refine blk_far ?_ NB233_234.out _; (with_reducible repeat (first | refine blk_drewN ?_ _ | refine blk_drew ?_ | refine blk_alloc ?_ _)); exact BK233.out) hb); have n3_ := Aside0.mk (blk_below (g := gb234) (o := .cells #[.int .i64 t223, .int .i64 t224] 29 (0, 0)) (by (with_reducible repeat (first | refine blk_drewN ?_ _ | refine blk_drew ?_ | refine blk_alloc ?_ _)); refine blk_put (cs := #[.int .i64 t223, .int .i64 0]) ?_ 1 _ rfl; (with_reducible repeat (first | refine blk_drewN ?_ _ | refine blk_drew ?_ | refine blk_alloc ?_ _)); refine blk_put (cs := #[.int .i64 0, .int .i64 0]) ?_ 0 _ rfl; (with_reducible repeat (first | refine blk_drewN ?_ _ | refine blk_drew ?_ | refine blk_alloc ?_ _)); exact BK234.out) hb); have n4_ := Aside0.mk (below_step aH hb); have n5_ := Aside0.mk (hbox); have n6_ := Aside0.mk ((gS hg : w.heap.size ≤ gb235)); have n7_ := Aside0.mk ((gS hg : w.heap.size ≤ gb235)); have n8_ := Aside0.mk ((by rw [hg]; exact Nat.ne_of_lt (blk_lt (g := gb231) (o := .cells #[.int .i64 t222, .int .i64 t223, .int .i64 t224] 31 (0, 0)) (by (with_reducible repeat (first | refine blk_drewN ?_ _ | refine blk_drew ?_ | refine blk_alloc ?_ _)); refine blk_far ?_ NB231_234.out _; (with_reducible repeat (first | refine blk_drewN ?_ _ | refine blk_drew ?_ | refine blk_alloc ?_ _)); refine blk_far ?_ NB231_234.out _; (with_reducible repeat (first | refine blk_drewN ?_ _ | refine blk_drew ?_ | refine blk_alloc ?_ _)); exact BK231.out)) : gb231 ≠ gb235)); have n9_ := Aside0.mk ((by rw [hg]; exact Nat.ne_of_gt (blk_lt (g := gb231) (o := .cells #[.int .i64 t222, .int .i64 t223, .int .i64 t224] 31 (0, 0)) (by (with_reducible repeat (first | refine blk_drewN ?_ _ | refine blk_drew ?_ | refine blk_alloc ?_ _)); refine blk_far ?_ NB231_234.out _; (with_reducible repeat (first | refine blk_drewN ?_ _ | refine blk_drew ?_ | refine blk_alloc ?_ _)); refine blk_far ?_ NB231_234.out _; (with_reducible repeat (first | refine blk_drewN ?_ _ | refine blk_drew ?_ | refine blk_alloc ?_ _)); exact BK231.out)) : gb235 ≠ gb231)); have n10_ := Aside0.mk ((by rw [hg]; exact Nat.ne_of_lt (blk_lt (g := gb232) (o := .cells #[.int .i64 t225, .int .i64 t226, .int .i64 t227] 31 (0, 0)) (by (with_reducible repeat (first | refine blk_drewN ?_ _ | refine blk_drew ?_ | refine blk_alloc ?_ _)); refine blk_far ?_ NB232_234.out _; (with_reducible repeat (first | refine blk_drewN ?_ _ | refine blk_drew ?_ | refine blk_alloc ?_ _)); refine blk_far ?_ NB232_234.out _; (with_reducible repeat (first | refine blk_drewN ?_ _ | refine blk_drew ?_ | refine blk_alloc ?_ _)); exact BK232.out)) : gb232 ≠ gb235)); have n11_ := Aside0.mk ((by rw [hg]; exact Nat.ne_of_gt (blk_lt (g := gb232) (o := .cells #[.int .i64 t225, .int .i64 t226, .int .i64 t227] 31 (0, 0)) (by (with_reducible repeat (first | refine blk_drewN ?_ _ | refine blk_drew ?_ | refine blk_alloc ?_ _)); refine blk_far ?_ NB232_234.out _; (with_reducible repeat (first | refine blk_drewN ?_ _ | refine blk_drew ?_ | refine blk_alloc ?_ _)); refine blk_far ?_ NB232_234.out _; (with_reducible repeat (first | refine blk_drewN ?_ _ | refine blk_drew ?_ | refine blk_alloc ?_ _)); exact BK232.out)) : gb235 ≠ gb232)); have n12_ := Aside0.mk ((by rw [hg]; exact Nat.ne_of_lt (blk_lt (g := gb233) (o := .cells #[.int .i64 t228, .int .i64 t229, .int .i64 t230] 31 (0, 0)) (by (with_reducible repeat (first | refine blk_drewN ?_ _ | refine blk_drew ?_ | refine blk_alloc ?_ _)); refine blk_far ?_ NB233_234.out _; (with_reducible repeat (first | refine blk_drewN ?_ _ | refine blk_drew ?_ | refine blk_alloc ?_ _)); refine blk_far ?_ NB233_234.out _; (with_reducible repeat (first | refine blk_drewN ?_ _ | refine blk_drew ?_ | refine blk_alloc ?_ _)); exact BK233.out)) : gb233 ≠ gb235)); have n13_ := Aside0.mk ((by rw [hg]; exact Nat.ne_of_gt (blk_lt (g := gb233) (o := .cells #[.int .i64 t228, .int .i64 t229, .int .i64 t230] 31 (0, 0)) (by (with_reducible repeat (first | refine blk_drewN ?_ _ | refine blk_drew ?_ | refine blk_alloc ?_ _)); refine blk_far ?_ NB233_234.out _; (with_reducible repeat (first | refine blk_drewN ?_ _ | refine blk_drew ?_ | refine blk_alloc ?_ _)); refine blk_far ?_ NB233_234.out _; (with_reducible repeat (first | refine blk_drewN ?_ _ | refine blk_drew ?_ | refine blk_alloc ?_ _)); exact BK233.out)) : gb235 ≠ gb233)); have n14_ := Aside0.mk ((by rw [hg]; exact Nat.ne_of_lt (blk_lt (g := gb234) (o := .cells #[.int .i64 t223, .int .i64 t224] 29 (0, 0)) (by (with_reducible repeat (first | refine blk_drewN ?_ _ | refine blk_drew ?_ | refine blk_alloc ?_ _)); refine blk_put (cs := #[.int .i64 t223, .int .i64 0]) ?_ 1 _ rfl; (with_reducible repeat (first | refine blk_drewN ?_ _ | refine blk_drew ?_ | refine blk_alloc ?_ _)); refine blk_put (cs := #[.int .i64 0, .int .i64 0]) ?_ 0 _ rfl; (with_reducible repeat (first | refine blk_drewN ?_ _ | refine blk_drew ?_ | refine blk_alloc ?_ _)); exact BK234.out)) : gb234 ≠ gb235)); have n15_ := Aside0.mk ((by rw [hg]; exact Nat.ne_of_gt (blk_lt (g := gb234) (o := .cells #[.int .i64 t223, .int .i64 t224] 29 (0, 0)) (by (with_reducible repeat (first | refine blk_drewN ?_ _ | refine blk_drew ?_ | refine blk_alloc ?_ _)); refine blk_put (cs := #[.int .i64 t223, .int .i64 0]) ?_ 1 _ rfl; (with_reducible repeat (first | refine blk_drewN ?_ _ | refine blk_drew ?_ | refine blk_alloc ?_ _)); refine blk_put (cs := #[.int .i64 0, .int .i64 0]) ?_ 0 _ rfl; (with_reducible repeat (first | refine blk_drewN ?_ _ | refine blk_drew ?_ | refine blk_alloc ?_ _)); exact BK234.out)) : gb235 ≠ gb234)); clear BK231; clear BK232; clear BK233; clear BK234; clear HB; have BK231 := n0_; have BK232 := n1_; have BK233 := n2_; have BK234 := n3_; have HB := n4_; have BK235 := n5_; have GW235 := n6_; have GE235 := n7_; have NB231_235 := n8_; have NB235_231 := n9_; have NB232_235 := n10_; have NB235_232 := n11_; have NB233_235 := n12_; have NB235_233 := n13_; have NB234_235 := n14_; have NB235_234 := n15_; clear n0_ n1_ n2_ n3_ n4_ n5_ n6_ n7_ n8_ n9_ n10_ n11_ n12_ n13_ n14_ n15_; clear hb hbox hg; have hnb39 := NB235_231.out; have hnc39 := NB231_235.out; have hnb40 := NB235_232.out; have hnc40 := NB232_235.out; have hnb41 := NB235_233.out; have hnc41 := NB233_235.out; have hnb42 := NB235_234.out; have hnc42 := NB234_235.out; have hcz43_0 : w38.cell? ⟨gb235, 0, none⟩ = some (.int .i64 0) := cR BK235.out 0; have hcz43_1 : w38.cell? ⟨gb235, 1, none⟩ = some (.int .i64 0) := cR BK235.out 1; have hfz43_0 := blk_frozen BK235.out 0; have hfz43_1 := blk_frozen BK235.out 1; have hcz44_0 : w38.cell? ⟨gb233, 0, none⟩ = some (.int .i64 t228) := cR BK233.out 0; have hcz44_1 : w38.cell? ⟨gb233, 1, none⟩ = some (.int .i64 t229) := cR BK233.out 1; have hcz44_2 : w38.cell? ⟨gb233, 2, none⟩ = some (.int .i64 t230) := cR BK233.out 2; have hfz44_0 := blk_frozen BK233.out 0; have hfz44_1 := blk_frozen BK233.out 1; have hfz44_2 := blk_frozen BK233.out 2) | ((with_reducible refine gate_dst (N := 8) rfl ?_); refine bE 8 #[.int .i64 0, .int .i64 0] 29 ?_; intro gb236 hg w45 hbox hb; have n0_ := Aside0.mk (blk_below (g := gb231) (o := .cells #[.int .i64 t222, .int .i64 t223, .int .i64 t224] 31 (0, 0)) (by (with_reducible repeat (first | refine blk_drewN ?_ _ | refine blk_drew ?_ | refine blk_alloc ?_ _)); refine blk_far ?_ NB231_235.out _; (with_reducible repeat (first | refine blk_drewN ?_ _ | refine blk_drew ?_ | refine blk_alloc ?_ _)); refine blk_far ?_ NB231_235.out _; (with_reducible repeat (first | refine blk_drewN ?_ _ | refine blk_drew ?_ | refine blk_alloc ?_ _)); exact BK231.out) hb); have n1_ := Aside0.mk (blk_below (g := gb232) (o := .cells #[.int .i64 t225, .int .i64 t226, .int .i64 t227] 31 (0, 0)) (by (with_reducible repeat (first | refine blk_drewN ?_ _ | refine blk_drew ?_ | refine blk_alloc ?_ _)); refine blk_far ?_ NB232_235.out _; (with_reducible repeat (first | refine blk_drewN ?_ _ | refine blk_drew ?_ | refine blk_alloc ?_ _)); refine blk_far ?_ NB232_235.out _; (with_reducible repeat (first | refine blk_drewN ?_ _ | refine blk_drew ?_ | refine blk_alloc ?_ _)); exact BK232.out) hb); have n2_ := Aside0.mk (blk_below (g := gb233) (o := .cells #[.int .i64 t228, .int .i64 t229, .int .i64 t230] 31 (0, 0)) (by (with_reducible repeat (first | refine blk_drewN ?_ _ | refine blk_drew ?_ | refine blk_alloc ?_ _)); refine blk_far ?_ NB233_235.out _; (with_reducible repeat (first | refine blk_drewN ?_ _ | refine blk_drew ?_ | refine blk_alloc ?_ _)); refine blk_far ?_ NB233_235.out _; (with_reducible repeat (first | refine blk_drewN ?_ _ | refine blk_drew ?_ | refine blk_alloc ?_ _)); exact BK233.out) hb); have n3_ := Aside0.mk (blk_below (g := gb234) (o := .cells #[.int .i64 t223, .int .i64 t224] 29 (0, 0)) (by (with_reducible repeat (first | refine blk_drewN ?_ _ | refine blk_drew ?_ | refine blk_alloc ?_ _)); refine blk_far ?_ NB234_235.out _; (with_reducible repeat (first | refine blk_drewN ?_ _ | refine blk_drew ?_ | refine blk_alloc ?_ _)); refine blk_far ?_ NB234_235.out _; (with_reducible repeat (first | refine blk_drewN ?_ _ | refine blk_drew ?_ | refine blk_alloc ?_ _)); exact BK234.out) hb); have n4_ := Aside0.mk (blk_below (g := gb235) (o := .cells #[.int .i64 t226, .int .i64 t227] 29 (0, 0)) (by (with_reducible repeat (first | refine blk_drewN ?_ _ | refine blk_drew ?_ | refine blk_alloc ?_ _)); refine blk_put (cs := #[.int .i64 t226, .int .i64 0]) ?_ 1 _ rfl; (with_reducible repeat (first | refine blk_drewN ?_ _ | refine blk_drew ?_ | refine blk_alloc ?_ _)); refine blk_put (cs := #[.int .i64 0, .int .i64 0]) ?_ 0 _ rfl; (with_reducible repeat (first | refine blk_drewN ?_ _ | refine blk_drew ?_ | refine blk_alloc ?_ _)); exact BK235.out) hb); have n5_ := Aside0.mk (below_step aH hb); have n6_ := Aside0.mk (hbox); have n7_ := Aside0.mk ((gS hg : w.heap.size ≤ gb236)); have n8_ := Aside0.mk ((gS hg : w.heap.size ≤ gb236)); have n9_ := Aside0.mk ((by rw [hg]; exact Nat.ne_of_lt (blk_lt (g := gb231) (o := .cells #[.int .i64 t222, .int .i64 t223, .int .i64 t224] 31 (0, 0)) (by (with_reducible repeat (first | refine blk_drewN ?_ _ | refine blk_drew ?_ | refine blk_alloc ?_ _)); refine blk_far ?_ NB231_235.out _; (with_reducible repeat (first | refine blk_drewN ?_ _ | refine blk_drew ?_ | refine blk_alloc ?_ _)); refine blk_far ?_ NB231_235.out _; (with_reducible repeat (first | refine blk_drewN ?_ _ | refine blk_drew ?_ | refine blk_alloc ?_ _)); exact BK231.out)) : gb231 ≠ gb236)); have n10_ := Aside0.mk ((by rw [hg]; exact Nat.ne_of_gt (blk_lt (g := gb231) (o := .cells #[.int .i64 t222, .int .i64 t223, .int .i64 t224] 31 (0, 0)) (by (with_reducible repeat (first | refine blk_drewN ?_ _ | refine blk_drew ?_ | refine blk_alloc ?_ _)); refine blk_far ?_ NB231_235.out _; (with_reducible repeat (first | refine blk_drewN ?_ _ | refine blk_drew ?_ | refine blk_alloc ?_ _)); refine blk_far ?_ NB231_235.out _; (with_reducible repeat (first | refine blk_drewN ?_ _ | refine blk_drew ?_ | refine blk_alloc ?_ _)); exact BK231.out)) : gb236 ≠ gb231)); have n11_ := Aside0.mk ((by rw [hg]; exact Nat.ne_of_lt (blk_lt (g := gb232) (o := .cells #[.int .i64 t225, .int .i64 t226, .int .i64 t227] 31 (0, 0)) (by (with_reducible repeat (first | refine blk_drewN ?_ _ | refine blk_drew ?_ | refine blk_alloc ?_ _)); refine blk_far ?_ NB232_235.out _; (with_reducible repeat (first | refine blk_drewN ?_ _ | refine blk_drew ?_ | refine blk_alloc ?_ _)); refine blk_far ?_ NB232_235.out _; (with_reducible repeat (first | refine blk_drewN ?_ _ | refine blk_drew ?_ | refine blk_alloc ?_ _)); exact BK232.out)) : gb232 ≠ gb236)); have n12_ := Aside0.mk ((by rw [hg]; exact Nat.ne_of_gt (blk_lt (g := gb232) (o := .cells #[.int .i64 t225, .int .i64 t226, .int .i64 t227] 31 (0, 0)) (by (with_reducible repeat (first | refine blk_drewN ?_ _ | refine blk_drew ?_ | refine blk_alloc ?_ _)); refine blk_far ?_ NB232_235.out _; (with_reducible repeat (first | refine blk_drewN ?_ _ | refine blk_drew ?_ | refine blk_alloc ?_ _)); refine blk_far ?_ NB232_235.out _; (with_reducible repeat (first | refine blk_drewN ?_ _ | refine blk_drew ?_ | refine blk_alloc ?_ _)); exact BK232.out)) : gb236 ≠ gb232)); have n13_ := Aside0.mk ((by rw [hg]; exact Nat.ne_of_lt (blk_lt (g := gb233) (o := .cells #[.int .i64 t228, .int .i64 t229, .int .i64 t230] 31 (0, 0)) (by (with_reducible repeat (first | refine blk_drewN ?_ _ | refine blk_drew ?_ | refine blk_alloc ?_ _)); refine blk_far ?_ NB233_235.out _; (with_reducible repeat (first | refine blk_drewN ?_ _ | refine blk_drew ?_ | refine blk_alloc ?_ _)); refine blk_far ?_ NB233_235.out _; (with_reducible repeat (first | refine blk_drewN ?_ _ | refine blk_drew ?_ | refine blk_alloc ?_ _)); exact BK233.out)) : gb233 ≠ gb236)); have n14_ := Aside0.mk ((by rw [hg]; exact Nat.ne_of_gt (blk_lt (g := gb233) (o := .cells #[.int .i64 t228, .int .i64 t229, .int .i64 t230] 31 (0, 0)) (by (with_reducible repeat (first | refine blk_drewN ?_ _ | refine blk_drew ?_ | refine blk_alloc ?_ _)); refine blk_far ?_ NB233_235.out _; (with_reducible repeat (first | refine blk_drewN ?_ _ | refine blk_drew ?_ | refine blk_alloc ?_ _)); refine blk_far ?_ NB233_235.out _; (with_reducible repeat (first | refine blk_drewN ?_ _ | refine blk_drew ?_ | refine blk_alloc ?_ _)); exact BK233.out)) : gb236 ≠ gb233)); have n15_ := Aside0.mk ((by rw [hg]; exact Nat.ne_of_lt (blk_lt (g := gb234) (o := .cells #[.int .i64 t223, .int .i64 t224] 29 (0, 0)) (by (with_reducible repeat (first | refine blk_drewN ?_ _ | refine blk_drew ?_ | refine blk_alloc ?_ _)); refine blk_far ?_ NB234_235.out _; (with_reducible repeat (first | refine blk_drewN ?_ _ | refine blk_drew ?_ | refine blk_alloc ?_ _)); refine blk_far ?_ NB234_235.out _; (with_reducible repeat (first | refine blk_drewN ?_ _ | refine blk_drew ?_ | refine blk_alloc ?_ _)); exact BK234.out)) : gb234 ≠ gb236)); have n16_ := Aside0.mk ((by rw [hg]; exact Nat.ne_of_gt (blk_lt (g := gb234) (o := .cells #[.int .i64 t223, .int .i64 t224] 29 (0, 0)) (by (with_reducible repeat (first | refine blk_drewN ?_ _ | refine blk_drew ?_ | refine blk_alloc ?_ _)); refine blk_far ?_ NB234_235.out _; (with_reducible repeat (first | refine blk_drewN ?_ _ | refine blk_drew ?_ | refine blk_alloc ?_ _)); refine blk_far ?_ NB234_235.out _; (with_reducible repeat (first | refine blk_drewN ?_ _ | refine blk_drew ?_ | refine blk_alloc ?_ _)); exact BK234.out)) : gb236 ≠ gb234)); have n17_ := Aside0.mk ((by rw [hg]; exact Nat.ne_of_lt (blk_lt (g := gb235) (o := .cells #[.int .i64 t226, .int .i64 t227] 29 (0, 0)) (by (with_reducible repeat (first | refine blk_drewN ?_ _ | refine blk_drew ?_ | refine blk_alloc ?_ _)); refine blk_put (cs := #[.int .i64 t226, .int .i64 0]) ?_ 1 _ rfl; (with_reducible repeat (first | refine blk_drewN ?_ _ | refine blk_drew ?_ | refine blk_alloc ?_ _)); refine blk_put (cs := #[.int .i64 0, .int .i64 0]) ?_ 0 _ rfl; (with_reducible repeat (first | refine blk_drewN ?_ _ | refine blk_drew ?_ | refine blk_alloc ?_ _)); exact BK235.out)) : gb235 ≠ gb236)); have n18_ := Aside0.mk ((by rw [hg]; exact Nat.ne_of_gt (blk_lt (g := gb235) (o := .cells #[.int .i64 t226, .int .i64 t227] 29 (0, 0)) (by (with_reducible repeat (first | refine blk_drewN ?_ _ | refine blk_drew ?_ | refine blk_alloc ?_ _)); refine blk_put (cs := #[.int .i64 t226, .int .i64 0]) ?_ 1 _ rfl; (with_reducible repeat (first | refine blk_drewN ?_ _ | refine blk_drew ?_ | refine blk_alloc ?_ _)); refine blk_put (cs := #[.int .i64 0, .int .i64 0]) ?_ 0 _ rfl; (with_reducible repeat (first | refine blk_drewN ?_ _ | refine blk_drew ?_ | refine blk_alloc ?_ _)); exact BK235.out)) : gb236 ≠ gb235)); clear BK231; clear BK232; clear BK233; clear BK234; clear BK235; clear HB; have BK231 := n0_; have BK232 := n1_; have BK233 := n2_; have BK234 := n3_; have BK235 := n4_; have HB := n5_; have BK236 := n6_; have GW236 := n7_; have GE236 := n8_; have NB231_236 := n9_; have NB236_231 := n10_; have NB232_236 := n11_; have NB236_232 := n12_; have NB233_236 := n13_; have NB236_233 := n14_; have NB234_236 := n15_; have NB236_234 := n16_; have NB235_236 := n17_; have NB236_235 := n18_; clear n0_ n1_ n2_ n3_ n4_ n5_ n6_ n7_ n8_ n9_ n10_ n11_ n12_ n13_ n14_ n15_ n16_ n17_ n18_; clear hb hbox hg; have hnb46 := NB236_231.out; have hnc46 := NB231_236.out; have hnb47 := NB236_232.out; have hnc47 := NB232_236.out; have hnb48 := NB236_233.out; have hnc48 := NB233_236.out; have hnb49 := NB236_234.out; have hnc49 := NB234_236.out; have hnb50 := NB236_235.out; have hnc50 := NB235_236.out; have hcz51_0 : w45.cell? ⟨gb236, 0, none⟩ = some (.int .i64 0) := cR BK236.out 0; have hcz51_1 : w45.cell? ⟨gb236, 1, none⟩ = some (.int .i64 0) := cR BK236.out 1; have hfz51_0 := blk_frozen BK236.out 0; have hfz51_1 := blk_frozen BK236.out 1; have hcz52_0 : w45.cell? ⟨gb234, 0, none⟩ = some (.int .i64 t223) := cR BK234.out 0; have hcz52_1 : w45.cell? ⟨gb234, 1, none⟩ = some (.int .i64 t224) := cR BK234.out 1; have hfz52_0 := blk_frozen BK234.out 0; have hfz52_1 := blk_frozen BK234.out 1; have hcz53_0 : w45.cell? ⟨gb235, 0, none⟩ = some (.int .i64 t226) := cR BK235.out 0; have hcz53_1 : w45.cell? ⟨gb235, 1, none⟩ = some (.int .i64 t227) := cR BK235.out 1; have hfz53_0 := blk_frozen BK235.out 0; have hfz53_1 := blk_frozen BK235.out 1) | ((with_reducible refine gate_callee (f := 32) rfl ?_); refine gL_ (some 28) Try.func32 #[.agg #[.int .i64 t223, .int .i64 t224], .agg #[.int .i64 t226, .int .i64 t227]] ?_; (with_reducible refine (impl_Later.calls t223 t224 t226 t227 true _ A5.out).mono ?_); rintro e w54 ⟨rfl, hb⟩; refine ⟨_, rfl, ?_⟩; have n0_ := Aside0.mk (blk_below (g := gb231) (o := .cells #[.int .i64 t222, .int .i64 t223, .int .i64 t224] 31 (0, 0)) (by (with_reducible repeat (first | refine blk_drewN ?_ _ | refine blk_drew ?_ | refine blk_alloc ?_ _)); refine blk_far ?_ NB231_236.out _; (with_reducible repeat (first | refine blk_drewN ?_ _ | refine blk_drew ?_ | refine blk_alloc ?_ _)); refine blk_far ?_ NB231_236.out _; (with_reducible repeat (first | refine blk_drewN ?_ _ | refine blk_drew ?_ | refine blk_alloc ?_ _)); exact BK231.out) hb); have n1_ := Aside0.mk (blk_below (g := gb232) (o := .cells #[.int .i64 t225, .int .i64 t226, .int .i64 t227] 31 (0, 0)) (by (with_reducible repeat (first | refine blk_drewN ?_ _ | refine blk_drew ?_ | refine blk_alloc ?_ _)); refine blk_far ?_ NB232_236.out _; (with_reducible repeat (first | refine blk_drewN ?_ _ | refine blk_drew ?_ | refine blk_alloc ?_ _)); refine blk_far ?_ NB232_236.out _; (with_reducible repeat (first | refine blk_drewN ?_ _ | refine blk_drew ?_ | refine blk_alloc ?_ _)); exact BK232.out) hb); have n2_ := Aside0.mk (blk_below (g := gb233) (o := .cells #[.int .i64 t228, .int .i64 t229, .int .i64 t230] 31 (0, 0)) (by (with_reducible repeat (first | refine blk_drewN ?_ _ | refine blk_drew ?_ | refine blk_alloc ?_ _)); refine blk_far ?_ NB233_236.out _; (with_reducible repeat (first | refine blk_drewN ?_ _ | refine blk_drew ?_ | refine blk_alloc ?_ _)); refine blk_far ?_ NB233_236.out _; (with_reducible repeat (first | refine blk_drewN ?_ _ | refine blk_drew ?_ | refine blk_alloc ?_ _)); exact BK233.out) hb); have n3_ := Aside0.mk (blk_below (g := gb234) (o := .cells #[.int .i64 t223, .int .i64 t224] 29 (0, 0)) (by (with_reducible repeat (first | refine blk_drewN ?_ _ | refine blk_drew ?_ | refine blk_alloc ?_ _)); refine blk_far ?_ NB234_236.out _; (with_reducible repeat (first | refine blk_drewN ?_ _ | refine blk_drew ?_ | refine blk_alloc ?_ _)); refine blk_far ?_ NB234_236.out _; (with_reducible repeat (first | refine blk_drewN ?_ _ | refine blk_drew ?_ | refine blk_alloc ?_ _)); exact BK234.out) hb); have n4_ := Aside0.mk (blk_below (g := gb235) (o := .cells #[.int .i64 t226, .int .i64 t227] 29 (0, 0)) (by (with_reducible repeat (first | refine blk_drewN ?_ _ | refine blk_drew ?_ | refine blk_alloc ?_ _)); refine blk_far ?_ NB235_236.out _; (with_reducible repeat (first | refine blk_drewN ?_ _ | refine blk_drew ?_ | refine blk_alloc ?_ _)); refine blk_far ?_ NB235_236.out _; (with_reducible repeat (first | refine blk_drewN ?_ _ | refine blk_drew ?_ | refine blk_alloc ?_ _)); exact BK235.out) hb); have n5_ := Aside0.mk (blk_below (g := gb236) (o := .cells #[.int .i64 t229, .int .i64 t230] 29 (0, 0)) (by (with_reducible repeat (first | refine blk_drewN ?_ _ | refine blk_drew ?_ | refine blk_alloc ?_ _)); refine blk_put (cs := #[.int .i64 t229, .int .i64 0]) ?_ 1 _ rfl; (with_reducible repeat (first | refine blk_drewN ?_ _ | refine blk_drew ?_ | refine blk_alloc ?_ _)); refine blk_put (cs := #[.int .i64 0, .int .i64 0]) ?_ 0 _ rfl; (with_reducible repeat (first | refine blk_drewN ?_ _ | refine blk_drew ?_ | refine blk_alloc ?_ _)); exact BK236.out) hb); have n6_ := Aside0.mk (below_step aH hb); clear BK231; clear BK232; clear BK233; clear BK234; clear BK235; clear BK236; clear HB; have BK231 := n0_; have BK232 := n1_; have BK233 := n2_; have BK234 := n3_; have BK235 := n4_; have BK236 := n5_; have HB := n6_; clear n0_ n1_ n2_ n3_ n4_ n5_ n6_; (try clear hb); (try clear hb2); (try clear hk); (try clear hi); have hcz55_0 : w54.cell? ⟨gb235, 0, none⟩ = some (.int .i64 t226) := cR BK235.out 0; have hcz55_1 : w54.cell? ⟨gb235, 1, none⟩ = some (.int .i64 t227) := cR BK235.out 1; have hfz55_0 := blk_frozen BK235.out 0; have hfz55_1 := blk_frozen BK235.out 1; have hcz56_0 : w54.cell? ⟨gb234, 0, none⟩ = some (.int .i64 t223) := cR BK234.out 0; have hcz56_1 : w54.cell? ⟨gb234, 1, none⟩ = some (.int .i64 t224) := cR BK234.out 1; have hfz56_0 := blk_frozen BK234.out 0; have hfz56_1 := blk_frozen BK234.out 1) | ((with_reducible refine gate_callee (f := 32) rfl ?_); refine gL_ (some 31) Try.func32 #[.agg #[.int .i64 t226, .int .i64 t227], .agg #[.int .i64 t223, .int .i64 t224]] ?_; (with_reducible refine (impl_Later.calls t226 t227 t223 t224 false _ A6.out).mono ?_); rintro e w57 ⟨rfl, hb⟩; refine ⟨_, rfl, ?_⟩; have n0_ := Aside0.mk (kB BK231.out hb); have n1_ := Aside0.mk (kB BK232.out hb); have n2_ := Aside0.mk (kB BK233.out hb); have n3_ := Aside0.mk (kB BK234.out hb); have n4_ := Aside0.mk (kB BK235.out hb); have n5_ := Aside0.mk (kB BK236.out hb); have n6_ := Aside0.mk (below_step aH hb); clear BK231; clear BK232; clear BK233; clear BK234; clear BK235; clear BK236; clear HB; have BK231 := n0_; have BK232 := n1_; have BK233 := n2_; have BK234 := n3_; have BK235 := n4_; have BK236 := n5_; have HB := n6_; clear n0_ n1_ n2_ n3_ n4_ n5_ n6_; (try clear hb); (try clear hb2); (try clear hk); (try clear hi)) | ((with_reducible refine gate_callee (f := 33) rfl ?_); refine gL_ (some 33) Try.func33 #[.slice A0 l0.length c0] ?_; (with_reducible refine (spec_DrawRegOk.calls k _ _ l0 t239 t240 t241 _ ?side1 ?side2 A7.out).mono ?_); (case side1 => repeat (first | exact (Kd.C_below HR0.out HB.out) | (with_reducible refine Kd.C_alloc ?_ _) | (with_reducible refine Kd.C_drewN ?_ _) | (with_reducible refine Kd.C_drew ?_))); (case side2 => exact HC0.out); rintro e w58 ⟨rfl, hb⟩; refine ⟨_, rfl, ?_⟩; have n0_ := Aside0.mk (kB BK231.out hb); have n1_ := Aside0.mk (kB BK232.out hb); have n2_ := Aside0.mk (kB BK233.out hb); have n3_ := Aside0.mk (kB BK234.out hb); have n4_ := Aside0.mk (kB BK235.out hb); have n5_ := Aside0.mk (kB BK236.out hb); have n6_ := Aside0.mk (below_step aH hb); clear BK231; clear BK232; clear BK233; clear BK234; clear BK235; clear BK236; clear HB; have BK231 := n0_; have BK232 := n1_; have BK233 := n2_; have BK234 := n3_; have BK235 := n4_; have BK236 := n5_; have HB := n6_; clear n0_ n1_ n2_ n3_ n4_ n5_ n6_; (try clear hb); (try clear hb2); (try clear hk); (try clear hi)) | ((with_reducible refine gate_dst (N := 11) rfl ?_); refine bE 11 #[.int .i64 0, .int .i64 0, .int .i64 0] 31 ?_; intro gb242 hg w59 hbox hb; have n0_ := Aside0.mk (kB BK231.out hb); have n1_ := Aside0.mk (kB BK232.out hb); have n2_ := Aside0.mk (kB BK233.out hb); have n3_ := Aside0.mk (kB BK234.out hb); have n4_ := Aside0.mk (kB BK235.out hb); have n5_ := Aside0.mk (kB BK236.out hb); have n6_ := Aside0.mk (below_step aH hb); have n7_ := Aside0.mk (hbox); have n8_ := Aside0.mk ((gS hg : w.heap.size ≤ gb242)); have n9_ := Aside0.mk ((gS hg : w.heap.size ≤ gb242)); have n10_ := Aside0.mk (gL hg BK231.out); have n11_ := Aside0.mk (gG hg BK231.out); have n12_ := Aside0.mk (gL hg BK232.out); have n13_ := Aside0.mk (gG hg BK232.out); have n14_ := Aside0.mk (gL hg BK233.out); have n15_ := Aside0.mk (gG hg BK233.out); have n16_ := Aside0.mk (gL hg BK234.out); have n17_ := Aside0.mk (gG hg BK234.out); have n18_ := Aside0.mk (gL hg BK235.out); have n19_ := Aside0.mk (gG hg BK235.out); have n20_ := Aside0.mk (gL hg BK236.out); have n21_ := Aside0.mk (gG hg BK236.out); clear BK231; clear BK232; clear BK233; clear BK234; clear BK235; clear BK236; clear HB; have BK231 := n0_; have BK232 := n1_; have BK233 := n2_; have BK234 := n3_; have BK235 := n4_; have BK236 := n5_; have HB := n6_; have BK242 := n7_; have GW242 := n8_; have GE242 := n9_; have NB231_242 := n10_; have NB242_231 := n11_; have NB232_242 := n12_; have NB242_232 := n13_; have NB233_242 := n14_; have NB242_233 := n15_; have NB234_242 := n16_; have NB242_234 := n17_; have NB235_242 := n18_; have NB242_235 := n19_; have NB236_242 := n20_; have NB242_236 := n21_; clear n0_ n1_ n2_ n3_ n4_ n5_ n6_ n7_ n8_ n9_ n10_ n11_ n12_ n13_ n14_ n15_ n16_ n17_ n18_ n19_ n20_ n21_; clear hb hbox hg; have hnb60 := NB242_231.out; have hnc60 := NB231_242.out; have hnb61 := NB242_232.out; have hnc61 := NB232_242.out; have hnb62 := NB242_233.out; have hnc62 := NB233_242.out; have hnb63 := NB242_234.out; have hnc63 := NB234_242.out; have hnb64 := NB242_235.out; have hnc64 := NB235_242.out; have hnb65 := NB242_236.out; have hnc65 := NB236_242.out; have hcz66_0 : w59.cell? ⟨gb242, 0, none⟩ = some (.int .i64 0) := cR BK242.out 0; have hcz66_1 : w59.cell? ⟨gb242, 1, none⟩ = some (.int .i64 0) := cR BK242.out 1; have hcz66_2 : w59.cell? ⟨gb242, 2, none⟩ = some (.int .i64 0) := cR BK242.out 2; have hfz66_0 := blk_frozen BK242.out 0; have hfz66_1 := blk_frozen BK242.out 1; have hfz66_2 := blk_frozen BK242.out 2))
         have n0_ : Aside0 ((((w59.setCell ⟨gb242, 0, none⟩ (.int .i64 t239)).setCell ⟨gb242, 1, none⟩ (.int .i64 t240)).setCell ⟨gb242, 2, none⟩ (.int .i64 t241)).heap[gb231]? = some (.cells #[.int .i64 t222, .int .i64 t223, .int .i64 t224] 31 (0, 0))) := ⟨by (with_reducible repeat (first | refine blk_drewN ?_ _ | refine blk_drew ?_ | refine blk_alloc ?_ _)); refine blk_far ?_ NB231_242.out _; (with_reducible repeat (first | refine blk_drewN ?_ _ | refine blk_drew ?_ | refine blk_alloc ?_ _)); refine blk_far ?_ NB231_242.out _; (with_reducible repeat (first | refine blk_drewN ?_ _ | refine blk_drew ?_ | refine blk_alloc ?_ _)); refine blk_far ?_ NB231_242.out _; (with_reducible repeat (first | refine blk_drewN ?_ _ | refine blk_drew ?_ | refine blk_alloc ?_ _)); exact BK231.out⟩
         have n1_ : Aside0 ((((w59.setCell ⟨gb242, 0, none⟩ (.int .i64 t239)).setCell ⟨gb242, 1, none⟩ (.int .i64 t240)).setCell ⟨gb242, 2, none⟩ (.int .i64 t241)).heap[gb232]? = some (.cells #[.int .i64 t225, .int .i64 t226, .int .i64 t227] 31 (0, 0))) := ⟨by (with_reducible repeat (first | refine blk_drewN ?_ _ | refine blk_drew ?_ | refine blk_alloc ?_ _)); refine blk_far ?_ NB232_242.out _; (with_reducible repeat (first | refine blk_drewN ?_ _ | refine blk_drew ?_ | refine blk_alloc ?_ _)); refine blk_far ?_ NB232_242.out _; (with_reducible repeat (first | refine blk_drewN ?_ _ | refine blk_drew ?_ | refine blk_alloc ?_ _)); refine blk_far ?_ NB232_242.out _; (with_reducible repeat (first | refine blk_drewN ?_ _ | refine blk_drew ?_ | refine blk_alloc ?_ _)); exact BK232.out⟩
         have n2_ : Aside0 ((((w59.setCell ⟨gb242, 0, none⟩ (.int .i64 t239)).setCell ⟨gb242, 1, none⟩ (.int .i64 t240)).setCell ⟨gb242, 2, none⟩ (.int .i64 t241)).heap[gb233]? = some (.cells #[.int .i64 t228, .int .i64 t229, .int .i64 t230] 31 (0, 0))) := ⟨by (with_reducible repeat (first | refine blk_drewN ?_ _ | refine blk_drew ?_ | refine blk_alloc ?_ _)); refine blk_far ?_ NB233_242.out _; (with_reducible repeat (first | refine blk_drewN ?_ _ | refine blk_drew ?_ | refine blk_alloc ?_ _)); refine blk_far ?_ NB233_242.out _; (with_reducible repeat (first | refine blk_drewN ?_ _ | refine blk_drew ?_ | refine blk_alloc ?_ _)); refine blk_far ?_ NB233_242.out _; (with_reducible repeat (first | refine blk_drewN ?_ _ | refine blk_drew ?_ | refine blk_alloc ?_ _)); exact BK233.out⟩
         have n3_ : Aside0 ((((w59.setCell ⟨gb242, 0, none⟩ (.int .i64 t239)).setCell ⟨gb242, 1, none⟩ (.int .i64 t240)).setCell ⟨gb242, 2, none⟩ (.int .i64 t241)).heap[gb234]? = some (.cells #[.int .i64 t223, .int .i64 t224] 29 (0, 0))) := ⟨by (with_reducible repeat (first | refine blk_drewN ?_ _ | refine blk_drew ?_ | refine blk_alloc ?_ _)); refine blk_far ?_ NB234_242.out _; (with_reducible repeat (first | refine blk_drewN ?_ _ | refine blk_drew ?_ | refine blk_alloc ?_ _)); refine blk_far ?_ NB234_242.out _; (with_reducible repeat (first | refine blk_drewN ?_ _ | refine blk_drew ?_ | refine blk_alloc ?_ _)); refine blk_far ?_ NB234_242.out _; (with_reducible repeat (first | refine blk_drewN ?_ _ | refine blk_drew ?_ | refine blk_alloc ?_ _)); exact BK234.out⟩
         have n4_ : Aside0 ((((w59.setCell ⟨gb242, 0, none⟩ (.int .i64 t239)).setCell ⟨gb242, 1, none⟩ (.int .i64 t240)).setCell ⟨gb242, 2, none⟩ (.int .i64 t241)).heap[gb235]? = some (.cells #[.int .i64 t226, .int .i64 t227] 29 (0, 0))) := ⟨by (with_reducible repeat (first | refine blk_drewN ?_ _ | refine blk_drew ?_ | refine blk_alloc ?_ _)); refine blk_far ?_ NB235_242.out _; (with_reducible repeat (first | refine blk_drewN ?_ _ | refine blk_drew ?_ | refine blk_alloc ?_ _)); refine blk_far ?_ NB235_242.out _; (with_reducible repeat (first | refine blk_drewN ?_ _ | refine blk_drew ?_ | refine blk_alloc ?_ _)); refine blk_far ?_ NB235_242.out _; (with_reducible repeat (first | refine blk_drewN ?_ _ | refine blk_drew ?_ | refine blk_alloc ?_ _)); exact BK235.out⟩
         have n5_ : Aside0 ((((w59.setCell ⟨gb242, 0, none⟩ (.int .i64 t239)).setCell ⟨gb242, 1, none⟩ (.int .i64 t240)).setCell ⟨gb242, 2, none⟩ (.int .i64 t241)).heap[gb236]? = some (.cells #[.int .i64 t229, .int .i64 t230] 29 (0, 0))) := ⟨by (with_reducible repeat (first | refine blk_drewN ?_ _ | refine blk_drew ?_ | refine blk_alloc ?_ _)); refine blk_far ?_ NB236_242.out _; (with_reducible repeat (first | refine blk_drewN ?_ _ | refine blk_drew ?_ | refine blk_alloc ?_ _)); refine blk_far ?_ NB236_242.out _; (with_reducible repeat (first | refine blk_drewN ?_ _ | refine blk_drew ?_ | refine blk_alloc ?_ _)); refine blk_far ?_ NB236_242.out _; (with_reducible repeat (first | refine blk_drewN ?_ _ | refine blk_drew ?_ | refine blk_alloc ?_ _)); exact BK236.out⟩
         have n6_ : Aside0 ((((w59.setCell ⟨gb242, 0, none⟩ (.int .i64 t239)).setCell ⟨gb242, 1, none⟩ (.int .i64 t240)).setCell ⟨gb242, 2, none⟩ (.int .i64 t241)).heap[gb242]? = some (.cells #[.int .i64 t239, .int .i64 t240, .int .i64 t241] 31 (0, 0))) := ⟨by (with_reducible repeat (first | refine blk_drewN ?_ _ | refine blk_drew ?_ | refine blk_alloc ?_ _)); refine blk_put (cs := #[.int .i64 t239, .int .i64 t240, .int .i64 0]) ?_ 2 _ rfl; (with_reducible repeat (first | refine blk_drewN ?_ _ | refine blk_drew ?_ | refine blk_alloc ?_ _)); refine blk_put (cs := #[.int .i64 t239, .int .i64 0, .int .i64 0]) ?_ 1 _ rfl; (with_reducible repeat (first | refine blk_drewN ?_ _ | refine blk_drew ?_ | refine blk_alloc ?_ _)); refine blk_put (cs := #[.int .i64 0, .int .i64 0, .int .i64 0]) ?_ 0 _ rfl; (with_reducible repeat (first | refine blk_drewN ?_ _ | refine blk_drew ?_ | refine blk_alloc ?_ _)); exact BK242.out⟩
         have n7_ : Aside0 (Below w.heap.size w (((w59.setCell ⟨gb242, 0, none⟩ (.int .i64 t239)).setCell ⟨gb242, 1, none⟩ (.int .i64 t240)).setCell ⟨gb242, 2, none⟩ (.int .i64 t241))) := ⟨aH⟩
         (try clear BK231)
         (try clear BK232)
         (try clear BK233)
         (try clear BK234)
         (try clear BK235)
         (try clear BK236)
         (try clear BK242)
         (try clear HB)
         generalize (((w59.setCell ⟨gb242, 0, none⟩ (.int .i64 t239)).setCell ⟨gb242, 1, none⟩ (.int .i64 t240)).setCell ⟨gb242, 2, none⟩ (.int .i64 t241)) = w67 at n0_ n1_ n2_ n3_ n4_ n5_ n6_ n7_ ⊢
         have BK231 := n0_
         have BK232 := n1_
         have BK233 := n2_
         have BK234 := n3_
         have BK235 := n4_
         have BK236 := n5_
         have BK242 := n6_
         have HB := n7_
         clear n0_ n1_ n2_ n3_ n4_ n5_ n6_ n7_
         have n0_ := Aside0.mk (blk_drew BK231.out)
         have n1_ := Aside0.mk (blk_drew BK232.out)
         have n2_ := Aside0.mk (blk_drew BK233.out)
         have n3_ := Aside0.mk (blk_drew BK234.out)
         have n4_ := Aside0.mk (blk_drew BK235.out)
         have n5_ := Aside0.mk (blk_drew BK236.out)
         have n6_ := Aside0.mk (blk_drew BK242.out)
         have n7_ := Aside0.mk (below_drew1 HB.out)
         clear BK231
         clear BK232
         clear BK233
         clear BK234
         clear BK235
         clear BK236
         clear BK242
         clear HB
         have BK231 := n0_
         have BK232 := n1_
         have BK233 := n2_
         have BK234 := n3_
         have BK235 := n4_
         have BK236 := n5_
         have BK242 := n6_
         have HB := n7_
         clear n0_ n1_ n2_ n3_ n4_ n5_ n6_ n7_
         refine start_ (n := 51) (S := fun w' => w'.cell? ⟨gb234, 0, none⟩ = some (.int .i64 t223) ∧ w'.cell? ⟨gb234, 1, none⟩ = some (.int .i64 t224) ∧ w'.cell? ⟨gb235, 0, none⟩ = some (.int .i64 t226) ∧ w'.cell? ⟨gb235, 1, none⟩ = some (.int .i64 t227) ∧ w'.cell? ⟨gb236, 0, none⟩ = some (.int .i64 t229) ∧ w'.cell? ⟨gb236, 1, none⟩ = some (.int .i64 t230) ∧ w'.cell? ⟨gb242, 0, none⟩ = some (.int .i64 t239) ∧ w'.cell? ⟨gb242, 1, none⟩ = some (.int .i64 t240) ∧ w'.cell? ⟨gb242, 2, none⟩ = some (.int .i64 t241) ∧ w'.cell? ⟨gb231, 0, none⟩ = some (.int .i64 t222) ∧ w'.cell? ⟨gb231, 1, none⟩ = some (.int .i64 t223) ∧ w'.cell? ⟨gb231, 2, none⟩ = some (.int .i64 t224)) (ds := []) bb5_0 (by kernel_rfl) rfl rfl ⟨cR BK234.out 0, cR BK234.out 1, cR BK235.out 0, cR BK235.out 1, cR BK236.out 0, cR BK236.out 1, cR BK242.out 0, cR BK242.out 1, cR BK242.out 2, cR BK231.out 0, cR BK231.out 1, cR BK231.out 2⟩ (fun hHeld => ?_); refine with_tabW laws_FnStamps.tab10 laws_FnStamps.bits10 (fun HT_ HW_ => ?_)
         generalize w67.drew = w68 at BK231 BK232 BK233 BK234 BK235 BK236 BK242 HB hHeld ⊢
         refine pP 0 34 bb5_1 ?_
         refine pP 1 35 bb5_2 ?_
         refine pU 2 36 bb5_3 ?_
         refine pP 3 37 bb5_4 ?_
         refine tP 4 38 bb5_5 ?_
         refine tP 5 39 bb5_6 ?_
         refine pP 6 40 bb5_7 ?_
         refine pP 7 41 bb5_8 ?_
         refine pP 8 42 bb5_9 ?_
         refine pP 9 43 bb5_10 ?_
         refine pP 10 44 bb5_11 ?_
         refine pP 11 45 bb5_12 ?_
         refine pP 12 46 bb5_13 ?_
         refine pP 13 47 bb5_14 ?_
         refine pP 14 48 bb5_15 ?_
         refine pP 15 49 bb5_16 ?_
         refine pP 16 50 bb5_17 ?_
         refine pP 17 51 bb5_18 ?_
         refine pP 18 52 bb5_19 ?_
         refine tP 19 53 bb5_20 ?_
         refine tP 20 54 bb5_21 ?_
         refine one_ (i := 21) (N := some 55) bb5_22 rfl rfl (one_of HT_.out (by kernel_rfl)) (by decide) (fun K hK => ?_)
         refine goes_ Try.func32 (by kernel_rfl) rfl #[.agg #[.int .i64 t226, .int .i64 t227], .agg #[.int .i64 t229, .int .i64 t230]] (by rfl) rfl rfl (by (try simp only [List.map_toArray, List.map_cons, List.map_nil]); first | done | rfl | (simp only [List.length_drop, List.length_take]; rfl)) ?_
         with_reducible refine (impl_Later.calls t226 t227 t229 t230 true _ A11.out).mono ?_
         rintro e w69 ⟨rfl, hb⟩
         refine ⟨_, rfl, ?_⟩
         have n0_ := Aside0.mk (kB BK231.out hb)
         have n1_ := Aside0.mk (kB BK232.out hb)
         have n2_ := Aside0.mk (kB BK233.out hb)
         have n3_ := Aside0.mk (kB BK234.out hb)
         have n4_ := Aside0.mk (kB BK235.out hb)
         have n5_ := Aside0.mk (kB BK236.out hb)
         have n6_ := Aside0.mk (kB BK242.out hb)
         have n7_ := Aside0.mk (below_step aH hb)
         clear BK231
         clear BK232
         clear BK233
         clear BK234
         clear BK235
         clear BK236
         clear BK242
         clear HB
         have BK231 := n0_
         have BK232 := n1_
         have BK233 := n2_
         have BK234 := n3_
         have BK235 := n4_
         have BK236 := n5_
         have BK242 := n6_
         have HB := n7_
         clear n0_ n1_ n2_ n3_ n4_ n5_ n6_ n7_
         (try clear hb)
         (try clear hb2)
         (try clear hk)
         (try clear hi)
         refine hK.out _ _ ⟨cR BK234.out 0, cR BK234.out 1, cR BK235.out 0, cR BK235.out 1, cR BK236.out 0, cR BK236.out 1, cR BK242.out 0, cR BK242.out 1, cR BK242.out 2, cR BK231.out 0, cR BK231.out 1, cR BK231.out 2⟩ (fun hHeld => ?_)
         clear hK K
         refine nP 55 ?_
         refine pP 22 56 bb5_23 ?_
         refine pP 23 57 bb5_24 ?_
         refine pP 24 58 bb5_25 ?_
         refine tP 25 59 bb5_26 ?_
         refine tP 26 60 bb5_27 ?_
         refine one_ (i := 27) (N := some 61) bb5_28 rfl rfl (one_of HT_.out (by kernel_rfl)) (by decide) (fun K hK => ?_)
         refine goes_ Try.func32 (by kernel_rfl) rfl #[.agg #[.int .i64 t223, .int .i64 t224], .agg #[.int .i64 t229, .int .i64 t230]] (by rfl) rfl rfl (by (try simp only [List.map_toArray, List.map_cons, List.map_nil]); first | done | rfl | (simp only [List.length_drop, List.length_take]; rfl)) ?_
         with_reducible refine (impl_Later.calls t223 t224 t229 t230 true _ A13.out).mono ?_
         rintro e w70 ⟨rfl, hb⟩
         refine ⟨_, rfl, ?_⟩
         have n0_ := Aside0.mk (kB BK231.out hb)
         have n1_ := Aside0.mk (kB BK232.out hb)
         have n2_ := Aside0.mk (kB BK233.out hb)
         have n3_ := Aside0.mk (kB BK234.out hb)
         have n4_ := Aside0.mk (kB BK235.out hb)
         have n5_ := Aside0.mk (kB BK236.out hb)
         have n6_ := Aside0.mk (kB BK242.out hb)
         have n7_ := Aside0.mk (below_step aH hb)
         clear BK231
         clear BK232
         clear BK233
         clear BK234
         clear BK235
         clear BK236
         clear BK242
         clear HB
         have BK231 := n0_
         have BK232 := n1_
         have BK233 := n2_
         have BK234 := n3_
         have BK235 := n4_
         have BK236 := n5_
         have BK242 := n6_
         have HB := n7_
         clear n0_ n1_ n2_ n3_ n4_ n5_ n6_ n7_
         (try clear hb)
         (try clear hb2)
         (try clear hk)
         (try clear hi)
         refine hK.out _ _ ⟨cR BK234.out 0, cR BK234.out 1, cR BK235.out 0, cR BK235.out 1, cR BK236.out 0, cR BK236.out 1, cR BK242.out 0, cR BK242.out 1, cR BK242.out 2, cR BK231.out 0, cR BK231.out 1, cR BK231.out 2⟩ (fun hHeld => ?_)
         clear hK K
         refine nP 61 ?_
         refine pP 28 62 bb5_29 ?_
         refine pP 29 63 bb5_30 ?_
         refine pP 30 64 bb5_31 ?_
         refine tP 31 65 bb5_32 ?_
         refine tP 33 67 bb5_33 ?_
         refine one_ (i := 32) (N := some 66) bb5_34 rfl rfl (one_of HT_.out (by kernel_rfl)) (by decide) (fun K hK => ?_)
         refine goes_ Try.func34 (by kernel_rfl) rfl #[.agg #[.int .i64 t239, .int .i64 t240, .int .i64 t241]] (by rfl) rfl rfl (by (try simp only [List.map_toArray, List.map_cons, List.map_nil]); first | done | rfl | (simp only [List.length_drop, List.length_take]; rfl)) ?_
         with_reducible refine (impl_RegOk.calls t239 t240 t241 t245 _ A15.out).mono ?_
         rintro e w71 ⟨rfl, hb⟩
         refine ⟨_, rfl, ?_⟩
         have n0_ := Aside0.mk (kB BK231.out hb)
         have n1_ := Aside0.mk (kB BK232.out hb)
         have n2_ := Aside0.mk (kB BK233.out hb)
         have n3_ := Aside0.mk (kB BK234.out hb)
         have n4_ := Aside0.mk (kB BK235.out hb)
         have n5_ := Aside0.mk (kB BK236.out hb)
         have n6_ := Aside0.mk (kB BK242.out hb)
         have n7_ := Aside0.mk (below_step aH hb)
         clear BK231
         clear BK232
         clear BK233
         clear BK234
         clear BK235
         clear BK236
         clear BK242
         clear HB
         have BK231 := n0_
         have BK232 := n1_
         have BK233 := n2_
         have BK234 := n3_
         have BK235 := n4_
         have BK236 := n5_
         have BK242 := n6_
         have HB := n7_
         clear n0_ n1_ n2_ n3_ n4_ n5_ n6_ n7_
         (try clear hb)
         (try clear hb2)
         (try clear hk)
         (try clear hi)
         refine hK.out _ _ ⟨cR BK234.out 0, cR BK234.out 1, cR BK235.out 0, cR BK235.out 1, cR BK236.out 0, cR BK236.out 1, cR BK242.out 0, cR BK242.out 1, cR BK242.out 2, cR BK231.out 0, cR BK231.out 1, cR BK231.out 2⟩ (fun hHeld => ?_)
         clear hK K
         refine nP 66 ?_
         refine one_ (i := 34) (N := some 68) bb5_35 rfl rfl (one_of HT_.out (by kernel_rfl)) (by decide) (fun K hK => ?_)
         refine goes_ Try.func35 (by kernel_rfl) rfl #[.agg #[.int .i64 t239, .int .i64 t240, .int .i64 t241]] (by rfl) rfl rfl (by (try simp only [List.map_toArray, List.map_cons, List.map_nil]); first | done | rfl | (simp only [List.length_drop, List.length_take]; rfl)) ?_
         with_reducible refine (spec_RegOk.calls t239 t240 t241 t246 _ A16.out).mono ?_
         rintro e w72 ⟨rfl, hb⟩
         refine ⟨_, rfl, ?_⟩
         have n0_ := Aside0.mk (kB BK231.out hb)
         have n1_ := Aside0.mk (kB BK232.out hb)
         have n2_ := Aside0.mk (kB BK233.out hb)
         have n3_ := Aside0.mk (kB BK234.out hb)
         have n4_ := Aside0.mk (kB BK235.out hb)
         have n5_ := Aside0.mk (kB BK236.out hb)
         have n6_ := Aside0.mk (kB BK242.out hb)
         have n7_ := Aside0.mk (below_step aH hb)
         clear BK231
         clear BK232
         clear BK233
         clear BK234
         clear BK235
         clear BK236
         clear BK242
         clear HB
         have BK231 := n0_
         have BK232 := n1_
         have BK233 := n2_
         have BK234 := n3_
         have BK235 := n4_
         have BK236 := n5_
         have BK242 := n6_
         have HB := n7_
         clear n0_ n1_ n2_ n3_ n4_ n5_ n6_ n7_
         (try clear hb)
         (try clear hb2)
         (try clear hk)
         (try clear hi)
         refine hK.out _ _ ⟨cR BK234.out 0, cR BK234.out 1, cR BK235.out 0, cR BK235.out 1, cR BK236.out 0, cR BK236.out 1, cR BK242.out 0, cR BK242.out 1, cR BK242.out 2, cR BK231.out 0, cR BK231.out 1, cR BK231.out 2⟩ (fun hHeld => ?_)
         clear hK K
         refine nP 68 ?_
         refine pP 35 69 bb5_36 ?_
         refine pP 36 70 bb5_37 ?_
         refine pP 37 71 bb5_38 ?_
         refine pP 38 72 bb5_39 ?_
         refine pP 41 75 bb5_40 ?_
         refine tP 39 73 bb5_41 ?_
         refine tP 42 76 bb5_42 ?_
         refine one_ (i := 40) (N := some 74) bb5_43 rfl rfl (one_of HT_.out (by kernel_rfl)) (by decide) (fun K hK => ?_)
         refine goes_ Try.func36 (by kernel_rfl) rfl #[.agg #[.int .i64 t240, .int .i64 t241]] (by rfl) rfl rfl (by (try simp only [List.map_toArray, List.map_cons, List.map_nil]); first | done | rfl | (simp only [List.length_drop, List.length_take]; rfl)) ?_
         with_reducible refine (impl_StampOk.calls t240 t241 t247 _ A18.out).mono ?_
         rintro e w73 ⟨rfl, hb⟩
         refine ⟨_, rfl, ?_⟩
         have n0_ := Aside0.mk (kB BK231.out hb)
         have n1_ := Aside0.mk (kB BK232.out hb)
         have n2_ := Aside0.mk (kB BK233.out hb)
         have n3_ := Aside0.mk (kB BK234.out hb)
         have n4_ := Aside0.mk (kB BK235.out hb)
         have n5_ := Aside0.mk (kB BK236.out hb)
         have n6_ := Aside0.mk (kB BK242.out hb)
         have n7_ := Aside0.mk (below_step aH hb)
         clear BK231
         clear BK232
         clear BK233
         clear BK234
         clear BK235
         clear BK236
         clear BK242
         clear HB
         have BK231 := n0_
         have BK232 := n1_
         have BK233 := n2_
         have BK234 := n3_
         have BK235 := n4_
         have BK236 := n5_
         have BK242 := n6_
         have HB := n7_
         clear n0_ n1_ n2_ n3_ n4_ n5_ n6_ n7_
         (try clear hb)
         (try clear hb2)
         (try clear hk)
         (try clear hi)
         refine hK.out _ _ ⟨cR BK234.out 0, cR BK234.out 1, cR BK235.out 0, cR BK235.out 1, cR BK236.out 0, cR BK236.out 1, cR BK242.out 0, cR BK242.out 1, cR BK242.out 2, cR BK231.out 0, cR BK231.out 1, cR BK231.out 2⟩ (fun hHeld => ?_)
         clear hK K
         refine nP 74 ?_
         refine one_ (i := 43) (N := some 77) bb5_44 rfl rfl (one_of HT_.out (by kernel_rfl)) (by decide) (fun K hK => ?_)
         refine goes_ Try.func37 (by kernel_rfl) rfl #[.agg #[.int .i64 t240, .int .i64 t241]] (by rfl) rfl rfl (by (try simp only [List.map_toArray, List.map_cons, List.map_nil]); first | done | rfl | (simp only [List.length_drop, List.length_take]; rfl)) ?_
         with_reducible refine (spec_StampOk.calls t240 t241 t248 _ A19.out).mono ?_
         rintro e w74 ⟨rfl, hb⟩
         refine ⟨_, rfl, ?_⟩
         have n0_ := Aside0.mk (kB BK231.out hb)
         have n1_ := Aside0.mk (kB BK232.out hb)
         have n2_ := Aside0.mk (kB BK233.out hb)
         have n3_ := Aside0.mk (kB BK234.out hb)
         have n4_ := Aside0.mk (kB BK235.out hb)
         have n5_ := Aside0.mk (kB BK236.out hb)
         have n6_ := Aside0.mk (kB BK242.out hb)
         have n7_ := Aside0.mk (below_step aH hb)
         clear BK231
         clear BK232
         clear BK233
         clear BK234
         clear BK235
         clear BK236
         clear BK242
         clear HB
         have BK231 := n0_
         have BK232 := n1_
         have BK233 := n2_
         have BK234 := n3_
         have BK235 := n4_
         have BK236 := n5_
         have BK242 := n6_
         have HB := n7_
         clear n0_ n1_ n2_ n3_ n4_ n5_ n6_ n7_
         (try clear hb)
         (try clear hb2)
         (try clear hk)
         (try clear hi)
         refine hK.out _ _ ⟨cR BK234.out 0, cR BK234.out 1, cR BK235.out 0, cR BK235.out 1, cR BK236.out 0, cR BK236.out 1, cR BK242.out 0, cR BK242.out 1, cR BK242.out 2, cR BK231.out 0, cR BK231.out 1, cR BK231.out 2⟩ (fun hHeld => ?_)
         clear hK K
         refine nP 77 ?_
         refine pP 44 78 bb5_45 ?_
         refine pP 45 79 bb5_46 ?_
         refine pP 46 80 bb5_47 ?_
         refine tP 47 81 bb5_48 ?_
         refine one_ (i := 48) (N := some 82) bb5_49 rfl rfl (one_of HT_.out (by kernel_rfl)) (by decide) (fun K hK => ?_)
         refine goes_ Try.func34 (by kernel_rfl) rfl #[.agg #[.int .i64 t222, .int .i64 t223, .int .i64 t224]] (by rfl) rfl rfl (by (try simp only [List.map_toArray, List.map_cons, List.map_nil]); first | done | rfl | (simp only [List.length_drop, List.length_take]; rfl)) ?_
         with_reducible refine (impl_RegOk.calls t222 t223 t224 t249 _ A21.out).mono ?_
         rintro e w75 ⟨rfl, hb⟩
         refine ⟨_, rfl, ?_⟩
         have n0_ := Aside0.mk (kB BK231.out hb)
         have n1_ := Aside0.mk (kB BK232.out hb)
         have n2_ := Aside0.mk (kB BK233.out hb)
         have n3_ := Aside0.mk (kB BK234.out hb)
         have n4_ := Aside0.mk (kB BK235.out hb)
         have n5_ := Aside0.mk (kB BK236.out hb)
         have n6_ := Aside0.mk (kB BK242.out hb)
         have n7_ := Aside0.mk (below_step aH hb)
         clear BK231
         clear BK232
         clear BK233
         clear BK234
         clear BK235
         clear BK236
         clear BK242
         clear HB
         have BK231 := n0_
         have BK232 := n1_
         have BK233 := n2_
         have BK234 := n3_
         have BK235 := n4_
         have BK236 := n5_
         have BK242 := n6_
         have HB := n7_
         clear n0_ n1_ n2_ n3_ n4_ n5_ n6_ n7_
         (try clear hb)
         (try clear hb2)
         (try clear hk)
         (try clear hi)
         refine hK.out _ _ ⟨cR BK234.out 0, cR BK234.out 1, cR BK235.out 0, cR BK235.out 1, cR BK236.out 0, cR BK236.out 1, cR BK242.out 0, cR BK242.out 1, cR BK242.out 2, cR BK231.out 0, cR BK231.out 1, cR BK231.out 2⟩ (fun hHeld => ?_)
         clear hK K
         refine nP 82 ?_
         refine pP 49 83 bb5_50 ?_
         refine pP 50 2 bb5_51 ?_
         refine done_ (done_of HT_.out (by kernel_rfl)) ?_
         try go_wp2
         go_ret
         exact ⟨by first | rfl | (simp [errW_none, errW_some] <;> rfl) | (simp [*, errW_none, errW_some] <;> rfl), aH⟩
        ·rw [if_neg c20] at H
         have c20b0 : (t247 == t248) = false := by simpa using c20
         (try (have c20b1 : decide (t247 = t248) = false := by simpa using c20))
         (try (have c20b2 : (t247 == t248) = false := by simpa using c20))
         (try (have c20b3 : ¬ (t247 = t248) := by simpa using c20))
         clear c20
         exact absurd H (by simp)
       ·rw [if_neg c17] at H
        have c17b0 : (t245 == t246) = false := by simpa using c17
        (try (have c17b1 : decide (t245 = t246) = false := by simpa using c17))
        (try (have c17b2 : (t245 == t246) = false := by simpa using c17))
        (try (have c17b3 : ¬ (t245 = t246) := by simpa using c17))
        clear c17
        exact absurd H (by simp)
      ·replace c14 := Bool.eq_false_iff.mpr c14
       subst c14
       have H1 := wF H
       clear H
       have H := H1
       clear H1
       exact absurd H (by simp)
     ·replace c12 := Bool.eq_false_iff.mpr c12
      subst c12
      have H1 := wF H
      clear H
      have H := H1
      clear H1
      replace H := Option.bind_eq_some_iff.mp H
      obtain ⟨t250, A760, H⟩ := H
      try dsimp only at H
      have A76 := Aside0.mk A760
      clear A760
      replace H := Option.bind_eq_some_iff.mp H
      obtain ⟨t251, A770, H⟩ := H
      try dsimp only at H
      have A77 := Aside0.mk A770
      clear A770
      by_cases c78 : (t250 == t251) = true
      ·rw [if_pos c78] at H
       have c78b0 : (t250 == t251) = true := c78
       (try (have c78b1 : decide (t250 = t251) = true := by simpa using c78))
       (try (have c78b2 : (t250 == t251) = true := by simpa using c78))
       clear c78
       replace H := Option.bind_eq_some_iff.mp H
       obtain ⟨t252, A790, H⟩ := H
       try dsimp only at H
       have A79 := Aside0.mk A790
       clear A790
       replace H := Option.bind_eq_some_iff.mp H
       obtain ⟨t253, A800, H⟩ := H
       replace H : (if (t252 == t253) = true then ((impl_RegOk.f t222 t223 t224).bind fun t254 => (some t254)) else (none)) = some r := H
       have A80 := Aside0.mk A800
       clear A800
       by_cases c81 : (t252 == t253) = true
       ·rw [if_pos c81] at H
        have c81b0 : (t252 == t253) = true := c81
        (try (have c81b1 : decide (t252 = t253) = true := by simpa using c81))
        (try (have c81b2 : (t252 == t253) = true := by simpa using c81))
        clear c81
        replace H := Option.bind_eq_some_iff.mp H
        obtain ⟨t254, A820, H⟩ := H
        replace H : (some t254) = some r := H
        have A82 := Aside0.mk A820
        clear A820
        obtain rfl := Option.some.inj H
        go_enter Try.func9, Try.ntmps9
        try go_wp2_with (first | ((with_reducible refine gate_callee (f := 30) rfl ?_); refine gL_ (some 13) Try.func30 #[.slice A0 l0.length c0] ?_; (with_reducible refine (laws_big.calls _ _ l0 false _ ?side1 ?side2 A2.out).mono ?_); (case side1 => repeat (first | exact HR0.out | (with_reducible refine Kd.C_alloc ?_ _) | (with_reducible refine Kd.C_drewN ?_ _) | (with_reducible refine Kd.C_drew ?_))); (case side2 => exact HC0.out); rintro e w' ⟨rfl, ⟨nd, rfl⟩⟩; refine ⟨_, rfl, ?_⟩) | ((with_reducible refine gate_callee (f := 31) rfl ?_); refine gL_ (some 16) Try.func31 #[.slice A0 l0.length c0] ?_; (with_reducible refine (spec_DrawRegs.calls k _ _ l0 t222 t223 t224 t225 t226 t227 t228 t229 t230 _ ?side1 ?side2 A4.out).mono ?_); (case side1 => repeat (first | exact HR0.out | (with_reducible refine Kd.C_alloc ?_ _) | (with_reducible refine Kd.C_drewN ?_ _) | (with_reducible refine Kd.C_drew ?_))); (case side2 => exact HC0.out); rintro e w83 ⟨rfl, hb⟩; refine ⟨_, rfl, ?_⟩; have n0_ := Aside0.mk (below_step aH hb); clear HB; have HB := n0_; clear n0_; (try clear hb); (try clear hb2); (try clear hk); (try clear hi)) | ((with_reducible refine gate_dst (N := 3) rfl ?_); refine bE 3 #[.int .i64 0, .int .i64 0, .int .i64 0] 31 ?_; intro gb231 hg w84 hbox hb; have n0_ := Aside0.mk (below_step aH hb); have n1_ := Aside0.mk (hbox); have n2_ := Aside0.mk ((gS hg : w.heap.size ≤ gb231)); have n3_ := Aside0.mk ((gS hg : w.heap.size ≤ gb231)); clear HB; have HB := n0_; have BK231 := n1_; have GW231 := n2_; have GE231 := n3_; clear n0_ n1_ n2_ n3_; clear hb hbox hg) | ((with_reducible refine gate_dst (N := 4) rfl ?_); refine bE 4 #[.int .i64 0, .int .i64 0, .int .i64 0] 31 ?_; intro gb232 hg w85 hbox hb; have n0_ := Aside0.mk (kB BK231.out hb); have n1_ := Aside0.mk (below_step aH hb); have n2_ := Aside0.mk (hbox); have n3_ := Aside0.mk ((gS hg : w.heap.size ≤ gb232)); have n4_ := Aside0.mk ((gS hg : w.heap.size ≤ gb232)); have n5_ := Aside0.mk (gL hg BK231.out); have n6_ := Aside0.mk (gG hg BK231.out); clear BK231; clear HB; have BK231 := n0_; have HB := n1_; have BK232 := n2_; have GW232 := n3_; have GE232 := n4_; have NB231_232 := n5_; have NB232_231 := n6_; clear n0_ n1_ n2_ n3_ n4_ n5_ n6_; clear hb hbox hg) | ((with_reducible refine gate_dst (N := 5) rfl ?_); refine bE 5 #[.int .i64 0, .int .i64 0, .int .i64 0] 31 ?_; intro gb233 hg w86 hbox hb; have n0_ := Aside0.mk (kB BK231.out hb); have n1_ := Aside0.mk (kB BK232.out hb); have n2_ := Aside0.mk (below_step aH hb); have n3_ := Aside0.mk (hbox); have n4_ := Aside0.mk ((gS hg : w.heap.size ≤ gb233)); have n5_ := Aside0.mk ((gS hg : w.heap.size ≤ gb233)); have n6_ := Aside0.mk (gL hg BK231.out); have n7_ := Aside0.mk (gG hg BK231.out); have n8_ := Aside0.mk (gL hg BK232.out); have n9_ := Aside0.mk (gG hg BK232.out); clear BK231; clear BK232; clear HB; have BK231 := n0_; have BK232 := n1_; have HB := n2_; have BK233 := n3_; have GW233 := n4_; have GE233 := n5_; have NB231_233 := n6_; have NB233_231 := n7_; have NB232_233 := n8_; have NB233_232 := n9_; clear n0_ n1_ n2_ n3_ n4_ n5_ n6_ n7_ n8_ n9_; clear hb hbox hg; have hnb87 := NB231_232.out; have hnc87 := NB232_231.out; have hnb88 := NB231_233.out; have hnc88 := NB233_231.out; have hcz89_0 : w86.cell? ⟨gb231, 0, none⟩ = some (.int .i64 0) := cR BK231.out 0; have hcz89_1 : w86.cell? ⟨gb231, 1, none⟩ = some (.int .i64 0) := cR BK231.out 1; have hcz89_2 : w86.cell? ⟨gb231, 2, none⟩ = some (.int .i64 0) := cR BK231.out 2; have hfz89_0 := blk_frozen BK231.out 0; have hfz89_1 := blk_frozen BK231.out 1; have hfz89_2 := blk_frozen BK231.out 2; have hnb90 := NB232_233.out; have hnc90 := NB233_232.out; have hcz91_0 : w86.cell? ⟨gb232, 0, none⟩ = some (.int .i64 0) := cR BK232.out 0; have hcz91_1 : w86.cell? ⟨gb232, 1, none⟩ = some (.int .i64 0) := cR BK232.out 1; have hcz91_2 : w86.cell? ⟨gb232, 2, none⟩ = some (.int .i64 0) := cR BK232.out 2; have hfz91_0 := blk_frozen BK232.out 0; have hfz91_1 := blk_frozen BK232.out 1; have hfz91_2 := blk_frozen BK232.out 2; have hcz92_0 : w86.cell? ⟨gb233, 0, none⟩ = some (.int .i64 0) := cR BK233.out 0; have hcz92_1 : w86.cell? ⟨gb233, 1, none⟩ = some (.int .i64 0) := cR BK233.out 1; have hcz92_2 : w86.cell? ⟨gb233, 2, none⟩ = some (.int .i64 0) := cR BK233.out 2; have hfz92_0 := blk_frozen BK233.out 0; have hfz92_1 := blk_frozen BK233.out 1; have hfz92_2 := blk_frozen BK233.out 2) | ((with_reducible refine gate_dst (N := 6) rfl ?_); refine bE 6 #[.int .i64 0, .int .i64 0] 29 ?_; intro gb234 hg w93 hbox hb; have n0_ := Aside0.mk (blk_below (g := gb231) (o := .cells #[.int .i64 t222, .int .i64 t223, .int .i64 t224] 31 (0, 0)) (by (with_reducible repeat (first | refine blk_drewN ?_ _ | refine blk_drew ?_ | refine blk_alloc ?_ _)); refine blk_far ?_ NB231_233.out _; (with_reducible repeat (first | refine blk_drewN ?_ _ | refine blk_drew ?_ | refine blk_alloc ?_ _)); refine blk_far ?_ NB231_233.out _; (with_reducible repeat (first | refine blk_drewN ?_ _ | refine blk_drew ?_ | refine blk_alloc ?_ _)); refine blk_far ?_ NB231_233.out _; (with_reducible repeat (first | refine blk_drewN ?_ _ | refine blk_drew ?_ | refine blk_alloc ?_ _)); refine blk_far ?_ NB231_232.out _; (with_reducible repeat (first | refine blk_drewN ?_ _ | refine blk_drew ?_ | refine blk_alloc ?_ _)); refine blk_far ?_ NB231_232.out _; (with_reducible repeat (first | refine blk_drewN ?_ _ | refine blk_drew ?_ | refine blk_alloc ?_ _)); refine blk_far ?_ NB231_232.out _; (with_reducible repeat (first | refine blk_drewN ?_ _ | refine blk_drew ?_ | refine blk_alloc ?_ _)); refine blk_put (cs := #[.int .i64 t222, .int .i64 t223, .int .i64 0]) ?_ 2 _ rfl; (with_reducible repeat (first | refine blk_drewN ?_ _ | refine blk_drew ?_ | refine blk_alloc ?_ _)); refine blk_put (cs := #[.int .i64 t222, .int .i64 0, .int .i64 0]) ?_ 1 _ rfl; (with_reducible repeat (first | refine blk_drewN ?_ _ | refine blk_drew ?_ | refine blk_alloc ?_ _)); refine blk_put (cs := #[.int .i64 0, .int .i64 0, .int .i64 0]) ?_ 0 _ rfl; (with_reducible repeat (first | refine blk_drewN ?_ _ | refine blk_drew ?_ | refine blk_alloc ?_ _)); exact BK231.out) hb); have n1_ := Aside0.mk (blk_below (g := gb232) (o := .cells #[.int .i64 t225, .int .i64 t226, .int .i64 t227] 31 (0, 0)) (by (with_reducible repeat (first | refine blk_drewN ?_ _ | refine blk_drew ?_ | refine blk_alloc ?_ _)); refine blk_far ?_ NB232_233.out _; (with_reducible repeat (first | refine blk_drewN ?_ _ | refine blk_drew ?_ | refine blk_alloc ?_ _)); refine blk_far ?_ NB232_233.out _; (with_reducible repeat (first | refine blk_drewN ?_ _ | refine blk_drew ?_ | refine blk_alloc ?_ _)); refine blk_far ?_ NB232_233.out _; (with_reducible repeat (first | refine blk_drewN ?_ _ | refine blk_drew ?_ | refine blk_alloc ?_ _)); refine blk_put (cs := #[.int .i64 t225, .int .i64 t226, .int .i64 0]) ?_ 2 _ rfl; (with_reducible repeat (first | refine blk_drewN ?_ _ | refine blk_drew ?_ | refine blk_alloc ?_ _)); refine blk_put (cs := #[.int .i64 t225, .int .i64 0, .int .i64 0]) ?_ 1 _ rfl; (with_reducible repeat (first | refine blk_drewN ?_ _ | refine blk_drew ?_ | refine blk_alloc ?_ _)); refine blk_put (cs := #[.int .i64 0, .int .i64 0, .int .i64 0]) ?_ 0 _ rfl; (with_reducible repeat (first | refine blk_drewN ?_ _ | refine blk_drew ?_ | refine blk_alloc ?_ _)); refine blk_far ?_ NB232_231.out _; (with_reducible repeat (first | refine blk_drewN ?_ _ | refine blk_drew ?_ | refine blk_alloc ?_ _)); refine blk_far ?_ NB232_231.out _; (with_reducible repeat (first | refine blk_drewN ?_ _ | refine blk_drew ?_ | refine blk_alloc ?_ _)); refine blk_far ?_ NB232_231.out _; (with_reducible repeat (first | refine blk_drewN ?_ _ | refine blk_drew ?_ | refine blk_alloc ?_ _)); exact BK232.out) hb); have n2_ := Aside0.mk (blk_below (g := gb233) (o := .cells #[.int .i64 t228, .int .i64 t229, .int .i64 t230] 31 (0, 0)) (by (with_reducible repeat (first | refine blk_drewN ?_ _ | refine blk_drew ?_ | refine blk_alloc ?_ _)); refine blk_put (cs := #[.int .i64 t228, .int .i64 t229, .int .i64 0]) ?_ 2 _ rfl; (with_reducible repeat (first | refine blk_drewN ?_ _ | refine blk_drew ?_ | refine blk_alloc ?_ _)); refine blk_put (cs := #[.int .i64 t228, .int .i64 0, .int .i64 0]) ?_ 1 _ rfl; (with_reducible repeat (first | refine blk_drewN ?_ _ | refine blk_drew ?_ | refine blk_alloc ?_ _)); refine blk_put (cs := #[.int .i64 0, .int .i64 0, .int .i64 0]) ?_ 0 _ rfl; (with_reducible repeat (first | refine blk_drewN ?_ _ | refine blk_drew ?_ | refine blk_alloc ?_ _)); refine blk_far ?_ NB233_232.out _; (with_reducible repeat (first | refine blk_drewN ?_ _ | refine blk_drew ?_ | refine blk_alloc ?_ _)); refine blk_far ?_ NB233_232.out _; (with_reducible repeat (first | refine blk_drewN ?_ _ | refine blk_drew ?_ | refine blk_alloc ?_ _)); refine blk_far ?_ NB233_232.out _; (with_reducible repeat (first | refine blk_drewN ?_ _ | refine blk_drew ?_ | refine blk_alloc ?_ _)); refine blk_far ?_ NB233_231.out _; (with_reducible repeat (first | refine blk_drewN ?_ _ | refine blk_drew ?_ | refine blk_alloc ?_ _)); refine blk_far ?_ NB233_231.out _; (with_reducible repeat (first | refine blk_drewN ?_ _ | refine blk_drew ?_ | refine blk_alloc ?_ _)); refine blk_far ?_ NB233_231.out _; (with_reducible repeat (first | refine blk_drewN ?_ _ | refine blk_drew ?_ | refine blk_alloc ?_ _)); exact BK233.out) hb); have n3_ := Aside0.mk (below_step aH hb); have n4_ := Aside0.mk (hbox); have n5_ := Aside0.mk ((gS hg : w.heap.size ≤ gb234)); have n6_ := Aside0.mk ((gS hg : w.heap.size ≤ gb234)); have n7_ := Aside0.mk ((by rw [hg]; exact Nat.ne_of_lt (blk_lt (g := gb231) (o := .cells #[.int .i64 t222, .int .i64 t223, .int .i64 t224] 31 (0, 0)) (by (with_reducible repeat (first | refine blk_drewN ?_ _ | refine blk_drew ?_ | refine blk_alloc ?_ _)); refine blk_far ?_ NB231_233.out _; (with_reducible repeat (first | refine blk_drewN ?_ _ | refine blk_drew ?_ | refine blk_alloc ?_ _)); refine blk_far ?_ NB231_233.out _; (with_reducible repeat (first | refine blk_drewN ?_ _ | refine blk_drew ?_ | refine blk_alloc ?_ _)); refine blk_far ?_ NB231_233.out _; (with_reducible repeat (first | refine blk_drewN ?_ _ | refine blk_drew ?_ | refine blk_alloc ?_ _)); refine blk_far ?_ NB231_232.out _; (with_reducible repeat (first | refine blk_drewN ?_ _ | refine blk_drew ?_ | refine blk_alloc ?_ _)); refine blk_far ?_ NB231_232.out _; (with_reducible repeat (first | refine blk_drewN ?_ _ | refine blk_drew ?_ | refine blk_alloc ?_ _)); refine blk_far ?_ NB231_232.out _; (with_reducible repeat (first | refine blk_drewN ?_ _ | refine blk_drew ?_ | refine blk_alloc ?_ _)); refine blk_put (cs := #[.int .i64 t222, .int .i64 t223, .int .i64 0]) ?_ 2 _ rfl; (with_reducible repeat (first | refine blk_drewN ?_ _ | refine blk_drew ?_ | refine blk_alloc ?_ _)); refine blk_put (cs := #[.int .i64 t222, .int .i64 0, .int .i64 0]) ?_ 1 _ rfl; (with_reducible repeat (first | refine blk_drewN ?_ _ | refine blk_drew ?_ | refine blk_alloc ?_ _)); refine blk_put (cs := #[.int .i64 0, .int .i64 0, .int .i64 0]) ?_ 0 _ rfl; (with_reducible repeat (first | refine blk_drewN ?_ _ | refine blk_drew ?_ | refine blk_alloc ?_ _)); exact BK231.out)) : gb231 ≠ gb234)); have n8_ := Aside0.mk ((by rw [hg]; exact Nat.ne_of_gt (blk_lt (g := gb231) (o := .cells #[.int .i64 t222, .int .i64 t223, .int .i64 t224] 31 (0, 0)) (by (with_reducible repeat (first | refine blk_drewN ?_ _ | refine blk_drew ?_ | refine blk_alloc ?_ _)); refine blk_far ?_ NB231_233.out _; (with_reducible repeat (first | refine blk_drewN ?_ _ | refine blk_drew ?_ | refine blk_alloc ?_ _)); refine blk_far ?_ NB231_233.out _; (with_reducible repeat (first | refine blk_drewN ?_ _ | refine blk_drew ?_ | refine blk_alloc ?_ _)); refine blk_far ?_ NB231_233.out _; (with_reducible repeat (first | refine blk_drewN ?_ _ | refine blk_drew ?_ | refine blk_alloc ?_ _)); refine blk_far ?_ NB231_232.out _; (with_reducible repeat (first | refine blk_drewN ?_ _ | refine blk_drew ?_ | refine blk_alloc ?_ _)); refine blk_far ?_ NB231_232.out _; (with_reducible repeat (first | refine blk_drewN ?_ _ | refine blk_drew ?_ | refine blk_alloc ?_ _)); refine blk_far ?_ NB231_232.out _; (with_reducible repeat (first | refine blk_drewN ?_ _ | refine blk_drew ?_ | refine blk_alloc ?_ _)); refine blk_put (cs := #[.int .i64 t222, .int .i64 t223, .int .i64 0]) ?_ 2 _ rfl; (with_reducible repeat (first | refine blk_drewN ?_ _ | refine blk_drew ?_ | refine blk_alloc ?_ _)); refine blk_put (cs := #[.int .i64 t222, .int .i64 0, .int .i64 0]) ?_ 1 _ rfl; (with_reducible repeat (first | refine blk_drewN ?_ _ | refine blk_drew ?_ | refine blk_alloc ?_ _)); refine blk_put (cs := #[.int .i64 0, .int .i64 0, .int .i64 0]) ?_ 0 _ rfl; (with_reducible repeat (first | refine blk_drewN ?_ _ | refine blk_drew ?_ | refine blk_alloc ?_ _)); exact BK231.out)) : gb234 ≠ gb231)); have n9_ := Aside0.mk ((by rw [hg]; exact Nat.ne_of_lt (blk_lt (g := gb232) (o := .cells #[.int .i64 t225, .int .i64 t226, .int .i64 t227] 31 (0, 0)) (by (with_reducible repeat (first | refine blk_drewN ?_ _ | refine blk_drew ?_ | refine blk_alloc ?_ _)); refine blk_far ?_ NB232_233.out _; (with_reducible repeat (first | refine blk_drewN ?_ _ | refine blk_drew ?_ | refine blk_alloc ?_ _)); refine blk_far ?_ NB232_233.out _; (with_reducible repeat (first | refine blk_drewN ?_ _ | refine blk_drew ?_ | refine blk_alloc ?_ _)); refine blk_far ?_ NB232_233.out _; (with_reducible repeat (first | refine blk_drewN ?_ _ | refine blk_drew ?_ | refine blk_alloc ?_ _)); refine blk_put (cs := #[.int .i64 t225, .int .i64 t226, .int .i64 0]) ?_ 2 _ rfl; (with_reducible repeat (first | refine blk_drewN ?_ _ | refine blk_drew ?_ | refine blk_alloc ?_ _)); refine blk_put (cs := #[.int .i64 t225, .int .i64 0, .int .i64 0]) ?_ 1 _ rfl; (with_reducible repeat (first | refine blk_drewN ?_ _ | refine blk_drew ?_ | refine blk_alloc ?_ _)); refine blk_put (cs := #[.int .i64 0, .int .i64 0, .int .i64 0]) ?_ 0 _ rfl; (with_reducible repeat (first | refine blk_drewN ?_ _ | refine blk_drew ?_ | refine blk_alloc ?_ _)); refine blk_far ?_ NB232_231.out _; (with_reducible repeat (first | refine blk_drewN ?_ _ | refine blk_drew ?_ | refine blk_alloc ?_ _)); refine blk_far ?_ NB232_231.out _; (with_reducible repeat (first | refine blk_drewN ?_ _ | refine blk_drew ?_ | refine blk_alloc ?_ _)); refine blk_far ?_ NB232_231.out _; (with_reducible repeat (first | refine blk_drewN ?_ _ | refine blk_drew ?_ | refine blk_alloc ?_ _)); exact BK232.out)) : gb232 ≠ gb234)); have n10_ := Aside0.mk ((by rw [hg]; exact Nat.ne_of_gt (blk_lt (g := gb232) (o := .cells #[.int .i64 t225, .int .i64 t226, .int .i64 t227] 31 (0, 0)) (by (with_reducible repeat (first | refine blk_drewN ?_ _ | refine blk_drew ?_ | refine blk_alloc ?_ _)); refine blk_far ?_ NB232_233.out _; (with_reducible repeat (first | refine blk_drewN ?_ _ | refine blk_drew ?_ | refine blk_alloc ?_ _)); refine blk_far ?_ NB232_233.out _; (with_reducible repeat (first | refine blk_drewN ?_ _ | refine blk_drew ?_ | refine blk_alloc ?_ _)); refine blk_far ?_ NB232_233.out _; (with_reducible repeat (first | refine blk_drewN ?_ _ | refine blk_drew ?_ | refine blk_alloc ?_ _)); refine blk_put (cs := #[.int .i64 t225, .int .i64 t226, .int .i64 0]) ?_ 2 _ rfl; (with_reducible repeat (first | refine blk_drewN ?_ _ | refine blk_drew ?_ | refine blk_alloc ?_ _)); refine blk_put (cs := #[.int .i64 t225, .int .i64 0, .int .i64 0]) ?_ 1 _ rfl; (with_reducible repeat (first | refine blk_drewN ?_ _ | refine blk_drew ?_ | refine blk_alloc ?_ _)); refine blk_put (cs := #[.int .i64 0, .int .i64 0, .int .i64 0]) ?_ 0 _ rfl; (with_reducible repeat (first | refine blk_drewN ?_ _ | refine blk_drew ?_ | refine blk_alloc ?_ _)); refine blk_far ?_ NB232_231.out _; (with_reducible repeat (first | refine blk_drewN ?_ _ | refine blk_drew ?_ | refine blk_alloc ?_ _)); refine blk_far ?_ NB232_231.out _; (with_reducible repeat (first | refine blk_drewN ?_ _ | refine blk_drew ?_ | refine blk_alloc ?_ _)); refine blk_far ?_ NB232_231.out _; (with_reducible repeat (first | refine blk_drewN ?_ _ | refine blk_drew ?_ | refine blk_alloc ?_ _)); exact BK232.out)) : gb234 ≠ gb232)); have n11_ := Aside0.mk ((by rw [hg]; exact Nat.ne_of_lt (blk_lt (g := gb233) (o := .cells #[.int .i64 t228, .int .i64 t229, .int .i64 t230] 31 (0, 0)) (by (with_reducible repeat (first | refine blk_drewN ?_ _ | refine blk_drew ?_ | refine blk_alloc ?_ _)); refine blk_put (cs := #[.int .i64 t228, .int .i64 t229, .int .i64 0]) ?_ 2 _ rfl; (with_reducible repeat (first | refine blk_drewN ?_ _ | refine blk_drew ?_ | refine blk_alloc ?_ _)); refine blk_put (cs := #[.int .i64 t228, .int .i64 0, .int .i64 0]) ?_ 1 _ rfl; (with_reducible repeat (first | refine blk_drewN ?_ _ | refine blk_drew ?_ | refine blk_alloc ?_ _)); refine blk_put (cs := #[.int .i64 0, .int .i64 0, .int .i64 0]) ?_ 0 _ rfl; (with_reducible repeat (first | refine blk_drewN ?_ _ | refine blk_drew ?_ | refine blk_alloc ?_ _)); refine blk_far ?_ NB233_232.out _; (with_reducible repeat (first | refine blk_drewN ?_ _ | refine blk_drew ?_ | refine blk_alloc ?_ _)); refine blk_far ?_ NB233_232.out _; (with_reducible repeat (first | refine blk_drewN ?_ _ | refine blk_drew ?_ | refine blk_alloc ?_ _)); refine blk_far ?_ NB233_232.out _; (with_reducible repeat (first | refine blk_drewN ?_ _ | refine blk_drew ?_ | refine blk_alloc ?_ _)); refine blk_far ?_ NB233_231.out _; (with_reducible repeat (first | refine blk_drewN ?_ _ | refine blk_drew ?_ | refine blk_alloc ?_ _)); refine blk_far ?_ NB233_231.out _; (with_reducible repeat (first | refine blk_drewN ?_ _ | refine blk_drew ?_ | refine blk_alloc ?_ _)); refine blk_far ?_ NB233_231.out _; (with_reducible repeat (first | refine blk_drewN ?_ _ | refine blk_drew ?_ | refine blk_alloc ?_ _)); exact BK233.out)) : gb233 ≠ gb234)); have n12_ := Aside0.mk ((by rw [hg]; exact Nat.ne_of_gt (blk_lt (g := gb233) (o := .cells #[.int .i64 t228, .int .i64 t229, .int .i64 t230] 31 (0, 0)) (by (with_reducible repeat (first | refine blk_drewN ?_ _ | refine blk_drew ?_ | refine blk_alloc ?_ _)); refine blk_put (cs := #[.int .i64 t228, .int .i64 t229, .int .i64 0]) ?_ 2 _ rfl; (with_reducible repeat (first | refine blk_drewN ?_ _ | refine blk_drew ?_ | refine blk_alloc ?_ _)); refine blk_put (cs := #[.int .i64 t228, .int .i64 0, .int .i64 0]) ?_ 1 _ rfl; (with_reducible repeat (first | refine blk_drewN ?_ _ | refine blk_drew ?_ | refine blk_alloc ?_ _)); refine blk_put (cs := #[.int .i64 0, .int .i64 0, .int .i64 0]) ?_ 0 _ rfl; (with_reducible repeat (first | refine blk_drewN ?_ _ | refine blk_drew ?_ | refine blk_alloc ?_ _)); refine blk_far ?_ NB233_232.out _; (with_reducible repeat (first | refine blk_drewN ?_ _ | refine blk_drew ?_ | refine blk_alloc ?_ _)); refine blk_far ?_ NB233_232.out _; (with_reducible repeat (first | refine blk_drewN ?_ _ | refine blk_drew ?_ | refine blk_alloc ?_ _)); refine blk_far ?_ NB233_232.out _; (with_reducible repeat (first | refine blk_drewN ?_ _ | refine blk_drew ?_ | refine blk_alloc ?_ _)); refine blk_far ?_ NB233_231.out _; (with_reducible repeat (first | refine blk_drewN ?_ _ | refine blk_drew ?_ | refine blk_alloc ?_ _)); refine blk_far ?_ NB233_231.out _; (with_reducible repeat (first | refine blk_drewN ?_ _ | refine blk_drew ?_ | refine blk_alloc ?_ _)); refine blk_far ?_ NB233_231.out _; (with_reducible repeat (first | refine blk_drewN ?_ _ | refine blk_drew ?_ | refine blk_alloc ?_ _)); exact BK233.out)) : gb234 ≠ gb233)); clear BK231; clear BK232; clear BK233; clear HB; have BK231 := n0_; have BK232 := n1_; have BK233 := n2_; have HB := n3_; have BK234 := n4_; have GW234 := n5_; have GE234 := n6_; have NB231_234 := n7_; have NB234_231 := n8_; have NB232_234 := n9_; have NB234_232 := n10_; have NB233_234 := n11_; have NB234_233 := n12_; clear n0_ n1_ n2_ n3_ n4_ n5_ n6_ n7_ n8_ n9_ n10_ n11_ n12_; clear hb hbox hg; have hnb94 := NB234_231.out; have hnc94 := NB231_234.out; have hnb95 := NB234_232.out; have hnc95 := NB232_234.out; have hnb96 := NB234_233.out; have hnc96 := NB233_234.out; have hcz97_0 : w93.cell? ⟨gb234, 0, none⟩ = some (.int .i64 0) := cR BK234.out 0; have hcz97_1 : w93.cell? ⟨gb234, 1, none⟩ = some (.int .i64 0) := cR BK234.out 1; have hfz97_0 := blk_frozen BK234.out 0; have hfz97_1 := blk_frozen BK234.out 1; have hcz98_0 : w93.cell? ⟨gb232, 0, none⟩ = some (.int .i64 t225) := cR BK232.out 0; have hcz98_1 : w93.cell? ⟨gb232, 1, none⟩ = some (.int .i64 t226) := cR BK232.out 1; have hcz98_2 : w93.cell? ⟨gb232, 2, none⟩ = some (.int .i64 t227) := cR BK232.out 2; have hfz98_0 := blk_frozen BK232.out 0; have hfz98_1 := blk_frozen BK232.out 1; have hfz98_2 := blk_frozen BK232.out 2) | ((with_reducible refine gate_dst (N := 7) rfl ?_); refine bE 7 #[.int .i64 0, .int .i64 0] 29 ?_; intro gb235 hg w99 hbox hb; have n0_ := Aside0.mk (blk_below (g := gb231) (o := .cells #[.int .i64 t222, .int .i64 t223, .int .i64 t224] 31 (0, 0)) (by (with_reducible repeat (first | refine blk_drewN ?_ _ | refine blk_drew ?_ | refine blk_alloc ?_ _)); refine blk_far ?_ NB231_234.out _; (with_reducible repeat (first | refine blk_drewN ?_ _ | refine blk_drew ?_ | refine blk_alloc ?_ _)); refine blk_far ?_ NB231_234.out _; (with_reducible repeat (first | refine blk_drewN ?_ _ | refine blk_drew ?_ | refine blk_alloc ?_ _)); exact BK231.out) hb); have n1_ := Aside0.mk (blk_below (g := gb232) (o := .cells #[.int .i64 t225, .int .i64 t226, .int .i64 t227] 31 (0, 0)) (by (with_reducible repeat (first | refine blk_drewN ?_ _ | refine blk_drew ?_ | refine blk_alloc ?_ _)); refine blk_far ?_ NB232_234.out _; (with_reducible repeat (first | refine blk_drewN ?_ _ | refine blk_drew ?_ | refine blk_alloc ?_ _)); refine blk_far ?_ NB232_234.out _; (with_reducible repeat (first | refine blk_drewN ?_ _ | refine blk_drew ?_ | refine blk_alloc ?_ _)); exact BK232.out) hb); have n2_ := Aside0.mk (blk_below (g := gb233) (o := .cells #[.int .i64 t228, .int .i64 t229, .int .i64 t230] 31 (0, 0)) (by (with_reducible repeat (first | refine blk_drewN ?_ _ | refine blk_drew ?_ | refine blk_alloc ?_ _)); refine blk_far ?_ NB233_234.out _; (with_reducible repeat (first | refine blk_drewN ?_ _ | refine blk_drew ?_ | refine blk_alloc ?_ _)); refine blk_far ?_ NB233_234.out _; (with_reducible repeat (first | refine blk_drewN ?_ _ | refine blk_drew ?_ | refine blk_alloc ?_ _)); exact BK233.out) hb); have n3_ := Aside0.mk (blk_below (g := gb234) (o := .cells #[.int .i64 t223, .int .i64 t224] 29 (0, 0)) (by (with_reducible repeat (first | refine blk_drewN ?_ _ | refine blk_drew ?_ | refine blk_alloc ?_ _)); refine blk_put (cs := #[.int .i64 t223, .int .i64 0]) ?_ 1 _ rfl; (with_reducible repeat (first | refine blk_drewN ?_ _ | refine blk_drew ?_ | refine blk_alloc ?_ _)); refine blk_put (cs := #[.int .i64 0, .int .i64 0]) ?_ 0 _ rfl; (with_reducible repeat (first | refine blk_drewN ?_ _ | refine blk_drew ?_ | refine blk_alloc ?_ _)); exact BK234.out) hb); have n4_ := Aside0.mk (below_step aH hb); have n5_ := Aside0.mk (hbox); have n6_ := Aside0.mk ((gS hg : w.heap.size ≤ gb235)); have n7_ := Aside0.mk ((gS hg : w.heap.size ≤ gb235)); have n8_ := Aside0.mk ((by rw [hg]; exact Nat.ne_of_lt (blk_lt (g := gb231) (o := .cells #[.int .i64 t222, .int .i64 t223, .int .i64 t224] 31 (0, 0)) (by (with_reducible repeat (first | refine blk_drewN ?_ _ | refine blk_drew ?_ | refine blk_alloc ?_ _)); refine blk_far ?_ NB231_234.out _; (with_reducible repeat (first | refine blk_drewN ?_ _ | refine blk_drew ?_ | refine blk_alloc ?_ _)); refine blk_far ?_ NB231_234.out _; (with_reducible repeat (first | refine blk_drewN ?_ _ | refine blk_drew ?_ | refine blk_alloc ?_ _)); exact BK231.out)) : gb231 ≠ gb235)); have n9_ := Aside0.mk ((by rw [hg]; exact Nat.ne_of_gt (blk_lt (g := gb231) (o := .cells #[.int .i64 t222, .int .i64 t223, .int .i64 t224] 31 (0, 0)) (by (with_reducible repeat (first | refine blk_drewN ?_ _ | refine blk_drew ?_ | refine blk_alloc ?_ _)); refine blk_far ?_ NB231_234.out _; (with_reducible repeat (first | refine blk_drewN ?_ _ | refine blk_drew ?_ | refine blk_alloc ?_ _)); refine blk_far ?_ NB231_234.out _; (with_reducible repeat (first | refine blk_drewN ?_ _ | refine blk_drew ?_ | refine blk_alloc ?_ _)); exact BK231.out)) : gb235 ≠ gb231)); have n10_ := Aside0.mk ((by rw [hg]; exact Nat.ne_of_lt (blk_lt (g := gb232) (o := .cells #[.int .i64 t225, .int .i64 t226, .int .i64 t227] 31 (0, 0)) (by (with_reducible repeat (first | refine blk_drewN ?_ _ | refine blk_drew ?_ | refine blk_alloc ?_ _)); refine blk_far ?_ NB232_234.out _; (with_reducible repeat (first | refine blk_drewN ?_ _ | refine blk_drew ?_ | refine blk_alloc ?_ _)); refine blk_far ?_ NB232_234.out _; (with_reducible repeat (first | refine blk_drewN ?_ _ | refine blk_drew ?_ | refine blk_alloc ?_ _)); exact BK232.out)) : gb232 ≠ gb235)); have n11_ := Aside0.mk ((by rw [hg]; exact Nat.ne_of_gt (blk_lt (g := gb232) (o := .cells #[.int .i64 t225, .int .i64 t226, .int .i64 t227] 31 (0, 0)) (by (with_reducible repeat (first | refine blk_drewN ?_ _ | refine blk_drew ?_ | refine blk_alloc ?_ _)); refine blk_far ?_ NB232_234.out _; (with_reducible repeat (first | refine blk_drewN ?_ _ | refine blk_drew ?_ | refine blk_alloc ?_ _)); refine blk_far ?_ NB232_234.out _; (with_reducible repeat (first | refine blk_drewN ?_ _ | refine blk_drew ?_ | refine blk_alloc ?_ _)); exact BK232.out)) : gb235 ≠ gb232)); have n12_ := Aside0.mk ((by rw [hg]; exact Nat.ne_of_lt (blk_lt (g := gb233) (o := .cells #[.int .i64 t228, .int .i64 t229, .int .i64 t230] 31 (0, 0)) (by (with_reducible repeat (first | refine blk_drewN ?_ _ | refine blk_drew ?_ | refine blk_alloc ?_ _)); refine blk_far ?_ NB233_234.out _; (with_reducible repeat (first | refine blk_drewN ?_ _ | refine blk_drew ?_ | refine blk_alloc ?_ _)); refine blk_far ?_ NB233_234.out _; (with_reducible repeat (first | refine blk_drewN ?_ _ | refine blk_drew ?_ | refine blk_alloc ?_ _)); exact BK233.out)) : gb233 ≠ gb235)); have n13_ := Aside0.mk ((by rw [hg]; exact Nat.ne_of_gt (blk_lt (g := gb233) (o := .cells #[.int .i64 t228, .int .i64 t229, .int .i64 t230] 31 (0, 0)) (by (with_reducible repeat (first | refine blk_drewN ?_ _ | refine blk_drew ?_ | refine blk_alloc ?_ _)); refine blk_far ?_ NB233_234.out _; (with_reducible repeat (first | refine blk_drewN ?_ _ | refine blk_drew ?_ | refine blk_alloc ?_ _)); refine blk_far ?_ NB233_234.out _; (with_reducible repeat (first | refine blk_drewN ?_ _ | refine blk_drew ?_ | refine blk_alloc ?_ _)); exact BK233.out)) : gb235 ≠ gb233)); have n14_ := Aside0.mk ((by rw [hg]; exact Nat.ne_of_lt (blk_lt (g := gb234) (o := .cells #[.int .i64 t223, .int .i64 t224] 29 (0, 0)) (by (with_reducible repeat (first | refine blk_drewN ?_ _ | refine blk_drew ?_ | refine blk_alloc ?_ _)); refine blk_put (cs := #[.int .i64 t223, .int .i64 0]) ?_ 1 _ rfl; (with_reducible repeat (first | refine blk_drewN ?_ _ | refine blk_drew ?_ | refine blk_alloc ?_ _)); refine blk_put (cs := #[.int .i64 0, .int .i64 0]) ?_ 0 _ rfl; (with_reducible repeat (first | refine blk_drewN ?_ _ | refine blk_drew ?_ | refine blk_alloc ?_ _)); exact BK234.out)) : gb234 ≠ gb235)); have n15_ := Aside0.mk ((by rw [hg]; exact Nat.ne_of_gt (blk_lt (g := gb234) (o := .cells #[.int .i64 t223, .int .i64 t224] 29 (0, 0)) (by (with_reducible repeat (first | refine blk_drewN ?_ _ | refine blk_drew ?_ | refine blk_alloc ?_ _)); refine blk_put (cs := #[.int .i64 t223, .int .i64 0]) ?_ 1 _ rfl; (with_reducible repeat (first | refine blk_drewN ?_ _ | refine blk_drew ?_ | refine blk_alloc ?_ _)); refine blk_put (cs := #[.int .i64 0, .int .i64 0]) ?_ 0 _ rfl; (with_reducible repeat (first | refine blk_drewN ?_ _ | refine blk_drew ?_ | refine blk_alloc ?_ _)); exact BK234.out)) : gb235 ≠ gb234)); clear BK231; clear BK232; clear BK233; clear BK234; clear HB; have BK231 := n0_; have BK232 := n1_; have BK233 := n2_; have BK234 := n3_; have HB := n4_; have BK235 := n5_; have GW235 := n6_; have GE235 := n7_; have NB231_235 := n8_; have NB235_231 := n9_; have NB232_235 := n10_; have NB235_232 := n11_; have NB233_235 := n12_; have NB235_233 := n13_; have NB234_235 := n14_; have NB235_234 := n15_; clear n0_ n1_ n2_ n3_ n4_ n5_ n6_ n7_ n8_ n9_ n10_ n11_ n12_ n13_ n14_ n15_; clear hb hbox hg; have hnb100 := NB235_231.out; have hnc100 := NB231_235.out; have hnb101 := NB235_232.out; have hnc101 := NB232_235.out; have hnb102 := NB235_233.out; have hnc102 := NB233_235.out; have hnb103 := NB235_234.out; have hnc103 := NB234_235.out; have hcz104_0 : w99.cell? ⟨gb235, 0, none⟩ = some (.int .i64 0) := cR BK235.out 0; have hcz104_1 : w99.cell? ⟨gb235, 1, none⟩ = some (.int .i64 0) := cR BK235.out 1; have hfz104_0 := blk_frozen BK235.out 0; have hfz104_1 := blk_frozen BK235.out 1; have hcz105_0 : w99.cell? ⟨gb233, 0, none⟩ = some (.int .i64 t228) := cR BK233.out 0; have hcz105_1 : w99.cell? ⟨gb233, 1, none⟩ = some (.int .i64 t229) := cR BK233.out 1; have hcz105_2 : w99.cell? ⟨gb233, 2, none⟩ = some (.int .i64 t230) := cR BK233.out 2; have hfz105_0 := blk_frozen BK233.out 0; have hfz105_1 := blk_frozen BK233.out 1; have hfz105_2 := blk_frozen BK233.out 2) | ((with_reducible refine gate_dst (N := 8) rfl ?_); refine bE 8 #[.int .i64 0, .int .i64 0] 29 ?_; intro gb236 hg w106 hbox hb; have n0_ := Aside0.mk (blk_below (g := gb231) (o := .cells #[.int .i64 t222, .int .i64 t223, .int .i64 t224] 31 (0, 0)) (by (with_reducible repeat (first | refine blk_drewN ?_ _ | refine blk_drew ?_ | refine blk_alloc ?_ _)); refine blk_far ?_ NB231_235.out _; (with_reducible repeat (first | refine blk_drewN ?_ _ | refine blk_drew ?_ | refine blk_alloc ?_ _)); refine blk_far ?_ NB231_235.out _; (with_reducible repeat (first | refine blk_drewN ?_ _ | refine blk_drew ?_ | refine blk_alloc ?_ _)); exact BK231.out) hb); have n1_ := Aside0.mk (blk_below (g := gb232) (o := .cells #[.int .i64 t225, .int .i64 t226, .int .i64 t227] 31 (0, 0)) (by (with_reducible repeat (first | refine blk_drewN ?_ _ | refine blk_drew ?_ | refine blk_alloc ?_ _)); refine blk_far ?_ NB232_235.out _; (with_reducible repeat (first | refine blk_drewN ?_ _ | refine blk_drew ?_ | refine blk_alloc ?_ _)); refine blk_far ?_ NB232_235.out _; (with_reducible repeat (first | refine blk_drewN ?_ _ | refine blk_drew ?_ | refine blk_alloc ?_ _)); exact BK232.out) hb); have n2_ := Aside0.mk (blk_below (g := gb233) (o := .cells #[.int .i64 t228, .int .i64 t229, .int .i64 t230] 31 (0, 0)) (by (with_reducible repeat (first | refine blk_drewN ?_ _ | refine blk_drew ?_ | refine blk_alloc ?_ _)); refine blk_far ?_ NB233_235.out _; (with_reducible repeat (first | refine blk_drewN ?_ _ | refine blk_drew ?_ | refine blk_alloc ?_ _)); refine blk_far ?_ NB233_235.out _; (with_reducible repeat (first | refine blk_drewN ?_ _ | refine blk_drew ?_ | refine blk_alloc ?_ _)); exact BK233.out) hb); have n3_ := Aside0.mk (blk_below (g := gb234) (o := .cells #[.int .i64 t223, .int .i64 t224] 29 (0, 0)) (by (with_reducible repeat (first | refine blk_drewN ?_ _ | refine blk_drew ?_ | refine blk_alloc ?_ _)); refine blk_far ?_ NB234_235.out _; (with_reducible repeat (first | refine blk_drewN ?_ _ | refine blk_drew ?_ | refine blk_alloc ?_ _)); refine blk_far ?_ NB234_235.out _; (with_reducible repeat (first | refine blk_drewN ?_ _ | refine blk_drew ?_ | refine blk_alloc ?_ _)); exact BK234.out) hb); have n4_ := Aside0.mk (blk_below (g := gb235) (o := .cells #[.int .i64 t226, .int .i64 t227] 29 (0, 0)) (by (with_reducible repeat (first | refine blk_drewN ?_ _ | refine blk_drew ?_ | refine blk_alloc ?_ _)); refine blk_put (cs := #[.int .i64 t226, .int .i64 0]) ?_ 1 _ rfl; (with_reducible repeat (first | refine blk_drewN ?_ _ | refine blk_drew ?_ | refine blk_alloc ?_ _)); refine blk_put (cs := #[.int .i64 0, .int .i64 0]) ?_ 0 _ rfl; (with_reducible repeat (first | refine blk_drewN ?_ _ | refine blk_drew ?_ | refine blk_alloc ?_ _)); exact BK235.out) hb); have n5_ := Aside0.mk (below_step aH hb); have n6_ := Aside0.mk (hbox); have n7_ := Aside0.mk ((gS hg : w.heap.size ≤ gb236)); have n8_ := Aside0.mk ((gS hg : w.heap.size ≤ gb236)); have n9_ := Aside0.mk ((by rw [hg]; exact Nat.ne_of_lt (blk_lt (g := gb231) (o := .cells #[.int .i64 t222, .int .i64 t223, .int .i64 t224] 31 (0, 0)) (by (with_reducible repeat (first | refine blk_drewN ?_ _ | refine blk_drew ?_ | refine blk_alloc ?_ _)); refine blk_far ?_ NB231_235.out _; (with_reducible repeat (first | refine blk_drewN ?_ _ | refine blk_drew ?_ | refine blk_alloc ?_ _)); refine blk_far ?_ NB231_235.out _; (with_reducible repeat (first | refine blk_drewN ?_ _ | refine blk_drew ?_ | refine blk_alloc ?_ _)); exact BK231.out)) : gb231 ≠ gb236)); have n10_ := Aside0.mk ((by rw [hg]; exact Nat.ne_of_gt (blk_lt (g := gb231) (o := .cells #[.int .i64 t222, .int .i64 t223, .int .i64 t224] 31 (0, 0)) (by (with_reducible repeat (first | refine blk_drewN ?_ _ | refine blk_drew ?_ | refine blk_alloc ?_ _)); refine blk_far ?_ NB231_235.out _; (with_reducible repeat (first | refine blk_drewN ?_ _ | refine blk_drew ?_ | refine blk_alloc ?_ _)); refine blk_far ?_ NB231_235.out _; (with_reducible repeat (first | refine blk_drewN ?_ _ | refine blk_drew ?_ | refine blk_alloc ?_ _)); exact BK231.out)) : gb236 ≠ gb231)); have n11_ := Aside0.mk ((by rw [hg]; exact Nat.ne_of_lt (blk_lt (g := gb232) (o := .cells #[.int .i64 t225, .int .i64 t226, .int .i64 t227] 31 (0, 0)) (by (with_reducible repeat (first | refine blk_drewN ?_ _ | refine blk_drew ?_ | refine blk_alloc ?_ _)); refine blk_far ?_ NB232_235.out _; (with_reducible repeat (first | refine blk_drewN ?_ _ | refine blk_drew ?_ | refine blk_alloc ?_ _)); refine blk_far ?_ NB232_235.out _; (with_reducible repeat (first | refine blk_drewN ?_ _ | refine blk_drew ?_ | refine blk_alloc ?_ _)); exact BK232.out)) : gb232 ≠ gb236)); have n12_ := Aside0.mk ((by rw [hg]; exact Nat.ne_of_gt (blk_lt (g := gb232) (o := .cells #[.int .i64 t225, .int .i64 t226, .int .i64 t227] 31 (0, 0)) (by (with_reducible repeat (first | refine blk_drewN ?_ _ | refine blk_drew ?_ | refine blk_alloc ?_ _)); refine blk_far ?_ NB232_235.out _; (with_reducible repeat (first | refine blk_drewN ?_ _ | refine blk_drew ?_ | refine blk_alloc ?_ _)); refine blk_far ?_ NB232_235.out _; (with_reducible repeat (first | refine blk_drewN ?_ _ | refine blk_drew ?_ | refine blk_alloc ?_ _)); exact BK232.out)) : gb236 ≠ gb232)); have n13_ := Aside0.mk ((by rw [hg]; exact Nat.ne_of_lt (blk_lt (g := gb233) (o := .cells #[.int .i64 t228, .int .i64 t229, .int .i64 t230] 31 (0, 0)) (by (with_reducible repeat (first | refine blk_drewN ?_ _ | refine blk_drew ?_ | refine blk_alloc ?_ _)); refine blk_far ?_ NB233_235.out _; (with_reducible repeat (first | refine blk_drewN ?_ _ | refine blk_drew ?_ | refine blk_alloc ?_ _)); refine blk_far ?_ NB233_235.out _; (with_reducible repeat (first | refine blk_drewN ?_ _ | refine blk_drew ?_ | refine blk_alloc ?_ _)); exact BK233.out)) : gb233 ≠ gb236)); have n14_ := Aside0.mk ((by rw [hg]; exact Nat.ne_of_gt (blk_lt (g := gb233) (o := .cells #[.int .i64 t228, .int .i64 t229, .int .i64 t230] 31 (0, 0)) (by (with_reducible repeat (first | refine blk_drewN ?_ _ | refine blk_drew ?_ | refine blk_alloc ?_ _)); refine blk_far ?_ NB233_235.out _; (with_reducible repeat (first | refine blk_drewN ?_ _ | refine blk_drew ?_ | refine blk_alloc ?_ _)); refine blk_far ?_ NB233_235.out _; (with_reducible repeat (first | refine blk_drewN ?_ _ | refine blk_drew ?_ | refine blk_alloc ?_ _)); exact BK233.out)) : gb236 ≠ gb233)); have n15_ := Aside0.mk ((by rw [hg]; exact Nat.ne_of_lt (blk_lt (g := gb234) (o := .cells #[.int .i64 t223, .int .i64 t224] 29 (0, 0)) (by (with_reducible repeat (first | refine blk_drewN ?_ _ | refine blk_drew ?_ | refine blk_alloc ?_ _)); refine blk_far ?_ NB234_235.out _; (with_reducible repeat (first | refine blk_drewN ?_ _ | refine blk_drew ?_ | refine blk_alloc ?_ _)); refine blk_far ?_ NB234_235.out _; (with_reducible repeat (first | refine blk_drewN ?_ _ | refine blk_drew ?_ | refine blk_alloc ?_ _)); exact BK234.out)) : gb234 ≠ gb236)); have n16_ := Aside0.mk ((by rw [hg]; exact Nat.ne_of_gt (blk_lt (g := gb234) (o := .cells #[.int .i64 t223, .int .i64 t224] 29 (0, 0)) (by (with_reducible repeat (first | refine blk_drewN ?_ _ | refine blk_drew ?_ | refine blk_alloc ?_ _)); refine blk_far ?_ NB234_235.out _; (with_reducible repeat (first | refine blk_drewN ?_ _ | refine blk_drew ?_ | refine blk_alloc ?_ _)); refine blk_far ?_ NB234_235.out _; (with_reducible repeat (first | refine blk_drewN ?_ _ | refine blk_drew ?_ | refine blk_alloc ?_ _)); exact BK234.out)) : gb236 ≠ gb234)); have n17_ := Aside0.mk ((by rw [hg]; exact Nat.ne_of_lt (blk_lt (g := gb235) (o := .cells #[.int .i64 t226, .int .i64 t227] 29 (0, 0)) (by (with_reducible repeat (first | refine blk_drewN ?_ _ | refine blk_drew ?_ | refine blk_alloc ?_ _)); refine blk_put (cs := #[.int .i64 t226, .int .i64 0]) ?_ 1 _ rfl; (with_reducible repeat (first | refine blk_drewN ?_ _ | refine blk_drew ?_ | refine blk_alloc ?_ _)); refine blk_put (cs := #[.int .i64 0, .int .i64 0]) ?_ 0 _ rfl; (with_reducible repeat (first | refine blk_drewN ?_ _ | refine blk_drew ?_ | refine blk_alloc ?_ _)); exact BK235.out)) : gb235 ≠ gb236)); have n18_ := Aside0.mk ((by rw [hg]; exact Nat.ne_of_gt (blk_lt (g := gb235) (o := .cells #[.int .i64 t226, .int .i64 t227] 29 (0, 0)) (by (with_reducible repeat (first | refine blk_drewN ?_ _ | refine blk_drew ?_ | refine blk_alloc ?_ _)); refine blk_put (cs := #[.int .i64 t226, .int .i64 0]) ?_ 1 _ rfl; (with_reducible repeat (first | refine blk_drewN ?_ _ | refine blk_drew ?_ | refine blk_alloc ?_ _)); refine blk_put (cs := #[.int .i64 0, .int .i64 0]) ?_ 0 _ rfl; (with_reducible repeat (first | refine blk_drewN ?_ _ | refine blk_drew ?_ | refine blk_alloc ?_ _)); exact BK235.out)) : gb236 ≠ gb235)); clear BK231; clear BK232; clear BK233; clear BK234; clear BK235; clear HB; have BK231 := n0_; have BK232 := n1_; have BK233 := n2_; have BK234 := n3_; have BK235 := n4_; have HB := n5_; have BK236 := n6_; have GW236 := n7_; have GE236 := n8_; have NB231_236 := n9_; have NB236_231 := n10_; have NB232_236 := n11_; have NB236_232 := n12_; have NB233_236 := n13_; have NB236_233 := n14_; have NB234_236 := n15_; have NB236_234 := n16_; have NB235_236 := n17_; have NB236_235 := n18_; clear n0_ n1_ n2_ n3_ n4_ n5_ n6_ n7_ n8_ n9_ n10_ n11_ n12_ n13_ n14_ n15_ n16_ n17_ n18_; clear hb hbox hg; have hnb107 := NB236_231.out; have hnc107 := NB231_236.out; have hnb108 := NB236_232.out; have hnc108 := NB232_236.out; have hnb109 := NB236_233.out; have hnc109 := NB233_236.out; have hnb110 := NB236_234.out; have hnc110 := NB234_236.out; have hnb111 := NB236_235.out; have hnc111 := NB235_236.out; have hcz112_0 : w106.cell? ⟨gb236, 0, none⟩ = some (.int .i64 0) := cR BK236.out 0; have hcz112_1 : w106.cell? ⟨gb236, 1, none⟩ = some (.int .i64 0) := cR BK236.out 1; have hfz112_0 := blk_frozen BK236.out 0; have hfz112_1 := blk_frozen BK236.out 1; have hcz113_0 : w106.cell? ⟨gb234, 0, none⟩ = some (.int .i64 t223) := cR BK234.out 0; have hcz113_1 : w106.cell? ⟨gb234, 1, none⟩ = some (.int .i64 t224) := cR BK234.out 1; have hfz113_0 := blk_frozen BK234.out 0; have hfz113_1 := blk_frozen BK234.out 1; have hcz114_0 : w106.cell? ⟨gb235, 0, none⟩ = some (.int .i64 t226) := cR BK235.out 0; have hcz114_1 : w106.cell? ⟨gb235, 1, none⟩ = some (.int .i64 t227) := cR BK235.out 1; have hfz114_0 := blk_frozen BK235.out 0; have hfz114_1 := blk_frozen BK235.out 1) | ((with_reducible refine gate_callee (f := 32) rfl ?_); refine gL_ (some 28) Try.func32 #[.agg #[.int .i64 t223, .int .i64 t224], .agg #[.int .i64 t226, .int .i64 t227]] ?_; (with_reducible refine (impl_Later.calls t223 t224 t226 t227 true _ A5.out).mono ?_); rintro e w115 ⟨rfl, hb⟩; refine ⟨_, rfl, ?_⟩; have n0_ := Aside0.mk (blk_below (g := gb231) (o := .cells #[.int .i64 t222, .int .i64 t223, .int .i64 t224] 31 (0, 0)) (by (with_reducible repeat (first | refine blk_drewN ?_ _ | refine blk_drew ?_ | refine blk_alloc ?_ _)); refine blk_far ?_ NB231_236.out _; (with_reducible repeat (first | refine blk_drewN ?_ _ | refine blk_drew ?_ | refine blk_alloc ?_ _)); refine blk_far ?_ NB231_236.out _; (with_reducible repeat (first | refine blk_drewN ?_ _ | refine blk_drew ?_ | refine blk_alloc ?_ _)); exact BK231.out) hb); have n1_ := Aside0.mk (blk_below (g := gb232) (o := .cells #[.int .i64 t225, .int .i64 t226, .int .i64 t227] 31 (0, 0)) (by (with_reducible repeat (first | refine blk_drewN ?_ _ | refine blk_drew ?_ | refine blk_alloc ?_ _)); refine blk_far ?_ NB232_236.out _; (with_reducible repeat (first | refine blk_drewN ?_ _ | refine blk_drew ?_ | refine blk_alloc ?_ _)); refine blk_far ?_ NB232_236.out _; (with_reducible repeat (first | refine blk_drewN ?_ _ | refine blk_drew ?_ | refine blk_alloc ?_ _)); exact BK232.out) hb); have n2_ := Aside0.mk (blk_below (g := gb233) (o := .cells #[.int .i64 t228, .int .i64 t229, .int .i64 t230] 31 (0, 0)) (by (with_reducible repeat (first | refine blk_drewN ?_ _ | refine blk_drew ?_ | refine blk_alloc ?_ _)); refine blk_far ?_ NB233_236.out _; (with_reducible repeat (first | refine blk_drewN ?_ _ | refine blk_drew ?_ | refine blk_alloc ?_ _)); refine blk_far ?_ NB233_236.out _; (with_reducible repeat (first | refine blk_drewN ?_ _ | refine blk_drew ?_ | refine blk_alloc ?_ _)); exact BK233.out) hb); have n3_ := Aside0.mk (blk_below (g := gb234) (o := .cells #[.int .i64 t223, .int .i64 t224] 29 (0, 0)) (by (with_reducible repeat (first | refine blk_drewN ?_ _ | refine blk_drew ?_ | refine blk_alloc ?_ _)); refine blk_far ?_ NB234_236.out _; (with_reducible repeat (first | refine blk_drewN ?_ _ | refine blk_drew ?_ | refine blk_alloc ?_ _)); refine blk_far ?_ NB234_236.out _; (with_reducible repeat (first | refine blk_drewN ?_ _ | refine blk_drew ?_ | refine blk_alloc ?_ _)); exact BK234.out) hb); have n4_ := Aside0.mk (blk_below (g := gb235) (o := .cells #[.int .i64 t226, .int .i64 t227] 29 (0, 0)) (by (with_reducible repeat (first | refine blk_drewN ?_ _ | refine blk_drew ?_ | refine blk_alloc ?_ _)); refine blk_far ?_ NB235_236.out _; (with_reducible repeat (first | refine blk_drewN ?_ _ | refine blk_drew ?_ | refine blk_alloc ?_ _)); refine blk_far ?_ NB235_236.out _; (with_reducible repeat (first | refine blk_drewN ?_ _ | refine blk_drew ?_ | refine blk_alloc ?_ _)); exact BK235.out) hb); have n5_ := Aside0.mk (blk_below (g := gb236) (o := .cells #[.int .i64 t229, .int .i64 t230] 29 (0, 0)) (by (with_reducible repeat (first | refine blk_drewN ?_ _ | refine blk_drew ?_ | refine blk_alloc ?_ _)); refine blk_put (cs := #[.int .i64 t229, .int .i64 0]) ?_ 1 _ rfl; (with_reducible repeat (first | refine blk_drewN ?_ _ | refine blk_drew ?_ | refine blk_alloc ?_ _)); refine blk_put (cs := #[.int .i64 0, .int .i64 0]) ?_ 0 _ rfl; (with_reducible repeat (first | refine blk_drewN ?_ _ | refine blk_drew ?_ | refine blk_alloc ?_ _)); exact BK236.out) hb); have n6_ := Aside0.mk (below_step aH hb); clear BK231; clear BK232; clear BK233; clear BK234; clear BK235; clear BK236; clear HB; have BK231 := n0_; have BK232 := n1_; have BK233 := n2_; have BK234 := n3_; have BK235 := n4_; have BK236 := n5_; have HB := n6_; clear n0_ n1_ n2_ n3_ n4_ n5_ n6_; (try clear hb); (try clear hb2); (try clear hk); (try clear hi); have hcz116_0 : w115.cell? ⟨gb235, 0, none⟩ = some (.int .i64 t226) := cR BK235.out 0; have hcz116_1 : w115.cell? ⟨gb235, 1, none⟩ = some (.int .i64 t227) := cR BK235.out 1; have hfz116_0 := blk_frozen BK235.out 0; have hfz116_1 := blk_frozen BK235.out 1; have hcz117_0 : w115.cell? ⟨gb234, 0, none⟩ = some (.int .i64 t223) := cR BK234.out 0; have hcz117_1 : w115.cell? ⟨gb234, 1, none⟩ = some (.int .i64 t224) := cR BK234.out 1; have hfz117_0 := blk_frozen BK234.out 0; have hfz117_1 := blk_frozen BK234.out 1) | ((with_reducible refine gate_callee (f := 32) rfl ?_); refine gL_ (some 31) Try.func32 #[.agg #[.int .i64 t226, .int .i64 t227], .agg #[.int .i64 t223, .int .i64 t224]] ?_; (with_reducible refine (impl_Later.calls t226 t227 t223 t224 false _ A6.out).mono ?_); rintro e w118 ⟨rfl, hb⟩; refine ⟨_, rfl, ?_⟩; have n0_ := Aside0.mk (kB BK231.out hb); have n1_ := Aside0.mk (kB BK232.out hb); have n2_ := Aside0.mk (kB BK233.out hb); have n3_ := Aside0.mk (kB BK234.out hb); have n4_ := Aside0.mk (kB BK235.out hb); have n5_ := Aside0.mk (kB BK236.out hb); have n6_ := Aside0.mk (below_step aH hb); clear BK231; clear BK232; clear BK233; clear BK234; clear BK235; clear BK236; clear HB; have BK231 := n0_; have BK232 := n1_; have BK233 := n2_; have BK234 := n3_; have BK235 := n4_; have BK236 := n5_; have HB := n6_; clear n0_ n1_ n2_ n3_ n4_ n5_ n6_; (try clear hb); (try clear hb2); (try clear hk); (try clear hi)) | ((with_reducible refine gate_callee (f := 33) rfl ?_); refine gL_ (some 33) Try.func33 #[.slice A0 l0.length c0] ?_; (with_reducible refine (spec_DrawRegOk.calls k _ _ l0 t239 t240 t241 _ ?side1 ?side2 A7.out).mono ?_); (case side1 => repeat (first | exact (Kd.C_below HR0.out HB.out) | (with_reducible refine Kd.C_alloc ?_ _) | (with_reducible refine Kd.C_drewN ?_ _) | (with_reducible refine Kd.C_drew ?_))); (case side2 => exact HC0.out); rintro e w119 ⟨rfl, hb⟩; refine ⟨_, rfl, ?_⟩; have n0_ := Aside0.mk (kB BK231.out hb); have n1_ := Aside0.mk (kB BK232.out hb); have n2_ := Aside0.mk (kB BK233.out hb); have n3_ := Aside0.mk (kB BK234.out hb); have n4_ := Aside0.mk (kB BK235.out hb); have n5_ := Aside0.mk (kB BK236.out hb); have n6_ := Aside0.mk (below_step aH hb); clear BK231; clear BK232; clear BK233; clear BK234; clear BK235; clear BK236; clear HB; have BK231 := n0_; have BK232 := n1_; have BK233 := n2_; have BK234 := n3_; have BK235 := n4_; have BK236 := n5_; have HB := n6_; clear n0_ n1_ n2_ n3_ n4_ n5_ n6_; (try clear hb); (try clear hb2); (try clear hk); (try clear hi)) | ((with_reducible refine gate_dst (N := 11) rfl ?_); refine bE 11 #[.int .i64 0, .int .i64 0, .int .i64 0] 31 ?_; intro gb242 hg w120 hbox hb; have n0_ := Aside0.mk (kB BK231.out hb); have n1_ := Aside0.mk (kB BK232.out hb); have n2_ := Aside0.mk (kB BK233.out hb); have n3_ := Aside0.mk (kB BK234.out hb); have n4_ := Aside0.mk (kB BK235.out hb); have n5_ := Aside0.mk (kB BK236.out hb); have n6_ := Aside0.mk (below_step aH hb); have n7_ := Aside0.mk (hbox); have n8_ := Aside0.mk ((gS hg : w.heap.size ≤ gb242)); have n9_ := Aside0.mk ((gS hg : w.heap.size ≤ gb242)); have n10_ := Aside0.mk (gL hg BK231.out); have n11_ := Aside0.mk (gG hg BK231.out); have n12_ := Aside0.mk (gL hg BK232.out); have n13_ := Aside0.mk (gG hg BK232.out); have n14_ := Aside0.mk (gL hg BK233.out); have n15_ := Aside0.mk (gG hg BK233.out); have n16_ := Aside0.mk (gL hg BK234.out); have n17_ := Aside0.mk (gG hg BK234.out); have n18_ := Aside0.mk (gL hg BK235.out); have n19_ := Aside0.mk (gG hg BK235.out); have n20_ := Aside0.mk (gL hg BK236.out); have n21_ := Aside0.mk (gG hg BK236.out); clear BK231; clear BK232; clear BK233; clear BK234; clear BK235; clear BK236; clear HB; have BK231 := n0_; have BK232 := n1_; have BK233 := n2_; have BK234 := n3_; have BK235 := n4_; have BK236 := n5_; have HB := n6_; have BK242 := n7_; have GW242 := n8_; have GE242 := n9_; have NB231_242 := n10_; have NB242_231 := n11_; have NB232_242 := n12_; have NB242_232 := n13_; have NB233_242 := n14_; have NB242_233 := n15_; have NB234_242 := n16_; have NB242_234 := n17_; have NB235_242 := n18_; have NB242_235 := n19_; have NB236_242 := n20_; have NB242_236 := n21_; clear n0_ n1_ n2_ n3_ n4_ n5_ n6_ n7_ n8_ n9_ n10_ n11_ n12_ n13_ n14_ n15_ n16_ n17_ n18_ n19_ n20_ n21_; clear hb hbox hg; have hnb121 := NB242_231.out; have hnc121 := NB231_242.out; have hnb122 := NB242_232.out; have hnc122 := NB232_242.out; have hnb123 := NB242_233.out; have hnc123 := NB233_242.out; have hnb124 := NB242_234.out; have hnc124 := NB234_242.out; have hnb125 := NB242_235.out; have hnc125 := NB235_242.out; have hnb126 := NB242_236.out; have hnc126 := NB236_242.out; have hcz127_0 : w120.cell? ⟨gb242, 0, none⟩ = some (.int .i64 0) := cR BK242.out 0; have hcz127_1 : w120.cell? ⟨gb242, 1, none⟩ = some (.int .i64 0) := cR BK242.out 1; have hcz127_2 : w120.cell? ⟨gb242, 2, none⟩ = some (.int .i64 0) := cR BK242.out 2; have hfz127_0 := blk_frozen BK242.out 0; have hfz127_1 := blk_frozen BK242.out 1; have hfz127_2 := blk_frozen BK242.out 2))
        have n0_ : Aside0 ((((w120.setCell ⟨gb242, 0, none⟩ (.int .i64 t239)).setCell ⟨gb242, 1, none⟩ (.int .i64 t240)).setCell ⟨gb242, 2, none⟩ (.int .i64 t241)).heap[gb231]? = some (.cells #[.int .i64 t222, .int .i64 t223, .int .i64 t224] 31 (0, 0))) := ⟨by (with_reducible repeat (first | refine blk_drewN ?_ _ | refine blk_drew ?_ | refine blk_alloc ?_ _)); refine blk_far ?_ NB231_242.out _; (with_reducible repeat (first | refine blk_drewN ?_ _ | refine blk_drew ?_ | refine blk_alloc ?_ _)); refine blk_far ?_ NB231_242.out _; (with_reducible repeat (first | refine blk_drewN ?_ _ | refine blk_drew ?_ | refine blk_alloc ?_ _)); refine blk_far ?_ NB231_242.out _; (with_reducible repeat (first | refine blk_drewN ?_ _ | refine blk_drew ?_ | refine blk_alloc ?_ _)); exact BK231.out⟩
        have n1_ : Aside0 ((((w120.setCell ⟨gb242, 0, none⟩ (.int .i64 t239)).setCell ⟨gb242, 1, none⟩ (.int .i64 t240)).setCell ⟨gb242, 2, none⟩ (.int .i64 t241)).heap[gb232]? = some (.cells #[.int .i64 t225, .int .i64 t226, .int .i64 t227] 31 (0, 0))) := ⟨by (with_reducible repeat (first | refine blk_drewN ?_ _ | refine blk_drew ?_ | refine blk_alloc ?_ _)); refine blk_far ?_ NB232_242.out _; (with_reducible repeat (first | refine blk_drewN ?_ _ | refine blk_drew ?_ | refine blk_alloc ?_ _)); refine blk_far ?_ NB232_242.out _; (with_reducible repeat (first | refine blk_drewN ?_ _ | refine blk_drew ?_ | refine blk_alloc ?_ _)); refine blk_far ?_ NB232_242.out _; (with_reducible repeat (first | refine blk_drewN ?_ _ | refine blk_drew ?_ | refine blk_alloc ?_ _)); exact BK232.out⟩
        have n2_ : Aside0 ((((w120.setCell ⟨gb242, 0, none⟩ (.int .i64 t239)).setCell ⟨gb242, 1, none⟩ (.int .i64 t240)).setCell ⟨gb242, 2, none⟩ (.int .i64 t241)).heap[gb233]? = some (.cells #[.int .i64 t228, .int .i64 t229, .int .i64 t230] 31 (0, 0))) := ⟨by (with_reducible repeat (first | refine blk_drewN ?_ _ | refine blk_drew ?_ | refine blk_alloc ?_ _)); refine blk_far ?_ NB233_242.out _; (with_reducible repeat (first | refine blk_drewN ?_ _ | refine blk_drew ?_ | refine blk_alloc ?_ _)); refine blk_far ?_ NB233_242.out _; (with_reducible repeat (first | refine blk_drewN ?_ _ | refine blk_drew ?_ | refine blk_alloc ?_ _)); refine blk_far ?_ NB233_242.out _; (with_reducible repeat (first | refine blk_drewN ?_ _ | refine blk_drew ?_ | refine blk_alloc ?_ _)); exact BK233.out⟩
        have n3_ : Aside0 ((((w120.setCell ⟨gb242, 0, none⟩ (.int .i64 t239)).setCell ⟨gb242, 1, none⟩ (.int .i64 t240)).setCell ⟨gb242, 2, none⟩ (.int .i64 t241)).heap[gb234]? = some (.cells #[.int .i64 t223, .int .i64 t224] 29 (0, 0))) := ⟨by (with_reducible repeat (first | refine blk_drewN ?_ _ | refine blk_drew ?_ | refine blk_alloc ?_ _)); refine blk_far ?_ NB234_242.out _; (with_reducible repeat (first | refine blk_drewN ?_ _ | refine blk_drew ?_ | refine blk_alloc ?_ _)); refine blk_far ?_ NB234_242.out _; (with_reducible repeat (first | refine blk_drewN ?_ _ | refine blk_drew ?_ | refine blk_alloc ?_ _)); refine blk_far ?_ NB234_242.out _; (with_reducible repeat (first | refine blk_drewN ?_ _ | refine blk_drew ?_ | refine blk_alloc ?_ _)); exact BK234.out⟩
        have n4_ : Aside0 ((((w120.setCell ⟨gb242, 0, none⟩ (.int .i64 t239)).setCell ⟨gb242, 1, none⟩ (.int .i64 t240)).setCell ⟨gb242, 2, none⟩ (.int .i64 t241)).heap[gb235]? = some (.cells #[.int .i64 t226, .int .i64 t227] 29 (0, 0))) := ⟨by (with_reducible repeat (first | refine blk_drewN ?_ _ | refine blk_drew ?_ | refine blk_alloc ?_ _)); refine blk_far ?_ NB235_242.out _; (with_reducible repeat (first | refine blk_drewN ?_ _ | refine blk_drew ?_ | refine blk_alloc ?_ _)); refine blk_far ?_ NB235_242.out _; (with_reducible repeat (first | refine blk_drewN ?_ _ | refine blk_drew ?_ | refine blk_alloc ?_ _)); refine blk_far ?_ NB235_242.out _; (with_reducible repeat (first | refine blk_drewN ?_ _ | refine blk_drew ?_ | refine blk_alloc ?_ _)); exact BK235.out⟩
        have n5_ : Aside0 ((((w120.setCell ⟨gb242, 0, none⟩ (.int .i64 t239)).setCell ⟨gb242, 1, none⟩ (.int .i64 t240)).setCell ⟨gb242, 2, none⟩ (.int .i64 t241)).heap[gb236]? = some (.cells #[.int .i64 t229, .int .i64 t230] 29 (0, 0))) := ⟨by (with_reducible repeat (first | refine blk_drewN ?_ _ | refine blk_drew ?_ | refine blk_alloc ?_ _)); refine blk_far ?_ NB236_242.out _; (with_reducible repeat (first | refine blk_drewN ?_ _ | refine blk_drew ?_ | refine blk_alloc ?_ _)); refine blk_far ?_ NB236_242.out _; (with_reducible repeat (first | refine blk_drewN ?_ _ | refine blk_drew ?_ | refine blk_alloc ?_ _)); refine blk_far ?_ NB236_242.out _; (with_reducible repeat (first | refine blk_drewN ?_ _ | refine blk_drew ?_ | refine blk_alloc ?_ _)); exact BK236.out⟩
        have n6_ : Aside0 ((((w120.setCell ⟨gb242, 0, none⟩ (.int .i64 t239)).setCell ⟨gb242, 1, none⟩ (.int .i64 t240)).setCell ⟨gb242, 2, none⟩ (.int .i64 t241)).heap[gb242]? = some (.cells #[.int .i64 t239, .int .i64 t240, .int .i64 t241] 31 (0, 0))) := ⟨by (with_reducible repeat (first | refine blk_drewN ?_ _ | refine blk_drew ?_ | refine blk_alloc ?_ _)); refine blk_put (cs := #[.int .i64 t239, .int .i64 t240, .int .i64 0]) ?_ 2 _ rfl; (with_reducible repeat (first | refine blk_drewN ?_ _ | refine blk_drew ?_ | refine blk_alloc ?_ _)); refine blk_put (cs := #[.int .i64 t239, .int .i64 0, .int .i64 0]) ?_ 1 _ rfl; (with_reducible repeat (first | refine blk_drewN ?_ _ | refine blk_drew ?_ | refine blk_alloc ?_ _)); refine blk_put (cs := #[.int .i64 0, .int .i64 0, .int .i64 0]) ?_ 0 _ rfl; (with_reducible repeat (first | refine blk_drewN ?_ _ | refine blk_drew ?_ | refine blk_alloc ?_ _)); exact BK242.out⟩
        have n7_ : Aside0 (Below w.heap.size w (((w120.setCell ⟨gb242, 0, none⟩ (.int .i64 t239)).setCell ⟨gb242, 1, none⟩ (.int .i64 t240)).setCell ⟨gb242, 2, none⟩ (.int .i64 t241))) := ⟨aH⟩
        (try clear BK231)
        (try clear BK232)
        (try clear BK233)
        (try clear BK234)
        (try clear BK235)
        (try clear BK236)
        (try clear BK242)
        (try clear HB)
        generalize (((w120.setCell ⟨gb242, 0, none⟩ (.int .i64 t239)).setCell ⟨gb242, 1, none⟩ (.int .i64 t240)).setCell ⟨gb242, 2, none⟩ (.int .i64 t241)) = w128 at n0_ n1_ n2_ n3_ n4_ n5_ n6_ n7_ ⊢
        have BK231 := n0_
        have BK232 := n1_
        have BK233 := n2_
        have BK234 := n3_
        have BK235 := n4_
        have BK236 := n5_
        have BK242 := n6_
        have HB := n7_
        clear n0_ n1_ n2_ n3_ n4_ n5_ n6_ n7_
        have n0_ := Aside0.mk (blk_drew BK231.out)
        have n1_ := Aside0.mk (blk_drew BK232.out)
        have n2_ := Aside0.mk (blk_drew BK233.out)
        have n3_ := Aside0.mk (blk_drew BK234.out)
        have n4_ := Aside0.mk (blk_drew BK235.out)
        have n5_ := Aside0.mk (blk_drew BK236.out)
        have n6_ := Aside0.mk (blk_drew BK242.out)
        have n7_ := Aside0.mk (below_drew1 HB.out)
        clear BK231
        clear BK232
        clear BK233
        clear BK234
        clear BK235
        clear BK236
        clear BK242
        clear HB
        have BK231 := n0_
        have BK232 := n1_
        have BK233 := n2_
        have BK234 := n3_
        have BK235 := n4_
        have BK236 := n5_
        have BK242 := n6_
        have HB := n7_
        clear n0_ n1_ n2_ n3_ n4_ n5_ n6_ n7_
        refine start_ (n := 51) (S := fun w' => w'.cell? ⟨gb234, 0, none⟩ = some (.int .i64 t223) ∧ w'.cell? ⟨gb234, 1, none⟩ = some (.int .i64 t224) ∧ w'.cell? ⟨gb235, 0, none⟩ = some (.int .i64 t226) ∧ w'.cell? ⟨gb235, 1, none⟩ = some (.int .i64 t227) ∧ w'.cell? ⟨gb236, 0, none⟩ = some (.int .i64 t229) ∧ w'.cell? ⟨gb236, 1, none⟩ = some (.int .i64 t230) ∧ w'.cell? ⟨gb242, 0, none⟩ = some (.int .i64 t239) ∧ w'.cell? ⟨gb242, 1, none⟩ = some (.int .i64 t240) ∧ w'.cell? ⟨gb242, 2, none⟩ = some (.int .i64 t241) ∧ w'.cell? ⟨gb231, 0, none⟩ = some (.int .i64 t222) ∧ w'.cell? ⟨gb231, 1, none⟩ = some (.int .i64 t223) ∧ w'.cell? ⟨gb231, 2, none⟩ = some (.int .i64 t224)) (ds := []) bb5_0 (by kernel_rfl) rfl rfl ⟨cR BK234.out 0, cR BK234.out 1, cR BK235.out 0, cR BK235.out 1, cR BK236.out 0, cR BK236.out 1, cR BK242.out 0, cR BK242.out 1, cR BK242.out 2, cR BK231.out 0, cR BK231.out 1, cR BK231.out 2⟩ (fun hHeld => ?_); refine with_tabW laws_FnStamps.tab10 laws_FnStamps.bits10 (fun HT_ HW_ => ?_)
        generalize w128.drew = w129 at BK231 BK232 BK233 BK234 BK235 BK236 BK242 HB hHeld ⊢
        refine pP 0 34 bb5_1 ?_
        refine pP 1 35 bb5_2 ?_
        refine pU 2 36 bb5_3 ?_
        refine pP 3 37 bb5_4 ?_
        refine tP 4 38 bb5_5 ?_
        refine tP 5 39 bb5_6 ?_
        refine pP 6 40 bb5_7 ?_
        refine pP 7 41 bb5_8 ?_
        refine pP 8 42 bb5_9 ?_
        refine pP 9 43 bb5_10 ?_
        refine pP 10 44 bb5_11 ?_
        refine pP 11 45 bb5_12 ?_
        refine pP 12 46 bb5_13 ?_
        refine pP 13 47 bb5_14 ?_
        refine pP 14 48 bb5_15 ?_
        refine pP 15 49 bb5_16 ?_
        refine pP 16 50 bb5_17 ?_
        refine pP 17 51 bb5_18 ?_
        refine pP 18 52 bb5_19 ?_
        refine tP 19 53 bb5_20 ?_
        refine tP 20 54 bb5_21 ?_
        refine one_ (i := 21) (N := some 55) bb5_22 rfl rfl (one_of HT_.out (by kernel_rfl)) (by decide) (fun K hK => ?_)
        refine goes_ Try.func32 (by kernel_rfl) rfl #[.agg #[.int .i64 t226, .int .i64 t227], .agg #[.int .i64 t229, .int .i64 t230]] (by rfl) rfl rfl (by (try simp only [List.map_toArray, List.map_cons, List.map_nil]); first | done | rfl | (simp only [List.length_drop, List.length_take]; rfl)) ?_
        with_reducible refine (impl_Later.calls t226 t227 t229 t230 false _ A11.out).mono ?_
        rintro e w130 ⟨rfl, hb⟩
        refine ⟨_, rfl, ?_⟩
        have n0_ := Aside0.mk (kB BK231.out hb)
        have n1_ := Aside0.mk (kB BK232.out hb)
        have n2_ := Aside0.mk (kB BK233.out hb)
        have n3_ := Aside0.mk (kB BK234.out hb)
        have n4_ := Aside0.mk (kB BK235.out hb)
        have n5_ := Aside0.mk (kB BK236.out hb)
        have n6_ := Aside0.mk (kB BK242.out hb)
        have n7_ := Aside0.mk (below_step aH hb)
        clear BK231
        clear BK232
        clear BK233
        clear BK234
        clear BK235
        clear BK236
        clear BK242
        clear HB
        have BK231 := n0_
        have BK232 := n1_
        have BK233 := n2_
        have BK234 := n3_
        have BK235 := n4_
        have BK236 := n5_
        have BK242 := n6_
        have HB := n7_
        clear n0_ n1_ n2_ n3_ n4_ n5_ n6_ n7_
        (try clear hb)
        (try clear hb2)
        (try clear hk)
        (try clear hi)
        refine hK.out _ _ ⟨cR BK234.out 0, cR BK234.out 1, cR BK235.out 0, cR BK235.out 1, cR BK236.out 0, cR BK236.out 1, cR BK242.out 0, cR BK242.out 1, cR BK242.out 2, cR BK231.out 0, cR BK231.out 1, cR BK231.out 2⟩ (fun hHeld => ?_)
        clear hK K
        refine nP 55 ?_
        refine pP 22 56 bb5_23 ?_
        refine pP 23 57 bb5_24 ?_
        refine pP 24 58 bb5_25 ?_
        refine pU 25 59 bb5_26 ?_
        refine pU 26 60 bb5_27 ?_
        refine pU 27 61 bb5_28 ?_
        refine pP 28 62 bb5_29 ?_
        refine pP 29 63 bb5_30 ?_
        refine pP 30 64 bb5_31 ?_
        refine tP 31 65 bb5_32 ?_
        refine tP 33 67 bb5_33 ?_
        refine one_ (i := 32) (N := some 66) bb5_34 rfl rfl (one_of HT_.out (by kernel_rfl)) (by decide) (fun K hK => ?_)
        refine goes_ Try.func34 (by kernel_rfl) rfl #[.agg #[.int .i64 t239, .int .i64 t240, .int .i64 t241]] (by rfl) rfl rfl (by (try simp only [List.map_toArray, List.map_cons, List.map_nil]); first | done | rfl | (simp only [List.length_drop, List.length_take]; rfl)) ?_
        with_reducible refine (impl_RegOk.calls t239 t240 t241 t250 _ A76.out).mono ?_
        rintro e w131 ⟨rfl, hb⟩
        refine ⟨_, rfl, ?_⟩
        have n0_ := Aside0.mk (kB BK231.out hb)
        have n1_ := Aside0.mk (kB BK232.out hb)
        have n2_ := Aside0.mk (kB BK233.out hb)
        have n3_ := Aside0.mk (kB BK234.out hb)
        have n4_ := Aside0.mk (kB BK235.out hb)
        have n5_ := Aside0.mk (kB BK236.out hb)
        have n6_ := Aside0.mk (kB BK242.out hb)
        have n7_ := Aside0.mk (below_step aH hb)
        clear BK231
        clear BK232
        clear BK233
        clear BK234
        clear BK235
        clear BK236
        clear BK242
        clear HB
        have BK231 := n0_
        have BK232 := n1_
        have BK233 := n2_
        have BK234 := n3_
        have BK235 := n4_
        have BK236 := n5_
        have BK242 := n6_
        have HB := n7_
        clear n0_ n1_ n2_ n3_ n4_ n5_ n6_ n7_
        (try clear hb)
        (try clear hb2)
        (try clear hk)
        (try clear hi)
        refine hK.out _ _ ⟨cR BK234.out 0, cR BK234.out 1, cR BK235.out 0, cR BK235.out 1, cR BK236.out 0, cR BK236.out 1, cR BK242.out 0, cR BK242.out 1, cR BK242.out 2, cR BK231.out 0, cR BK231.out 1, cR BK231.out 2⟩ (fun hHeld => ?_)
        clear hK K
        refine nP 66 ?_
        refine one_ (i := 34) (N := some 68) bb5_35 rfl rfl (one_of HT_.out (by kernel_rfl)) (by decide) (fun K hK => ?_)
        refine goes_ Try.func35 (by kernel_rfl) rfl #[.agg #[.int .i64 t239, .int .i64 t240, .int .i64 t241]] (by rfl) rfl rfl (by (try simp only [List.map_toArray, List.map_cons, List.map_nil]); first | done | rfl | (simp only [List.length_drop, List.length_take]; rfl)) ?_
        with_reducible refine (spec_RegOk.calls t239 t240 t241 t251 _ A77.out).mono ?_
        rintro e w132 ⟨rfl, hb⟩
        refine ⟨_, rfl, ?_⟩
        have n0_ := Aside0.mk (kB BK231.out hb)
        have n1_ := Aside0.mk (kB BK232.out hb)
        have n2_ := Aside0.mk (kB BK233.out hb)
        have n3_ := Aside0.mk (kB BK234.out hb)
        have n4_ := Aside0.mk (kB BK235.out hb)
        have n5_ := Aside0.mk (kB BK236.out hb)
        have n6_ := Aside0.mk (kB BK242.out hb)
        have n7_ := Aside0.mk (below_step aH hb)
        clear BK231
        clear BK232
        clear BK233
        clear BK234
        clear BK235
        clear BK236
        clear BK242
        clear HB
        have BK231 := n0_
        have BK232 := n1_
        have BK233 := n2_
        have BK234 := n3_
        have BK235 := n4_
        have BK236 := n5_
        have BK242 := n6_
        have HB := n7_
        clear n0_ n1_ n2_ n3_ n4_ n5_ n6_ n7_
        (try clear hb)
        (try clear hb2)
        (try clear hk)
        (try clear hi)
        refine hK.out _ _ ⟨cR BK234.out 0, cR BK234.out 1, cR BK235.out 0, cR BK235.out 1, cR BK236.out 0, cR BK236.out 1, cR BK242.out 0, cR BK242.out 1, cR BK242.out 2, cR BK231.out 0, cR BK231.out 1, cR BK231.out 2⟩ (fun hHeld => ?_)
        clear hK K
        refine nP 68 ?_
        refine pP 35 69 bb5_36 ?_
        refine pP 36 70 bb5_37 ?_
        refine pP 37 71 bb5_38 ?_
        refine pP 38 72 bb5_39 ?_
        refine pP 41 75 bb5_40 ?_
        refine tP 39 73 bb5_41 ?_
        refine tP 42 76 bb5_42 ?_
        refine one_ (i := 40) (N := some 74) bb5_43 rfl rfl (one_of HT_.out (by kernel_rfl)) (by decide) (fun K hK => ?_)
        refine goes_ Try.func36 (by kernel_rfl) rfl #[.agg #[.int .i64 t240, .int .i64 t241]] (by rfl) rfl rfl (by (try simp only [List.map_toArray, List.map_cons, List.map_nil]); first | done | rfl | (simp only [List.length_drop, List.length_take]; rfl)) ?_
        with_reducible refine (impl_StampOk.calls t240 t241 t252 _ A79.out).mono ?_
        rintro e w133 ⟨rfl, hb⟩
        refine ⟨_, rfl, ?_⟩
        have n0_ := Aside0.mk (kB BK231.out hb)
        have n1_ := Aside0.mk (kB BK232.out hb)
        have n2_ := Aside0.mk (kB BK233.out hb)
        have n3_ := Aside0.mk (kB BK234.out hb)
        have n4_ := Aside0.mk (kB BK235.out hb)
        have n5_ := Aside0.mk (kB BK236.out hb)
        have n6_ := Aside0.mk (kB BK242.out hb)
        have n7_ := Aside0.mk (below_step aH hb)
        clear BK231
        clear BK232
        clear BK233
        clear BK234
        clear BK235
        clear BK236
        clear BK242
        clear HB
        have BK231 := n0_
        have BK232 := n1_
        have BK233 := n2_
        have BK234 := n3_
        have BK235 := n4_
        have BK236 := n5_
        have BK242 := n6_
        have HB := n7_
        clear n0_ n1_ n2_ n3_ n4_ n5_ n6_ n7_
        (try clear hb)
        (try clear hb2)
        (try clear hk)
        (try clear hi)
        refine hK.out _ _ ⟨cR BK234.out 0, cR BK234.out 1, cR BK235.out 0, cR BK235.out 1, cR BK236.out 0, cR BK236.out 1, cR BK242.out 0, cR BK242.out 1, cR BK242.out 2, cR BK231.out 0, cR BK231.out 1, cR BK231.out 2⟩ (fun hHeld => ?_)
        clear hK K
        refine nP 74 ?_
        refine one_ (i := 43) (N := some 77) bb5_44 rfl rfl (one_of HT_.out (by kernel_rfl)) (by decide) (fun K hK => ?_)
        refine goes_ Try.func37 (by kernel_rfl) rfl #[.agg #[.int .i64 t240, .int .i64 t241]] (by rfl) rfl rfl (by (try simp only [List.map_toArray, List.map_cons, List.map_nil]); first | done | rfl | (simp only [List.length_drop, List.length_take]; rfl)) ?_
        with_reducible refine (spec_StampOk.calls t240 t241 t253 _ A80.out).mono ?_
        rintro e w134 ⟨rfl, hb⟩
        refine ⟨_, rfl, ?_⟩
        have n0_ := Aside0.mk (kB BK231.out hb)
        have n1_ := Aside0.mk (kB BK232.out hb)
        have n2_ := Aside0.mk (kB BK233.out hb)
        have n3_ := Aside0.mk (kB BK234.out hb)
        have n4_ := Aside0.mk (kB BK235.out hb)
        have n5_ := Aside0.mk (kB BK236.out hb)
        have n6_ := Aside0.mk (kB BK242.out hb)
        have n7_ := Aside0.mk (below_step aH hb)
        clear BK231
        clear BK232
        clear BK233
        clear BK234
        clear BK235
        clear BK236
        clear BK242
        clear HB
        have BK231 := n0_
        have BK232 := n1_
        have BK233 := n2_
        have BK234 := n3_
        have BK235 := n4_
        have BK236 := n5_
        have BK242 := n6_
        have HB := n7_
        clear n0_ n1_ n2_ n3_ n4_ n5_ n6_ n7_
        (try clear hb)
        (try clear hb2)
        (try clear hk)
        (try clear hi)
        refine hK.out _ _ ⟨cR BK234.out 0, cR BK234.out 1, cR BK235.out 0, cR BK235.out 1, cR BK236.out 0, cR BK236.out 1, cR BK242.out 0, cR BK242.out 1, cR BK242.out 2, cR BK231.out 0, cR BK231.out 1, cR BK231.out 2⟩ (fun hHeld => ?_)
        clear hK K
        refine nP 77 ?_
        refine pP 44 78 bb5_45 ?_
        refine pP 45 79 bb5_46 ?_
        refine pP 46 80 bb5_47 ?_
        refine tP 47 81 bb5_48 ?_
        refine one_ (i := 48) (N := some 82) bb5_49 rfl rfl (one_of HT_.out (by kernel_rfl)) (by decide) (fun K hK => ?_)
        refine goes_ Try.func34 (by kernel_rfl) rfl #[.agg #[.int .i64 t222, .int .i64 t223, .int .i64 t224]] (by rfl) rfl rfl (by (try simp only [List.map_toArray, List.map_cons, List.map_nil]); first | done | rfl | (simp only [List.length_drop, List.length_take]; rfl)) ?_
        with_reducible refine (impl_RegOk.calls t222 t223 t224 t254 _ A82.out).mono ?_
        rintro e w135 ⟨rfl, hb⟩
        refine ⟨_, rfl, ?_⟩
        have n0_ := Aside0.mk (kB BK231.out hb)
        have n1_ := Aside0.mk (kB BK232.out hb)
        have n2_ := Aside0.mk (kB BK233.out hb)
        have n3_ := Aside0.mk (kB BK234.out hb)
        have n4_ := Aside0.mk (kB BK235.out hb)
        have n5_ := Aside0.mk (kB BK236.out hb)
        have n6_ := Aside0.mk (kB BK242.out hb)
        have n7_ := Aside0.mk (below_step aH hb)
        clear BK231
        clear BK232
        clear BK233
        clear BK234
        clear BK235
        clear BK236
        clear BK242
        clear HB
        have BK231 := n0_
        have BK232 := n1_
        have BK233 := n2_
        have BK234 := n3_
        have BK235 := n4_
        have BK236 := n5_
        have BK242 := n6_
        have HB := n7_
        clear n0_ n1_ n2_ n3_ n4_ n5_ n6_ n7_
        (try clear hb)
        (try clear hb2)
        (try clear hk)
        (try clear hi)
        refine hK.out _ _ ⟨cR BK234.out 0, cR BK234.out 1, cR BK235.out 0, cR BK235.out 1, cR BK236.out 0, cR BK236.out 1, cR BK242.out 0, cR BK242.out 1, cR BK242.out 2, cR BK231.out 0, cR BK231.out 1, cR BK231.out 2⟩ (fun hHeld => ?_)
        clear hK K
        refine nP 82 ?_
        refine pP 49 83 bb5_50 ?_
        refine pP 50 2 bb5_51 ?_
        refine done_ (done_of HT_.out (by kernel_rfl)) ?_
        try go_wp2
        go_ret
        exact ⟨by first | rfl | (simp [errW_none, errW_some] <;> rfl) | (simp [*, errW_none, errW_some] <;> rfl), aH⟩
       ·rw [if_neg c81] at H
        have c81b0 : (t252 == t253) = false := by simpa using c81
        (try (have c81b1 : decide (t252 = t253) = false := by simpa using c81))
        (try (have c81b2 : (t252 == t253) = false := by simpa using c81))
        (try (have c81b3 : ¬ (t252 = t253) := by simpa using c81))
        clear c81
        exact absurd H (by simp)
      ·rw [if_neg c78] at H
       have c78b0 : (t250 == t251) = false := by simpa using c78
       (try (have c78b1 : decide (t250 = t251) = false := by simpa using c78))
       (try (have c78b2 : (t250 == t251) = false := by simpa using c78))
       (try (have c78b3 : ¬ (t250 = t251) := by simpa using c78))
       clear c78
       exact absurd H (by simp)
   ·rw [if_neg c9] at H
    have c9b0 : (true == (!(t223 == t226) || (!(t224 == t227)))) = false := by simpa using c9
    (try (have c9b1 : decide (true = (!(t223 == t226) || (!(t224 == t227)))) = false := by simpa using c9))
    (try (have c9b2 : (true == (!(t223 == t226) || (!(t224 == t227)))) = false := by simpa using c9))
    (try (have c9b3 : ¬ (true = (!(t223 == t226) || (!(t224 == t227)))) := by simpa using c9))
    clear c9
    exact absurd H (by simp)
  ·replace c8 := Bool.eq_false_iff.mpr c8
   subst c8
   have H1 := wF H
   clear H
   have H := H1
   clear H1
   by_cases c136 : (t238 == (!(t223 == t226) || (!(t224 == t227)))) = true
   ·rw [if_pos c136] at H
    have c136b0 : (t238 == (!(t223 == t226) || (!(t224 == t227)))) = true := c136
    (try (have c136b1 : decide (t238 = (!(t223 == t226) || (!(t224 == t227)))) = true := by simpa using c136))
    (try (have c136b2 : (t238 == (!(t223 == t226) || (!(t224 == t227)))) = true := by simpa using c136))
    clear c136
    replace H := Option.bind_eq_some_iff.mp H
    obtain ⟨t255, A1370, H⟩ := H
    try dsimp only at H
    have A137 := Aside0.mk A1370
    clear A1370
    replace H := Option.bind_eq_some_iff.mp H
    obtain ⟨t256, A1380, H⟩ := H
    try dsimp only at H
    have A138 := Aside0.mk A1380
    clear A1380
    by_cases c139 : (t255 == t256) = true
    ·rw [if_pos c139] at H
     have c139b0 : (t255 == t256) = true := c139
     (try (have c139b1 : decide (t255 = t256) = true := by simpa using c139))
     (try (have c139b2 : (t255 == t256) = true := by simpa using c139))
     clear c139
     replace H := Option.bind_eq_some_iff.mp H
     obtain ⟨t257, A1400, H⟩ := H
     try dsimp only at H
     have A140 := Aside0.mk A1400
     clear A1400
     replace H := Option.bind_eq_some_iff.mp H
     obtain ⟨t258, A1410, H⟩ := H
     replace H : (if (t257 == t258) = true then ((impl_RegOk.f t222 t223 t224).bind fun t259 => (some t259)) else (none)) = some r := H
     have A141 := Aside0.mk A1410
     clear A1410
     by_cases c142 : (t257 == t258) = true
     ·rw [if_pos c142] at H
      have c142b0 : (t257 == t258) = true := c142
      (try (have c142b1 : decide (t257 = t258) = true := by simpa using c142))
      (try (have c142b2 : (t257 == t258) = true := by simpa using c142))
      clear c142
      replace H := Option.bind_eq_some_iff.mp H
      obtain ⟨t259, A1430, H⟩ := H
      replace H : (some t259) = some r := H
      have A143 := Aside0.mk A1430
      clear A1430
      obtain rfl := Option.some.inj H
      go_enter Try.func9, Try.ntmps9
      try go_wp2_with (first | ((with_reducible refine gate_callee (f := 30) rfl ?_); refine gL_ (some 13) Try.func30 #[.slice A0 l0.length c0] ?_; (with_reducible refine (laws_big.calls _ _ l0 false _ ?side1 ?side2 A2.out).mono ?_); (case side1 => repeat (first | exact HR0.out | (with_reducible refine Kd.C_alloc ?_ _) | (with_reducible refine Kd.C_drewN ?_ _) | (with_reducible refine Kd.C_drew ?_))); (case side2 => exact HC0.out); rintro e w' ⟨rfl, ⟨nd, rfl⟩⟩; refine ⟨_, rfl, ?_⟩) | ((with_reducible refine gate_callee (f := 31) rfl ?_); refine gL_ (some 16) Try.func31 #[.slice A0 l0.length c0] ?_; (with_reducible refine (spec_DrawRegs.calls k _ _ l0 t222 t223 t224 t225 t226 t227 t228 t229 t230 _ ?side1 ?side2 A4.out).mono ?_); (case side1 => repeat (first | exact HR0.out | (with_reducible refine Kd.C_alloc ?_ _) | (with_reducible refine Kd.C_drewN ?_ _) | (with_reducible refine Kd.C_drew ?_))); (case side2 => exact HC0.out); rintro e w144 ⟨rfl, hb⟩; refine ⟨_, rfl, ?_⟩; have n0_ := Aside0.mk (below_step aH hb); clear HB; have HB := n0_; clear n0_; (try clear hb); (try clear hb2); (try clear hk); (try clear hi)) | ((with_reducible refine gate_dst (N := 3) rfl ?_); refine bE 3 #[.int .i64 0, .int .i64 0, .int .i64 0] 31 ?_; intro gb231 hg w145 hbox hb; have n0_ := Aside0.mk (below_step aH hb); have n1_ := Aside0.mk (hbox); have n2_ := Aside0.mk ((gS hg : w.heap.size ≤ gb231)); have n3_ := Aside0.mk ((gS hg : w.heap.size ≤ gb231)); clear HB; have HB := n0_; have BK231 := n1_; have GW231 := n2_; have GE231 := n3_; clear n0_ n1_ n2_ n3_; clear hb hbox hg) | ((with_reducible refine gate_dst (N := 4) rfl ?_); refine bE 4 #[.int .i64 0, .int .i64 0, .int .i64 0] 31 ?_; intro gb232 hg w146 hbox hb; have n0_ := Aside0.mk (kB BK231.out hb); have n1_ := Aside0.mk (below_step aH hb); have n2_ := Aside0.mk (hbox); have n3_ := Aside0.mk ((gS hg : w.heap.size ≤ gb232)); have n4_ := Aside0.mk ((gS hg : w.heap.size ≤ gb232)); have n5_ := Aside0.mk (gL hg BK231.out); have n6_ := Aside0.mk (gG hg BK231.out); clear BK231; clear HB; have BK231 := n0_; have HB := n1_; have BK232 := n2_; have GW232 := n3_; have GE232 := n4_; have NB231_232 := n5_; have NB232_231 := n6_; clear n0_ n1_ n2_ n3_ n4_ n5_ n6_; clear hb hbox hg) | ((with_reducible refine gate_dst (N := 5) rfl ?_); refine bE 5 #[.int .i64 0, .int .i64 0, .int .i64 0] 31 ?_; intro gb233 hg w147 hbox hb; have n0_ := Aside0.mk (kB BK231.out hb); have n1_ := Aside0.mk (kB BK232.out hb); have n2_ := Aside0.mk (below_step aH hb); have n3_ := Aside0.mk (hbox); have n4_ := Aside0.mk ((gS hg : w.heap.size ≤ gb233)); have n5_ := Aside0.mk ((gS hg : w.heap.size ≤ gb233)); have n6_ := Aside0.mk (gL hg BK231.out); have n7_ := Aside0.mk (gG hg BK231.out); have n8_ := Aside0.mk (gL hg BK232.out); have n9_ := Aside0.mk (gG hg BK232.out); clear BK231; clear BK232; clear HB; have BK231 := n0_; have BK232 := n1_; have HB := n2_; have BK233 := n3_; have GW233 := n4_; have GE233 := n5_; have NB231_233 := n6_; have NB233_231 := n7_; have NB232_233 := n8_; have NB233_232 := n9_; clear n0_ n1_ n2_ n3_ n4_ n5_ n6_ n7_ n8_ n9_; clear hb hbox hg; have hnb148 := NB231_232.out; have hnc148 := NB232_231.out; have hnb149 := NB231_233.out; have hnc149 := NB233_231.out; have hcz150_0 : w147.cell? ⟨gb231, 0, none⟩ = some (.int .i64 0) := cR BK231.out 0; have hcz150_1 : w147.cell? ⟨gb231, 1, none⟩ = some (.int .i64 0) := cR BK231.out 1; have hcz150_2 : w147.cell? ⟨gb231, 2, none⟩ = some (.int .i64 0) := cR BK231.out 2; have hfz150_0 := blk_frozen BK231.out 0; have hfz150_1 := blk_frozen BK231.out 1; have hfz150_2 := blk_frozen BK231.out 2; have hnb151 := NB232_233.out; have hnc151 := NB233_232.out; have hcz152_0 : w147.cell? ⟨gb232, 0, none⟩ = some (.int .i64 0) := cR BK232.out 0; have hcz152_1 : w147.cell? ⟨gb232, 1, none⟩ = some (.int .i64 0) := cR BK232.out 1; have hcz152_2 : w147.cell? ⟨gb232, 2, none⟩ = some (.int .i64 0) := cR BK232.out 2; have hfz152_0 := blk_frozen BK232.out 0; have hfz152_1 := blk_frozen BK232.out 1; have hfz152_2 := blk_frozen BK232.out 2; have hcz153_0 : w147.cell? ⟨gb233, 0, none⟩ = some (.int .i64 0) := cR BK233.out 0; have hcz153_1 : w147.cell? ⟨gb233, 1, none⟩ = some (.int .i64 0) := cR BK233.out 1; have hcz153_2 : w147.cell? ⟨gb233, 2, none⟩ = some (.int .i64 0) := cR BK233.out 2; have hfz153_0 := blk_frozen BK233.out 0; have hfz153_1 := blk_frozen BK233.out 1; have hfz153_2 := blk_frozen BK233.out 2) | ((with_reducible refine gate_dst (N := 6) rfl ?_); refine bE 6 #[.int .i64 0, .int .i64 0] 29 ?_; intro gb234 hg w154 hbox hb; have n0_ := Aside0.mk (blk_below (g := gb231) (o := .cells #[.int .i64 t222, .int .i64 t223, .int .i64 t224] 31 (0, 0)) (by (with_reducible repeat (first | refine blk_drewN ?_ _ | refine blk_drew ?_ | refine blk_alloc ?_ _)); refine blk_far ?_ NB231_233.out _; (with_reducible repeat (first | refine blk_drewN ?_ _ | refine blk_drew ?_ | refine blk_alloc ?_ _)); refine blk_far ?_ NB231_233.out _; (with_reducible repeat (first | refine blk_drewN ?_ _ | refine blk_drew ?_ | refine blk_alloc ?_ _)); refine blk_far ?_ NB231_233.out _; (with_reducible repeat (first | refine blk_drewN ?_ _ | refine blk_drew ?_ | refine blk_alloc ?_ _)); refine blk_far ?_ NB231_232.out _; (with_reducible repeat (first | refine blk_drewN ?_ _ | refine blk_drew ?_ | refine blk_alloc ?_ _)); refine blk_far ?_ NB231_232.out _; (with_reducible repeat (first | refine blk_drewN ?_ _ | refine blk_drew ?_ | refine blk_alloc ?_ _)); refine blk_far ?_ NB231_232.out _; (with_reducible repeat (first | refine blk_drewN ?_ _ | refine blk_drew ?_ | refine blk_alloc ?_ _)); refine blk_put (cs := #[.int .i64 t222, .int .i64 t223, .int .i64 0]) ?_ 2 _ rfl; (with_reducible repeat (first | refine blk_drewN ?_ _ | refine blk_drew ?_ | refine blk_alloc ?_ _)); refine blk_put (cs := #[.int .i64 t222, .int .i64 0, .int .i64 0]) ?_ 1 _ rfl; (with_reducible repeat (first | refine blk_drewN ?_ _ | refine blk_drew ?_ | refine blk_alloc ?_ _)); refine blk_put (cs := #[.int .i64 0, .int .i64 0, .int .i64 0]) ?_ 0 _ rfl; (with_reducible repeat (first | refine blk_drewN ?_ _ | refine blk_drew ?_ | refine blk_alloc ?_ _)); exact BK231.out) hb); have n1_ := Aside0.mk (blk_below (g := gb232) (o := .cells #[.int .i64 t225, .int .i64 t226, .int .i64 t227] 31 (0, 0)) (by (with_reducible repeat (first | refine blk_drewN ?_ _ | refine blk_drew ?_ | refine blk_alloc ?_ _)); refine blk_far ?_ NB232_233.out _; (with_reducible repeat (first | refine blk_drewN ?_ _ | refine blk_drew ?_ | refine blk_alloc ?_ _)); refine blk_far ?_ NB232_233.out _; (with_reducible repeat (first | refine blk_drewN ?_ _ | refine blk_drew ?_ | refine blk_alloc ?_ _)); refine blk_far ?_ NB232_233.out _; (with_reducible repeat (first | refine blk_drewN ?_ _ | refine blk_drew ?_ | refine blk_alloc ?_ _)); refine blk_put (cs := #[.int .i64 t225, .int .i64 t226, .int .i64 0]) ?_ 2 _ rfl; (with_reducible repeat (first | refine blk_drewN ?_ _ | refine blk_drew ?_ | refine blk_alloc ?_ _)); refine blk_put (cs := #[.int .i64 t225, .int .i64 0, .int .i64 0]) ?_ 1 _ rfl; (with_reducible repeat (first | refine blk_drewN ?_ _ | refine blk_drew ?_ | refine blk_alloc ?_ _)); refine blk_put (cs := #[.int .i64 0, .int .i64 0, .int .i64 0]) ?_ 0 _ rfl; (with_reducible repeat (first | refine blk_drewN ?_ _ | refine blk_drew ?_ | refine blk_alloc ?_ _)); refine blk_far ?_ NB232_231.out _; (with_reducible repeat (first | refine blk_drewN ?_ _ | refine blk_drew ?_ | refine blk_alloc ?_ _)); refine blk_far ?_ NB232_231.out _; (with_reducible repeat (first | refine blk_drewN ?_ _ | refine blk_drew ?_ | refine blk_alloc ?_ _)); refine blk_far ?_ NB232_231.out _; (with_reducible repeat (first | refine blk_drewN ?_ _ | refine blk_drew ?_ | refine blk_alloc ?_ _)); exact BK232.out) hb); have n2_ := Aside0.mk (blk_below (g := gb233) (o := .cells #[.int .i64 t228, .int .i64 t229, .int .i64 t230] 31 (0, 0)) (by (with_reducible repeat (first | refine blk_drewN ?_ _ | refine blk_drew ?_ | refine blk_alloc ?_ _)); refine blk_put (cs := #[.int .i64 t228, .int .i64 t229, .int .i64 0]) ?_ 2 _ rfl; (with_reducible repeat (first | refine blk_drewN ?_ _ | refine blk_drew ?_ | refine blk_alloc ?_ _)); refine blk_put (cs := #[.int .i64 t228, .int .i64 0, .int .i64 0]) ?_ 1 _ rfl; (with_reducible repeat (first | refine blk_drewN ?_ _ | refine blk_drew ?_ | refine blk_alloc ?_ _)); refine blk_put (cs := #[.int .i64 0, .int .i64 0, .int .i64 0]) ?_ 0 _ rfl; (with_reducible repeat (first | refine blk_drewN ?_ _ | refine blk_drew ?_ | refine blk_alloc ?_ _)); refine blk_far ?_ NB233_232.out _; (with_reducible repeat (first | refine blk_drewN ?_ _ | refine blk_drew ?_ | refine blk_alloc ?_ _)); refine blk_far ?_ NB233_232.out _; (with_reducible repeat (first | refine blk_drewN ?_ _ | refine blk_drew ?_ | refine blk_alloc ?_ _)); refine blk_far ?_ NB233_232.out _; (with_reducible repeat (first | refine blk_drewN ?_ _ | refine blk_drew ?_ | refine blk_alloc ?_ _)); refine blk_far ?_ NB233_231.out _; (with_reducible repeat (first | refine blk_drewN ?_ _ | refine blk_drew ?_ | refine blk_alloc ?_ _)); refine blk_far ?_ NB233_231.out _; (with_reducible repeat (first | refine blk_drewN ?_ _ | refine blk_drew ?_ | refine blk_alloc ?_ _)); refine blk_far ?_ NB233_231.out _; (with_reducible repeat (first | refine blk_drewN ?_ _ | refine blk_drew ?_ | refine blk_alloc ?_ _)); exact BK233.out) hb); have n3_ := Aside0.mk (below_step aH hb); have n4_ := Aside0.mk (hbox); have n5_ := Aside0.mk ((gS hg : w.heap.size ≤ gb234)); have n6_ := Aside0.mk ((gS hg : w.heap.size ≤ gb234)); have n7_ := Aside0.mk ((by rw [hg]; exact Nat.ne_of_lt (blk_lt (g := gb231) (o := .cells #[.int .i64 t222, .int .i64 t223, .int .i64 t224] 31 (0, 0)) (by (with_reducible repeat (first | refine blk_drewN ?_ _ | refine blk_drew ?_ | refine blk_alloc ?_ _)); refine blk_far ?_ NB231_233.out _; (with_reducible repeat (first | refine blk_drewN ?_ _ | refine blk_drew ?_ | refine blk_alloc ?_ _)); refine blk_far ?_ NB231_233.out _; (with_reducible repeat (first | refine blk_drewN ?_ _ | refine blk_drew ?_ | refine blk_alloc ?_ _)); refine blk_far ?_ NB231_233.out _; (with_reducible repeat (first | refine blk_drewN ?_ _ | refine blk_drew ?_ | refine blk_alloc ?_ _)); refine blk_far ?_ NB231_232.out _; (with_reducible repeat (first | refine blk_drewN ?_ _ | refine blk_drew ?_ | refine blk_alloc ?_ _)); refine blk_far ?_ NB231_232.out _; (with_reducible repeat (first | refine blk_drewN ?_ _ | refine blk_drew ?_ | refine blk_alloc ?_ _)); refine blk_far ?_ NB231_232.out _; (with_reducible repeat (first | refine blk_drewN ?_ _ | refine blk_drew ?_ | refine blk_alloc ?_ _)); refine blk_put (cs := #[.int .i64 t222, .int .i64 t223, .int .i64 0]) ?_ 2 _ rfl; (with_reducible repeat (first | refine blk_drewN ?_ _ | refine blk_drew ?_ | refine blk_alloc ?_ _)); refine blk_put (cs := #[.int .i64 t222, .int .i64 0, .int .i64 0]) ?_ 1 _ rfl; (with_reducible repeat (first | refine blk_drewN ?_ _ | refine blk_drew ?_ | refine blk_alloc ?_ _)); refine blk_put (cs := #[.int .i64 0, .int .i64 0, .int .i64 0]) ?_ 0 _ rfl; (with_reducible repeat (first | refine blk_drewN ?_ _ | refine blk_drew ?_ | refine blk_alloc ?_ _)); exact BK231.out)) : gb231 ≠ gb234)); have n8_ := Aside0.mk ((by rw [hg]; exact Nat.ne_of_gt (blk_lt (g := gb231) (o := .cells #[.int .i64 t222, .int .i64 t223, .int .i64 t224] 31 (0, 0)) (by (with_reducible repeat (first | refine blk_drewN ?_ _ | refine blk_drew ?_ | refine blk_alloc ?_ _)); refine blk_far ?_ NB231_233.out _; (with_reducible repeat (first | refine blk_drewN ?_ _ | refine blk_drew ?_ | refine blk_alloc ?_ _)); refine blk_far ?_ NB231_233.out _; (with_reducible repeat (first | refine blk_drewN ?_ _ | refine blk_drew ?_ | refine blk_alloc ?_ _)); refine blk_far ?_ NB231_233.out _; (with_reducible repeat (first | refine blk_drewN ?_ _ | refine blk_drew ?_ | refine blk_alloc ?_ _)); refine blk_far ?_ NB231_232.out _; (with_reducible repeat (first | refine blk_drewN ?_ _ | refine blk_drew ?_ | refine blk_alloc ?_ _)); refine blk_far ?_ NB231_232.out _; (with_reducible repeat (first | refine blk_drewN ?_ _ | refine blk_drew ?_ | refine blk_alloc ?_ _)); refine blk_far ?_ NB231_232.out _; (with_reducible repeat (first | refine blk_drewN ?_ _ | refine blk_drew ?_ | refine blk_alloc ?_ _)); refine blk_put (cs := #[.int .i64 t222, .int .i64 t223, .int .i64 0]) ?_ 2 _ rfl; (with_reducible repeat (first | refine blk_drewN ?_ _ | refine blk_drew ?_ | refine blk_alloc ?_ _)); refine blk_put (cs := #[.int .i64 t222, .int .i64 0, .int .i64 0]) ?_ 1 _ rfl; (with_reducible repeat (first | refine blk_drewN ?_ _ | refine blk_drew ?_ | refine blk_alloc ?_ _)); refine blk_put (cs := #[.int .i64 0, .int .i64 0, .int .i64 0]) ?_ 0 _ rfl; (with_reducible repeat (first | refine blk_drewN ?_ _ | refine blk_drew ?_ | refine blk_alloc ?_ _)); exact BK231.out)) : gb234 ≠ gb231)); have n9_ := Aside0.mk ((by rw [hg]; exact Nat.ne_of_lt (blk_lt (g := gb232) (o := .cells #[.int .i64 t225, .int .i64 t226, .int .i64 t227] 31 (0, 0)) (by (with_reducible repeat (first | refine blk_drewN ?_ _ | refine blk_drew ?_ | refine blk_alloc ?_ _)); refine blk_far ?_ NB232_233.out _; (with_reducible repeat (first | refine blk_drewN ?_ _ | refine blk_drew ?_ | refine blk_alloc ?_ _)); refine blk_far ?_ NB232_233.out _; (with_reducible repeat (first | refine blk_drewN ?_ _ | refine blk_drew ?_ | refine blk_alloc ?_ _)); refine blk_far ?_ NB232_233.out _; (with_reducible repeat (first | refine blk_drewN ?_ _ | refine blk_drew ?_ | refine blk_alloc ?_ _)); refine blk_put (cs := #[.int .i64 t225, .int .i64 t226, .int .i64 0]) ?_ 2 _ rfl; (with_reducible repeat (first | refine blk_drewN ?_ _ | refine blk_drew ?_ | refine blk_alloc ?_ _)); refine blk_put (cs := #[.int .i64 t225, .int .i64 0, .int .i64 0]) ?_ 1 _ rfl; (with_reducible repeat (first | refine blk_drewN ?_ _ | refine blk_drew ?_ | refine blk_alloc ?_ _)); refine blk_put (cs := #[.int .i64 0, .int .i64 0, .int .i64 0]) ?_ 0 _ rfl; (with_reducible repeat (first | refine blk_drewN ?_ _ | refine blk_drew ?_ | refine blk_alloc ?_ _)); refine blk_far ?_ NB232_231.out _; (with_reducible repeat (first | refine blk_drewN ?_ _ | refine blk_drew ?_ | refine blk_alloc ?_ _)); refine blk_far ?_ NB232_231.out _; (with_reducible repeat (first | refine blk_drewN ?_ _ | refine blk_drew ?_ | refine blk_alloc ?_ _)); refine blk_far ?_ NB232_231.out _; (with_reducible repeat (first | refine blk_drewN ?_ _ | refine blk_drew ?_ | refine blk_alloc ?_ _)); exact BK232.out)) : gb232 ≠ gb234)); have n10_ := Aside0.mk ((by rw [hg]; exact Nat.ne_of_gt (blk_lt (g := gb232) (o := .cells #[.int .i64 t225, .int .i64 t226, .int .i64 t227] 31 (0, 0)) (by (with_reducible repeat (first | refine blk_drewN ?_ _ | refine blk_drew ?_ | refine blk_alloc ?_ _)); refine blk_far ?_ NB232_233.out _; (with_reducible repeat (first | refine blk_drewN ?_ _ | refine blk_drew ?_ | refine blk_alloc ?_ _)); refine blk_far ?_ NB232_233.out _; (with_reducible repeat (first | refine blk_drewN ?_ _ | refine blk_drew ?_ | refine blk_alloc ?_ _)); refine blk_far ?_ NB232_233.out _; (with_reducible repeat (first | refine blk_drewN ?_ _ | refine blk_drew ?_ | refine blk_alloc ?_ _)); refine blk_put (cs := #[.int .i64 t225, .int .i64 t226, .int .i64 0]) ?_ 2 _ rfl; (with_reducible repeat (first | refine blk_drewN ?_ _ | refine blk_drew ?_ | refine blk_alloc ?_ _)); refine blk_put (cs := #[.int .i64 t225, .int .i64 0, .int .i64 0]) ?_ 1 _ rfl; (with_reducible repeat (first | refine blk_drewN ?_ _ | refine blk_drew ?_ | refine blk_alloc ?_ _)); refine blk_put (cs := #[.int .i64 0, .int .i64 0, .int .i64 0]) ?_ 0 _ rfl; (with_reducible repeat (first | refine blk_drewN ?_ _ | refine blk_drew ?_ | refine blk_alloc ?_ _)); refine blk_far ?_ NB232_231.out _; (with_reducible repeat (first | refine blk_drewN ?_ _ | refine blk_drew ?_ | refine blk_alloc ?_ _)); refine blk_far ?_ NB232_231.out _; (with_reducible repeat (first | refine blk_drewN ?_ _ | refine blk_drew ?_ | refine blk_alloc ?_ _)); refine blk_far ?_ NB232_231.out _; (with_reducible repeat (first | refine blk_drewN ?_ _ | refine blk_drew ?_ | refine blk_alloc ?_ _)); exact BK232.out)) : gb234 ≠ gb232)); have n11_ := Aside0.mk ((by rw [hg]; exact Nat.ne_of_lt (blk_lt (g := gb233) (o := .cells #[.int .i64 t228, .int .i64 t229, .int .i64 t230] 31 (0, 0)) (by (with_reducible repeat (first | refine blk_drewN ?_ _ | refine blk_drew ?_ | refine blk_alloc ?_ _)); refine blk_put (cs := #[.int .i64 t228, .int .i64 t229, .int .i64 0]) ?_ 2 _ rfl; (with_reducible repeat (first | refine blk_drewN ?_ _ | refine blk_drew ?_ | refine blk_alloc ?_ _)); refine blk_put (cs := #[.int .i64 t228, .int .i64 0, .int .i64 0]) ?_ 1 _ rfl; (with_reducible repeat (first | refine blk_drewN ?_ _ | refine blk_drew ?_ | refine blk_alloc ?_ _)); refine blk_put (cs := #[.int .i64 0, .int .i64 0, .int .i64 0]) ?_ 0 _ rfl; (with_reducible repeat (first | refine blk_drewN ?_ _ | refine blk_drew ?_ | refine blk_alloc ?_ _)); refine blk_far ?_ NB233_232.out _; (with_reducible repeat (first | refine blk_drewN ?_ _ | refine blk_drew ?_ | refine blk_alloc ?_ _)); refine blk_far ?_ NB233_232.out _; (with_reducible repeat (first | refine blk_drewN ?_ _ | refine blk_drew ?_ | refine blk_alloc ?_ _)); refine blk_far ?_ NB233_232.out _; (with_reducible repeat (first | refine blk_drewN ?_ _ | refine blk_drew ?_ | refine blk_alloc ?_ _)); refine blk_far ?_ NB233_231.out _; (with_reducible repeat (first | refine blk_drewN ?_ _ | refine blk_drew ?_ | refine blk_alloc ?_ _)); refine blk_far ?_ NB233_231.out _; (with_reducible repeat (first | refine blk_drewN ?_ _ | refine blk_drew ?_ | refine blk_alloc ?_ _)); refine blk_far ?_ NB233_231.out _; (with_reducible repeat (first | refine blk_drewN ?_ _ | refine blk_drew ?_ | refine blk_alloc ?_ _)); exact BK233.out)) : gb233 ≠ gb234)); have n12_ := Aside0.mk ((by rw [hg]; exact Nat.ne_of_gt (blk_lt (g := gb233) (o := .cells #[.int .i64 t228, .int .i64 t229, .int .i64 t230] 31 (0, 0)) (by (with_reducible repeat (first | refine blk_drewN ?_ _ | refine blk_drew ?_ | refine blk_alloc ?_ _)); refine blk_put (cs := #[.int .i64 t228, .int .i64 t229, .int .i64 0]) ?_ 2 _ rfl; (with_reducible repeat (first | refine blk_drewN ?_ _ | refine blk_drew ?_ | refine blk_alloc ?_ _)); refine blk_put (cs := #[.int .i64 t228, .int .i64 0, .int .i64 0]) ?_ 1 _ rfl; (with_reducible repeat (first | refine blk_drewN ?_ _ | refine blk_drew ?_ | refine blk_alloc ?_ _)); refine blk_put (cs := #[.int .i64 0, .int .i64 0, .int .i64 0]) ?_ 0 _ rfl; (with_reducible repeat (first | refine blk_drewN ?_ _ | refine blk_drew ?_ | refine blk_alloc ?_ _)); refine blk_far ?_ NB233_232.out _; (with_reducible repeat (first | refine blk_drewN ?_ _ | refine blk_drew ?_ | refine blk_alloc ?_ _)); refine blk_far ?_ NB233_232.out _; (with_reducible repeat (first | refine blk_drewN ?_ _ | refine blk_drew ?_ | refine blk_alloc ?_ _)); refine blk_far ?_ NB233_232.out _; (with_reducible repeat (first | refine blk_drewN ?_ _ | refine blk_drew ?_ | refine blk_alloc ?_ _)); refine blk_far ?_ NB233_231.out _; (with_reducible repeat (first | refine blk_drewN ?_ _ | refine blk_drew ?_ | refine blk_alloc ?_ _)); refine blk_far ?_ NB233_231.out _; (with_reducible repeat (first | refine blk_drewN ?_ _ | refine blk_drew ?_ | refine blk_alloc ?_ _)); refine blk_far ?_ NB233_231.out _; (with_reducible repeat (first | refine blk_drewN ?_ _ | refine blk_drew ?_ | refine blk_alloc ?_ _)); exact BK233.out)) : gb234 ≠ gb233)); clear BK231; clear BK232; clear BK233; clear HB; have BK231 := n0_; have BK232 := n1_; have BK233 := n2_; have HB := n3_; have BK234 := n4_; have GW234 := n5_; have GE234 := n6_; have NB231_234 := n7_; have NB234_231 := n8_; have NB232_234 := n9_; have NB234_232 := n10_; have NB233_234 := n11_; have NB234_233 := n12_; clear n0_ n1_ n2_ n3_ n4_ n5_ n6_ n7_ n8_ n9_ n10_ n11_ n12_; clear hb hbox hg; have hnb155 := NB234_231.out; have hnc155 := NB231_234.out; have hnb156 := NB234_232.out; have hnc156 := NB232_234.out; have hnb157 := NB234_233.out; have hnc157 := NB233_234.out; have hcz158_0 : w154.cell? ⟨gb234, 0, none⟩ = some (.int .i64 0) := cR BK234.out 0; have hcz158_1 : w154.cell? ⟨gb234, 1, none⟩ = some (.int .i64 0) := cR BK234.out 1; have hfz158_0 := blk_frozen BK234.out 0; have hfz158_1 := blk_frozen BK234.out 1; have hcz159_0 : w154.cell? ⟨gb232, 0, none⟩ = some (.int .i64 t225) := cR BK232.out 0; have hcz159_1 : w154.cell? ⟨gb232, 1, none⟩ = some (.int .i64 t226) := cR BK232.out 1; have hcz159_2 : w154.cell? ⟨gb232, 2, none⟩ = some (.int .i64 t227) := cR BK232.out 2; have hfz159_0 := blk_frozen BK232.out 0; have hfz159_1 := blk_frozen BK232.out 1; have hfz159_2 := blk_frozen BK232.out 2) | ((with_reducible refine gate_dst (N := 7) rfl ?_); refine bE 7 #[.int .i64 0, .int .i64 0] 29 ?_; intro gb235 hg w160 hbox hb; have n0_ := Aside0.mk (blk_below (g := gb231) (o := .cells #[.int .i64 t222, .int .i64 t223, .int .i64 t224] 31 (0, 0)) (by (with_reducible repeat (first | refine blk_drewN ?_ _ | refine blk_drew ?_ | refine blk_alloc ?_ _)); refine blk_far ?_ NB231_234.out _; (with_reducible repeat (first | refine blk_drewN ?_ _ | refine blk_drew ?_ | refine blk_alloc ?_ _)); refine blk_far ?_ NB231_234.out _; (with_reducible repeat (first | refine blk_drewN ?_ _ | refine blk_drew ?_ | refine blk_alloc ?_ _)); exact BK231.out) hb); have n1_ := Aside0.mk (blk_below (g := gb232) (o := .cells #[.int .i64 t225, .int .i64 t226, .int .i64 t227] 31 (0, 0)) (by (with_reducible repeat (first | refine blk_drewN ?_ _ | refine blk_drew ?_ | refine blk_alloc ?_ _)); refine blk_far ?_ NB232_234.out _; (with_reducible repeat (first | refine blk_drewN ?_ _ | refine blk_drew ?_ | refine blk_alloc ?_ _)); refine blk_far ?_ NB232_234.out _; (with_reducible repeat (first | refine blk_drewN ?_ _ | refine blk_drew ?_ | refine blk_alloc ?_ _)); exact BK232.out) hb); have n2_ := Aside0.mk (blk_below (g := gb233) (o := .cells #[.int .i64 t228, .int .i64 t229, .int .i64 t230] 31 (0, 0)) (by (with_reducible repeat (first | refine blk_drewN ?_ _ | refine blk_drew ?_ | refine blk_alloc ?_ _)); refine blk_far ?_ NB233_234.out _; (with_reducible repeat (first | refine blk_drewN ?_ _ | refine blk_drew ?_ | refine blk_alloc ?_ _)); refine blk_far ?_ NB233_234.out _; (with_reducible repeat (first | refine blk_drewN ?_ _ | refine blk_drew ?_ | refine blk_alloc ?_ _)); exact BK233.out) hb); have n3_ := Aside0.mk (blk_below (g := gb234) (o := .cells #[.int .i64 t223, .int .i64 t224] 29 (0, 0)) (by (with_reducible repeat (first | refine blk_drewN ?_ _ | refine blk_drew ?_ | refine blk_alloc ?_ _)); refine blk_put (cs := #[.int .i64 t223, .int .i64 0]) ?_ 1 _ rfl; (with_reducible repeat (first | refine blk_drewN ?_ _ | refine blk_drew ?_ | refine blk_alloc ?_ _)); refine blk_put (cs := #[.int .i64 0, .int .i64 0]) ?_ 0 _ rfl; (with_reducible repeat (first | refine blk_drewN ?_ _ | refine blk_drew ?_ | refine blk_alloc ?_ _)); exact BK234.out) hb); have n4_ := Aside0.mk (below_step aH hb); have n5_ := Aside0.mk (hbox); have n6_ := Aside0.mk ((gS hg : w.heap.size ≤ gb235)); have n7_ := Aside0.mk ((gS hg : w.heap.size ≤ gb235)); have n8_ := Aside0.mk ((by rw [hg]; exact Nat.ne_of_lt (blk_lt (g := gb231) (o := .cells #[.int .i64 t222, .int .i64 t223, .int .i64 t224] 31 (0, 0)) (by (with_reducible repeat (first | refine blk_drewN ?_ _ | refine blk_drew ?_ | refine blk_alloc ?_ _)); refine blk_far ?_ NB231_234.out _; (with_reducible repeat (first | refine blk_drewN ?_ _ | refine blk_drew ?_ | refine blk_alloc ?_ _)); refine blk_far ?_ NB231_234.out _; (with_reducible repeat (first | refine blk_drewN ?_ _ | refine blk_drew ?_ | refine blk_alloc ?_ _)); exact BK231.out)) : gb231 ≠ gb235)); have n9_ := Aside0.mk ((by rw [hg]; exact Nat.ne_of_gt (blk_lt (g := gb231) (o := .cells #[.int .i64 t222, .int .i64 t223, .int .i64 t224] 31 (0, 0)) (by (with_reducible repeat (first | refine blk_drewN ?_ _ | refine blk_drew ?_ | refine blk_alloc ?_ _)); refine blk_far ?_ NB231_234.out _; (with_reducible repeat (first | refine blk_drewN ?_ _ | refine blk_drew ?_ | refine blk_alloc ?_ _)); refine blk_far ?_ NB231_234.out _; (with_reducible repeat (first | refine blk_drewN ?_ _ | refine blk_drew ?_ | refine blk_alloc ?_ _)); exact BK231.out)) : gb235 ≠ gb231)); have n10_ := Aside0.mk ((by rw [hg]; exact Nat.ne_of_lt (blk_lt (g := gb232) (o := .cells #[.int .i64 t225, .int .i64 t226, .int .i64 t227] 31 (0, 0)) (by (with_reducible repeat (first | refine blk_drewN ?_ _ | refine blk_drew ?_ | refine blk_alloc ?_ _)); refine blk_far ?_ NB232_234.out _; (with_reducible repeat (first | refine blk_drewN ?_ _ | refine blk_drew ?_ | refine blk_alloc ?_ _)); refine blk_far ?_ NB232_234.out _; (with_reducible repeat (first | refine blk_drewN ?_ _ | refine blk_drew ?_ | refine blk_alloc ?_ _)); exact BK232.out)) : gb232 ≠ gb235)); have n11_ := Aside0.mk ((by rw [hg]; exact Nat.ne_of_gt (blk_lt (g := gb232) (o := .cells #[.int .i64 t225, .int .i64 t226, .int .i64 t227] 31 (0, 0)) (by (with_reducible repeat (first | refine blk_drewN ?_ _ | refine blk_drew ?_ | refine blk_alloc ?_ _)); refine blk_far ?_ NB232_234.out _; (with_reducible repeat (first | refine blk_drewN ?_ _ | refine blk_drew ?_ | refine blk_alloc ?_ _)); refine blk_far ?_ NB232_234.out _; (with_reducible repeat (first | refine blk_drewN ?_ _ | refine blk_drew ?_ | refine blk_alloc ?_ _)); exact BK232.out)) : gb235 ≠ gb232)); have n12_ := Aside0.mk ((by rw [hg]; exact Nat.ne_of_lt (blk_lt (g := gb233) (o := .cells #[.int .i64 t228, .int .i64 t229, .int .i64 t230] 31 (0, 0)) (by (with_reducible repeat (first | refine blk_drewN ?_ _ | refine blk_drew ?_ | refine blk_alloc ?_ _)); refine blk_far ?_ NB233_234.out _; (with_reducible repeat (first | refine blk_drewN ?_ _ | refine blk_drew ?_ | refine blk_alloc ?_ _)); refine blk_far ?_ NB233_234.out _; (with_reducible repeat (first | refine blk_drewN ?_ _ | refine blk_drew ?_ | refine blk_alloc ?_ _)); exact BK233.out)) : gb233 ≠ gb235)); have n13_ := Aside0.mk ((by rw [hg]; exact Nat.ne_of_gt (blk_lt (g := gb233) (o := .cells #[.int .i64 t228, .int .i64 t229, .int .i64 t230] 31 (0, 0)) (by (with_reducible repeat (first | refine blk_drewN ?_ _ | refine blk_drew ?_ | refine blk_alloc ?_ _)); refine blk_far ?_ NB233_234.out _; (with_reducible repeat (first | refine blk_drewN ?_ _ | refine blk_drew ?_ | refine blk_alloc ?_ _)); refine blk_far ?_ NB233_234.out _; (with_reducible repeat (first | refine blk_drewN ?_ _ | refine blk_drew ?_ | refine blk_alloc ?_ _)); exact BK233.out)) : gb235 ≠ gb233)); have n14_ := Aside0.mk ((by rw [hg]; exact Nat.ne_of_lt (blk_lt (g := gb234) (o := .cells #[.int .i64 t223, .int .i64 t224] 29 (0, 0)) (by (with_reducible repeat (first | refine blk_drewN ?_ _ | refine blk_drew ?_ | refine blk_alloc ?_ _)); refine blk_put (cs := #[.int .i64 t223, .int .i64 0]) ?_ 1 _ rfl; (with_reducible repeat (first | refine blk_drewN ?_ _ | refine blk_drew ?_ | refine blk_alloc ?_ _)); refine blk_put (cs := #[.int .i64 0, .int .i64 0]) ?_ 0 _ rfl; (with_reducible repeat (first | refine blk_drewN ?_ _ | refine blk_drew ?_ | refine blk_alloc ?_ _)); exact BK234.out)) : gb234 ≠ gb235)); have n15_ := Aside0.mk ((by rw [hg]; exact Nat.ne_of_gt (blk_lt (g := gb234) (o := .cells #[.int .i64 t223, .int .i64 t224] 29 (0, 0)) (by (with_reducible repeat (first | refine blk_drewN ?_ _ | refine blk_drew ?_ | refine blk_alloc ?_ _)); refine blk_put (cs := #[.int .i64 t223, .int .i64 0]) ?_ 1 _ rfl; (with_reducible repeat (first | refine blk_drewN ?_ _ | refine blk_drew ?_ | refine blk_alloc ?_ _)); refine blk_put (cs := #[.int .i64 0, .int .i64 0]) ?_ 0 _ rfl; (with_reducible repeat (first | refine blk_drewN ?_ _ | refine blk_drew ?_ | refine blk_alloc ?_ _)); exact BK234.out)) : gb235 ≠ gb234)); clear BK231; clear BK232; clear BK233; clear BK234; clear HB; have BK231 := n0_; have BK232 := n1_; have BK233 := n2_; have BK234 := n3_; have HB := n4_; have BK235 := n5_; have GW235 := n6_; have GE235 := n7_; have NB231_235 := n8_; have NB235_231 := n9_; have NB232_235 := n10_; have NB235_232 := n11_; have NB233_235 := n12_; have NB235_233 := n13_; have NB234_235 := n14_; have NB235_234 := n15_; clear n0_ n1_ n2_ n3_ n4_ n5_ n6_ n7_ n8_ n9_ n10_ n11_ n12_ n13_ n14_ n15_; clear hb hbox hg; have hnb161 := NB235_231.out; have hnc161 := NB231_235.out; have hnb162 := NB235_232.out; have hnc162 := NB232_235.out; have hnb163 := NB235_233.out; have hnc163 := NB233_235.out; have hnb164 := NB235_234.out; have hnc164 := NB234_235.out; have hcz165_0 : w160.cell? ⟨gb235, 0, none⟩ = some (.int .i64 0) := cR BK235.out 0; have hcz165_1 : w160.cell? ⟨gb235, 1, none⟩ = some (.int .i64 0) := cR BK235.out 1; have hfz165_0 := blk_frozen BK235.out 0; have hfz165_1 := blk_frozen BK235.out 1; have hcz166_0 : w160.cell? ⟨gb233, 0, none⟩ = some (.int .i64 t228) := cR BK233.out 0; have hcz166_1 : w160.cell? ⟨gb233, 1, none⟩ = some (.int .i64 t229) := cR BK233.out 1; have hcz166_2 : w160.cell? ⟨gb233, 2, none⟩ = some (.int .i64 t230) := cR BK233.out 2; have hfz166_0 := blk_frozen BK233.out 0; have hfz166_1 := blk_frozen BK233.out 1; have hfz166_2 := blk_frozen BK233.out 2) | ((with_reducible refine gate_dst (N := 8) rfl ?_); refine bE 8 #[.int .i64 0, .int .i64 0] 29 ?_; intro gb236 hg w167 hbox hb; have n0_ := Aside0.mk (blk_below (g := gb231) (o := .cells #[.int .i64 t222, .int .i64 t223, .int .i64 t224] 31 (0, 0)) (by (with_reducible repeat (first | refine blk_drewN ?_ _ | refine blk_drew ?_ | refine blk_alloc ?_ _)); refine blk_far ?_ NB231_235.out _; (with_reducible repeat (first | refine blk_drewN ?_ _ | refine blk_drew ?_ | refine blk_alloc ?_ _)); refine blk_far ?_ NB231_235.out _; (with_reducible repeat (first | refine blk_drewN ?_ _ | refine blk_drew ?_ | refine blk_alloc ?_ _)); exact BK231.out) hb); have n1_ := Aside0.mk (blk_below (g := gb232) (o := .cells #[.int .i64 t225, .int .i64 t226, .int .i64 t227] 31 (0, 0)) (by (with_reducible repeat (first | refine blk_drewN ?_ _ | refine blk_drew ?_ | refine blk_alloc ?_ _)); refine blk_far ?_ NB232_235.out _; (with_reducible repeat (first | refine blk_drewN ?_ _ | refine blk_drew ?_ | refine blk_alloc ?_ _)); refine blk_far ?_ NB232_235.out _; (with_reducible repeat (first | refine blk_drewN ?_ _ | refine blk_drew ?_ | refine blk_alloc ?_ _)); exact BK232.out) hb); have n2_ := Aside0.mk (blk_below (g := gb233) (o := .cells #[.int .i64 t228, .int .i64 t229, .int .i64 t230] 31 (0, 0)) (by (with_reducible repeat (first | refine blk_drewN ?_ _ | refine blk_drew ?_ | refine blk_alloc ?_ _)); refine blk_far ?_ NB233_235.out _; (with_reducible repeat (first | refine blk_drewN ?_ _ | refine blk_drew ?_ | refine blk_alloc ?_ _)); refine blk_far ?_ NB233_235.out _; (with_reducible repeat (first | refine blk_drewN ?_ _ | refine blk_drew ?_ | refine blk_alloc ?_ _)); exact BK233.out) hb); have n3_ := Aside0.mk (blk_below (g := gb234) (o := .cells #[.int .i64 t223, .int .i64 t224] 29 (0, 0)) (by (with_reducible repeat (first | refine blk_drewN ?_ _ | refine blk_drew ?_ | refine blk_alloc ?_ _)); refine blk_far ?_ NB234_235.out _; (with_reducible repeat (first | refine blk_drewN ?_ _ | refine blk_drew ?_ | refine blk_alloc ?_ _)); refine blk_far ?_ NB234_235.out _; (with_reducible repeat (first | refine blk_drewN ?_ _ | refine blk_drew ?_ | refine blk_alloc ?_ _)); exact BK234.out) hb); have n4_ := Aside0.mk (blk_below (g := gb235) (o := .cells #[.int .i64 t226, .int .i64 t227] 29 (0, 0)) (by (with_reducible repeat (first | refine blk_drewN ?_ _ | refine blk_drew ?_ | refine blk_alloc ?_ _)); refine blk_put (cs := #[.int .i64 t226, .int .i64 0]) ?_ 1 _ rfl; (with_reducible repeat (first | refine blk_drewN ?_ _ | refine blk_drew ?_ | refine blk_alloc ?_ _)); refine blk_put (cs := #[.int .i64 0, .int .i64 0]) ?_ 0 _ rfl; (with_reducible repeat (first | refine blk_drewN ?_ _ | refine blk_drew ?_ | refine blk_alloc ?_ _)); exact BK235.out) hb); have n5_ := Aside0.mk (below_step aH hb); have n6_ := Aside0.mk (hbox); have n7_ := Aside0.mk ((gS hg : w.heap.size ≤ gb236)); have n8_ := Aside0.mk ((gS hg : w.heap.size ≤ gb236)); have n9_ := Aside0.mk ((by rw [hg]; exact Nat.ne_of_lt (blk_lt (g := gb231) (o := .cells #[.int .i64 t222, .int .i64 t223, .int .i64 t224] 31 (0, 0)) (by (with_reducible repeat (first | refine blk_drewN ?_ _ | refine blk_drew ?_ | refine blk_alloc ?_ _)); refine blk_far ?_ NB231_235.out _; (with_reducible repeat (first | refine blk_drewN ?_ _ | refine blk_drew ?_ | refine blk_alloc ?_ _)); refine blk_far ?_ NB231_235.out _; (with_reducible repeat (first | refine blk_drewN ?_ _ | refine blk_drew ?_ | refine blk_alloc ?_ _)); exact BK231.out)) : gb231 ≠ gb236)); have n10_ := Aside0.mk ((by rw [hg]; exact Nat.ne_of_gt (blk_lt (g := gb231) (o := .cells #[.int .i64 t222, .int .i64 t223, .int .i64 t224] 31 (0, 0)) (by (with_reducible repeat (first | refine blk_drewN ?_ _ | refine blk_drew ?_ | refine blk_alloc ?_ _)); refine blk_far ?_ NB231_235.out _; (with_reducible repeat (first | refine blk_drewN ?_ _ | refine blk_drew ?_ | refine blk_alloc ?_ _)); refine blk_far ?_ NB231_235.out _; (with_reducible repeat (first | refine blk_drewN ?_ _ | refine blk_drew ?_ | refine blk_alloc ?_ _)); exact BK231.out)) : gb236 ≠ gb231)); have n11_ := Aside0.mk ((by rw [hg]; exact Nat.ne_of_lt (blk_lt (g := gb232) (o := .cells #[.int .i64 t225, .int .i64 t226, .int .i64 t227] 31 (0, 0)) (by (with_reducible repeat (first | refine blk_drewN ?_ _ | refine blk_drew ?_ | refine blk_alloc ?_ _)); refine blk_far ?_ NB232_235.out _; (with_reducible repeat (first | refine blk_drewN ?_ _ | refine blk_drew ?_ | refine blk_alloc ?_ _)); refine blk_far ?_ NB232_235.out _; (with_reducible repeat (first | refine blk_drewN ?_ _ | refine blk_drew ?_ | refine blk_alloc ?_ _)); exact BK232.out)) : gb232 ≠ gb236)); have n12_ := Aside0.mk ((by rw [hg]; exact Nat.ne_of_gt (blk_lt (g := gb232) (o := .cells #[.int .i64 t225, .int .i64 t226, .int .i64 t227] 31 (0, 0)) (by (with_reducible repeat (first | refine blk_drewN ?_ _ | refine blk_drew ?_ | refine blk_alloc ?_ _)); refine blk_far ?_ NB232_235.out _; (with_reducible repeat (first | refine blk_drewN ?_ _ | refine blk_drew ?_ | refine blk_alloc ?_ _)); refine blk_far ?_ NB232_235.out _; (with_reducible repeat (first | refine blk_drewN ?_ _ | refine blk_drew ?_ | refine blk_alloc ?_ _)); exact BK232.out)) : gb236 ≠ gb232)); have n13_ := Aside0.mk ((by rw [hg]; exact Nat.ne_of_lt (blk_lt (g := gb233) (o := .cells #[.int .i64 t228, .int .i64 t229, .int .i64 t230] 31 (0, 0)) (by (with_reducible repeat (first | refine blk_drewN ?_ _ | refine blk_drew ?_ | refine blk_alloc ?_ _)); refine blk_far ?_ NB233_235.out _; (with_reducible repeat (first | refine blk_drewN ?_ _ | refine blk_drew ?_ | refine blk_alloc ?_ _)); refine blk_far ?_ NB233_235.out _; (with_reducible repeat (first | refine blk_drewN ?_ _ | refine blk_drew ?_ | refine blk_alloc ?_ _)); exact BK233.out)) : gb233 ≠ gb236)); have n14_ := Aside0.mk ((by rw [hg]; exact Nat.ne_of_gt (blk_lt (g := gb233) (o := .cells #[.int .i64 t228, .int .i64 t229, .int .i64 t230] 31 (0, 0)) (by (with_reducible repeat (first | refine blk_drewN ?_ _ | refine blk_drew ?_ | refine blk_alloc ?_ _)); refine blk_far ?_ NB233_235.out _; (with_reducible repeat (first | refine blk_drewN ?_ _ | refine blk_drew ?_ | refine blk_alloc ?_ _)); refine blk_far ?_ NB233_235.out _; (with_reducible repeat (first | refine blk_drewN ?_ _ | refine blk_drew ?_ | refine blk_alloc ?_ _)); exact BK233.out)) : gb236 ≠ gb233)); have n15_ := Aside0.mk ((by rw [hg]; exact Nat.ne_of_lt (blk_lt (g := gb234) (o := .cells #[.int .i64 t223, .int .i64 t224] 29 (0, 0)) (by (with_reducible repeat (first | refine blk_drewN ?_ _ | refine blk_drew ?_ | refine blk_alloc ?_ _)); refine blk_far ?_ NB234_235.out _; (with_reducible repeat (first | refine blk_drewN ?_ _ | refine blk_drew ?_ | refine blk_alloc ?_ _)); refine blk_far ?_ NB234_235.out _; (with_reducible repeat (first | refine blk_drewN ?_ _ | refine blk_drew ?_ | refine blk_alloc ?_ _)); exact BK234.out)) : gb234 ≠ gb236)); have n16_ := Aside0.mk ((by rw [hg]; exact Nat.ne_of_gt (blk_lt (g := gb234) (o := .cells #[.int .i64 t223, .int .i64 t224] 29 (0, 0)) (by (with_reducible repeat (first | refine blk_drewN ?_ _ | refine blk_drew ?_ | refine blk_alloc ?_ _)); refine blk_far ?_ NB234_235.out _; (with_reducible repeat (first | refine blk_drewN ?_ _ | refine blk_drew ?_ | refine blk_alloc ?_ _)); refine blk_far ?_ NB234_235.out _; (with_reducible repeat (first | refine blk_drewN ?_ _ | refine blk_drew ?_ | refine blk_alloc ?_ _)); exact BK234.out)) : gb236 ≠ gb234)); have n17_ := Aside0.mk ((by rw [hg]; exact Nat.ne_of_lt (blk_lt (g := gb235) (o := .cells #[.int .i64 t226, .int .i64 t227] 29 (0, 0)) (by (with_reducible repeat (first | refine blk_drewN ?_ _ | refine blk_drew ?_ | refine blk_alloc ?_ _)); refine blk_put (cs := #[.int .i64 t226, .int .i64 0]) ?_ 1 _ rfl; (with_reducible repeat (first | refine blk_drewN ?_ _ | refine blk_drew ?_ | refine blk_alloc ?_ _)); refine blk_put (cs := #[.int .i64 0, .int .i64 0]) ?_ 0 _ rfl; (with_reducible repeat (first | refine blk_drewN ?_ _ | refine blk_drew ?_ | refine blk_alloc ?_ _)); exact BK235.out)) : gb235 ≠ gb236)); have n18_ := Aside0.mk ((by rw [hg]; exact Nat.ne_of_gt (blk_lt (g := gb235) (o := .cells #[.int .i64 t226, .int .i64 t227] 29 (0, 0)) (by (with_reducible repeat (first | refine blk_drewN ?_ _ | refine blk_drew ?_ | refine blk_alloc ?_ _)); refine blk_put (cs := #[.int .i64 t226, .int .i64 0]) ?_ 1 _ rfl; (with_reducible repeat (first | refine blk_drewN ?_ _ | refine blk_drew ?_ | refine blk_alloc ?_ _)); refine blk_put (cs := #[.int .i64 0, .int .i64 0]) ?_ 0 _ rfl; (with_reducible repeat (first | refine blk_drewN ?_ _ | refine blk_drew ?_ | refine blk_alloc ?_ _)); exact BK235.out)) : gb236 ≠ gb235)); clear BK231; clear BK232; clear BK233; clear BK234; clear BK235; clear HB; have BK231 := n0_; have BK232 := n1_; have BK233 := n2_; have BK234 := n3_; have BK235 := n4_; have HB := n5_; have BK236 := n6_; have GW236 := n7_; have GE236 := n8_; have NB231_236 := n9_; have NB236_231 := n10_; have NB232_236 := n11_; have NB236_232 := n12_; have NB233_236 := n13_; have NB236_233 := n14_; have NB234_236 := n15_; have NB236_234 := n16_; have NB235_236 := n17_; have NB236_235 := n18_; clear n0_ n1_ n2_ n3_ n4_ n5_ n6_ n7_ n8_ n9_ n10_ n11_ n12_ n13_ n14_ n15_ n16_ n17_ n18_; clear hb hbox hg; have hnb168 := NB236_231.out; have hnc168 := NB231_236.out; have hnb169 := NB236_232.out; have hnc169 := NB232_236.out; have hnb170 := NB236_233.out; have hnc170 := NB233_236.out; have hnb171 := NB236_234.out; have hnc171 := NB234_236.out; have hnb172 := NB236_235.out; have hnc172 := NB235_236.out; have hcz173_0 : w167.cell? ⟨gb236, 0, none⟩ = some (.int .i64 0) := cR BK236.out 0; have hcz173_1 : w167.cell? ⟨gb236, 1, none⟩ = some (.int .i64 0) := cR BK236.out 1; have hfz173_0 := blk_frozen BK236.out 0; have hfz173_1 := blk_frozen BK236.out 1; have hcz174_0 : w167.cell? ⟨gb234, 0, none⟩ = some (.int .i64 t223) := cR BK234.out 0; have hcz174_1 : w167.cell? ⟨gb234, 1, none⟩ = some (.int .i64 t224) := cR BK234.out 1; have hfz174_0 := blk_frozen BK234.out 0; have hfz174_1 := blk_frozen BK234.out 1; have hcz175_0 : w167.cell? ⟨gb235, 0, none⟩ = some (.int .i64 t226) := cR BK235.out 0; have hcz175_1 : w167.cell? ⟨gb235, 1, none⟩ = some (.int .i64 t227) := cR BK235.out 1; have hfz175_0 := blk_frozen BK235.out 0; have hfz175_1 := blk_frozen BK235.out 1) | ((with_reducible refine gate_callee (f := 32) rfl ?_); refine gL_ (some 28) Try.func32 #[.agg #[.int .i64 t223, .int .i64 t224], .agg #[.int .i64 t226, .int .i64 t227]] ?_; (with_reducible refine (impl_Later.calls t223 t224 t226 t227 false _ A5.out).mono ?_); rintro e w176 ⟨rfl, hb⟩; refine ⟨_, rfl, ?_⟩; have n0_ := Aside0.mk (blk_below (g := gb231) (o := .cells #[.int .i64 t222, .int .i64 t223, .int .i64 t224] 31 (0, 0)) (by (with_reducible repeat (first | refine blk_drewN ?_ _ | refine blk_drew ?_ | refine blk_alloc ?_ _)); refine blk_far ?_ NB231_236.out _; (with_reducible repeat (first | refine blk_drewN ?_ _ | refine blk_drew ?_ | refine blk_alloc ?_ _)); refine blk_far ?_ NB231_236.out _; (with_reducible repeat (first | refine blk_drewN ?_ _ | refine blk_drew ?_ | refine blk_alloc ?_ _)); exact BK231.out) hb); have n1_ := Aside0.mk (blk_below (g := gb232) (o := .cells #[.int .i64 t225, .int .i64 t226, .int .i64 t227] 31 (0, 0)) (by (with_reducible repeat (first | refine blk_drewN ?_ _ | refine blk_drew ?_ | refine blk_alloc ?_ _)); refine blk_far ?_ NB232_236.out _; (with_reducible repeat (first | refine blk_drewN ?_ _ | refine blk_drew ?_ | refine blk_alloc ?_ _)); refine blk_far ?_ NB232_236.out _; (with_reducible repeat (first | refine blk_drewN ?_ _ | refine blk_drew ?_ | refine blk_alloc ?_ _)); exact BK232.out) hb); have n2_ := Aside0.mk (blk_below (g := gb233) (o := .cells #[.int .i64 t228, .int .i64 t229, .int .i64 t230] 31 (0, 0)) (by (with_reducible repeat (first | refine blk_drewN ?_ _ | refine blk_drew ?_ | refine blk_alloc ?_ _)); refine blk_far ?_ NB233_236.out _; (with_reducible repeat (first | refine blk_drewN ?_ _ | refine blk_drew ?_ | refine blk_alloc ?_ _)); refine blk_far ?_ NB233_236.out _; (with_reducible repeat (first | refine blk_drewN ?_ _ | refine blk_drew ?_ | refine blk_alloc ?_ _)); exact BK233.out) hb); have n3_ := Aside0.mk (blk_below (g := gb234) (o := .cells #[.int .i64 t223, .int .i64 t224] 29 (0, 0)) (by (with_reducible repeat (first | refine blk_drewN ?_ _ | refine blk_drew ?_ | refine blk_alloc ?_ _)); refine blk_far ?_ NB234_236.out _; (with_reducible repeat (first | refine blk_drewN ?_ _ | refine blk_drew ?_ | refine blk_alloc ?_ _)); refine blk_far ?_ NB234_236.out _; (with_reducible repeat (first | refine blk_drewN ?_ _ | refine blk_drew ?_ | refine blk_alloc ?_ _)); exact BK234.out) hb); have n4_ := Aside0.mk (blk_below (g := gb235) (o := .cells #[.int .i64 t226, .int .i64 t227] 29 (0, 0)) (by (with_reducible repeat (first | refine blk_drewN ?_ _ | refine blk_drew ?_ | refine blk_alloc ?_ _)); refine blk_far ?_ NB235_236.out _; (with_reducible repeat (first | refine blk_drewN ?_ _ | refine blk_drew ?_ | refine blk_alloc ?_ _)); refine blk_far ?_ NB235_236.out _; (with_reducible repeat (first | refine blk_drewN ?_ _ | refine blk_drew ?_ | refine blk_alloc ?_ _)); exact BK235.out) hb); have n5_ := Aside0.mk (blk_below (g := gb236) (o := .cells #[.int .i64 t229, .int .i64 t230] 29 (0, 0)) (by (with_reducible repeat (first | refine blk_drewN ?_ _ | refine blk_drew ?_ | refine blk_alloc ?_ _)); refine blk_put (cs := #[.int .i64 t229, .int .i64 0]) ?_ 1 _ rfl; (with_reducible repeat (first | refine blk_drewN ?_ _ | refine blk_drew ?_ | refine blk_alloc ?_ _)); refine blk_put (cs := #[.int .i64 0, .int .i64 0]) ?_ 0 _ rfl; (with_reducible repeat (first | refine blk_drewN ?_ _ | refine blk_drew ?_ | refine blk_alloc ?_ _)); exact BK236.out) hb); have n6_ := Aside0.mk (below_step aH hb); clear BK231; clear BK232; clear BK233; clear BK234; clear BK235; clear BK236; clear HB; have BK231 := n0_; have BK232 := n1_; have BK233 := n2_; have BK234 := n3_; have BK235 := n4_; have BK236 := n5_; have HB := n6_; clear n0_ n1_ n2_ n3_ n4_ n5_ n6_; (try clear hb); (try clear hb2); (try clear hk); (try clear hi); have hcz177_0 : w176.cell? ⟨gb235, 0, none⟩ = some (.int .i64 t226) := cR BK235.out 0; have hcz177_1 : w176.cell? ⟨gb235, 1, none⟩ = some (.int .i64 t227) := cR BK235.out 1; have hfz177_0 := blk_frozen BK235.out 0; have hfz177_1 := blk_frozen BK235.out 1; have hcz178_0 : w176.cell? ⟨gb234, 0, none⟩ = some (.int .i64 t223) := cR BK234.out 0; have hcz178_1 : w176.cell? ⟨gb234, 1, none⟩ = some (.int .i64 t224) := cR BK234.out 1; have hfz178_0 := blk_frozen BK234.out 0; have hfz178_1 := blk_frozen BK234.out 1) | ((with_reducible refine gate_callee (f := 32) rfl ?_); refine gL_ (some 31) Try.func32 #[.agg #[.int .i64 t226, .int .i64 t227], .agg #[.int .i64 t223, .int .i64 t224]] ?_; (with_reducible refine (impl_Later.calls t226 t227 t223 t224 t238 _ A6.out).mono ?_); rintro e w179 ⟨rfl, hb⟩; refine ⟨_, rfl, ?_⟩; have n0_ := Aside0.mk (kB BK231.out hb); have n1_ := Aside0.mk (kB BK232.out hb); have n2_ := Aside0.mk (kB BK233.out hb); have n3_ := Aside0.mk (kB BK234.out hb); have n4_ := Aside0.mk (kB BK235.out hb); have n5_ := Aside0.mk (kB BK236.out hb); have n6_ := Aside0.mk (below_step aH hb); clear BK231; clear BK232; clear BK233; clear BK234; clear BK235; clear BK236; clear HB; have BK231 := n0_; have BK232 := n1_; have BK233 := n2_; have BK234 := n3_; have BK235 := n4_; have BK236 := n5_; have HB := n6_; clear n0_ n1_ n2_ n3_ n4_ n5_ n6_; (try clear hb); (try clear hb2); (try clear hk); (try clear hi)) | ((with_reducible refine gate_callee (f := 33) rfl ?_); refine gL_ (some 33) Try.func33 #[.slice A0 l0.length c0] ?_; (with_reducible refine (spec_DrawRegOk.calls k _ _ l0 t239 t240 t241 _ ?side1 ?side2 A7.out).mono ?_); (case side1 => repeat (first | exact (Kd.C_below HR0.out HB.out) | (with_reducible refine Kd.C_alloc ?_ _) | (with_reducible refine Kd.C_drewN ?_ _) | (with_reducible refine Kd.C_drew ?_))); (case side2 => exact HC0.out); rintro e w180 ⟨rfl, hb⟩; refine ⟨_, rfl, ?_⟩; have n0_ := Aside0.mk (kB BK231.out hb); have n1_ := Aside0.mk (kB BK232.out hb); have n2_ := Aside0.mk (kB BK233.out hb); have n3_ := Aside0.mk (kB BK234.out hb); have n4_ := Aside0.mk (kB BK235.out hb); have n5_ := Aside0.mk (kB BK236.out hb); have n6_ := Aside0.mk (below_step aH hb); clear BK231; clear BK232; clear BK233; clear BK234; clear BK235; clear BK236; clear HB; have BK231 := n0_; have BK232 := n1_; have BK233 := n2_; have BK234 := n3_; have BK235 := n4_; have BK236 := n5_; have HB := n6_; clear n0_ n1_ n2_ n3_ n4_ n5_ n6_; (try clear hb); (try clear hb2); (try clear hk); (try clear hi)) | ((with_reducible refine gate_dst (N := 11) rfl ?_); refine bE 11 #[.int .i64 0, .int .i64 0, .int .i64 0] 31 ?_; intro gb242 hg w181 hbox hb; have n0_ := Aside0.mk (kB BK231.out hb); have n1_ := Aside0.mk (kB BK232.out hb); have n2_ := Aside0.mk (kB BK233.out hb); have n3_ := Aside0.mk (kB BK234.out hb); have n4_ := Aside0.mk (kB BK235.out hb); have n5_ := Aside0.mk (kB BK236.out hb); have n6_ := Aside0.mk (below_step aH hb); have n7_ := Aside0.mk (hbox); have n8_ := Aside0.mk ((gS hg : w.heap.size ≤ gb242)); have n9_ := Aside0.mk ((gS hg : w.heap.size ≤ gb242)); have n10_ := Aside0.mk (gL hg BK231.out); have n11_ := Aside0.mk (gG hg BK231.out); have n12_ := Aside0.mk (gL hg BK232.out); have n13_ := Aside0.mk (gG hg BK232.out); have n14_ := Aside0.mk (gL hg BK233.out); have n15_ := Aside0.mk (gG hg BK233.out); have n16_ := Aside0.mk (gL hg BK234.out); have n17_ := Aside0.mk (gG hg BK234.out); have n18_ := Aside0.mk (gL hg BK235.out); have n19_ := Aside0.mk (gG hg BK235.out); have n20_ := Aside0.mk (gL hg BK236.out); have n21_ := Aside0.mk (gG hg BK236.out); clear BK231; clear BK232; clear BK233; clear BK234; clear BK235; clear BK236; clear HB; have BK231 := n0_; have BK232 := n1_; have BK233 := n2_; have BK234 := n3_; have BK235 := n4_; have BK236 := n5_; have HB := n6_; have BK242 := n7_; have GW242 := n8_; have GE242 := n9_; have NB231_242 := n10_; have NB242_231 := n11_; have NB232_242 := n12_; have NB242_232 := n13_; have NB233_242 := n14_; have NB242_233 := n15_; have NB234_242 := n16_; have NB242_234 := n17_; have NB235_242 := n18_; have NB242_235 := n19_; have NB236_242 := n20_; have NB242_236 := n21_; clear n0_ n1_ n2_ n3_ n4_ n5_ n6_ n7_ n8_ n9_ n10_ n11_ n12_ n13_ n14_ n15_ n16_ n17_ n18_ n19_ n20_ n21_; clear hb hbox hg; have hnb182 := NB242_231.out; have hnc182 := NB231_242.out; have hnb183 := NB242_232.out; have hnc183 := NB232_242.out; have hnb184 := NB242_233.out; have hnc184 := NB233_242.out; have hnb185 := NB242_234.out; have hnc185 := NB234_242.out; have hnb186 := NB242_235.out; have hnc186 := NB235_242.out; have hnb187 := NB242_236.out; have hnc187 := NB236_242.out; have hcz188_0 : w181.cell? ⟨gb242, 0, none⟩ = some (.int .i64 0) := cR BK242.out 0; have hcz188_1 : w181.cell? ⟨gb242, 1, none⟩ = some (.int .i64 0) := cR BK242.out 1; have hcz188_2 : w181.cell? ⟨gb242, 2, none⟩ = some (.int .i64 0) := cR BK242.out 2; have hfz188_0 := blk_frozen BK242.out 0; have hfz188_1 := blk_frozen BK242.out 1; have hfz188_2 := blk_frozen BK242.out 2))
      have n0_ : Aside0 ((((w181.setCell ⟨gb242, 0, none⟩ (.int .i64 t239)).setCell ⟨gb242, 1, none⟩ (.int .i64 t240)).setCell ⟨gb242, 2, none⟩ (.int .i64 t241)).heap[gb231]? = some (.cells #[.int .i64 t222, .int .i64 t223, .int .i64 t224] 31 (0, 0))) := ⟨by (with_reducible repeat (first | refine blk_drewN ?_ _ | refine blk_drew ?_ | refine blk_alloc ?_ _)); refine blk_far ?_ NB231_242.out _; (with_reducible repeat (first | refine blk_drewN ?_ _ | refine blk_drew ?_ | refine blk_alloc ?_ _)); refine blk_far ?_ NB231_242.out _; (with_reducible repeat (first | refine blk_drewN ?_ _ | refine blk_drew ?_ | refine blk_alloc ?_ _)); refine blk_far ?_ NB231_242.out _; (with_reducible repeat (first | refine blk_drewN ?_ _ | refine blk_drew ?_ | refine blk_alloc ?_ _)); exact BK231.out⟩
      have n1_ : Aside0 ((((w181.setCell ⟨gb242, 0, none⟩ (.int .i64 t239)).setCell ⟨gb242, 1, none⟩ (.int .i64 t240)).setCell ⟨gb242, 2, none⟩ (.int .i64 t241)).heap[gb232]? = some (.cells #[.int .i64 t225, .int .i64 t226, .int .i64 t227] 31 (0, 0))) := ⟨by (with_reducible repeat (first | refine blk_drewN ?_ _ | refine blk_drew ?_ | refine blk_alloc ?_ _)); refine blk_far ?_ NB232_242.out _; (with_reducible repeat (first | refine blk_drewN ?_ _ | refine blk_drew ?_ | refine blk_alloc ?_ _)); refine blk_far ?_ NB232_242.out _; (with_reducible repeat (first | refine blk_drewN ?_ _ | refine blk_drew ?_ | refine blk_alloc ?_ _)); refine blk_far ?_ NB232_242.out _; (with_reducible repeat (first | refine blk_drewN ?_ _ | refine blk_drew ?_ | refine blk_alloc ?_ _)); exact BK232.out⟩
      have n2_ : Aside0 ((((w181.setCell ⟨gb242, 0, none⟩ (.int .i64 t239)).setCell ⟨gb242, 1, none⟩ (.int .i64 t240)).setCell ⟨gb242, 2, none⟩ (.int .i64 t241)).heap[gb233]? = some (.cells #[.int .i64 t228, .int .i64 t229, .int .i64 t230] 31 (0, 0))) := ⟨by (with_reducible repeat (first | refine blk_drewN ?_ _ | refine blk_drew ?_ | refine blk_alloc ?_ _)); refine blk_far ?_ NB233_242.out _; (with_reducible repeat (first | refine blk_drewN ?_ _ | refine blk_drew ?_ | refine blk_alloc ?_ _)); refine blk_far ?_ NB233_242.out _; (with_reducible repeat (first | refine blk_drewN ?_ _ | refine blk_drew ?_ | refine blk_alloc ?_ _)); refine blk_far ?_ NB233_242.out _; (with_reducible repeat (first | refine blk_drewN ?_ _ | refine blk_drew ?_ | refine blk_alloc ?_ _)); exact BK233.out⟩
      have n3_ : Aside0 ((((w181.setCell ⟨gb242, 0, none⟩ (.int .i64 t239)).setCell ⟨gb242, 1, none⟩ (.int .i64 t240)).setCell ⟨gb242, 2, none⟩ (.int .i64 t241)).heap[gb234]? = some (.cells #[.int .i64 t223, .int .i64 t224] 29 (0, 0))) := ⟨by (with_reducible repeat (first | refine blk_drewN ?_ _ | refine blk_drew ?_ | refine blk_alloc ?_ _)); refine blk_far ?_ NB234_242.out _; (with_reducible repeat (first | refine blk_drewN ?_ _ | refine blk_drew ?_ | refine blk_alloc ?_ _)); refine blk_far ?_ NB234_242.out _; (with_reducible repeat (first | refine blk_drewN ?_ _ | refine blk_drew ?_ | refine blk_alloc ?_ _)); refine blk_far ?_ NB234_242.out _; (with_reducible repeat (first | refine blk_drewN ?_ _ | refine blk_drew ?_ | refine blk_alloc ?_ _)); exact BK234.out⟩
      have n4_ : Aside0 ((((w181.setCell ⟨gb242, 0, none⟩ (.int .i64 t239)).setCell ⟨gb242, 1, none⟩ (.int .i64 t240)).setCell ⟨gb242, 2, none⟩ (.int .i64 t241)).heap[gb235]? = some (.cells #[.int .i64 t226, .int .i64 t227] 29 (0, 0))) := ⟨by (with_reducible repeat (first | refine blk_drewN ?_ _ | refine blk_drew ?_ | refine blk_alloc ?_ _)); refine blk_far ?_ NB235_242.out _; (with_reducible repeat (first | refine blk_drewN ?_ _ | refine blk_drew ?_ | refine blk_alloc ?_ _)); refine blk_far ?_ NB235_242.out _; (with_reducible repeat (first | refine blk_drewN ?_ _ | refine blk_drew ?_ | refine blk_alloc ?_ _)); refine blk_far ?_ NB235_242.out _; (with_reducible repeat (first | refine blk_drewN ?_ _ | refine blk_drew ?_ | refine blk_alloc ?_ _)); exact BK235.out⟩
      have n5_ : Aside0 ((((w181.setCell ⟨gb242, 0, none⟩ (.int .i64 t239)).setCell ⟨gb242, 1, none⟩ (.int .i64 t240)).setCell ⟨gb242, 2, none⟩ (.int .i64 t241)).heap[gb236]? = some (.cells #[.int .i64 t229, .int .i64 t230] 29 (0, 0))) := ⟨by (with_reducible repeat (first | refine blk_drewN ?_ _ | refine blk_drew ?_ | refine blk_alloc ?_ _)); refine blk_far ?_ NB236_242.out _; (with_reducible repeat (first | refine blk_drewN ?_ _ | refine blk_drew ?_ | refine blk_alloc ?_ _)); refine blk_far ?_ NB236_242.out _; (with_reducible repeat (first | refine blk_drewN ?_ _ | refine blk_drew ?_ | refine blk_alloc ?_ _)); refine blk_far ?_ NB236_242.out _; (with_reducible repeat (first | refine blk_drewN ?_ _ | refine blk_drew ?_ | refine blk_alloc ?_ _)); exact BK236.out⟩
      have n6_ : Aside0 ((((w181.setCell ⟨gb242, 0, none⟩ (.int .i64 t239)).setCell ⟨gb242, 1, none⟩ (.int .i64 t240)).setCell ⟨gb242, 2, none⟩ (.int .i64 t241)).heap[gb242]? = some (.cells #[.int .i64 t239, .int .i64 t240, .int .i64 t241] 31 (0, 0))) := ⟨by (with_reducible repeat (first | refine blk_drewN ?_ _ | refine blk_drew ?_ | refine blk_alloc ?_ _)); refine blk_put (cs := #[.int .i64 t239, .int .i64 t240, .int .i64 0]) ?_ 2 _ rfl; (with_reducible repeat (first | refine blk_drewN ?_ _ | refine blk_drew ?_ | refine blk_alloc ?_ _)); refine blk_put (cs := #[.int .i64 t239, .int .i64 0, .int .i64 0]) ?_ 1 _ rfl; (with_reducible repeat (first | refine blk_drewN ?_ _ | refine blk_drew ?_ | refine blk_alloc ?_ _)); refine blk_put (cs := #[.int .i64 0, .int .i64 0, .int .i64 0]) ?_ 0 _ rfl; (with_reducible repeat (first | refine blk_drewN ?_ _ | refine blk_drew ?_ | refine blk_alloc ?_ _)); exact BK242.out⟩
      have n7_ : Aside0 (Below w.heap.size w (((w181.setCell ⟨gb242, 0, none⟩ (.int .i64 t239)).setCell ⟨gb242, 1, none⟩ (.int .i64 t240)).setCell ⟨gb242, 2, none⟩ (.int .i64 t241))) := ⟨aH⟩
      (try clear BK231)
      (try clear BK232)
      (try clear BK233)
      (try clear BK234)
      (try clear BK235)
      (try clear BK236)
      (try clear BK242)
      (try clear HB)
      generalize (((w181.setCell ⟨gb242, 0, none⟩ (.int .i64 t239)).setCell ⟨gb242, 1, none⟩ (.int .i64 t240)).setCell ⟨gb242, 2, none⟩ (.int .i64 t241)) = w189 at n0_ n1_ n2_ n3_ n4_ n5_ n6_ n7_ ⊢
      have BK231 := n0_
      have BK232 := n1_
      have BK233 := n2_
      have BK234 := n3_
      have BK235 := n4_
      have BK236 := n5_
      have BK242 := n6_
      have HB := n7_
      clear n0_ n1_ n2_ n3_ n4_ n5_ n6_ n7_
      have n0_ := Aside0.mk (blk_drew BK231.out)
      have n1_ := Aside0.mk (blk_drew BK232.out)
      have n2_ := Aside0.mk (blk_drew BK233.out)
      have n3_ := Aside0.mk (blk_drew BK234.out)
      have n4_ := Aside0.mk (blk_drew BK235.out)
      have n5_ := Aside0.mk (blk_drew BK236.out)
      have n6_ := Aside0.mk (blk_drew BK242.out)
      have n7_ := Aside0.mk (below_drew1 HB.out)
      clear BK231
      clear BK232
      clear BK233
      clear BK234
      clear BK235
      clear BK236
      clear BK242
      clear HB
      have BK231 := n0_
      have BK232 := n1_
      have BK233 := n2_
      have BK234 := n3_
      have BK235 := n4_
      have BK236 := n5_
      have BK242 := n6_
      have HB := n7_
      clear n0_ n1_ n2_ n3_ n4_ n5_ n6_ n7_
      refine start_ (n := 51) (S := fun w' => w'.cell? ⟨gb234, 0, none⟩ = some (.int .i64 t223) ∧ w'.cell? ⟨gb234, 1, none⟩ = some (.int .i64 t224) ∧ w'.cell? ⟨gb235, 0, none⟩ = some (.int .i64 t226) ∧ w'.cell? ⟨gb235, 1, none⟩ = some (.int .i64 t227) ∧ w'.cell? ⟨gb242, 0, none⟩ = some (.int .i64 t239) ∧ w'.cell? ⟨gb242, 1, none⟩ = some (.int .i64 t240) ∧ w'.cell? ⟨gb242, 2, none⟩ = some (.int .i64 t241) ∧ w'.cell? ⟨gb231, 0, none⟩ = some (.int .i64 t222) ∧ w'.cell? ⟨gb231, 1, none⟩ = some (.int .i64 t223) ∧ w'.cell? ⟨gb231, 2, none⟩ = some (.int .i64 t224)) (ds := []) bb5_0 (by kernel_rfl) rfl rfl ⟨cR BK234.out 0, cR BK234.out 1, cR BK235.out 0, cR BK235.out 1, cR BK242.out 0, cR BK242.out 1, cR BK242.out 2, cR BK231.out 0, cR BK231.out 1, cR BK231.out 2⟩ (fun hHeld => ?_); refine with_tabW laws_FnStamps.tab10 laws_FnStamps.bits10 (fun HT_ HW_ => ?_)
      generalize w189.drew = w190 at BK231 BK232 BK233 BK234 BK235 BK236 BK242 HB hHeld ⊢
      refine pP 0 34 bb5_1 ?_
      refine pP 1 35 bb5_2 ?_
      refine pP 2 36 bb5_3 ?_
      refine pP 3 37 bb5_4 ?_
      refine tP 4 38 bb5_5 ?_
      refine tP 5 39 bb5_6 ?_
      refine pP 6 40 bb5_7 ?_
      refine pP 7 41 bb5_8 ?_
      refine pP 8 42 bb5_9 ?_
      refine pP 9 43 bb5_10 ?_
      refine pP 10 44 bb5_11 ?_
      refine pU 11 45 bb5_12 ?_
      refine pP 12 46 bb5_13 ?_
      refine pP 13 47 bb5_14 ?_
      refine pP 14 48 bb5_15 ?_
      refine pP 15 49 bb5_16 ?_
      refine pP 16 50 bb5_17 ?_
      refine pP 17 51 bb5_18 ?_
      refine pP 18 52 bb5_19 ?_
      refine pU 19 53 bb5_20 ?_
      refine pU 20 54 bb5_21 ?_
      refine pU 21 55 bb5_22 ?_
      refine pU 22 56 bb5_23 ?_
      refine pP 23 57 bb5_24 ?_
      refine pP 24 58 bb5_25 ?_
      refine pU 25 59 bb5_26 ?_
      refine pU 26 60 bb5_27 ?_
      refine pU 27 61 bb5_28 ?_
      refine pP 28 62 bb5_29 ?_
      refine pP 29 63 bb5_30 ?_
      refine pP 30 64 bb5_31 ?_
      refine tP 31 65 bb5_32 ?_
      refine tP 33 67 bb5_33 ?_
      refine one_ (i := 32) (N := some 66) bb5_34 rfl rfl (one_of HT_.out (by kernel_rfl)) (by decide) (fun K hK => ?_)
      refine goes_ Try.func34 (by kernel_rfl) rfl #[.agg #[.int .i64 t239, .int .i64 t240, .int .i64 t241]] (by rfl) rfl rfl (by (try simp only [List.map_toArray, List.map_cons, List.map_nil]); first | done | rfl | (simp only [List.length_drop, List.length_take]; rfl)) ?_
      with_reducible refine (impl_RegOk.calls t239 t240 t241 t255 _ A137.out).mono ?_
      rintro e w191 ⟨rfl, hb⟩
      refine ⟨_, rfl, ?_⟩
      have n0_ := Aside0.mk (kB BK231.out hb)
      have n1_ := Aside0.mk (kB BK232.out hb)
      have n2_ := Aside0.mk (kB BK233.out hb)
      have n3_ := Aside0.mk (kB BK234.out hb)
      have n4_ := Aside0.mk (kB BK235.out hb)
      have n5_ := Aside0.mk (kB BK236.out hb)
      have n6_ := Aside0.mk (kB BK242.out hb)
      have n7_ := Aside0.mk (below_step aH hb)
      clear BK231
      clear BK232
      clear BK233
      clear BK234
      clear BK235
      clear BK236
      clear BK242
      clear HB
      have BK231 := n0_
      have BK232 := n1_
      have BK233 := n2_
      have BK234 := n3_
      have BK235 := n4_
      have BK236 := n5_
      have BK242 := n6_
      have HB := n7_
      clear n0_ n1_ n2_ n3_ n4_ n5_ n6_ n7_
      (try clear hb)
      (try clear hb2)
      (try clear hk)
      (try clear hi)
      refine hK.out _ _ ⟨cR BK234.out 0, cR BK234.out 1, cR BK235.out 0, cR BK235.out 1, cR BK242.out 0, cR BK242.out 1, cR BK242.out 2, cR BK231.out 0, cR BK231.out 1, cR BK231.out 2⟩ (fun hHeld => ?_)
      clear hK K
      refine nP 66 ?_
      refine one_ (i := 34) (N := some 68) bb5_35 rfl rfl (one_of HT_.out (by kernel_rfl)) (by decide) (fun K hK => ?_)
      refine goes_ Try.func35 (by kernel_rfl) rfl #[.agg #[.int .i64 t239, .int .i64 t240, .int .i64 t241]] (by rfl) rfl rfl (by (try simp only [List.map_toArray, List.map_cons, List.map_nil]); first | done | rfl | (simp only [List.length_drop, List.length_take]; rfl)) ?_
      with_reducible refine (spec_RegOk.calls t239 t240 t241 t256 _ A138.out).mono ?_
      rintro e w192 ⟨rfl, hb⟩
      refine ⟨_, rfl, ?_⟩
      have n0_ := Aside0.mk (kB BK231.out hb)
      have n1_ := Aside0.mk (kB BK232.out hb)
      have n2_ := Aside0.mk (kB BK233.out hb)
      have n3_ := Aside0.mk (kB BK234.out hb)
      have n4_ := Aside0.mk (kB BK235.out hb)
      have n5_ := Aside0.mk (kB BK236.out hb)
      have n6_ := Aside0.mk (kB BK242.out hb)
      have n7_ := Aside0.mk (below_step aH hb)
      clear BK231
      clear BK232
      clear BK233
      clear BK234
      clear BK235
      clear BK236
      clear BK242
      clear HB
      have BK231 := n0_
      have BK232 := n1_
      have BK233 := n2_
      have BK234 := n3_
      have BK235 := n4_
      have BK236 := n5_
      have BK242 := n6_
      have HB := n7_
      clear n0_ n1_ n2_ n3_ n4_ n5_ n6_ n7_
      (try clear hb)
      (try clear hb2)
      (try clear hk)
      (try clear hi)
      refine hK.out _ _ ⟨cR BK234.out 0, cR BK234.out 1, cR BK235.out 0, cR BK235.out 1, cR BK242.out 0, cR BK242.out 1, cR BK242.out 2, cR BK231.out 0, cR BK231.out 1, cR BK231.out 2⟩ (fun hHeld => ?_)
      clear hK K
      refine nP 68 ?_
      refine pP 35 69 bb5_36 ?_
      refine pP 36 70 bb5_37 ?_
      refine pP 37 71 bb5_38 ?_
      refine pP 38 72 bb5_39 ?_
      refine pP 41 75 bb5_40 ?_
      refine tP 39 73 bb5_41 ?_
      refine tP 42 76 bb5_42 ?_
      refine one_ (i := 40) (N := some 74) bb5_43 rfl rfl (one_of HT_.out (by kernel_rfl)) (by decide) (fun K hK => ?_)
      refine goes_ Try.func36 (by kernel_rfl) rfl #[.agg #[.int .i64 t240, .int .i64 t241]] (by rfl) rfl rfl (by (try simp only [List.map_toArray, List.map_cons, List.map_nil]); first | done | rfl | (simp only [List.length_drop, List.length_take]; rfl)) ?_
      with_reducible refine (impl_StampOk.calls t240 t241 t257 _ A140.out).mono ?_
      rintro e w193 ⟨rfl, hb⟩
      refine ⟨_, rfl, ?_⟩
      have n0_ := Aside0.mk (kB BK231.out hb)
      have n1_ := Aside0.mk (kB BK232.out hb)
      have n2_ := Aside0.mk (kB BK233.out hb)
      have n3_ := Aside0.mk (kB BK234.out hb)
      have n4_ := Aside0.mk (kB BK235.out hb)
      have n5_ := Aside0.mk (kB BK236.out hb)
      have n6_ := Aside0.mk (kB BK242.out hb)
      have n7_ := Aside0.mk (below_step aH hb)
      clear BK231
      clear BK232
      clear BK233
      clear BK234
      clear BK235
      clear BK236
      clear BK242
      clear HB
      have BK231 := n0_
      have BK232 := n1_
      have BK233 := n2_
      have BK234 := n3_
      have BK235 := n4_
      have BK236 := n5_
      have BK242 := n6_
      have HB := n7_
      clear n0_ n1_ n2_ n3_ n4_ n5_ n6_ n7_
      (try clear hb)
      (try clear hb2)
      (try clear hk)
      (try clear hi)
      refine hK.out _ _ ⟨cR BK234.out 0, cR BK234.out 1, cR BK235.out 0, cR BK235.out 1, cR BK242.out 0, cR BK242.out 1, cR BK242.out 2, cR BK231.out 0, cR BK231.out 1, cR BK231.out 2⟩ (fun hHeld => ?_)
      clear hK K
      refine nP 74 ?_
      refine one_ (i := 43) (N := some 77) bb5_44 rfl rfl (one_of HT_.out (by kernel_rfl)) (by decide) (fun K hK => ?_)
      refine goes_ Try.func37 (by kernel_rfl) rfl #[.agg #[.int .i64 t240, .int .i64 t241]] (by rfl) rfl rfl (by (try simp only [List.map_toArray, List.map_cons, List.map_nil]); first | done | rfl | (simp only [List.length_drop, List.length_take]; rfl)) ?_
      with_reducible refine (spec_StampOk.calls t240 t241 t258 _ A141.out).mono ?_
      rintro e w194 ⟨rfl, hb⟩
      refine ⟨_, rfl, ?_⟩
      have n0_ := Aside0.mk (kB BK231.out hb)
      have n1_ := Aside0.mk (kB BK232.out hb)
      have n2_ := Aside0.mk (kB BK233.out hb)
      have n3_ := Aside0.mk (kB BK234.out hb)
      have n4_ := Aside0.mk (kB BK235.out hb)
      have n5_ := Aside0.mk (kB BK236.out hb)
      have n6_ := Aside0.mk (kB BK242.out hb)
      have n7_ := Aside0.mk (below_step aH hb)
      clear BK231
      clear BK232
      clear BK233
      clear BK234
      clear BK235
      clear BK236
      clear BK242
      clear HB
      have BK231 := n0_
      have BK232 := n1_
      have BK233 := n2_
      have BK234 := n3_
      have BK235 := n4_
      have BK236 := n5_
      have BK242 := n6_
      have HB := n7_
      clear n0_ n1_ n2_ n3_ n4_ n5_ n6_ n7_
      (try clear hb)
      (try clear hb2)
      (try clear hk)
      (try clear hi)
      refine hK.out _ _ ⟨cR BK234.out 0, cR BK234.out 1, cR BK235.out 0, cR BK235.out 1, cR BK242.out 0, cR BK242.out 1, cR BK242.out 2, cR BK231.out 0, cR BK231.out 1, cR BK231.out 2⟩ (fun hHeld => ?_)
      clear hK K
      refine nP 77 ?_
      refine pP 44 78 bb5_45 ?_
      refine pP 45 79 bb5_46 ?_
      refine pP 46 80 bb5_47 ?_
      refine tP 47 81 bb5_48 ?_
      refine one_ (i := 48) (N := some 82) bb5_49 rfl rfl (one_of HT_.out (by kernel_rfl)) (by decide) (fun K hK => ?_)
      refine goes_ Try.func34 (by kernel_rfl) rfl #[.agg #[.int .i64 t222, .int .i64 t223, .int .i64 t224]] (by rfl) rfl rfl (by (try simp only [List.map_toArray, List.map_cons, List.map_nil]); first | done | rfl | (simp only [List.length_drop, List.length_take]; rfl)) ?_
      with_reducible refine (impl_RegOk.calls t222 t223 t224 t259 _ A143.out).mono ?_
      rintro e w195 ⟨rfl, hb⟩
      refine ⟨_, rfl, ?_⟩
      have n0_ := Aside0.mk (kB BK231.out hb)
      have n1_ := Aside0.mk (kB BK232.out hb)
      have n2_ := Aside0.mk (kB BK233.out hb)
      have n3_ := Aside0.mk (kB BK234.out hb)
      have n4_ := Aside0.mk (kB BK235.out hb)
      have n5_ := Aside0.mk (kB BK236.out hb)
      have n6_ := Aside0.mk (kB BK242.out hb)
      have n7_ := Aside0.mk (below_step aH hb)
      clear BK231
      clear BK232
      clear BK233
      clear BK234
      clear BK235
      clear BK236
      clear BK242
      clear HB
      have BK231 := n0_
      have BK232 := n1_
      have BK233 := n2_
      have BK234 := n3_
      have BK235 := n4_
      have BK236 := n5_
      have BK242 := n6_
      have HB := n7_
      clear n0_ n1_ n2_ n3_ n4_ n5_ n6_ n7_
      (try clear hb)
      (try clear hb2)
      (try clear hk)
      (try clear hi)
      refine hK.out _ _ ⟨cR BK234.out 0, cR BK234.out 1, cR BK235.out 0, cR BK235.out 1, cR BK242.out 0, cR BK242.out 1, cR BK242.out 2, cR BK231.out 0, cR BK231.out 1, cR BK231.out 2⟩ (fun hHeld => ?_)
      clear hK K
      refine nP 82 ?_
      refine pP 49 83 bb5_50 ?_
      refine pP 50 2 bb5_51 ?_
      refine done_ (done_of HT_.out (by kernel_rfl)) ?_
      try go_wp2
      go_ret
      exact ⟨by first | rfl | (simp [errW_none, errW_some] <;> rfl) | (simp [*, errW_none, errW_some] <;> rfl), aH⟩
     ·rw [if_neg c142] at H
      have c142b0 : (t257 == t258) = false := by simpa using c142
      (try (have c142b1 : decide (t257 = t258) = false := by simpa using c142))
      (try (have c142b2 : (t257 == t258) = false := by simpa using c142))
      (try (have c142b3 : ¬ (t257 = t258) := by simpa using c142))
      clear c142
      exact absurd H (by simp)
    ·rw [if_neg c139] at H
     have c139b0 : (t255 == t256) = false := by simpa using c139
     (try (have c139b1 : decide (t255 = t256) = false := by simpa using c139))
     (try (have c139b2 : (t255 == t256) = false := by simpa using c139))
     (try (have c139b3 : ¬ (t255 = t256) := by simpa using c139))
     clear c139
     exact absurd H (by simp)
   ·rw [if_neg c136] at H
    have c136b0 : (t238 == (!(t223 == t226) || (!(t224 == t227)))) = false := by simpa using c136
    (try (have c136b1 : decide (t238 = (!(t223 == t226) || (!(t224 == t227)))) = false := by simpa using c136))
    (try (have c136b2 : (t238 == (!(t223 == t226) || (!(t224 == t227)))) = false := by simpa using c136))
    (try (have c136b3 : ¬ (t238 = (!(t223 == t226) || (!(t224 == t227)))) := by simpa using c136))
    clear c136
    exact absurd H (by simp)

/-- THE ONE PURE STATEMENT of laws_FnStamps: yours. -/
def laws_FnStamps.Pure : Prop := ∀ (l0 : List Int), l0.length ≤ maxLen → l0.length * 1 ≤ 140737488351232 → (∀ x ∈ l0, (Lit.int .u8 x).wf = true) → ∃ k, laws_FnStamps.f k l0 = some true
theorem laws_FnStamps.walk (P : laws_FnStamps.Pure) (a0 : Option Addr) (len0 cap0 : Nat) (z0 : List Int) (w : World) (w0 : (a0 = none ∧ len0 = 0 ∧ cap0 = 0 ∧ z0 = []) ∨ ∃ x, a0 = some x ∧ len0 ≤ cap0 ∧ cap0 ≤ maxLen ∧ z0.length = cap0 ∧ (∀ i, i < z0.length → w.cell? (x.add i) = some (.int .u8 (z0.getD i 0))) ∧ ∀ n ∈ z0, (Lit.int .u8 n).wf = true) (y0 : len0 * 1 ≤ 140737488351232) :
  Calls Try.prog 9 #[.slice a0 len0 cap0] w fun e w' => e = .returned (.bool true) ∧ Below w.heap.size w w' := by
 obtain ⟨l0, rfl, hr0, hm0, hw0, hc0⟩ := ReadsInt.ofRowC w0
 obtain ⟨k, h⟩ := P l0 hm0 y0 hw0
 refine (laws_FnStamps.calls k _ _ l0 true w (Kd.C_of_reads (d := (0 : Int)) (h1 := fun _ => rfl) hr0) hc0 h).mono ?_
 rintro e w' ⟨rfl, hd⟩
 exact ⟨rfl, hd⟩

end Go.Proofs.Ytolkoidoablphaa.PFnStamps
