-- Written for this claim by the session's own wip/myprint.py (a patched run of the kit's printer). Not trusted: Lean checks it.
import Derived.Test.YtdabhhlfnfjojaaPFnRegsx0
import Derived.Test.YtdabhhlfnfjojaaPFnRegsx1
import Derived.Test.YtdabhhlfnfjojaaPFnRegsx2
import Derived.Test.YtdabhhlfnfjojaaPFnRegsx3
import Derived.Test.YtdabhhlfnfjojaaPFnRegsx4
import Derived.Test.YtdabhhlfnfjojaaPFnRegsx5
namespace Go.Proofs.Ytdabhhlfnfjojaa.PFnRegs
open Go.RowKit Go.Proofs.YtdabhhlfnfjojaaW.PrintWords Go.Proofs.YtdabhhlfnfjojaaW.PrintLast Go.Proofs.YtdabhhlfnfjojaaW.PrintMore
abbrev bb6_0 : Array Bool := (bA 49 0)
abbrev bb6_1 : Array Bool := (bA 49 1)
abbrev bb6_2 : Array Bool := (bA 49 3)
abbrev bb6_3 : Array Bool := (bA 49 7)
abbrev bb6_4 : Array Bool := (bA 49 15)
abbrev bb6_5 : Array Bool := (bA 49 31)
abbrev bb6_6 : Array Bool := (bA 49 63)
abbrev bb6_7 : Array Bool := (bA 49 127)
abbrev bb6_8 : Array Bool := (bA 49 255)
abbrev bb6_9 : Array Bool := (bA 49 767)
abbrev bb6_10 : Array Bool := (bA 49 1023)
abbrev bb6_11 : Array Bool := (bA 49 2047)
abbrev bb6_12 : Array Bool := (bA 49 4095)
abbrev bb6_13 : Array Bool := (bA 49 8191)
abbrev bb6_14 : Array Bool := (bA 49 16383)
abbrev bb6_15 : Array Bool := (bA 49 32767)
abbrev bb6_16 : Array Bool := (bA 49 65535)
abbrev bb6_17 : Array Bool := (bA 49 131071)
abbrev bb6_18 : Array Bool := (bA 49 262143)
abbrev bb6_19 : Array Bool := (bA 49 524287)
abbrev bb6_20 : Array Bool := (bA 49 1048575)
abbrev bb6_21 : Array Bool := (bA 49 2097151)
abbrev bb6_22 : Array Bool := (bA 49 4194303)
abbrev bb6_23 : Array Bool := (bA 49 8388607)
abbrev bb6_24 : Array Bool := (bA 49 16777215)
abbrev bb6_25 : Array Bool := (bA 49 33554431)
abbrev bb6_26 : Array Bool := (bA 49 67108863)
abbrev bb6_27 : Array Bool := (bA 49 134217727)
abbrev bb6_28 : Array Bool := (bA 49 268435455)
abbrev bb6_29 : Array Bool := (bA 49 1342177279)
abbrev bb6_30 : Array Bool := (bA 49 1610612735)
abbrev bb6_31 : Array Bool := (bA 49 2147483647)
abbrev bb6_32 : Array Bool := (bA 49 4294967295)
abbrev bb6_33 : Array Bool := (bA 49 8589934591)
abbrev bb6_34 : Array Bool := (bA 49 17179869183)
abbrev bb6_35 : Array Bool := (bA 49 34359738367)
abbrev bb6_36 : Array Bool := (bA 49 68719476735)
abbrev bb6_37 : Array Bool := (bA 49 137438953471)
abbrev bb6_38 : Array Bool := (bA 49 274877906943)
abbrev bb6_39 : Array Bool := (bA 49 549755813887)
abbrev bb6_40 : Array Bool := (bA 49 1099511627775)
abbrev bb6_41 : Array Bool := (bA 49 2199023255551)
abbrev bb6_42 : Array Bool := (bA 49 6597069766655)
abbrev bb6_43 : Array Bool := (bA 49 8796093022207)
abbrev bb6_44 : Array Bool := (bA 49 17592186044415)
abbrev bb6_45 : Array Bool := (bA 49 52776558133247)
abbrev bb6_46 : Array Bool := (bA 49 70368744177663)
abbrev bb6_47 : Array Bool := (bA 49 140737488355327)
abbrev bb6_48 : Array Bool := (bA 49 281474976710655)
abbrev bb6_49 : Array Bool := (bA 49 562949953421311)
attribute [local go_sem] max2_str max2_int min2_int max_two min_two max_three min_three max_four min_four   -- for this text's walks alone
set_option linter.unusedVariables false
set_option linter.unusedSimpArgs false

attribute [local go_sem high] eqA41
/-! ### laws_FnRegs: function 5 -/
def laws_FnRegs.f (k : Nat) (l0 : List Int) : Option (Bool) := (laws_big.f l0).bind fun t252 => (if t252 = true then (some true) else ((spec_DrawRegs.f k l0).bind fun bt253 => ((impl_JoinReg.f k bt253.1 bt253.2.1 bt253.2.2.1 bt253.2.2.2.1 bt253.2.2.2.2.1 bt253.2.2.2.2.2.1).bind fun bt265 => ((impl_JoinReg.f k bt265.1 bt265.2.1 bt265.2.2 bt253.2.2.2.2.2.2.1 bt253.2.2.2.2.2.2.2.1 bt253.2.2.2.2.2.2.2.2).bind fun bt269 => ((impl_JoinReg.f k bt253.2.2.2.1 bt253.2.2.2.2.1 bt253.2.2.2.2.2.1 bt253.2.2.2.2.2.2.1 bt253.2.2.2.2.2.2.2.1 bt253.2.2.2.2.2.2.2.2).bind fun bt273 => ((impl_JoinReg.f k bt253.1 bt253.2.1 bt253.2.2.1 bt273.1 bt273.2.1 bt273.2.2).bind fun bt276 => ((spec_DrawPutReg.f k l0).bind fun bt280 => ((impl_PutReg.f bt280.1 bt280.2.1 bt280.2.2.1 bt280.2.2.2.1 bt280.2.2.2.2.1 bt280.2.2.2.2.2).bind fun bt288 => ((impl_PutReg.f bt253.1 bt253.2.1 bt253.2.2.1 7 (wrap64 (bt253.2.1 + 1)) 1).bind fun bt292 => ((impl_JoinReg.f k bt253.2.2.2.1 bt253.2.2.2.2.1 bt253.2.2.2.2.2.1 bt253.1 bt253.2.1 bt253.2.2.1).bind fun bt296 => (if (bt265.1 == bt296.1 && ((bt265.2.1 == bt296.2.1 && (bt265.2.2 == bt296.2.2)))) = true then ((impl_JoinReg.f k bt265.1 bt265.2.1 bt265.2.2 bt253.1 bt253.2.1 bt253.2.2.1).bind fun bt299 => (if (bt299.1 == bt265.1 && ((bt299.2.1 == bt265.2.1 && (bt299.2.2 == bt265.2.2)))) = true then (if (bt269.1 == bt276.1 && ((bt269.2.1 == bt276.2.1 && (bt269.2.2 == bt276.2.2)))) = true then (if (bt265.1 == bt253.1 && ((bt265.2.1 == bt253.2.1 && (bt265.2.2 == bt253.2.2.1)))) = true then ((spec_PutReg.f bt280.1 bt280.2.1 bt280.2.2.1 bt280.2.2.2.1 bt280.2.2.2.2.1 bt280.2.2.2.2.2).bind fun bt302 => (if (bt288.1 == bt302.1 && ((bt288.2.1 == bt302.2.1 && (bt288.2.2 == bt302.2.2)))) = true then (if bt292.1 = 7 then ((impl_PutReg.f bt292.1 bt292.2.1 bt292.2.2 3 bt253.2.1 bt253.2.2.1).bind fun bt305 => (some (bt305.1 == bt292.1 && ((bt305.2.1 == bt292.2.1 && (bt305.2.2 == bt292.2.2)))))) else (none)) else (none))) else (if (bt265.1 == bt253.2.2.2.1 && ((bt265.2.1 == bt253.2.2.2.2.1 && (bt265.2.2 == bt253.2.2.2.2.2.1)))) = true then ((spec_PutReg.f bt280.1 bt280.2.1 bt280.2.2.1 bt280.2.2.2.1 bt280.2.2.2.2.1 bt280.2.2.2.2.2).bind fun bt308 => (if (bt288.1 == bt308.1 && ((bt288.2.1 == bt308.2.1 && (bt288.2.2 == bt308.2.2)))) = true then (if bt292.1 = 7 then ((impl_PutReg.f bt292.1 bt292.2.1 bt292.2.2 3 bt253.2.1 bt253.2.2.1).bind fun bt311 => (some (bt311.1 == bt292.1 && ((bt311.2.1 == bt292.2.1 && (bt311.2.2 == bt292.2.2)))))) else (none)) else (none))) else (none))) else (none)) else (none))) else (none))))))))))))
theorem laws_FnRegs.mono : ∀ a0 k, LeO (laws_FnRegs.f k a0) (laws_FnRegs.f (k + 1) a0) := by
 intro a0 k
 unfold laws_FnRegs.f
 repeat' first
   | (with_reducible exact impl_JoinReg.mono _ _ _ _ _ _ _)
   | (with_reducible exact spec_DrawPutReg.mono _ _)
   | (with_reducible exact spec_DrawRegs.mono _ _)
   | (with_reducible exact LeO.refl _)
   | (with_reducible exact LeO.none _)
   | (with_reducible refine LeO.ite ?_ ?_)
   | (with_reducible refine LeO.bind ?_ (fun _ => ?_))
   | exact impl_JoinReg.mono _ _ _ _ _ _ _
   | exact spec_DrawPutReg.mono _ _
   | exact spec_DrawRegs.mono _ _
   | exact LeO.none _
   | refine LeO.ite ?_ ?_
   | refine LeO.bind ?_ (fun _ => ?_)
def laws_FnRegs.T10 : Bool × List (List Nat × List Nat) := (true, [([], []), ([], []), ([], []), ([1, 2], [1, 2]), ([0, 3], [0, 3]), ([4, 3], [4]), ([5], [5]), ([5], [5]), ([6, 7, 5, 5], [5, 6, 7]), ([5], [5]), ([8, 9, 5], [5, 8, 9]), ([5, 10], [5, 10]), ([11, 8], [11]), ([12], [12]), ([12], [12]), ([13, 14, 12], [12, 13, 14]), ([12, 15], [12, 15]), ([16, 12], [16]), ([17], [17]), ([17], [17]), ([18, 19, 17], [17, 18, 19]), ([20, 17, 17], [17, 20]), ([21], [21]), ([21], [21]), ([22, 23, 21], [21, 22, 23]), ([21, 24, 17], [17, 21, 24]), ([17, 25], [17, 25]), ([26, 21], [26]), ([27], [27]), ([27], [27]), ([27], [27]), ([27], [27]), ([29, 30, 31, 27, 27], [27, 29, 30, 31]), ([28, 32, 27], [27, 28, 32]), ([27, 33], [27, 33]), ([34, 32], [34]), ([35], [35]), ([36, 35], [35, 36]), ([37, 35], [35, 37]), ([35, 38], [35, 38]), ([39, 35], [39]), ([40], [40]), ([40], [40]), ([42, 40], [40, 42]), ([41, 43, 40, 40], [40, 41, 43]), ([40], [40]), ([44, 45, 40], [40, 44, 45]), ([40, 46], [40, 46]), ([47, 44, 0, 1, 2, 3, 4, 5, 6, 7, 8, 9, 10, 11, 12, 13, 14, 15, 16, 17, 18, 19, 20, 21, 22, 23, 24, 25, 26, 27, 28, 29, 30, 31, 32, 33, 34, 35, 36, 37, 38, 39, 40, 41, 42, 43, 44, 45, 46, 47], [47])])
def laws_FnRegs.B10 : List Nat := [0, 0, 0, 6, 15, 31, 63, 63, 255, 63, 1023, 2047, 4095, 8191, 8191, 32767, 65535, 131071, 262143, 262143, 1048575, 2097151, 4194303, 4194303, 16777215, 33554431, 67108863, 134217727, 268435455, 268435455, 268435455, 268435455, 4026531839, 8589934591, 17179869183, 34359738367, 68719476735, 137438953471, 274877906943, 549755813887, 1099511627775, 2199023255551, 2199023255551, 6597069766655, 17592186044415, 2199023255551, 70368744177663, 140737488355327, 281474976710655]
theorem laws_FnRegs.tab10 : rtab .any (opsOf Try.f5 10) = laws_FnRegs.T10 := by kernel_rfl
theorem laws_FnRegs.bits10 : waitsOk laws_FnRegs.T10.2 laws_FnRegs.B10 = true := by kernel_rfl
set_option maxHeartbeats 8000000 in
set_option maxRecDepth 100000 in
theorem laws_FnRegs.calls (k : Nat) (A0 : Option Addr) (c0 : Nat) (l0 : List Int) (r : Bool) (w : World) (hr0 : Kd.C (Kd.int .u8) w A0 l0.length l0) (hc0 : l0.length ≤ c0) (h : laws_FnRegs.f k l0 = some r) :
  Calls Try.prog 5 #[.slice A0 l0.length c0] w fun e w' => e = .returned (.bool r) ∧ Below w.heap.size w w' := by
 have hu41 := Try.underlying41
 have hu39 := Try.underlying39
 have HR0 := Aside0.mk hr0
 have HC0 := Aside0.mk hc0
 clear hr0 hc0
 have HB := Aside0.mk (Below.refl w.heap.size w)
 have H := h
 unfold laws_FnRegs.f at H
 clear h
 replace H := Option.bind_eq_some_iff.mp H
 obtain ⟨t252, A20, H⟩ := H
 try dsimp only at H
 have A2 := Aside0.mk A20
 clear A20
 by_cases c3 : t252 = true
 ·subst c3
  have H1 := wT H
  clear H
  have H := H1
  clear H1
  obtain rfl := Option.some.inj H
  go_enter Try.func5, Try.ntmps5
  go_wp2_with (first | ((with_reducible refine gate_callee (f := 20) rfl ?_); refine gL_ (some 15) Try.func20 #[.slice A0 l0.length c0] ?_; (with_reducible refine (laws_big.calls _ _ l0 true _ ?side1 ?side2 A2.out).mono ?_); (case side1 => repeat (first | exact HR0.out | (with_reducible refine Kd.C_alloc ?_ _) | (with_reducible refine Kd.C_drewN ?_ _) | (with_reducible refine Kd.C_drew ?_))); (case side2 => exact HC0.out); rintro e w' ⟨rfl, ⟨nd, rfl⟩⟩; refine ⟨_, rfl, ?_⟩))
  go_ret
  exact ⟨by first | rfl | (simp [errW_none, errW_some] <;> rfl) | (simp [*, errW_none, errW_some] <;> rfl), aH⟩
 ·replace c3 := Bool.eq_false_iff.mpr c3
  subst c3
  have H1 := wF H
  clear H
  have H := H1
  clear H1
  replace H := Option.bind_eq_some_iff.mp H
  obtain ⟨⟨t253, t254, t255, t256, t257, t258, t259, t260, t261⟩, A40, H⟩ := H
  try dsimp only at H
  have A4 := Aside0.mk A40
  clear A40
  replace H := Option.bind_eq_some_iff.mp H
  obtain ⟨⟨t265, t266, t267⟩, A50, H⟩ := H
  try dsimp only at H
  have A5 := Aside0.mk A50
  clear A50
  replace H := Option.bind_eq_some_iff.mp H
  obtain ⟨⟨t269, t270, t271⟩, A60, H⟩ := H
  try dsimp only at H
  have A6 := Aside0.mk A60
  clear A60
  replace H := Option.bind_eq_some_iff.mp H
  obtain ⟨⟨t273, t274, t275⟩, A70, H⟩ := H
  try dsimp only at H
  have A7 := Aside0.mk A70
  clear A70
  replace H := Option.bind_eq_some_iff.mp H
  obtain ⟨⟨t276, t277, t278⟩, A80, H⟩ := H
  try dsimp only at H
  have A8 := Aside0.mk A80
  clear A80
  replace H := Option.bind_eq_some_iff.mp H
  obtain ⟨⟨t280, t281, t282, t283, t284, t285⟩, A90, H⟩ := H
  try dsimp only at H
  have A9 := Aside0.mk A90
  clear A90
  replace H := Option.bind_eq_some_iff.mp H
  obtain ⟨⟨t288, t289, t290⟩, A100, H⟩ := H
  try dsimp only at H
  have A10 := Aside0.mk A100
  clear A100
  replace H := Option.bind_eq_some_iff.mp H
  obtain ⟨⟨t292, t293, t294⟩, A110, H⟩ := H
  try dsimp only at H
  have A11 := Aside0.mk A110
  clear A110
  replace H := Option.bind_eq_some_iff.mp H
  obtain ⟨⟨t296, t297, t298⟩, A120, H⟩ := H
  try dsimp only at H
  have A12 := Aside0.mk A120
  clear A120
  by_cases c13 : (t265 == t296 && ((t266 == t297 && (t267 == t298)))) = true
  ·rw [if_pos c13] at H
   have c13b0 : (t265 == t296 && ((t266 == t297 && (t267 == t298)))) = true := c13
   (try (have c13b1 : decide (t265 = t296 && ((t266 == t297 && (t267 == t298)))) = true := by simpa using c13))
   (try (have c13b2 : (t265 == t296 && ((t266 == t297 && (t267 == t298)))) = true := by simpa using c13))
   clear c13
   replace H := Option.bind_eq_some_iff.mp H
   obtain ⟨⟨t299, t300, t301⟩, A140, H⟩ := H
   try dsimp only at H
   have A14 := Aside0.mk A140
   clear A140
   by_cases c15 : (t299 == t265 && ((t300 == t266 && (t301 == t267)))) = true
   ·rw [if_pos c15] at H
    have c15b0 : (t299 == t265 && ((t300 == t266 && (t301 == t267)))) = true := c15
    (try (have c15b1 : decide (t299 = t265 && ((t300 == t266 && (t301 == t267)))) = true := by simpa using c15))
    (try (have c15b2 : (t299 == t265 && ((t300 == t266 && (t301 == t267)))) = true := by simpa using c15))
    clear c15
    by_cases c16 : (t269 == t276 && ((t270 == t277 && (t271 == t278)))) = true
    ·rw [if_pos c16] at H
     have c16b0 : (t269 == t276 && ((t270 == t277 && (t271 == t278)))) = true := c16
     (try (have c16b1 : decide (t269 = t276 && ((t270 == t277 && (t271 == t278)))) = true := by simpa using c16))
     (try (have c16b2 : (t269 == t276 && ((t270 == t277 && (t271 == t278)))) = true := by simpa using c16))
     clear c16
     by_cases c17 : (t265 == t253 && ((t266 == t254 && (t267 == t255)))) = true
     ·rw [if_pos c17] at H
      have c17b0 : (t265 == t253 && ((t266 == t254 && (t267 == t255)))) = true := c17
      (try (have c17b1 : decide (t265 = t253 && ((t266 == t254 && (t267 == t255)))) = true := by simpa using c17))
      (try (have c17b2 : (t265 == t253 && ((t266 == t254 && (t267 == t255)))) = true := by simpa using c17))
      clear c17
      replace H := Option.bind_eq_some_iff.mp H
      obtain ⟨⟨t302, t303, t304⟩, A180, H⟩ := H
      try dsimp only at H
      have A18 := Aside0.mk A180
      clear A180
      by_cases c19 : (t288 == t302 && ((t289 == t303 && (t290 == t304)))) = true
      ·rw [if_pos c19] at H
       have c19b0 : (t288 == t302 && ((t289 == t303 && (t290 == t304)))) = true := c19
       (try (have c19b1 : decide (t288 = t302 && ((t289 == t303 && (t290 == t304)))) = true := by simpa using c19))
       (try (have c19b2 : (t288 == t302 && ((t289 == t303 && (t290 == t304)))) = true := by simpa using c19))
       clear c19
       by_cases c20 : t292 = 7
       ·rw [if_pos c20] at H
        have c20b0 : (t292 == 7) = true := beq_iff_eq.mpr c20
        have c20b1 : (t292 != 7) = false := bne_eq_false_iff_eq.mpr c20
        clear c20
        replace H := Option.bind_eq_some_iff.mp H
        obtain ⟨⟨t305, t306, t307⟩, A210, H⟩ := H
        replace H : (some (t305 == t292 && ((t306 == t293 && (t307 == t294))))) = some r := H
        have A21 := Aside0.mk A210
        clear A210
        obtain rfl := Option.some.inj H
        go_enter Try.func5, Try.ntmps5
        try go_wp2_with (first | ((with_reducible refine gate_callee (f := 20) rfl ?_); refine gL_ (some 15) Try.func20 #[.slice A0 l0.length c0] ?_; (with_reducible refine (laws_big.calls _ _ l0 false _ ?side1 ?side2 A2.out).mono ?_); (case side1 => repeat (first | exact HR0.out | (with_reducible refine Kd.C_alloc ?_ _) | (with_reducible refine Kd.C_drewN ?_ _) | (with_reducible refine Kd.C_drew ?_))); (case side2 => exact HC0.out); rintro e w' ⟨rfl, ⟨nd, rfl⟩⟩; refine ⟨_, rfl, ?_⟩) | ((with_reducible refine gate_callee (f := 27) rfl ?_); refine gL_ (some 18) Try.func27 #[.slice A0 l0.length c0] ?_; (with_reducible refine (spec_DrawRegs.calls k _ _ l0 t253 t254 t255 t256 t257 t258 t259 t260 t261 _ ?side1 ?side2 A4.out).mono ?_); (case side1 => repeat (first | exact HR0.out | (with_reducible refine Kd.C_alloc ?_ _) | (with_reducible refine Kd.C_drewN ?_ _) | (with_reducible refine Kd.C_drew ?_))); (case side2 => exact HC0.out); rintro e w22 ⟨rfl, hb⟩; refine ⟨_, rfl, ?_⟩; have n0_ := Aside0.mk (below_step aH hb); clear HB; have HB := n0_; clear n0_; (try clear hb); (try clear hb2); (try clear hk); (try clear hi)) | ((with_reducible refine gate_dst (N := 3) rfl ?_); refine bE 3 #[.int .i64 0, .int .i64 0, .int .i64 0] 41 ?_; intro gb262 hg w23 hbox hb; have n0_ := Aside0.mk (below_step aH hb); have n1_ := Aside0.mk (hbox); have n2_ := Aside0.mk ((gS hg : w.heap.size ≤ gb262)); have n3_ := Aside0.mk ((gS hg : w.heap.size ≤ gb262)); clear HB; have HB := n0_; have BK262 := n1_; have GW262 := n2_; have GE262 := n3_; clear n0_ n1_ n2_ n3_; clear hb hbox hg) | ((with_reducible refine gate_dst (N := 4) rfl ?_); refine bE 4 #[.int .i64 0, .int .i64 0, .int .i64 0] 41 ?_; intro gb263 hg w24 hbox hb; have n0_ := Aside0.mk (kB BK262.out hb); have n1_ := Aside0.mk (below_step aH hb); have n2_ := Aside0.mk (hbox); have n3_ := Aside0.mk ((gS hg : w.heap.size ≤ gb263)); have n4_ := Aside0.mk ((gS hg : w.heap.size ≤ gb263)); have n5_ := Aside0.mk (gL hg BK262.out); have n6_ := Aside0.mk (gG hg BK262.out); clear BK262; clear HB; have BK262 := n0_; have HB := n1_; have BK263 := n2_; have GW263 := n3_; have GE263 := n4_; have NB262_263 := n5_; have NB263_262 := n6_; clear n0_ n1_ n2_ n3_ n4_ n5_ n6_; clear hb hbox hg) | ((with_reducible refine gate_dst (N := 5) rfl ?_); refine bE 5 #[.int .i64 0, .int .i64 0, .int .i64 0] 41 ?_; intro gb264 hg w25 hbox hb; have n0_ := Aside0.mk (kB BK262.out hb); have n1_ := Aside0.mk (kB BK263.out hb); have n2_ := Aside0.mk (below_step aH hb); have n3_ := Aside0.mk (hbox); have n4_ := Aside0.mk ((gS hg : w.heap.size ≤ gb264)); have n5_ := Aside0.mk ((gS hg : w.heap.size ≤ gb264)); have n6_ := Aside0.mk (gL hg BK262.out); have n7_ := Aside0.mk (gG hg BK262.out); have n8_ := Aside0.mk (gL hg BK263.out); have n9_ := Aside0.mk (gG hg BK263.out); clear BK262; clear BK263; clear HB; have BK262 := n0_; have BK263 := n1_; have HB := n2_; have BK264 := n3_; have GW264 := n4_; have GE264 := n5_; have NB262_264 := n6_; have NB264_262 := n7_; have NB263_264 := n8_; have NB264_263 := n9_; clear n0_ n1_ n2_ n3_ n4_ n5_ n6_ n7_ n8_ n9_; clear hb hbox hg; have hnb26 := NB262_263.out; have hnc26 := NB263_262.out; have hnb27 := NB262_264.out; have hnc27 := NB264_262.out; have hcz28_0 : w25.cell? ⟨gb262, 0, none⟩ = some (.int .i64 0) := cR BK262.out 0; have hcz28_1 : w25.cell? ⟨gb262, 1, none⟩ = some (.int .i64 0) := cR BK262.out 1; have hcz28_2 : w25.cell? ⟨gb262, 2, none⟩ = some (.int .i64 0) := cR BK262.out 2; have hfz28_0 := blk_frozen BK262.out 0; have hfz28_1 := blk_frozen BK262.out 1; have hfz28_2 := blk_frozen BK262.out 2; have hnb29 := NB263_264.out; have hnc29 := NB264_263.out; have hcz30_0 : w25.cell? ⟨gb263, 0, none⟩ = some (.int .i64 0) := cR BK263.out 0; have hcz30_1 : w25.cell? ⟨gb263, 1, none⟩ = some (.int .i64 0) := cR BK263.out 1; have hcz30_2 : w25.cell? ⟨gb263, 2, none⟩ = some (.int .i64 0) := cR BK263.out 2; have hfz30_0 := blk_frozen BK263.out 0; have hfz30_1 := blk_frozen BK263.out 1; have hfz30_2 := blk_frozen BK263.out 2; have hcz31_0 : w25.cell? ⟨gb264, 0, none⟩ = some (.int .i64 0) := cR BK264.out 0; have hcz31_1 : w25.cell? ⟨gb264, 1, none⟩ = some (.int .i64 0) := cR BK264.out 1; have hcz31_2 : w25.cell? ⟨gb264, 2, none⟩ = some (.int .i64 0) := cR BK264.out 2; have hfz31_0 := blk_frozen BK264.out 0; have hfz31_1 := blk_frozen BK264.out 1; have hfz31_2 := blk_frozen BK264.out 2) | ((with_reducible refine gate_callee (f := 28) rfl ?_); refine gL_ (some 24) Try.func28 #[.agg #[.int .i64 t253, .int .i64 t254, .int .i64 t255], .agg #[.int .i64 t256, .int .i64 t257, .int .i64 t258]] ?_; (with_reducible refine (impl_JoinReg.calls k t253 t254 t255 t256 t257 t258 t265 t266 t267 _ A5.out).mono ?_); rintro e w32 ⟨rfl, hb⟩; refine ⟨_, rfl, ?_⟩; have n0_ := Aside0.mk (blk_below (g := gb262) (o := .cells #[.int .i64 t253, .int .i64 t254, .int .i64 t255] 41 (0, 0)) (by (with_reducible repeat (first | refine blk_drewN ?_ _ | refine blk_drew ?_ | refine blk_alloc ?_ _)); refine blk_far ?_ NB262_264.out _; (with_reducible repeat (first | refine blk_drewN ?_ _ | refine blk_drew ?_ | refine blk_alloc ?_ _)); refine blk_far ?_ NB262_264.out _; (with_reducible repeat (first | refine blk_drewN ?_ _ | refine blk_drew ?_ | refine blk_alloc ?_ _)); refine blk_far ?_ NB262_264.out _; (with_reducible repeat (first | refine blk_drewN ?_ _ | refine blk_drew ?_ | refine blk_alloc ?_ _)); refine blk_far ?_ NB262_263.out _; (with_reducible repeat (first | refine blk_drewN ?_ _ | refine blk_drew ?_ | refine blk_alloc ?_ _)); refine blk_far ?_ NB262_263.out _; (with_reducible repeat (first | refine blk_drewN ?_ _ | refine blk_drew ?_ | refine blk_alloc ?_ _)); refine blk_far ?_ NB262_263.out _; (with_reducible repeat (first | refine blk_drewN ?_ _ | refine blk_drew ?_ | refine blk_alloc ?_ _)); refine blk_put (cs := #[.int .i64 t253, .int .i64 t254, .int .i64 0]) ?_ 2 _ rfl; (with_reducible repeat (first | refine blk_drewN ?_ _ | refine blk_drew ?_ | refine blk_alloc ?_ _)); refine blk_put (cs := #[.int .i64 t253, .int .i64 0, .int .i64 0]) ?_ 1 _ rfl; (with_reducible repeat (first | refine blk_drewN ?_ _ | refine blk_drew ?_ | refine blk_alloc ?_ _)); refine blk_put (cs := #[.int .i64 0, .int .i64 0, .int .i64 0]) ?_ 0 _ rfl; (with_reducible repeat (first | refine blk_drewN ?_ _ | refine blk_drew ?_ | refine blk_alloc ?_ _)); exact BK262.out) hb); have n1_ := Aside0.mk (blk_below (g := gb263) (o := .cells #[.int .i64 t256, .int .i64 t257, .int .i64 t258] 41 (0, 0)) (by (with_reducible repeat (first | refine blk_drewN ?_ _ | refine blk_drew ?_ | refine blk_alloc ?_ _)); refine blk_far ?_ NB263_264.out _; (with_reducible repeat (first | refine blk_drewN ?_ _ | refine blk_drew ?_ | refine blk_alloc ?_ _)); refine blk_far ?_ NB263_264.out _; (with_reducible repeat (first | refine blk_drewN ?_ _ | refine blk_drew ?_ | refine blk_alloc ?_ _)); refine blk_far ?_ NB263_264.out _; (with_reducible repeat (first | refine blk_drewN ?_ _ | refine blk_drew ?_ | refine blk_alloc ?_ _)); refine blk_put (cs := #[.int .i64 t256, .int .i64 t257, .int .i64 0]) ?_ 2 _ rfl; (with_reducible repeat (first | refine blk_drewN ?_ _ | refine blk_drew ?_ | refine blk_alloc ?_ _)); refine blk_put (cs := #[.int .i64 t256, .int .i64 0, .int .i64 0]) ?_ 1 _ rfl; (with_reducible repeat (first | refine blk_drewN ?_ _ | refine blk_drew ?_ | refine blk_alloc ?_ _)); refine blk_put (cs := #[.int .i64 0, .int .i64 0, .int .i64 0]) ?_ 0 _ rfl; (with_reducible repeat (first | refine blk_drewN ?_ _ | refine blk_drew ?_ | refine blk_alloc ?_ _)); refine blk_far ?_ NB263_262.out _; (with_reducible repeat (first | refine blk_drewN ?_ _ | refine blk_drew ?_ | refine blk_alloc ?_ _)); refine blk_far ?_ NB263_262.out _; (with_reducible repeat (first | refine blk_drewN ?_ _ | refine blk_drew ?_ | refine blk_alloc ?_ _)); refine blk_far ?_ NB263_262.out _; (with_reducible repeat (first | refine blk_drewN ?_ _ | refine blk_drew ?_ | refine blk_alloc ?_ _)); exact BK263.out) hb); have n2_ := Aside0.mk (blk_below (g := gb264) (o := .cells #[.int .i64 t259, .int .i64 t260, .int .i64 t261] 41 (0, 0)) (by (with_reducible repeat (first | refine blk_drewN ?_ _ | refine blk_drew ?_ | refine blk_alloc ?_ _)); refine blk_put (cs := #[.int .i64 t259, .int .i64 t260, .int .i64 0]) ?_ 2 _ rfl; (with_reducible repeat (first | refine blk_drewN ?_ _ | refine blk_drew ?_ | refine blk_alloc ?_ _)); refine blk_put (cs := #[.int .i64 t259, .int .i64 0, .int .i64 0]) ?_ 1 _ rfl; (with_reducible repeat (first | refine blk_drewN ?_ _ | refine blk_drew ?_ | refine blk_alloc ?_ _)); refine blk_put (cs := #[.int .i64 0, .int .i64 0, .int .i64 0]) ?_ 0 _ rfl; (with_reducible repeat (first | refine blk_drewN ?_ _ | refine blk_drew ?_ | refine blk_alloc ?_ _)); refine blk_far ?_ NB264_263.out _; (with_reducible repeat (first | refine blk_drewN ?_ _ | refine blk_drew ?_ | refine blk_alloc ?_ _)); refine blk_far ?_ NB264_263.out _; (with_reducible repeat (first | refine blk_drewN ?_ _ | refine blk_drew ?_ | refine blk_alloc ?_ _)); refine blk_far ?_ NB264_263.out _; (with_reducible repeat (first | refine blk_drewN ?_ _ | refine blk_drew ?_ | refine blk_alloc ?_ _)); refine blk_far ?_ NB264_262.out _; (with_reducible repeat (first | refine blk_drewN ?_ _ | refine blk_drew ?_ | refine blk_alloc ?_ _)); refine blk_far ?_ NB264_262.out _; (with_reducible repeat (first | refine blk_drewN ?_ _ | refine blk_drew ?_ | refine blk_alloc ?_ _)); refine blk_far ?_ NB264_262.out _; (with_reducible repeat (first | refine blk_drewN ?_ _ | refine blk_drew ?_ | refine blk_alloc ?_ _)); exact BK264.out) hb); have n3_ := Aside0.mk (below_step aH hb); clear BK262; clear BK263; clear BK264; clear HB; have BK262 := n0_; have BK263 := n1_; have BK264 := n2_; have HB := n3_; clear n0_ n1_ n2_ n3_; (try clear hb); (try clear hb2); (try clear hk); (try clear hi)) | ((with_reducible refine gate_dst (N := 6) rfl ?_); refine bE 6 #[.int .i64 0, .int .i64 0, .int .i64 0] 41 ?_; intro gb268 hg w33 hbox hb; have n0_ := Aside0.mk (kB BK262.out hb); have n1_ := Aside0.mk (kB BK263.out hb); have n2_ := Aside0.mk (kB BK264.out hb); have n3_ := Aside0.mk (below_step aH hb); have n4_ := Aside0.mk (hbox); have n5_ := Aside0.mk ((gS hg : w.heap.size ≤ gb268)); have n6_ := Aside0.mk ((gS hg : w.heap.size ≤ gb268)); have n7_ := Aside0.mk (gL hg BK262.out); have n8_ := Aside0.mk (gG hg BK262.out); have n9_ := Aside0.mk (gL hg BK263.out); have n10_ := Aside0.mk (gG hg BK263.out); have n11_ := Aside0.mk (gL hg BK264.out); have n12_ := Aside0.mk (gG hg BK264.out); clear BK262; clear BK263; clear BK264; clear HB; have BK262 := n0_; have BK263 := n1_; have BK264 := n2_; have HB := n3_; have BK268 := n4_; have GW268 := n5_; have GE268 := n6_; have NB262_268 := n7_; have NB268_262 := n8_; have NB263_268 := n9_; have NB268_263 := n10_; have NB264_268 := n11_; have NB268_264 := n12_; clear n0_ n1_ n2_ n3_ n4_ n5_ n6_ n7_ n8_ n9_ n10_ n11_ n12_; clear hb hbox hg; have hnb34 := NB268_262.out; have hnc34 := NB262_268.out; have hnb35 := NB268_263.out; have hnc35 := NB263_268.out; have hnb36 := NB268_264.out; have hnc36 := NB264_268.out; have hcz37_0 : w33.cell? ⟨gb268, 0, none⟩ = some (.int .i64 0) := cR BK268.out 0; have hcz37_1 : w33.cell? ⟨gb268, 1, none⟩ = some (.int .i64 0) := cR BK268.out 1; have hcz37_2 : w33.cell? ⟨gb268, 2, none⟩ = some (.int .i64 0) := cR BK268.out 2; have hfz37_0 := blk_frozen BK268.out 0; have hfz37_1 := blk_frozen BK268.out 1; have hfz37_2 := blk_frozen BK268.out 2; have hcz38_0 : w33.cell? ⟨gb264, 0, none⟩ = some (.int .i64 t259) := cR BK264.out 0; have hcz38_1 : w33.cell? ⟨gb264, 1, none⟩ = some (.int .i64 t260) := cR BK264.out 1; have hcz38_2 : w33.cell? ⟨gb264, 2, none⟩ = some (.int .i64 t261) := cR BK264.out 2; have hfz38_0 := blk_frozen BK264.out 0; have hfz38_1 := blk_frozen BK264.out 1; have hfz38_2 := blk_frozen BK264.out 2) | ((with_reducible refine gate_callee (f := 28) rfl ?_); refine gL_ (some 27) Try.func28 #[.agg #[.int .i64 t265, .int .i64 t266, .int .i64 t267], .agg #[.int .i64 t259, .int .i64 t260, .int .i64 t261]] ?_; (with_reducible refine (impl_JoinReg.calls k t265 t266 t267 t259 t260 t261 t269 t270 t271 _ A6.out).mono ?_); rintro e w39 ⟨rfl, hb⟩; refine ⟨_, rfl, ?_⟩; have n0_ := Aside0.mk (blk_below (g := gb262) (o := .cells #[.int .i64 t253, .int .i64 t254, .int .i64 t255] 41 (0, 0)) (by (with_reducible repeat (first | refine blk_drewN ?_ _ | refine blk_drew ?_ | refine blk_alloc ?_ _)); refine blk_far ?_ NB262_268.out _; (with_reducible repeat (first | refine blk_drewN ?_ _ | refine blk_drew ?_ | refine blk_alloc ?_ _)); refine blk_far ?_ NB262_268.out _; (with_reducible repeat (first | refine blk_drewN ?_ _ | refine blk_drew ?_ | refine blk_alloc ?_ _)); refine blk_far ?_ NB262_268.out _; (with_reducible repeat (first | refine blk_drewN ?_ _ | refine blk_drew ?_ | refine blk_alloc ?_ _)); exact BK262.out) hb); have n1_ := Aside0.mk (blk_below (g := gb263) (o := .cells #[.int .i64 t256, .int .i64 t257, .int .i64 t258] 41 (0, 0)) (by (with_reducible repeat (first | refine blk_drewN ?_ _ | refine blk_drew ?_ | refine blk_alloc ?_ _)); refine blk_far ?_ NB263_268.out _; (with_reducible repeat (first | refine blk_drewN ?_ _ | refine blk_drew ?_ | refine blk_alloc ?_ _)); refine blk_far ?_ NB263_268.out _; (with_reducible repeat (first | refine blk_drewN ?_ _ | refine blk_drew ?_ | refine blk_alloc ?_ _)); refine blk_far ?_ NB263_268.out _; (with_reducible repeat (first | refine blk_drewN ?_ _ | refine blk_drew ?_ | refine blk_alloc ?_ _)); exact BK263.out) hb); have n2_ := Aside0.mk (blk_below (g := gb264) (o := .cells #[.int .i64 t259, .int .i64 t260, .int .i64 t261] 41 (0, 0)) (by (with_reducible repeat (first | refine blk_drewN ?_ _ | refine blk_drew ?_ | refine blk_alloc ?_ _)); refine blk_far ?_ NB264_268.out _; (with_reducible repeat (first | refine blk_drewN ?_ _ | refine blk_drew ?_ | refine blk_alloc ?_ _)); refine blk_far ?_ NB264_268.out _; (with_reducible repeat (first | refine blk_drewN ?_ _ | refine blk_drew ?_ | refine blk_alloc ?_ _)); refine blk_far ?_ NB264_268.out _; (with_reducible repeat (first | refine blk_drewN ?_ _ | refine blk_drew ?_ | refine blk_alloc ?_ _)); exact BK264.out) hb); have n3_ := Aside0.mk (blk_below (g := gb268) (o := .cells #[.int .i64 t265, .int .i64 t266, .int .i64 t267] 41 (0, 0)) (by (with_reducible repeat (first | refine blk_drewN ?_ _ | refine blk_drew ?_ | refine blk_alloc ?_ _)); refine blk_put (cs := #[.int .i64 t265, .int .i64 t266, .int .i64 0]) ?_ 2 _ rfl; (with_reducible repeat (first | refine blk_drewN ?_ _ | refine blk_drew ?_ | refine blk_alloc ?_ _)); refine blk_put (cs := #[.int .i64 t265, .int .i64 0, .int .i64 0]) ?_ 1 _ rfl; (with_reducible repeat (first | refine blk_drewN ?_ _ | refine blk_drew ?_ | refine blk_alloc ?_ _)); refine blk_put (cs := #[.int .i64 0, .int .i64 0, .int .i64 0]) ?_ 0 _ rfl; (with_reducible repeat (first | refine blk_drewN ?_ _ | refine blk_drew ?_ | refine blk_alloc ?_ _)); exact BK268.out) hb); have n4_ := Aside0.mk (below_step aH hb); clear BK262; clear BK263; clear BK264; clear BK268; clear HB; have BK262 := n0_; have BK263 := n1_; have BK264 := n2_; have BK268 := n3_; have HB := n4_; clear n0_ n1_ n2_ n3_ n4_; (try clear hb); (try clear hb2); (try clear hk); (try clear hi)) | ((with_reducible refine gate_dst (N := 7) rfl ?_); refine bE 7 #[.int .i64 0, .int .i64 0, .int .i64 0] 41 ?_; intro gb272 hg w40 hbox hb; have n0_ := Aside0.mk (kB BK262.out hb); have n1_ := Aside0.mk (kB BK263.out hb); have n2_ := Aside0.mk (kB BK264.out hb); have n3_ := Aside0.mk (kB BK268.out hb); have n4_ := Aside0.mk (below_step aH hb); have n5_ := Aside0.mk (hbox); have n6_ := Aside0.mk ((gS hg : w.heap.size ≤ gb272)); have n7_ := Aside0.mk ((gS hg : w.heap.size ≤ gb272)); have n8_ := Aside0.mk (gL hg BK262.out); have n9_ := Aside0.mk (gG hg BK262.out); have n10_ := Aside0.mk (gL hg BK263.out); have n11_ := Aside0.mk (gG hg BK263.out); have n12_ := Aside0.mk (gL hg BK264.out); have n13_ := Aside0.mk (gG hg BK264.out); have n14_ := Aside0.mk (gL hg BK268.out); have n15_ := Aside0.mk (gG hg BK268.out); clear BK262; clear BK263; clear BK264; clear BK268; clear HB; have BK262 := n0_; have BK263 := n1_; have BK264 := n2_; have BK268 := n3_; have HB := n4_; have BK272 := n5_; have GW272 := n6_; have GE272 := n7_; have NB262_272 := n8_; have NB272_262 := n9_; have NB263_272 := n10_; have NB272_263 := n11_; have NB264_272 := n12_; have NB272_264 := n13_; have NB268_272 := n14_; have NB272_268 := n15_; clear n0_ n1_ n2_ n3_ n4_ n5_ n6_ n7_ n8_ n9_ n10_ n11_ n12_ n13_ n14_ n15_; clear hb hbox hg; have hnb41 := NB272_262.out; have hnc41 := NB262_272.out; have hnb42 := NB272_263.out; have hnc42 := NB263_272.out; have hnb43 := NB272_264.out; have hnc43 := NB264_272.out; have hnb44 := NB272_268.out; have hnc44 := NB268_272.out; have hcz45_0 : w40.cell? ⟨gb272, 0, none⟩ = some (.int .i64 0) := cR BK272.out 0; have hcz45_1 : w40.cell? ⟨gb272, 1, none⟩ = some (.int .i64 0) := cR BK272.out 1; have hcz45_2 : w40.cell? ⟨gb272, 2, none⟩ = some (.int .i64 0) := cR BK272.out 2; have hfz45_0 := blk_frozen BK272.out 0; have hfz45_1 := blk_frozen BK272.out 1; have hfz45_2 := blk_frozen BK272.out 2))
        have n0_ : Aside0 ((((w40.setCell ⟨gb272, 0, none⟩ (.int .i64 t269)).setCell ⟨gb272, 1, none⟩ (.int .i64 t270)).setCell ⟨gb272, 2, none⟩ (.int .i64 t271)).heap[gb262]? = some (.cells #[.int .i64 t253, .int .i64 t254, .int .i64 t255] 41 (0, 0))) := ⟨by (with_reducible repeat (first | refine blk_drewN ?_ _ | refine blk_drew ?_ | refine blk_alloc ?_ _)); refine blk_far ?_ NB262_272.out _; (with_reducible repeat (first | refine blk_drewN ?_ _ | refine blk_drew ?_ | refine blk_alloc ?_ _)); refine blk_far ?_ NB262_272.out _; (with_reducible repeat (first | refine blk_drewN ?_ _ | refine blk_drew ?_ | refine blk_alloc ?_ _)); refine blk_far ?_ NB262_272.out _; (with_reducible repeat (first | refine blk_drewN ?_ _ | refine blk_drew ?_ | refine blk_alloc ?_ _)); exact BK262.out⟩
        have n1_ : Aside0 ((((w40.setCell ⟨gb272, 0, none⟩ (.int .i64 t269)).setCell ⟨gb272, 1, none⟩ (.int .i64 t270)).setCell ⟨gb272, 2, none⟩ (.int .i64 t271)).heap[gb263]? = some (.cells #[.int .i64 t256, .int .i64 t257, .int .i64 t258] 41 (0, 0))) := ⟨by (with_reducible repeat (first | refine blk_drewN ?_ _ | refine blk_drew ?_ | refine blk_alloc ?_ _)); refine blk_far ?_ NB263_272.out _; (with_reducible repeat (first | refine blk_drewN ?_ _ | refine blk_drew ?_ | refine blk_alloc ?_ _)); refine blk_far ?_ NB263_272.out _; (with_reducible repeat (first | refine blk_drewN ?_ _ | refine blk_drew ?_ | refine blk_alloc ?_ _)); refine blk_far ?_ NB263_272.out _; (with_reducible repeat (first | refine blk_drewN ?_ _ | refine blk_drew ?_ | refine blk_alloc ?_ _)); exact BK263.out⟩
        have n2_ : Aside0 ((((w40.setCell ⟨gb272, 0, none⟩ (.int .i64 t269)).setCell ⟨gb272, 1, none⟩ (.int .i64 t270)).setCell ⟨gb272, 2, none⟩ (.int .i64 t271)).heap[gb264]? = some (.cells #[.int .i64 t259, .int .i64 t260, .int .i64 t261] 41 (0, 0))) := ⟨by (with_reducible repeat (first | refine blk_drewN ?_ _ | refine blk_drew ?_ | refine blk_alloc ?_ _)); refine blk_far ?_ NB264_272.out _; (with_reducible repeat (first | refine blk_drewN ?_ _ | refine blk_drew ?_ | refine blk_alloc ?_ _)); refine blk_far ?_ NB264_272.out _; (with_reducible repeat (first | refine blk_drewN ?_ _ | refine blk_drew ?_ | refine blk_alloc ?_ _)); refine blk_far ?_ NB264_272.out _; (with_reducible repeat (first | refine blk_drewN ?_ _ | refine blk_drew ?_ | refine blk_alloc ?_ _)); exact BK264.out⟩
        have n3_ : Aside0 ((((w40.setCell ⟨gb272, 0, none⟩ (.int .i64 t269)).setCell ⟨gb272, 1, none⟩ (.int .i64 t270)).setCell ⟨gb272, 2, none⟩ (.int .i64 t271)).heap[gb268]? = some (.cells #[.int .i64 t265, .int .i64 t266, .int .i64 t267] 41 (0, 0))) := ⟨by (with_reducible repeat (first | refine blk_drewN ?_ _ | refine blk_drew ?_ | refine blk_alloc ?_ _)); refine blk_far ?_ NB268_272.out _; (with_reducible repeat (first | refine blk_drewN ?_ _ | refine blk_drew ?_ | refine blk_alloc ?_ _)); refine blk_far ?_ NB268_272.out _; (with_reducible repeat (first | refine blk_drewN ?_ _ | refine blk_drew ?_ | refine blk_alloc ?_ _)); refine blk_far ?_ NB268_272.out _; (with_reducible repeat (first | refine blk_drewN ?_ _ | refine blk_drew ?_ | refine blk_alloc ?_ _)); exact BK268.out⟩
        have n4_ : Aside0 ((((w40.setCell ⟨gb272, 0, none⟩ (.int .i64 t269)).setCell ⟨gb272, 1, none⟩ (.int .i64 t270)).setCell ⟨gb272, 2, none⟩ (.int .i64 t271)).heap[gb272]? = some (.cells #[.int .i64 t269, .int .i64 t270, .int .i64 t271] 41 (0, 0))) := ⟨by (with_reducible repeat (first | refine blk_drewN ?_ _ | refine blk_drew ?_ | refine blk_alloc ?_ _)); refine blk_put (cs := #[.int .i64 t269, .int .i64 t270, .int .i64 0]) ?_ 2 _ rfl; (with_reducible repeat (first | refine blk_drewN ?_ _ | refine blk_drew ?_ | refine blk_alloc ?_ _)); refine blk_put (cs := #[.int .i64 t269, .int .i64 0, .int .i64 0]) ?_ 1 _ rfl; (with_reducible repeat (first | refine blk_drewN ?_ _ | refine blk_drew ?_ | refine blk_alloc ?_ _)); refine blk_put (cs := #[.int .i64 0, .int .i64 0, .int .i64 0]) ?_ 0 _ rfl; (with_reducible repeat (first | refine blk_drewN ?_ _ | refine blk_drew ?_ | refine blk_alloc ?_ _)); exact BK272.out⟩
        have n5_ : Aside0 (Below w.heap.size w (((w40.setCell ⟨gb272, 0, none⟩ (.int .i64 t269)).setCell ⟨gb272, 1, none⟩ (.int .i64 t270)).setCell ⟨gb272, 2, none⟩ (.int .i64 t271))) := ⟨aH⟩
        (try clear BK262)
        (try clear BK263)
        (try clear BK264)
        (try clear BK268)
        (try clear BK272)
        (try clear HB)
        generalize (((w40.setCell ⟨gb272, 0, none⟩ (.int .i64 t269)).setCell ⟨gb272, 1, none⟩ (.int .i64 t270)).setCell ⟨gb272, 2, none⟩ (.int .i64 t271)) = w46 at n0_ n1_ n2_ n3_ n4_ n5_ ⊢
        have BK262 := n0_
        have BK263 := n1_
        have BK264 := n2_
        have BK268 := n3_
        have BK272 := n4_
        have HB := n5_
        clear n0_ n1_ n2_ n3_ n4_ n5_
        have n0_ := Aside0.mk (blk_drew BK262.out)
        have n1_ := Aside0.mk (blk_drew BK263.out)
        have n2_ := Aside0.mk (blk_drew BK264.out)
        have n3_ := Aside0.mk (blk_drew BK268.out)
        have n4_ := Aside0.mk (blk_drew BK272.out)
        have n5_ := Aside0.mk (below_drew1 HB.out)
        clear BK262
        clear BK263
        clear BK264
        clear BK268
        clear BK272
        clear HB
        have BK262 := n0_
        have BK263 := n1_
        have BK264 := n2_
        have BK268 := n3_
        have BK272 := n4_
        have HB := n5_
        clear n0_ n1_ n2_ n3_ n4_ n5_
        refine start_ (n := 7) (S := fun w' => w'.cell? ⟨gb262, 0, none⟩ = some (.int .i64 t253) ∧ w'.cell? ⟨gb262, 1, none⟩ = some (.int .i64 t254) ∧ w'.cell? ⟨gb262, 2, none⟩ = some (.int .i64 t255) ∧ w'.cell? ⟨gb263, 0, none⟩ = some (.int .i64 t256) ∧ w'.cell? ⟨gb263, 1, none⟩ = some (.int .i64 t257) ∧ w'.cell? ⟨gb263, 2, none⟩ = some (.int .i64 t258) ∧ w'.cell? ⟨gb264, 0, none⟩ = some (.int .i64 t259) ∧ w'.cell? ⟨gb264, 1, none⟩ = some (.int .i64 t260) ∧ w'.cell? ⟨gb264, 2, none⟩ = some (.int .i64 t261)) (ds := []) #[false, false, false, false, false, false, false] (by kernel_rfl) rfl rfl ⟨cR BK262.out 0, cR BK262.out 1, cR BK262.out 2, cR BK263.out 0, cR BK263.out 1, cR BK263.out 2, cR BK264.out 0, cR BK264.out 1, cR BK264.out 2⟩ (fun hHeld => ?_)
        generalize w46.drew = w47 at BK262 BK263 BK264 BK268 BK272 HB hHeld ⊢
        refine take_ (i := 0) (N := some 28) (v := ?_) (a' := ?_) #[true, false, false, false, false, false, false] rfl rfl (by kernel_rfl) (fun _ _ _ h => h) (Or.inl ⟨by rfl, ?_⟩) hHeld ?_ ?_
        rotate_left
        ·rintro w' ⟨s0, s1, s2, s3, s4, s5, s6, s7, s8⟩
         go_simp
         with_reducible rfl
        rotate_left
        ·simp only [Act.put, List.setIfInBounds_toArray, List.set_cons_zero, List.set_cons_succ, i64_w, i32_w]
         rfl
        refine take_ (i := 1) (N := some 29) (v := ?_) (a' := ?_) #[true, true, false, false, false, false, false] rfl rfl (by kernel_rfl) (fun _ _ _ h => h) (Or.inl ⟨by rfl, ?_⟩) hHeld ?_ ?_
        rotate_left
        ·rintro w' ⟨s0, s1, s2, s3, s4, s5, s6, s7, s8⟩
         go_simp
         with_reducible rfl
        rotate_left
        ·simp only [Act.put, List.setIfInBounds_toArray, List.set_cons_zero, List.set_cons_succ, i64_w, i32_w]
         rfl
        refine take_ (i := 2) (N := some 30) (v := ?_) (a' := ?_) #[true, true, true, false, false, false, false] rfl rfl (by kernel_rfl) (fun _ _ _ h => h) (Or.inl ⟨by rfl, ?_⟩) hHeld ?_ ?_
        rotate_left
        ·rintro w' ⟨s0, s1, s2, s3, s4, s5, s6, s7, s8⟩
         go_simp
         with_reducible rfl
        rotate_left
        ·simp only [Act.put, List.setIfInBounds_toArray, List.set_cons_zero, List.set_cons_succ, i64_w, i32_w]
         rfl
        refine join_ (σ := Nat) 1 #[true, true, true, true, true, true, false] (fun s_ => [(31, .agg #[.int .i64 t273, .int .i64 t274, .int .i64 t275]), (32, .agg #[.int .i64 t276, .int .i64 t277, .int .i64 t278]), (8, .pointer (some ⟨s_, 0, none⟩))]) (fun s_ w' => (w'.cell? ⟨gb262, 0, none⟩ = some (.int .i64 t253) ∧ w'.cell? ⟨gb262, 1, none⟩ = some (.int .i64 t254) ∧ w'.cell? ⟨gb262, 2, none⟩ = some (.int .i64 t255) ∧ w'.cell? ⟨gb263, 0, none⟩ = some (.int .i64 t256) ∧ w'.cell? ⟨gb263, 1, none⟩ = some (.int .i64 t257) ∧ w'.cell? ⟨gb263, 2, none⟩ = some (.int .i64 t258) ∧ w'.cell? ⟨gb264, 0, none⟩ = some (.int .i64 t259) ∧ w'.cell? ⟨gb264, 1, none⟩ = some (.int .i64 t260) ∧ w'.cell? ⟨gb264, 2, none⟩ = some (.int .i64 t261)) ∧ (w'.heap[gb262]? = some (.cells #[.int .i64 t253, .int .i64 t254, .int .i64 t255] 41 (0, 0))) ∧ (w'.heap[gb263]? = some (.cells #[.int .i64 t256, .int .i64 t257, .int .i64 t258] 41 (0, 0))) ∧ (w'.heap[gb264]? = some (.cells #[.int .i64 t259, .int .i64 t260, .int .i64 t261] 41 (0, 0))) ∧ (w'.heap[gb268]? = some (.cells #[.int .i64 t265, .int .i64 t266, .int .i64 t267] 41 (0, 0))) ∧ (w'.heap[gb272]? = some (.cells #[.int .i64 t269, .int .i64 t270, .int .i64 t271] 41 (0, 0))) ∧ (w'.heap[s_]? = some (.cells #[.int .i64 0, .int .i64 0, .int .i64 0] 41 (0, 0))) ∧ (w.heap.size ≤ s_) ∧ (w.heap.size ≤ s_) ∧ (gb262 ≠ s_) ∧ (s_ ≠ gb262) ∧ (gb263 ≠ s_) ∧ (s_ ≠ gb263) ∧ (gb264 ≠ s_) ∧ (s_ ≠ gb264) ∧ (gb268 ≠ s_) ∧ (s_ ≠ gb268) ∧ (gb272 ≠ s_) ∧ (s_ ≠ gb272) ∧ (Below w.heap.size w w')) ?_ ?_
        rotate_left
        ·intro hCont
         refine two_ (i := 3) (j := 5) (Ni := some 31) (Nj := some 8) #[true, true, true, true, false, false, false] #[true, true, true, false, false, true, false] rfl rfl rfl rfl (by kernel_rfl) (by decide) (by decide) (fun K hK => ?_) (fun K hK => ?_)
         ·skip
          refine goes_ Try.func28 (by kernel_rfl) rfl #[.agg #[.int .i64 t256, .int .i64 t257, .int .i64 t258], .agg #[.int .i64 t259, .int .i64 t260, .int .i64 t261]] (by rfl) rfl rfl (by (try simp only [List.map_toArray, List.map_cons, List.map_nil]); first | done | rfl | (simp only [List.length_drop, List.length_take]; rfl)) ?_
          with_reducible refine (impl_JoinReg.calls k t256 t257 t258 t259 t260 t261 t273 t274 t275 _ A7.out).mono ?_
          rintro e w48 ⟨rfl, hb⟩
          refine ⟨_, rfl, ?_⟩
          have n0_ := Aside0.mk (kB BK262.out hb)
          have n1_ := Aside0.mk (kB BK263.out hb)
          have n2_ := Aside0.mk (kB BK264.out hb)
          have n3_ := Aside0.mk (kB BK268.out hb)
          have n4_ := Aside0.mk (kB BK272.out hb)
          have n5_ := Aside0.mk (below_step aH hb)
          clear BK262
          clear BK263
          clear BK264
          clear BK268
          clear BK272
          clear HB
          have BK262 := n0_
          have BK263 := n1_
          have BK264 := n2_
          have BK268 := n3_
          have BK272 := n4_
          have HB := n5_
          clear n0_ n1_ n2_ n3_ n4_ n5_
          (try clear hb)
          (try clear hb2)
          (try clear hk)
          (try clear hi)
          refine hK.out _ _ ⟨cR BK262.out 0, cR BK262.out 1, cR BK262.out 2, cR BK263.out 0, cR BK263.out 1, cR BK263.out 2, cR BK264.out 0, cR BK264.out 1, cR BK264.out 2⟩ (fun hHeld => ?_)
          clear hK K
          refine nP 31 ?_
          refine two_ (i := 4) (j := 5) (Ni := some 32) (Nj := some 8) #[true, true, true, true, true, false, false] #[true, true, true, true, false, true, false] rfl rfl rfl rfl (by kernel_rfl) (by decide) (by decide) (fun K hK => ?_) (fun K hK => ?_)
          ·skip
           refine goes_ Try.func28 (by kernel_rfl) rfl #[.agg #[.int .i64 t253, .int .i64 t254, .int .i64 t255], .agg #[.int .i64 t273, .int .i64 t274, .int .i64 t275]] (by rfl) rfl rfl (by (try simp only [List.map_toArray, List.map_cons, List.map_nil]); first | done | rfl | (simp only [List.length_drop, List.length_take]; rfl)) ?_
           with_reducible refine (impl_JoinReg.calls k t253 t254 t255 t273 t274 t275 t276 t277 t278 _ A8.out).mono ?_
           rintro e w49 ⟨rfl, hb⟩
           refine ⟨_, rfl, ?_⟩
           have n0_ := Aside0.mk (kB BK262.out hb)
           have n1_ := Aside0.mk (kB BK263.out hb)
           have n2_ := Aside0.mk (kB BK264.out hb)
           have n3_ := Aside0.mk (kB BK268.out hb)
           have n4_ := Aside0.mk (kB BK272.out hb)
           have n5_ := Aside0.mk (below_step aH hb)
           clear BK262
           clear BK263
           clear BK264
           clear BK268
           clear BK272
           clear HB
           have BK262 := n0_
           have BK263 := n1_
           have BK264 := n2_
           have BK268 := n3_
           have BK272 := n4_
           have HB := n5_
           clear n0_ n1_ n2_ n3_ n4_ n5_
           (try clear hb)
           (try clear hb2)
           (try clear hk)
           (try clear hi)
           refine hK.out _ _ ⟨cR BK262.out 0, cR BK262.out 1, cR BK262.out 2, cR BK263.out 0, cR BK263.out 1, cR BK263.out 2, cR BK264.out 0, cR BK264.out 1, cR BK264.out 2⟩ (fun hHeld => ?_)
           clear hK K
           refine nP 32 ?_
           refine one_ (i := 5) (N := some 8) #[true, true, true, true, true, true, false] rfl rfl (by kernel_rfl) (by decide) (fun K hK => ?_)
           refine box_step ?hg (N := 8) ?hd (cs := #[.int .i64 0, .int .i64 0, .int .i64 0]) (t := 41) ?hr ?_; (case hd => rfl); (case hg => rfl); (case hr => first | (go_simp; done) | (go_simp; rfl))
           intro gb279 hg w50 hbox hb
           have n0_ := Aside0.mk (kB BK262.out hb)
           have n1_ := Aside0.mk (kB BK263.out hb)
           have n2_ := Aside0.mk (kB BK264.out hb)
           have n3_ := Aside0.mk (kB BK268.out hb)
           have n4_ := Aside0.mk (kB BK272.out hb)
           have n5_ := Aside0.mk (below_step aH hb)
           have n6_ := Aside0.mk (hbox)
           have n7_ := Aside0.mk ((gS hg : w.heap.size ≤ gb279))
           have n8_ := Aside0.mk ((gS hg : w.heap.size ≤ gb279))
           have n9_ := Aside0.mk (gL hg BK262.out)
           have n10_ := Aside0.mk (gG hg BK262.out)
           have n11_ := Aside0.mk (gL hg BK263.out)
           have n12_ := Aside0.mk (gG hg BK263.out)
           have n13_ := Aside0.mk (gL hg BK264.out)
           have n14_ := Aside0.mk (gG hg BK264.out)
           have n15_ := Aside0.mk (gL hg BK268.out)
           have n16_ := Aside0.mk (gG hg BK268.out)
           have n17_ := Aside0.mk (gL hg BK272.out)
           have n18_ := Aside0.mk (gG hg BK272.out)
           clear BK262
           clear BK263
           clear BK264
           clear BK268
           clear BK272
           clear HB
           have BK262 := n0_
           have BK263 := n1_
           have BK264 := n2_
           have BK268 := n3_
           have BK272 := n4_
           have HB := n5_
           have BK279 := n6_
           have GW279 := n7_
           have GE279 := n8_
           have NB262_279 := n9_
           have NB279_262 := n10_
           have NB263_279 := n11_
           have NB279_263 := n12_
           have NB264_279 := n13_
           have NB279_264 := n14_
           have NB268_279 := n15_
           have NB279_268 := n16_
           have NB272_279 := n17_
           have NB279_272 := n18_
           clear n0_ n1_ n2_ n3_ n4_ n5_ n6_ n7_ n8_ n9_ n10_ n11_ n12_ n13_ n14_ n15_ n16_ n17_ n18_
           clear hb hbox hg
           refine hK.out _ _ ⟨cR BK262.out 0, cR BK262.out 1, cR BK262.out 2, cR BK263.out 0, cR BK263.out 1, cR BK263.out 2, cR BK264.out 0, cR BK264.out 1, cR BK264.out 2⟩ (fun hHeld => ?_)
           clear hK K
           refine nP 8 ?_
           exact norm_ (by simp only [putAll, Act.put, List.setIfInBounds_toArray, List.set_cons_zero, List.set_cons_succ]) (hCont (gb279) _ ⟨hHeld, (aB BK262.out), (aB BK263.out), (aB BK264.out), (aB BK268.out), (aB BK272.out), (aB BK279.out), GW279.out, GE279.out, NB262_279.out, NB279_262.out, NB263_279.out, NB279_263.out, NB264_279.out, NB279_264.out, NB268_279.out, NB279_268.out, NB272_279.out, NB279_272.out, aH⟩)
          ·skip
           refine box_step ?hg (N := 8) ?hd (cs := #[.int .i64 0, .int .i64 0, .int .i64 0]) (t := 41) ?hr ?_; (case hd => rfl); (case hg => rfl); (case hr => first | (go_simp; done) | (go_simp; rfl))
           intro gb279 hg w49 hbox hb
           have n0_ := Aside0.mk (kB BK262.out hb)
           have n1_ := Aside0.mk (kB BK263.out hb)
           have n2_ := Aside0.mk (kB BK264.out hb)
           have n3_ := Aside0.mk (kB BK268.out hb)
           have n4_ := Aside0.mk (kB BK272.out hb)
           have n5_ := Aside0.mk (below_step aH hb)
           have n6_ := Aside0.mk (hbox)
           have n7_ := Aside0.mk ((gS hg : w.heap.size ≤ gb279))
           have n8_ := Aside0.mk ((gS hg : w.heap.size ≤ gb279))
           have n9_ := Aside0.mk (gL hg BK262.out)
           have n10_ := Aside0.mk (gG hg BK262.out)
           have n11_ := Aside0.mk (gL hg BK263.out)
           have n12_ := Aside0.mk (gG hg BK263.out)
           have n13_ := Aside0.mk (gL hg BK264.out)
           have n14_ := Aside0.mk (gG hg BK264.out)
           have n15_ := Aside0.mk (gL hg BK268.out)
           have n16_ := Aside0.mk (gG hg BK268.out)
           have n17_ := Aside0.mk (gL hg BK272.out)
           have n18_ := Aside0.mk (gG hg BK272.out)
           clear BK262
           clear BK263
           clear BK264
           clear BK268
           clear BK272
           clear HB
           have BK262 := n0_
           have BK263 := n1_
           have BK264 := n2_
           have BK268 := n3_
           have BK272 := n4_
           have HB := n5_
           have BK279 := n6_
           have GW279 := n7_
           have GE279 := n8_
           have NB262_279 := n9_
           have NB279_262 := n10_
           have NB263_279 := n11_
           have NB279_263 := n12_
           have NB264_279 := n13_
           have NB279_264 := n14_
           have NB268_279 := n15_
           have NB279_268 := n16_
           have NB272_279 := n17_
           have NB279_272 := n18_
           clear n0_ n1_ n2_ n3_ n4_ n5_ n6_ n7_ n8_ n9_ n10_ n11_ n12_ n13_ n14_ n15_ n16_ n17_ n18_
           clear hb hbox hg
           refine hK.out _ _ ⟨cR BK262.out 0, cR BK262.out 1, cR BK262.out 2, cR BK263.out 0, cR BK263.out 1, cR BK263.out 2, cR BK264.out 0, cR BK264.out 1, cR BK264.out 2⟩ (fun hHeld => ?_)
           clear hK K
           refine nP 8 ?_
           refine one_ (i := 4) (N := some 32) #[true, true, true, true, true, true, false] rfl rfl (by kernel_rfl) (by decide) (fun K hK => ?_)
           refine goes_ Try.func28 (by kernel_rfl) rfl #[.agg #[.int .i64 t253, .int .i64 t254, .int .i64 t255], .agg #[.int .i64 t273, .int .i64 t274, .int .i64 t275]] (by rfl) rfl rfl (by (try simp only [List.map_toArray, List.map_cons, List.map_nil]); first | done | rfl | (simp only [List.length_drop, List.length_take]; rfl)) ?_
           with_reducible refine (impl_JoinReg.calls k t253 t254 t255 t273 t274 t275 t276 t277 t278 _ A8.out).mono ?_
           rintro e w50 ⟨rfl, hb⟩
           refine ⟨_, rfl, ?_⟩
           have n0_ := Aside0.mk (kB BK262.out hb)
           have n1_ := Aside0.mk (kB BK263.out hb)
           have n2_ := Aside0.mk (kB BK264.out hb)
           have n3_ := Aside0.mk (kB BK268.out hb)
           have n4_ := Aside0.mk (kB BK272.out hb)
           have n5_ := Aside0.mk (kB BK279.out hb)
           have n6_ := Aside0.mk (below_step aH hb)
           clear BK262
           clear BK263
           clear BK264
           clear BK268
           clear BK272
           clear BK279
           clear HB
           have BK262 := n0_
           have BK263 := n1_
           have BK264 := n2_
           have BK268 := n3_
           have BK272 := n4_
           have BK279 := n5_
           have HB := n6_
           clear n0_ n1_ n2_ n3_ n4_ n5_ n6_
           (try clear hb)
           (try clear hb2)
           (try clear hk)
           (try clear hi)
           refine hK.out _ _ ⟨cR BK262.out 0, cR BK262.out 1, cR BK262.out 2, cR BK263.out 0, cR BK263.out 1, cR BK263.out 2, cR BK264.out 0, cR BK264.out 1, cR BK264.out 2⟩ (fun hHeld => ?_)
           clear hK K
           refine nP 32 ?_
           exact norm_ (by simp only [putAll, Act.put, List.setIfInBounds_toArray, List.set_cons_zero, List.set_cons_succ]) (hCont (gb279) _ ⟨hHeld, (aB BK262.out), (aB BK263.out), (aB BK264.out), (aB BK268.out), (aB BK272.out), (aB BK279.out), GW279.out, GE279.out, NB262_279.out, NB279_262.out, NB263_279.out, NB279_263.out, NB264_279.out, NB279_264.out, NB268_279.out, NB279_268.out, NB272_279.out, NB279_272.out, aH⟩)
         ·skip
          refine box_step ?hg (N := 8) ?hd (cs := #[.int .i64 0, .int .i64 0, .int .i64 0]) (t := 41) ?hr ?_; (case hd => rfl); (case hg => rfl); (case hr => first | (go_simp; done) | (go_simp; rfl))
          intro gb279 hg w48 hbox hb
          have n0_ := Aside0.mk (kB BK262.out hb)
          have n1_ := Aside0.mk (kB BK263.out hb)
          have n2_ := Aside0.mk (kB BK264.out hb)
          have n3_ := Aside0.mk (kB BK268.out hb)
          have n4_ := Aside0.mk (kB BK272.out hb)
          have n5_ := Aside0.mk (below_step aH hb)
          have n6_ := Aside0.mk (hbox)
          have n7_ := Aside0.mk ((gS hg : w.heap.size ≤ gb279))
          have n8_ := Aside0.mk ((gS hg : w.heap.size ≤ gb279))
          have n9_ := Aside0.mk (gL hg BK262.out)
          have n10_ := Aside0.mk (gG hg BK262.out)
          have n11_ := Aside0.mk (gL hg BK263.out)
          have n12_ := Aside0.mk (gG hg BK263.out)
          have n13_ := Aside0.mk (gL hg BK264.out)
          have n14_ := Aside0.mk (gG hg BK264.out)
          have n15_ := Aside0.mk (gL hg BK268.out)
          have n16_ := Aside0.mk (gG hg BK268.out)
          have n17_ := Aside0.mk (gL hg BK272.out)
          have n18_ := Aside0.mk (gG hg BK272.out)
          clear BK262
          clear BK263
          clear BK264
          clear BK268
          clear BK272
          clear HB
          have BK262 := n0_
          have BK263 := n1_
          have BK264 := n2_
          have BK268 := n3_
          have BK272 := n4_
          have HB := n5_
          have BK279 := n6_
          have GW279 := n7_
          have GE279 := n8_
          have NB262_279 := n9_
          have NB279_262 := n10_
          have NB263_279 := n11_
          have NB279_263 := n12_
          have NB264_279 := n13_
          have NB279_264 := n14_
          have NB268_279 := n15_
          have NB279_268 := n16_
          have NB272_279 := n17_
          have NB279_272 := n18_
          clear n0_ n1_ n2_ n3_ n4_ n5_ n6_ n7_ n8_ n9_ n10_ n11_ n12_ n13_ n14_ n15_ n16_ n17_ n18_
          clear hb hbox hg
          refine hK.out _ _ ⟨cR BK262.out 0, cR BK262.out 1, cR BK262.out 2, cR BK263.out 0, cR BK263.out 1, cR BK263.out 2, cR BK264.out 0, cR BK264.out 1, cR BK264.out 2⟩ (fun hHeld => ?_)
          clear hK K
          refine nP 8 ?_
          refine one_ (i := 3) (N := some 31) #[true, true, true, true, false, true, false] rfl rfl (by kernel_rfl) (by decide) (fun K hK => ?_)
          refine goes_ Try.func28 (by kernel_rfl) rfl #[.agg #[.int .i64 t256, .int .i64 t257, .int .i64 t258], .agg #[.int .i64 t259, .int .i64 t260, .int .i64 t261]] (by rfl) rfl rfl (by (try simp only [List.map_toArray, List.map_cons, List.map_nil]); first | done | rfl | (simp only [List.length_drop, List.length_take]; rfl)) ?_
          with_reducible refine (impl_JoinReg.calls k t256 t257 t258 t259 t260 t261 t273 t274 t275 _ A7.out).mono ?_
          rintro e w49 ⟨rfl, hb⟩
          refine ⟨_, rfl, ?_⟩
          have n0_ := Aside0.mk (kB BK262.out hb)
          have n1_ := Aside0.mk (kB BK263.out hb)
          have n2_ := Aside0.mk (kB BK264.out hb)
          have n3_ := Aside0.mk (kB BK268.out hb)
          have n4_ := Aside0.mk (kB BK272.out hb)
          have n5_ := Aside0.mk (kB BK279.out hb)
          have n6_ := Aside0.mk (below_step aH hb)
          clear BK262
          clear BK263
          clear BK264
          clear BK268
          clear BK272
          clear BK279
          clear HB
          have BK262 := n0_
          have BK263 := n1_
          have BK264 := n2_
          have BK268 := n3_
          have BK272 := n4_
          have BK279 := n5_
          have HB := n6_
          clear n0_ n1_ n2_ n3_ n4_ n5_ n6_
          (try clear hb)
          (try clear hb2)
          (try clear hk)
          (try clear hi)
          refine hK.out _ _ ⟨cR BK262.out 0, cR BK262.out 1, cR BK262.out 2, cR BK263.out 0, cR BK263.out 1, cR BK263.out 2, cR BK264.out 0, cR BK264.out 1, cR BK264.out 2⟩ (fun hHeld => ?_)
          clear hK K
          refine nP 31 ?_
          refine one_ (i := 4) (N := some 32) #[true, true, true, true, true, true, false] rfl rfl (by kernel_rfl) (by decide) (fun K hK => ?_)
          refine goes_ Try.func28 (by kernel_rfl) rfl #[.agg #[.int .i64 t253, .int .i64 t254, .int .i64 t255], .agg #[.int .i64 t273, .int .i64 t274, .int .i64 t275]] (by rfl) rfl rfl (by (try simp only [List.map_toArray, List.map_cons, List.map_nil]); first | done | rfl | (simp only [List.length_drop, List.length_take]; rfl)) ?_
          with_reducible refine (impl_JoinReg.calls k t253 t254 t255 t273 t274 t275 t276 t277 t278 _ A8.out).mono ?_
          rintro e w50 ⟨rfl, hb⟩
          refine ⟨_, rfl, ?_⟩
          have n0_ := Aside0.mk (kB BK262.out hb)
          have n1_ := Aside0.mk (kB BK263.out hb)
          have n2_ := Aside0.mk (kB BK264.out hb)
          have n3_ := Aside0.mk (kB BK268.out hb)
          have n4_ := Aside0.mk (kB BK272.out hb)
          have n5_ := Aside0.mk (kB BK279.out hb)
          have n6_ := Aside0.mk (below_step aH hb)
          clear BK262
          clear BK263
          clear BK264
          clear BK268
          clear BK272
          clear BK279
          clear HB
          have BK262 := n0_
          have BK263 := n1_
          have BK264 := n2_
          have BK268 := n3_
          have BK272 := n4_
          have BK279 := n5_
          have HB := n6_
          clear n0_ n1_ n2_ n3_ n4_ n5_ n6_
          (try clear hb)
          (try clear hb2)
          (try clear hk)
          (try clear hi)
          refine hK.out _ _ ⟨cR BK262.out 0, cR BK262.out 1, cR BK262.out 2, cR BK263.out 0, cR BK263.out 1, cR BK263.out 2, cR BK264.out 0, cR BK264.out 1, cR BK264.out 2⟩ (fun hHeld => ?_)
          clear hK K
          refine nP 32 ?_
          exact norm_ (by simp only [putAll, Act.put, List.setIfInBounds_toArray, List.set_cons_zero, List.set_cons_succ]) (hCont (gb279) _ ⟨hHeld, (aB BK262.out), (aB BK263.out), (aB BK264.out), (aB BK268.out), (aB BK272.out), (aB BK279.out), GW279.out, GE279.out, NB262_279.out, NB279_262.out, NB263_279.out, NB279_263.out, NB264_279.out, NB279_264.out, NB268_279.out, NB279_268.out, NB272_279.out, NB279_272.out, aH⟩)
        rintro gb279 w51 ⟨hS_, h0_, h1_, h2_, h3_, h4_, h5_, h6_, h7_, h8_, h9_, h10_, h11_, h12_, h13_, h14_, h15_, h16_, h17_, h18_⟩
        have n0_ : Aside0 (w51.heap[gb262]? = some (.cells #[.int .i64 t253, .int .i64 t254, .int .i64 t255] 41 (0, 0))) := ⟨h0_⟩
        have n1_ : Aside0 (w51.heap[gb263]? = some (.cells #[.int .i64 t256, .int .i64 t257, .int .i64 t258] 41 (0, 0))) := ⟨h1_⟩
        have n2_ : Aside0 (w51.heap[gb264]? = some (.cells #[.int .i64 t259, .int .i64 t260, .int .i64 t261] 41 (0, 0))) := ⟨h2_⟩
        have n3_ : Aside0 (w51.heap[gb268]? = some (.cells #[.int .i64 t265, .int .i64 t266, .int .i64 t267] 41 (0, 0))) := ⟨h3_⟩
        have n4_ : Aside0 (w51.heap[gb272]? = some (.cells #[.int .i64 t269, .int .i64 t270, .int .i64 t271] 41 (0, 0))) := ⟨h4_⟩
        have n5_ : Aside0 (w51.heap[gb279]? = some (.cells #[.int .i64 0, .int .i64 0, .int .i64 0] 41 (0, 0))) := ⟨h5_⟩
        have n6_ : Aside0 (w.heap.size ≤ gb279) := ⟨h6_⟩
        have n7_ : Aside0 (w.heap.size ≤ gb279) := ⟨h7_⟩
        have n8_ : Aside0 (gb262 ≠ gb279) := ⟨h8_⟩
        have n9_ : Aside0 (gb279 ≠ gb262) := ⟨h9_⟩
        have n10_ : Aside0 (gb263 ≠ gb279) := ⟨h10_⟩
        have n11_ : Aside0 (gb279 ≠ gb263) := ⟨h11_⟩
        have n12_ : Aside0 (gb264 ≠ gb279) := ⟨h12_⟩
        have n13_ : Aside0 (gb279 ≠ gb264) := ⟨h13_⟩
        have n14_ : Aside0 (gb268 ≠ gb279) := ⟨h14_⟩
        have n15_ : Aside0 (gb279 ≠ gb268) := ⟨h15_⟩
        have n16_ : Aside0 (gb272 ≠ gb279) := ⟨h16_⟩
        have n17_ : Aside0 (gb279 ≠ gb272) := ⟨h17_⟩
        have n18_ : Aside0 (Below w.heap.size w w51) := ⟨h18_⟩
        clear BK262
        clear BK263
        clear BK264
        clear BK268
        clear BK272
        clear HB
        clear h0_ h1_ h2_ h3_ h4_ h5_ h6_ h7_ h8_ h9_ h10_ h11_ h12_ h13_ h14_ h15_ h16_ h17_ h18_
        have BK262 := n0_
        have BK263 := n1_
        have BK264 := n2_
        have BK268 := n3_
        have BK272 := n4_
        have BK279 := n5_
        have GW279 := n6_
        have GE279 := n7_
        have NB262_279 := n8_
        have NB279_262 := n9_
        have NB263_279 := n10_
        have NB279_263 := n11_
        have NB264_279 := n12_
        have NB279_264 := n13_
        have NB268_279 := n14_
        have NB279_268 := n15_
        have NB272_279 := n16_
        have NB279_272 := n17_
        have HB := n18_
        clear n0_ n1_ n2_ n3_ n4_ n5_ n6_ n7_ n8_ n9_ n10_ n11_ n12_ n13_ n14_ n15_ n16_ n17_ n18_
        have hHeld : w51.cell? ⟨gb262, 0, none⟩ = some (.int .i64 t253) ∧ w51.cell? ⟨gb262, 1, none⟩ = some (.int .i64 t254) ∧ w51.cell? ⟨gb262, 2, none⟩ = some (.int .i64 t255) ∧ w51.cell? ⟨gb263, 0, none⟩ = some (.int .i64 t256) ∧ w51.cell? ⟨gb263, 1, none⟩ = some (.int .i64 t257) ∧ w51.cell? ⟨gb263, 2, none⟩ = some (.int .i64 t258) ∧ w51.cell? ⟨gb264, 0, none⟩ = some (.int .i64 t259) ∧ w51.cell? ⟨gb264, 1, none⟩ = some (.int .i64 t260) ∧ w51.cell? ⟨gb264, 2, none⟩ = some (.int .i64 t261) := hS_
        refine norm_ (a' := ?_) ?_ ?_
        rotate_left
        ·simp only [putAll, Act.put, List.setIfInBounds_toArray, List.set_cons_zero, List.set_cons_succ]
         rfl
        refine one_ (i := 6) (N := none) #[true, true, true, true, true, true, true] rfl rfl (by kernel_rfl) (by decide) (fun K hK => ?_)
        have hs52 : w51.cell? ⟨gb279, 0, none⟩ = some (.int .i64 0) := cR BK279.out 0
        have hfs52 := blk_frozen BK279.out 0
        have hns52_0 := NB262_279.out
        have hns52_1 := NB263_279.out
        have hns52_2 := NB264_279.out
        have hns52_3 := NB268_279.out
        have hns52_4 := NB272_279.out
        have hms52_0 := NB279_262.out
        have hms52_1 := NB279_263.out
        have hms52_2 := NB279_264.out
        have hms52_3 := NB279_268.out
        have hms52_4 := NB279_272.out
        have hs53 : w51.cell? ⟨gb279, 1, none⟩ = some (.int .i64 0) := cR BK279.out 1
        have hfs53 := blk_frozen BK279.out 1
        have hns53_0 := NB262_279.out
        have hns53_1 := NB263_279.out
        have hns53_2 := NB264_279.out
        have hns53_3 := NB268_279.out
        have hns53_4 := NB272_279.out
        have hms53_0 := NB279_262.out
        have hms53_1 := NB279_263.out
        have hms53_2 := NB279_264.out
        have hms53_3 := NB279_268.out
        have hms53_4 := NB279_272.out
        have hs54 : w51.cell? ⟨gb279, 2, none⟩ = some (.int .i64 0) := cR BK279.out 2
        have hfs54 := blk_frozen BK279.out 2
        have hns54_0 := NB262_279.out
        have hns54_1 := NB263_279.out
        have hns54_2 := NB264_279.out
        have hns54_3 := NB268_279.out
        have hns54_4 := NB272_279.out
        have hms54_0 := NB279_262.out
        have hms54_1 := NB279_263.out
        have hms54_2 := NB279_264.out
        have hms54_3 := NB279_268.out
        have hms54_4 := NB279_272.out
        refine skip_ (w1 := ?_) (by rfl) rfl ?_ ?_
        rotate_left
        ·go_simp
         rfl
        refine hK.out _ _ ⟨((cell_far (p := ⟨gb279, _, none⟩) NB262_279.out _).trans (((cell_far (p := ⟨gb279, _, none⟩) NB262_279.out _).trans (((cell_far (p := ⟨gb279, _, none⟩) NB262_279.out _).trans (hHeld.1)))))), ((cell_far (p := ⟨gb279, _, none⟩) NB262_279.out _).trans (((cell_far (p := ⟨gb279, _, none⟩) NB262_279.out _).trans (((cell_far (p := ⟨gb279, _, none⟩) NB262_279.out _).trans (hHeld.2.1)))))), ((cell_far (p := ⟨gb279, _, none⟩) NB262_279.out _).trans (((cell_far (p := ⟨gb279, _, none⟩) NB262_279.out _).trans (((cell_far (p := ⟨gb279, _, none⟩) NB262_279.out _).trans (hHeld.2.2.1)))))), ((cell_far (p := ⟨gb279, _, none⟩) NB263_279.out _).trans (((cell_far (p := ⟨gb279, _, none⟩) NB263_279.out _).trans (((cell_far (p := ⟨gb279, _, none⟩) NB263_279.out _).trans (hHeld.2.2.2.1)))))), ((cell_far (p := ⟨gb279, _, none⟩) NB263_279.out _).trans (((cell_far (p := ⟨gb279, _, none⟩) NB263_279.out _).trans (((cell_far (p := ⟨gb279, _, none⟩) NB263_279.out _).trans (hHeld.2.2.2.2.1)))))), ((cell_far (p := ⟨gb279, _, none⟩) NB263_279.out _).trans (((cell_far (p := ⟨gb279, _, none⟩) NB263_279.out _).trans (((cell_far (p := ⟨gb279, _, none⟩) NB263_279.out _).trans (hHeld.2.2.2.2.2.1)))))), ((cell_far (p := ⟨gb279, _, none⟩) NB264_279.out _).trans (((cell_far (p := ⟨gb279, _, none⟩) NB264_279.out _).trans (((cell_far (p := ⟨gb279, _, none⟩) NB264_279.out _).trans (hHeld.2.2.2.2.2.2.1)))))), ((cell_far (p := ⟨gb279, _, none⟩) NB264_279.out _).trans (((cell_far (p := ⟨gb279, _, none⟩) NB264_279.out _).trans (((cell_far (p := ⟨gb279, _, none⟩) NB264_279.out _).trans (hHeld.2.2.2.2.2.2.2.1)))))), ((cell_far (p := ⟨gb279, _, none⟩) NB264_279.out _).trans (((cell_far (p := ⟨gb279, _, none⟩) NB264_279.out _).trans (((cell_far (p := ⟨gb279, _, none⟩) NB264_279.out _).trans (hHeld.2.2.2.2.2.2.2.2))))))⟩ (fun hHeld => ?_)
        clear hK K
        refine done_ (by kernel_rfl) ?_
        try go_wp2_with (first | ((with_reducible refine gate_callee (f := 29) rfl ?_); refine gL_ (some 35) Try.func29 #[.slice A0 l0.length c0] ?_; (with_reducible refine (spec_DrawPutReg.calls k _ _ l0 t280 t281 t282 t283 t284 t285 _ ?side1 ?side2 A9.out).mono ?_); (case side1 => exact Kd.C_below HR0.out aH); (case side2 => exact HC0.out); rintro e w55 ⟨rfl, hb⟩; refine ⟨_, rfl, ?_⟩; have n0_ := Aside0.mk (blk_below (g := gb262) (o := .cells #[.int .i64 t253, .int .i64 t254, .int .i64 t255] 41 (0, 0)) (by (with_reducible repeat (first | refine blk_drewN ?_ _ | refine blk_drew ?_ | refine blk_alloc ?_ _)); refine blk_far ?_ NB262_279.out _; (with_reducible repeat (first | refine blk_drewN ?_ _ | refine blk_drew ?_ | refine blk_alloc ?_ _)); refine blk_far ?_ NB262_279.out _; (with_reducible repeat (first | refine blk_drewN ?_ _ | refine blk_drew ?_ | refine blk_alloc ?_ _)); refine blk_far ?_ NB262_279.out _; (with_reducible repeat (first | refine blk_drewN ?_ _ | refine blk_drew ?_ | refine blk_alloc ?_ _)); exact BK262.out) hb); have n1_ := Aside0.mk (blk_below (g := gb263) (o := .cells #[.int .i64 t256, .int .i64 t257, .int .i64 t258] 41 (0, 0)) (by (with_reducible repeat (first | refine blk_drewN ?_ _ | refine blk_drew ?_ | refine blk_alloc ?_ _)); refine blk_far ?_ NB263_279.out _; (with_reducible repeat (first | refine blk_drewN ?_ _ | refine blk_drew ?_ | refine blk_alloc ?_ _)); refine blk_far ?_ NB263_279.out _; (with_reducible repeat (first | refine blk_drewN ?_ _ | refine blk_drew ?_ | refine blk_alloc ?_ _)); refine blk_far ?_ NB263_279.out _; (with_reducible repeat (first | refine blk_drewN ?_ _ | refine blk_drew ?_ | refine blk_alloc ?_ _)); exact BK263.out) hb); have n2_ := Aside0.mk (blk_below (g := gb264) (o := .cells #[.int .i64 t259, .int .i64 t260, .int .i64 t261] 41 (0, 0)) (by (with_reducible repeat (first | refine blk_drewN ?_ _ | refine blk_drew ?_ | refine blk_alloc ?_ _)); refine blk_far ?_ NB264_279.out _; (with_reducible repeat (first | refine blk_drewN ?_ _ | refine blk_drew ?_ | refine blk_alloc ?_ _)); refine blk_far ?_ NB264_279.out _; (with_reducible repeat (first | refine blk_drewN ?_ _ | refine blk_drew ?_ | refine blk_alloc ?_ _)); refine blk_far ?_ NB264_279.out _; (with_reducible repeat (first | refine blk_drewN ?_ _ | refine blk_drew ?_ | refine blk_alloc ?_ _)); exact BK264.out) hb); have n3_ := Aside0.mk (blk_below (g := gb268) (o := .cells #[.int .i64 t265, .int .i64 t266, .int .i64 t267] 41 (0, 0)) (by (with_reducible repeat (first | refine blk_drewN ?_ _ | refine blk_drew ?_ | refine blk_alloc ?_ _)); refine blk_far ?_ NB268_279.out _; (with_reducible repeat (first | refine blk_drewN ?_ _ | refine blk_drew ?_ | refine blk_alloc ?_ _)); refine blk_far ?_ NB268_279.out _; (with_reducible repeat (first | refine blk_drewN ?_ _ | refine blk_drew ?_ | refine blk_alloc ?_ _)); refine blk_far ?_ NB268_279.out _; (with_reducible repeat (first | refine blk_drewN ?_ _ | refine blk_drew ?_ | refine blk_alloc ?_ _)); exact BK268.out) hb); have n4_ := Aside0.mk (blk_below (g := gb272) (o := .cells #[.int .i64 t269, .int .i64 t270, .int .i64 t271] 41 (0, 0)) (by (with_reducible repeat (first | refine blk_drewN ?_ _ | refine blk_drew ?_ | refine blk_alloc ?_ _)); refine blk_far ?_ NB272_279.out _; (with_reducible repeat (first | refine blk_drewN ?_ _ | refine blk_drew ?_ | refine blk_alloc ?_ _)); refine blk_far ?_ NB272_279.out _; (with_reducible repeat (first | refine blk_drewN ?_ _ | refine blk_drew ?_ | refine blk_alloc ?_ _)); refine blk_far ?_ NB272_279.out _; (with_reducible repeat (first | refine blk_drewN ?_ _ | refine blk_drew ?_ | refine blk_alloc ?_ _)); exact BK272.out) hb); have n5_ := Aside0.mk (blk_below (g := gb279) (o := .cells #[.int .i64 t276, .int .i64 t277, .int .i64 t278] 41 (0, 0)) (by (with_reducible repeat (first | refine blk_drewN ?_ _ | refine blk_drew ?_ | refine blk_alloc ?_ _)); refine blk_put (cs := #[.int .i64 t276, .int .i64 t277, .int .i64 0]) ?_ 2 _ rfl; (with_reducible repeat (first | refine blk_drewN ?_ _ | refine blk_drew ?_ | refine blk_alloc ?_ _)); refine blk_put (cs := #[.int .i64 t276, .int .i64 0, .int .i64 0]) ?_ 1 _ rfl; (with_reducible repeat (first | refine blk_drewN ?_ _ | refine blk_drew ?_ | refine blk_alloc ?_ _)); refine blk_put (cs := #[.int .i64 0, .int .i64 0, .int .i64 0]) ?_ 0 _ rfl; (with_reducible repeat (first | refine blk_drewN ?_ _ | refine blk_drew ?_ | refine blk_alloc ?_ _)); exact BK279.out) hb); have n6_ := Aside0.mk (below_step aH hb); clear BK262; clear BK263; clear BK264; clear BK268; clear BK272; clear BK279; clear HB; have BK262 := n0_; have BK263 := n1_; have BK264 := n2_; have BK268 := n3_; have BK272 := n4_; have BK279 := n5_; have HB := n6_; clear n0_ n1_ n2_ n3_ n4_ n5_ n6_; (try clear hb); (try clear hb2); (try clear hk); (try clear hi)) | ((with_reducible refine gate_dst (N := 9) rfl ?_); refine bE 9 #[.int .i64 0, .int .i64 0, .int .i64 0] 41 ?_; intro gb286 hg w56 hbox hb; have n0_ := Aside0.mk (kB BK262.out hb); have n1_ := Aside0.mk (kB BK263.out hb); have n2_ := Aside0.mk (kB BK264.out hb); have n3_ := Aside0.mk (kB BK268.out hb); have n4_ := Aside0.mk (kB BK272.out hb); have n5_ := Aside0.mk (kB BK279.out hb); have n6_ := Aside0.mk (below_step aH hb); have n7_ := Aside0.mk (hbox); have n8_ := Aside0.mk ((gS hg : w.heap.size ≤ gb286)); have n9_ := Aside0.mk ((gS hg : w.heap.size ≤ gb286)); have n10_ := Aside0.mk (gL hg BK262.out); have n11_ := Aside0.mk (gG hg BK262.out); have n12_ := Aside0.mk (gL hg BK263.out); have n13_ := Aside0.mk (gG hg BK263.out); have n14_ := Aside0.mk (gL hg BK264.out); have n15_ := Aside0.mk (gG hg BK264.out); have n16_ := Aside0.mk (gL hg BK268.out); have n17_ := Aside0.mk (gG hg BK268.out); have n18_ := Aside0.mk (gL hg BK272.out); have n19_ := Aside0.mk (gG hg BK272.out); have n20_ := Aside0.mk (gL hg BK279.out); have n21_ := Aside0.mk (gG hg BK279.out); clear BK262; clear BK263; clear BK264; clear BK268; clear BK272; clear BK279; clear HB; have BK262 := n0_; have BK263 := n1_; have BK264 := n2_; have BK268 := n3_; have BK272 := n4_; have BK279 := n5_; have HB := n6_; have BK286 := n7_; have GW286 := n8_; have GE286 := n9_; have NB262_286 := n10_; have NB286_262 := n11_; have NB263_286 := n12_; have NB286_263 := n13_; have NB264_286 := n14_; have NB286_264 := n15_; have NB268_286 := n16_; have NB286_268 := n17_; have NB272_286 := n18_; have NB286_272 := n19_; have NB279_286 := n20_; have NB286_279 := n21_; clear n0_ n1_ n2_ n3_ n4_ n5_ n6_ n7_ n8_ n9_ n10_ n11_ n12_ n13_ n14_ n15_ n16_ n17_ n18_ n19_ n20_ n21_; clear hb hbox hg) | ((with_reducible refine gate_dst (N := 11) rfl ?_); refine bE 11 #[.int .i64 0, .int .i64 0] 39 ?_; intro gb287 hg w57 hbox hb; have n0_ := Aside0.mk (kB BK262.out hb); have n1_ := Aside0.mk (kB BK263.out hb); have n2_ := Aside0.mk (kB BK264.out hb); have n3_ := Aside0.mk (kB BK268.out hb); have n4_ := Aside0.mk (kB BK272.out hb); have n5_ := Aside0.mk (kB BK279.out hb); have n6_ := Aside0.mk (kB BK286.out hb); have n7_ := Aside0.mk (below_step aH hb); have n8_ := Aside0.mk (hbox); have n9_ := Aside0.mk ((gS hg : w.heap.size ≤ gb287)); have n10_ := Aside0.mk ((gS hg : w.heap.size ≤ gb287)); have n11_ := Aside0.mk (gL hg BK262.out); have n12_ := Aside0.mk (gG hg BK262.out); have n13_ := Aside0.mk (gL hg BK263.out); have n14_ := Aside0.mk (gG hg BK263.out); have n15_ := Aside0.mk (gL hg BK264.out); have n16_ := Aside0.mk (gG hg BK264.out); have n17_ := Aside0.mk (gL hg BK268.out); have n18_ := Aside0.mk (gG hg BK268.out); have n19_ := Aside0.mk (gL hg BK272.out); have n20_ := Aside0.mk (gG hg BK272.out); have n21_ := Aside0.mk (gL hg BK279.out); have n22_ := Aside0.mk (gG hg BK279.out); have n23_ := Aside0.mk (gL hg BK286.out); have n24_ := Aside0.mk (gG hg BK286.out); clear BK262; clear BK263; clear BK264; clear BK268; clear BK272; clear BK279; clear BK286; clear HB; have BK262 := n0_; have BK263 := n1_; have BK264 := n2_; have BK268 := n3_; have BK272 := n4_; have BK279 := n5_; have BK286 := n6_; have HB := n7_; have BK287 := n8_; have GW287 := n9_; have GE287 := n10_; have NB262_287 := n11_; have NB287_262 := n12_; have NB263_287 := n13_; have NB287_263 := n14_; have NB264_287 := n15_; have NB287_264 := n16_; have NB268_287 := n17_; have NB287_268 := n18_; have NB272_287 := n19_; have NB287_272 := n20_; have NB279_287 := n21_; have NB287_279 := n22_; have NB286_287 := n23_; have NB287_286 := n24_; clear n0_ n1_ n2_ n3_ n4_ n5_ n6_ n7_ n8_ n9_ n10_ n11_ n12_ n13_ n14_ n15_ n16_ n17_ n18_ n19_ n20_ n21_ n22_ n23_ n24_; clear hb hbox hg; have hnb58 := NB286_262.out; have hnc58 := NB262_286.out; have hnb59 := NB286_263.out; have hnc59 := NB263_286.out; have hnb60 := NB286_264.out; have hnc60 := NB264_286.out; have hnb61 := NB286_268.out; have hnc61 := NB268_286.out; have hnb62 := NB286_272.out; have hnc62 := NB272_286.out; have hnb63 := NB286_279.out; have hnc63 := NB279_286.out; have hnb64 := NB286_287.out; have hnc64 := NB287_286.out; have hcz65_0 : w57.cell? ⟨gb286, 0, none⟩ = some (.int .i64 0) := cR BK286.out 0; have hcz65_1 : w57.cell? ⟨gb286, 1, none⟩ = some (.int .i64 0) := cR BK286.out 1; have hcz65_2 : w57.cell? ⟨gb286, 2, none⟩ = some (.int .i64 0) := cR BK286.out 2; have hfz65_0 := blk_frozen BK286.out 0; have hfz65_1 := blk_frozen BK286.out 1; have hfz65_2 := blk_frozen BK286.out 2; have hnb66 := NB287_262.out; have hnc66 := NB262_287.out; have hnb67 := NB287_263.out; have hnc67 := NB263_287.out; have hnb68 := NB287_264.out; have hnc68 := NB264_287.out; have hnb69 := NB287_268.out; have hnc69 := NB268_287.out; have hnb70 := NB287_272.out; have hnc70 := NB272_287.out; have hnb71 := NB287_279.out; have hnc71 := NB279_287.out; have hcz72_0 : w57.cell? ⟨gb287, 0, none⟩ = some (.int .i64 0) := cR BK287.out 0; have hcz72_1 : w57.cell? ⟨gb287, 1, none⟩ = some (.int .i64 0) := cR BK287.out 1; have hfz72_0 := blk_frozen BK287.out 0; have hfz72_1 := blk_frozen BK287.out 1) | ((with_reducible refine gate_callee (f := 30) rfl ?_); refine gL_ (some 42) Try.func30 #[.agg #[.int .i64 t280, .int .i64 t281, .int .i64 t282], .int .i64 t283, .agg #[.int .i64 t284, .int .i64 t285]] ?_; (with_reducible refine (impl_PutReg.calls t280 t281 t282 t283 t284 t285 t288 t289 t290 _ A10.out).mono ?_); rintro e w73 ⟨rfl, hb⟩; refine ⟨_, rfl, ?_⟩; have n0_ := Aside0.mk (blk_below (g := gb262) (o := .cells #[.int .i64 t253, .int .i64 t254, .int .i64 t255] 41 (0, 0)) (by (with_reducible repeat (first | refine blk_drewN ?_ _ | refine blk_drew ?_ | refine blk_alloc ?_ _)); refine blk_far ?_ NB262_287.out _; (with_reducible repeat (first | refine blk_drewN ?_ _ | refine blk_drew ?_ | refine blk_alloc ?_ _)); refine blk_far ?_ NB262_287.out _; (with_reducible repeat (first | refine blk_drewN ?_ _ | refine blk_drew ?_ | refine blk_alloc ?_ _)); refine blk_far ?_ NB262_286.out _; (with_reducible repeat (first | refine blk_drewN ?_ _ | refine blk_drew ?_ | refine blk_alloc ?_ _)); refine blk_far ?_ NB262_286.out _; (with_reducible repeat (first | refine blk_drewN ?_ _ | refine blk_drew ?_ | refine blk_alloc ?_ _)); refine blk_far ?_ NB262_286.out _; (with_reducible repeat (first | refine blk_drewN ?_ _ | refine blk_drew ?_ | refine blk_alloc ?_ _)); exact BK262.out) hb); have n1_ := Aside0.mk (blk_below (g := gb263) (o := .cells #[.int .i64 t256, .int .i64 t257, .int .i64 t258] 41 (0, 0)) (by (with_reducible repeat (first | refine blk_drewN ?_ _ | refine blk_drew ?_ | refine blk_alloc ?_ _)); refine blk_far ?_ NB263_287.out _; (with_reducible repeat (first | refine blk_drewN ?_ _ | refine blk_drew ?_ | refine blk_alloc ?_ _)); refine blk_far ?_ NB263_287.out _; (with_reducible repeat (first | refine blk_drewN ?_ _ | refine blk_drew ?_ | refine blk_alloc ?_ _)); refine blk_far ?_ NB263_286.out _; (with_reducible repeat (first | refine blk_drewN ?_ _ | refine blk_drew ?_ | refine blk_alloc ?_ _)); refine blk_far ?_ NB263_286.out _; (with_reducible repeat (first | refine blk_drewN ?_ _ | refine blk_drew ?_ | refine blk_alloc ?_ _)); refine blk_far ?_ NB263_286.out _; (with_reducible repeat (first | refine blk_drewN ?_ _ | refine blk_drew ?_ | refine blk_alloc ?_ _)); exact BK263.out) hb); have n2_ := Aside0.mk (blk_below (g := gb264) (o := .cells #[.int .i64 t259, .int .i64 t260, .int .i64 t261] 41 (0, 0)) (by (with_reducible repeat (first | refine blk_drewN ?_ _ | refine blk_drew ?_ | refine blk_alloc ?_ _)); refine blk_far ?_ NB264_287.out _; (with_reducible repeat (first | refine blk_drewN ?_ _ | refine blk_drew ?_ | refine blk_alloc ?_ _)); refine blk_far ?_ NB264_287.out _; (with_reducible repeat (first | refine blk_drewN ?_ _ | refine blk_drew ?_ | refine blk_alloc ?_ _)); refine blk_far ?_ NB264_286.out _; (with_reducible repeat (first | refine blk_drewN ?_ _ | refine blk_drew ?_ | refine blk_alloc ?_ _)); refine blk_far ?_ NB264_286.out _; (with_reducible repeat (first | refine blk_drewN ?_ _ | refine blk_drew ?_ | refine blk_alloc ?_ _)); refine blk_far ?_ NB264_286.out _; (with_reducible repeat (first | refine blk_drewN ?_ _ | refine blk_drew ?_ | refine blk_alloc ?_ _)); exact BK264.out) hb); have n3_ := Aside0.mk (blk_below (g := gb268) (o := .cells #[.int .i64 t265, .int .i64 t266, .int .i64 t267] 41 (0, 0)) (by (with_reducible repeat (first | refine blk_drewN ?_ _ | refine blk_drew ?_ | refine blk_alloc ?_ _)); refine blk_far ?_ NB268_287.out _; (with_reducible repeat (first | refine blk_drewN ?_ _ | refine blk_drew ?_ | refine blk_alloc ?_ _)); refine blk_far ?_ NB268_287.out _; (with_reducible repeat (first | refine blk_drewN ?_ _ | refine blk_drew ?_ | refine blk_alloc ?_ _)); refine blk_far ?_ NB268_286.out _; (with_reducible repeat (first | refine blk_drewN ?_ _ | refine blk_drew ?_ | refine blk_alloc ?_ _)); refine blk_far ?_ NB268_286.out _; (with_reducible repeat (first | refine blk_drewN ?_ _ | refine blk_drew ?_ | refine blk_alloc ?_ _)); refine blk_far ?_ NB268_286.out _; (with_reducible repeat (first | refine blk_drewN ?_ _ | refine blk_drew ?_ | refine blk_alloc ?_ _)); exact BK268.out) hb); have n4_ := Aside0.mk (blk_below (g := gb272) (o := .cells #[.int .i64 t269, .int .i64 t270, .int .i64 t271] 41 (0, 0)) (by (with_reducible repeat (first | refine blk_drewN ?_ _ | refine blk_drew ?_ | refine blk_alloc ?_ _)); refine blk_far ?_ NB272_287.out _; (with_reducible repeat (first | refine blk_drewN ?_ _ | refine blk_drew ?_ | refine blk_alloc ?_ _)); refine blk_far ?_ NB272_287.out _; (with_reducible repeat (first | refine blk_drewN ?_ _ | refine blk_drew ?_ | refine blk_alloc ?_ _)); refine blk_far ?_ NB272_286.out _; (with_reducible repeat (first | refine blk_drewN ?_ _ | refine blk_drew ?_ | refine blk_alloc ?_ _)); refine blk_far ?_ NB272_286.out _; (with_reducible repeat (first | refine blk_drewN ?_ _ | refine blk_drew ?_ | refine blk_alloc ?_ _)); refine blk_far ?_ NB272_286.out _; (with_reducible repeat (first | refine blk_drewN ?_ _ | refine blk_drew ?_ | refine blk_alloc ?_ _)); exact BK272.out) hb); have n5_ := Aside0.mk (blk_below (g := gb279) (o := .cells #[.int .i64 t276, .int .i64 t277, .int .i64 t278] 41 (0, 0)) (by (with_reducible repeat (first | refine blk_drewN ?_ _ | refine blk_drew ?_ | refine blk_alloc ?_ _)); refine blk_far ?_ NB279_287.out _; (with_reducible repeat (first | refine blk_drewN ?_ _ | refine blk_drew ?_ | refine blk_alloc ?_ _)); refine blk_far ?_ NB279_287.out _; (with_reducible repeat (first | refine blk_drewN ?_ _ | refine blk_drew ?_ | refine blk_alloc ?_ _)); refine blk_far ?_ NB279_286.out _; (with_reducible repeat (first | refine blk_drewN ?_ _ | refine blk_drew ?_ | refine blk_alloc ?_ _)); refine blk_far ?_ NB279_286.out _; (with_reducible repeat (first | refine blk_drewN ?_ _ | refine blk_drew ?_ | refine blk_alloc ?_ _)); refine blk_far ?_ NB279_286.out _; (with_reducible repeat (first | refine blk_drewN ?_ _ | refine blk_drew ?_ | refine blk_alloc ?_ _)); exact BK279.out) hb); have n6_ := Aside0.mk (blk_below (g := gb286) (o := .cells #[.int .i64 t280, .int .i64 t281, .int .i64 t282] 41 (0, 0)) (by (with_reducible repeat (first | refine blk_drewN ?_ _ | refine blk_drew ?_ | refine blk_alloc ?_ _)); refine blk_far ?_ NB286_287.out _; (with_reducible repeat (first | refine blk_drewN ?_ _ | refine blk_drew ?_ | refine blk_alloc ?_ _)); refine blk_far ?_ NB286_287.out _; (with_reducible repeat (first | refine blk_drewN ?_ _ | refine blk_drew ?_ | refine blk_alloc ?_ _)); refine blk_put (cs := #[.int .i64 t280, .int .i64 t281, .int .i64 0]) ?_ 2 _ rfl; (with_reducible repeat (first | refine blk_drewN ?_ _ | refine blk_drew ?_ | refine blk_alloc ?_ _)); refine blk_put (cs := #[.int .i64 t280, .int .i64 0, .int .i64 0]) ?_ 1 _ rfl; (with_reducible repeat (first | refine blk_drewN ?_ _ | refine blk_drew ?_ | refine blk_alloc ?_ _)); refine blk_put (cs := #[.int .i64 0, .int .i64 0, .int .i64 0]) ?_ 0 _ rfl; (with_reducible repeat (first | refine blk_drewN ?_ _ | refine blk_drew ?_ | refine blk_alloc ?_ _)); exact BK286.out) hb); have n7_ := Aside0.mk (blk_below (g := gb287) (o := .cells #[.int .i64 t284, .int .i64 t285] 39 (0, 0)) (by (with_reducible repeat (first | refine blk_drewN ?_ _ | refine blk_drew ?_ | refine blk_alloc ?_ _)); refine blk_put (cs := #[.int .i64 t284, .int .i64 0]) ?_ 1 _ rfl; (with_reducible repeat (first | refine blk_drewN ?_ _ | refine blk_drew ?_ | refine blk_alloc ?_ _)); refine blk_put (cs := #[.int .i64 0, .int .i64 0]) ?_ 0 _ rfl; (with_reducible repeat (first | refine blk_drewN ?_ _ | refine blk_drew ?_ | refine blk_alloc ?_ _)); refine blk_far ?_ NB287_286.out _; (with_reducible repeat (first | refine blk_drewN ?_ _ | refine blk_drew ?_ | refine blk_alloc ?_ _)); refine blk_far ?_ NB287_286.out _; (with_reducible repeat (first | refine blk_drewN ?_ _ | refine blk_drew ?_ | refine blk_alloc ?_ _)); refine blk_far ?_ NB287_286.out _; (with_reducible repeat (first | refine blk_drewN ?_ _ | refine blk_drew ?_ | refine blk_alloc ?_ _)); exact BK287.out) hb); have n8_ := Aside0.mk (below_step aH hb); clear BK262; clear BK263; clear BK264; clear BK268; clear BK272; clear BK279; clear BK286; clear BK287; clear HB; have BK262 := n0_; have BK263 := n1_; have BK264 := n2_; have BK268 := n3_; have BK272 := n4_; have BK279 := n5_; have BK286 := n6_; have BK287 := n7_; have HB := n8_; clear n0_ n1_ n2_ n3_ n4_ n5_ n6_ n7_ n8_; (try clear hb); (try clear hb2); (try clear hk); (try clear hi)) | ((with_reducible refine gate_dst (N := 12) rfl ?_); refine bE 12 #[.int .i64 0, .int .i64 0, .int .i64 0] 41 ?_; intro gb291 hg w74 hbox hb; have n0_ := Aside0.mk (kB BK262.out hb); have n1_ := Aside0.mk (kB BK263.out hb); have n2_ := Aside0.mk (kB BK264.out hb); have n3_ := Aside0.mk (kB BK268.out hb); have n4_ := Aside0.mk (kB BK272.out hb); have n5_ := Aside0.mk (kB BK279.out hb); have n6_ := Aside0.mk (kB BK286.out hb); have n7_ := Aside0.mk (kB BK287.out hb); have n8_ := Aside0.mk (below_step aH hb); have n9_ := Aside0.mk (hbox); have n10_ := Aside0.mk ((gS hg : w.heap.size ≤ gb291)); have n11_ := Aside0.mk ((gS hg : w.heap.size ≤ gb291)); have n12_ := Aside0.mk (gL hg BK262.out); have n13_ := Aside0.mk (gG hg BK262.out); have n14_ := Aside0.mk (gL hg BK263.out); have n15_ := Aside0.mk (gG hg BK263.out); have n16_ := Aside0.mk (gL hg BK264.out); have n17_ := Aside0.mk (gG hg BK264.out); have n18_ := Aside0.mk (gL hg BK268.out); have n19_ := Aside0.mk (gG hg BK268.out); have n20_ := Aside0.mk (gL hg BK272.out); have n21_ := Aside0.mk (gG hg BK272.out); have n22_ := Aside0.mk (gL hg BK279.out); have n23_ := Aside0.mk (gG hg BK279.out); have n24_ := Aside0.mk (gL hg BK286.out); have n25_ := Aside0.mk (gG hg BK286.out); have n26_ := Aside0.mk (gL hg BK287.out); have n27_ := Aside0.mk (gG hg BK287.out); clear BK262; clear BK263; clear BK264; clear BK268; clear BK272; clear BK279; clear BK286; clear BK287; clear HB; have BK262 := n0_; have BK263 := n1_; have BK264 := n2_; have BK268 := n3_; have BK272 := n4_; have BK279 := n5_; have BK286 := n6_; have BK287 := n7_; have HB := n8_; have BK291 := n9_; have GW291 := n10_; have GE291 := n11_; have NB262_291 := n12_; have NB291_262 := n13_; have NB263_291 := n14_; have NB291_263 := n15_; have NB264_291 := n16_; have NB291_264 := n17_; have NB268_291 := n18_; have NB291_268 := n19_; have NB272_291 := n20_; have NB291_272 := n21_; have NB279_291 := n22_; have NB291_279 := n23_; have NB286_291 := n24_; have NB291_286 := n25_; have NB287_291 := n26_; have NB291_287 := n27_; clear n0_ n1_ n2_ n3_ n4_ n5_ n6_ n7_ n8_ n9_ n10_ n11_ n12_ n13_ n14_ n15_ n16_ n17_ n18_ n19_ n20_ n21_ n22_ n23_ n24_ n25_ n26_ n27_; clear hb hbox hg; have hnb75 := NB291_262.out; have hnc75 := NB262_291.out; have hnb76 := NB291_263.out; have hnc76 := NB263_291.out; have hnb77 := NB291_264.out; have hnc77 := NB264_291.out; have hnb78 := NB291_268.out; have hnc78 := NB268_291.out; have hnb79 := NB291_272.out; have hnc79 := NB272_291.out; have hnb80 := NB291_279.out; have hnc80 := NB279_291.out; have hnb81 := NB291_286.out; have hnc81 := NB286_291.out; have hnb82 := NB291_287.out; have hnc82 := NB287_291.out; have hcz83_0 : w74.cell? ⟨gb291, 0, none⟩ = some (.int .i64 0) := cR BK291.out 0; have hcz83_1 : w74.cell? ⟨gb291, 1, none⟩ = some (.int .i64 0) := cR BK291.out 1; have hcz83_2 : w74.cell? ⟨gb291, 2, none⟩ = some (.int .i64 0) := cR BK291.out 2; have hfz83_0 := blk_frozen BK291.out 0; have hfz83_1 := blk_frozen BK291.out 1; have hfz83_2 := blk_frozen BK291.out 2; have hnb84 := NB262_279.out; have hnc84 := NB279_262.out; have hcz85_0 : w74.cell? ⟨gb262, 0, none⟩ = some (.int .i64 t253) := cR BK262.out 0; have hcz85_1 : w74.cell? ⟨gb262, 1, none⟩ = some (.int .i64 t254) := cR BK262.out 1; have hcz85_2 : w74.cell? ⟨gb262, 2, none⟩ = some (.int .i64 t255) := cR BK262.out 2; have hfz85_0 := blk_frozen BK262.out 0; have hfz85_1 := blk_frozen BK262.out 1; have hfz85_2 := blk_frozen BK262.out 2) | ((with_reducible refine gate_callee (f := 30) rfl ?_); refine gL_ (some 49) Try.func30 #[.agg #[.int .i64 t253, .int .i64 t254, .int .i64 t255], .int .i64 7, .agg #[.int .i64 (wrap64 (t254 + 1)), .int .i64 1]] ?_; (with_reducible refine (impl_PutReg.calls t253 t254 t255 7 (wrap64 (t254 + 1)) 1 t292 t293 t294 _ A11.out).mono ?_); rintro e w86 ⟨rfl, hb⟩; refine ⟨_, rfl, ?_⟩; have n0_ := Aside0.mk (blk_below (g := gb262) (o := .cells #[.int .i64 t253, .int .i64 t254, .int .i64 t255] 41 (0, 0)) (by (with_reducible repeat (first | refine blk_drewN ?_ _ | refine blk_drew ?_ | refine blk_alloc ?_ _)); refine blk_far ?_ NB262_291.out _; (with_reducible repeat (first | refine blk_drewN ?_ _ | refine blk_drew ?_ | refine blk_alloc ?_ _)); refine blk_far ?_ NB262_291.out _; (with_reducible repeat (first | refine blk_drewN ?_ _ | refine blk_drew ?_ | refine blk_alloc ?_ _)); refine blk_far ?_ NB262_291.out _; (with_reducible repeat (first | refine blk_drewN ?_ _ | refine blk_drew ?_ | refine blk_alloc ?_ _)); exact BK262.out) hb); have n1_ := Aside0.mk (blk_below (g := gb263) (o := .cells #[.int .i64 t256, .int .i64 t257, .int .i64 t258] 41 (0, 0)) (by (with_reducible repeat (first | refine blk_drewN ?_ _ | refine blk_drew ?_ | refine blk_alloc ?_ _)); refine blk_far ?_ NB263_291.out _; (with_reducible repeat (first | refine blk_drewN ?_ _ | refine blk_drew ?_ | refine blk_alloc ?_ _)); refine blk_far ?_ NB263_291.out _; (with_reducible repeat (first | refine blk_drewN ?_ _ | refine blk_drew ?_ | refine blk_alloc ?_ _)); refine blk_far ?_ NB263_291.out _; (with_reducible repeat (first | refine blk_drewN ?_ _ | refine blk_drew ?_ | refine blk_alloc ?_ _)); exact BK263.out) hb); have n2_ := Aside0.mk (blk_below (g := gb264) (o := .cells #[.int .i64 t259, .int .i64 t260, .int .i64 t261] 41 (0, 0)) (by (with_reducible repeat (first | refine blk_drewN ?_ _ | refine blk_drew ?_ | refine blk_alloc ?_ _)); refine blk_far ?_ NB264_291.out _; (with_reducible repeat (first | refine blk_drewN ?_ _ | refine blk_drew ?_ | refine blk_alloc ?_ _)); refine blk_far ?_ NB264_291.out _; (with_reducible repeat (first | refine blk_drewN ?_ _ | refine blk_drew ?_ | refine blk_alloc ?_ _)); refine blk_far ?_ NB264_291.out _; (with_reducible repeat (first | refine blk_drewN ?_ _ | refine blk_drew ?_ | refine blk_alloc ?_ _)); exact BK264.out) hb); have n3_ := Aside0.mk (blk_below (g := gb268) (o := .cells #[.int .i64 t265, .int .i64 t266, .int .i64 t267] 41 (0, 0)) (by (with_reducible repeat (first | refine blk_drewN ?_ _ | refine blk_drew ?_ | refine blk_alloc ?_ _)); refine blk_far ?_ NB268_291.out _; (with_reducible repeat (first | refine blk_drewN ?_ _ | refine blk_drew ?_ | refine blk_alloc ?_ _)); refine blk_far ?_ NB268_291.out _; (with_reducible repeat (first | refine blk_drewN ?_ _ | refine blk_drew ?_ | refine blk_alloc ?_ _)); refine blk_far ?_ NB268_291.out _; (with_reducible repeat (first | refine blk_drewN ?_ _ | refine blk_drew ?_ | refine blk_alloc ?_ _)); exact BK268.out) hb); have n4_ := Aside0.mk (blk_below (g := gb272) (o := .cells #[.int .i64 t269, .int .i64 t270, .int .i64 t271] 41 (0, 0)) (by (with_reducible repeat (first | refine blk_drewN ?_ _ | refine blk_drew ?_ | refine blk_alloc ?_ _)); refine blk_far ?_ NB272_291.out _; (with_reducible repeat (first | refine blk_drewN ?_ _ | refine blk_drew ?_ | refine blk_alloc ?_ _)); refine blk_far ?_ NB272_291.out _; (with_reducible repeat (first | refine blk_drewN ?_ _ | refine blk_drew ?_ | refine blk_alloc ?_ _)); refine blk_far ?_ NB272_291.out _; (with_reducible repeat (first | refine blk_drewN ?_ _ | refine blk_drew ?_ | refine blk_alloc ?_ _)); exact BK272.out) hb); have n5_ := Aside0.mk (blk_below (g := gb279) (o := .cells #[.int .i64 t276, .int .i64 t277, .int .i64 t278] 41 (0, 0)) (by (with_reducible repeat (first | refine blk_drewN ?_ _ | refine blk_drew ?_ | refine blk_alloc ?_ _)); refine blk_far ?_ NB279_291.out _; (with_reducible repeat (first | refine blk_drewN ?_ _ | refine blk_drew ?_ | refine blk_alloc ?_ _)); refine blk_far ?_ NB279_291.out _; (with_reducible repeat (first | refine blk_drewN ?_ _ | refine blk_drew ?_ | refine blk_alloc ?_ _)); refine blk_far ?_ NB279_291.out _; (with_reducible repeat (first | refine blk_drewN ?_ _ | refine blk_drew ?_ | refine blk_alloc ?_ _)); exact BK279.out) hb); have n6_ := Aside0.mk (blk_below (g := gb286) (o := .cells #[.int .i64 t280, .int .i64 t281, .int .i64 t282] 41 (0, 0)) (by (with_reducible repeat (first | refine blk_drewN ?_ _ | refine blk_drew ?_ | refine blk_alloc ?_ _)); refine blk_far ?_ NB286_291.out _; (with_reducible repeat (first | refine blk_drewN ?_ _ | refine blk_drew ?_ | refine blk_alloc ?_ _)); refine blk_far ?_ NB286_291.out _; (with_reducible repeat (first | refine blk_drewN ?_ _ | refine blk_drew ?_ | refine blk_alloc ?_ _)); refine blk_far ?_ NB286_291.out _; (with_reducible repeat (first | refine blk_drewN ?_ _ | refine blk_drew ?_ | refine blk_alloc ?_ _)); exact BK286.out) hb); have n7_ := Aside0.mk (blk_below (g := gb287) (o := .cells #[.int .i64 t284, .int .i64 t285] 39 (0, 0)) (by (with_reducible repeat (first | refine blk_drewN ?_ _ | refine blk_drew ?_ | refine blk_alloc ?_ _)); refine blk_far ?_ NB287_291.out _; (with_reducible repeat (first | refine blk_drewN ?_ _ | refine blk_drew ?_ | refine blk_alloc ?_ _)); refine blk_far ?_ NB287_291.out _; (with_reducible repeat (first | refine blk_drewN ?_ _ | refine blk_drew ?_ | refine blk_alloc ?_ _)); refine blk_far ?_ NB287_291.out _; (with_reducible repeat (first | refine blk_drewN ?_ _ | refine blk_drew ?_ | refine blk_alloc ?_ _)); exact BK287.out) hb); have n8_ := Aside0.mk (blk_below (g := gb291) (o := .cells #[.int .i64 t288, .int .i64 t289, .int .i64 t290] 41 (0, 0)) (by (with_reducible repeat (first | refine blk_drewN ?_ _ | refine blk_drew ?_ | refine blk_alloc ?_ _)); refine blk_put (cs := #[.int .i64 t288, .int .i64 t289, .int .i64 0]) ?_ 2 _ rfl; (with_reducible repeat (first | refine blk_drewN ?_ _ | refine blk_drew ?_ | refine blk_alloc ?_ _)); refine blk_put (cs := #[.int .i64 t288, .int .i64 0, .int .i64 0]) ?_ 1 _ rfl; (with_reducible repeat (first | refine blk_drewN ?_ _ | refine blk_drew ?_ | refine blk_alloc ?_ _)); refine blk_put (cs := #[.int .i64 0, .int .i64 0, .int .i64 0]) ?_ 0 _ rfl; (with_reducible repeat (first | refine blk_drewN ?_ _ | refine blk_drew ?_ | refine blk_alloc ?_ _)); exact BK291.out) hb); have n9_ := Aside0.mk (below_step aH hb); clear BK262; clear BK263; clear BK264; clear BK268; clear BK272; clear BK279; clear BK286; clear BK287; clear BK291; clear HB; have BK262 := n0_; have BK263 := n1_; have BK264 := n2_; have BK268 := n3_; have BK272 := n4_; have BK279 := n5_; have BK286 := n6_; have BK287 := n7_; have BK291 := n8_; have HB := n9_; clear n0_ n1_ n2_ n3_ n4_ n5_ n6_ n7_ n8_ n9_; (try clear hb); (try clear hb2); (try clear hk); (try clear hi)) | ((with_reducible refine gate_dst (N := 13) rfl ?_); refine bE 13 #[.int .i64 0, .int .i64 0, .int .i64 0] 41 ?_; intro gb295 hg w87 hbox hb; have n0_ := Aside0.mk (kB BK262.out hb); have n1_ := Aside0.mk (kB BK263.out hb); have n2_ := Aside0.mk (kB BK264.out hb); have n3_ := Aside0.mk (kB BK268.out hb); have n4_ := Aside0.mk (kB BK272.out hb); have n5_ := Aside0.mk (kB BK279.out hb); have n6_ := Aside0.mk (kB BK286.out hb); have n7_ := Aside0.mk (kB BK287.out hb); have n8_ := Aside0.mk (kB BK291.out hb); have n9_ := Aside0.mk (below_step aH hb); have n10_ := Aside0.mk (hbox); have n11_ := Aside0.mk ((gS hg : w.heap.size ≤ gb295)); have n12_ := Aside0.mk ((gS hg : w.heap.size ≤ gb295)); have n13_ := Aside0.mk (gL hg BK262.out); have n14_ := Aside0.mk (gG hg BK262.out); have n15_ := Aside0.mk (gL hg BK263.out); have n16_ := Aside0.mk (gG hg BK263.out); have n17_ := Aside0.mk (gL hg BK264.out); have n18_ := Aside0.mk (gG hg BK264.out); have n19_ := Aside0.mk (gL hg BK268.out); have n20_ := Aside0.mk (gG hg BK268.out); have n21_ := Aside0.mk (gL hg BK272.out); have n22_ := Aside0.mk (gG hg BK272.out); have n23_ := Aside0.mk (gL hg BK279.out); have n24_ := Aside0.mk (gG hg BK279.out); have n25_ := Aside0.mk (gL hg BK286.out); have n26_ := Aside0.mk (gG hg BK286.out); have n27_ := Aside0.mk (gL hg BK287.out); have n28_ := Aside0.mk (gG hg BK287.out); have n29_ := Aside0.mk (gL hg BK291.out); have n30_ := Aside0.mk (gG hg BK291.out); clear BK262; clear BK263; clear BK264; clear BK268; clear BK272; clear BK279; clear BK286; clear BK287; clear BK291; clear HB; have BK262 := n0_; have BK263 := n1_; have BK264 := n2_; have BK268 := n3_; have BK272 := n4_; have BK279 := n5_; have BK286 := n6_; have BK287 := n7_; have BK291 := n8_; have HB := n9_; have BK295 := n10_; have GW295 := n11_; have GE295 := n12_; have NB262_295 := n13_; have NB295_262 := n14_; have NB263_295 := n15_; have NB295_263 := n16_; have NB264_295 := n17_; have NB295_264 := n18_; have NB268_295 := n19_; have NB295_268 := n20_; have NB272_295 := n21_; have NB295_272 := n22_; have NB279_295 := n23_; have NB295_279 := n24_; have NB286_295 := n25_; have NB295_286 := n26_; have NB287_295 := n27_; have NB295_287 := n28_; have NB291_295 := n29_; have NB295_291 := n30_; clear n0_ n1_ n2_ n3_ n4_ n5_ n6_ n7_ n8_ n9_ n10_ n11_ n12_ n13_ n14_ n15_ n16_ n17_ n18_ n19_ n20_ n21_ n22_ n23_ n24_ n25_ n26_ n27_ n28_ n29_ n30_; clear hb hbox hg; have hnb88 := NB295_262.out; have hnc88 := NB262_295.out; have hnb89 := NB295_263.out; have hnc89 := NB263_295.out; have hnb90 := NB295_264.out; have hnc90 := NB264_295.out; have hnb91 := NB295_268.out; have hnc91 := NB268_295.out; have hnb92 := NB295_272.out; have hnc92 := NB272_295.out; have hnb93 := NB295_279.out; have hnc93 := NB279_295.out; have hnb94 := NB295_286.out; have hnc94 := NB286_295.out; have hnb95 := NB295_287.out; have hnc95 := NB287_295.out; have hnb96 := NB295_291.out; have hnc96 := NB291_295.out; have hcz97_0 : w87.cell? ⟨gb295, 0, none⟩ = some (.int .i64 0) := cR BK295.out 0; have hcz97_1 : w87.cell? ⟨gb295, 1, none⟩ = some (.int .i64 0) := cR BK295.out 1; have hcz97_2 : w87.cell? ⟨gb295, 2, none⟩ = some (.int .i64 0) := cR BK295.out 2; have hfz97_0 := blk_frozen BK295.out 0; have hfz97_1 := blk_frozen BK295.out 1; have hfz97_2 := blk_frozen BK295.out 2))
        have n0_ : Aside0 ((((w87.setCell ⟨gb295, 0, none⟩ (.int .i64 t292)).setCell ⟨gb295, 1, none⟩ (.int .i64 t293)).setCell ⟨gb295, 2, none⟩ (.int .i64 t294)).heap[gb262]? = some (.cells #[.int .i64 t253, .int .i64 t254, .int .i64 t255] 41 (0, 0))) := ⟨by (with_reducible repeat (first | refine blk_drewN ?_ _ | refine blk_drew ?_ | refine blk_alloc ?_ _)); refine blk_far ?_ NB262_295.out _; (with_reducible repeat (first | refine blk_drewN ?_ _ | refine blk_drew ?_ | refine blk_alloc ?_ _)); refine blk_far ?_ NB262_295.out _; (with_reducible repeat (first | refine blk_drewN ?_ _ | refine blk_drew ?_ | refine blk_alloc ?_ _)); refine blk_far ?_ NB262_295.out _; (with_reducible repeat (first | refine blk_drewN ?_ _ | refine blk_drew ?_ | refine blk_alloc ?_ _)); exact BK262.out⟩
        have n1_ : Aside0 ((((w87.setCell ⟨gb295, 0, none⟩ (.int .i64 t292)).setCell ⟨gb295, 1, none⟩ (.int .i64 t293)).setCell ⟨gb295, 2, none⟩ (.int .i64 t294)).heap[gb263]? = some (.cells #[.int .i64 t256, .int .i64 t257, .int .i64 t258] 41 (0, 0))) := ⟨by (with_reducible repeat (first | refine blk_drewN ?_ _ | refine blk_drew ?_ | refine blk_alloc ?_ _)); refine blk_far ?_ NB263_295.out _; (with_reducible repeat (first | refine blk_drewN ?_ _ | refine blk_drew ?_ | refine blk_alloc ?_ _)); refine blk_far ?_ NB263_295.out _; (with_reducible repeat (first | refine blk_drewN ?_ _ | refine blk_drew ?_ | refine blk_alloc ?_ _)); refine blk_far ?_ NB263_295.out _; (with_reducible repeat (first | refine blk_drewN ?_ _ | refine blk_drew ?_ | refine blk_alloc ?_ _)); exact BK263.out⟩
        have n2_ : Aside0 ((((w87.setCell ⟨gb295, 0, none⟩ (.int .i64 t292)).setCell ⟨gb295, 1, none⟩ (.int .i64 t293)).setCell ⟨gb295, 2, none⟩ (.int .i64 t294)).heap[gb264]? = some (.cells #[.int .i64 t259, .int .i64 t260, .int .i64 t261] 41 (0, 0))) := ⟨by (with_reducible repeat (first | refine blk_drewN ?_ _ | refine blk_drew ?_ | refine blk_alloc ?_ _)); refine blk_far ?_ NB264_295.out _; (with_reducible repeat (first | refine blk_drewN ?_ _ | refine blk_drew ?_ | refine blk_alloc ?_ _)); refine blk_far ?_ NB264_295.out _; (with_reducible repeat (first | refine blk_drewN ?_ _ | refine blk_drew ?_ | refine blk_alloc ?_ _)); refine blk_far ?_ NB264_295.out _; (with_reducible repeat (first | refine blk_drewN ?_ _ | refine blk_drew ?_ | refine blk_alloc ?_ _)); exact BK264.out⟩
        have n3_ : Aside0 ((((w87.setCell ⟨gb295, 0, none⟩ (.int .i64 t292)).setCell ⟨gb295, 1, none⟩ (.int .i64 t293)).setCell ⟨gb295, 2, none⟩ (.int .i64 t294)).heap[gb268]? = some (.cells #[.int .i64 t265, .int .i64 t266, .int .i64 t267] 41 (0, 0))) := ⟨by (with_reducible repeat (first | refine blk_drewN ?_ _ | refine blk_drew ?_ | refine blk_alloc ?_ _)); refine blk_far ?_ NB268_295.out _; (with_reducible repeat (first | refine blk_drewN ?_ _ | refine blk_drew ?_ | refine blk_alloc ?_ _)); refine blk_far ?_ NB268_295.out _; (with_reducible repeat (first | refine blk_drewN ?_ _ | refine blk_drew ?_ | refine blk_alloc ?_ _)); refine blk_far ?_ NB268_295.out _; (with_reducible repeat (first | refine blk_drewN ?_ _ | refine blk_drew ?_ | refine blk_alloc ?_ _)); exact BK268.out⟩
        have n4_ : Aside0 ((((w87.setCell ⟨gb295, 0, none⟩ (.int .i64 t292)).setCell ⟨gb295, 1, none⟩ (.int .i64 t293)).setCell ⟨gb295, 2, none⟩ (.int .i64 t294)).heap[gb272]? = some (.cells #[.int .i64 t269, .int .i64 t270, .int .i64 t271] 41 (0, 0))) := ⟨by (with_reducible repeat (first | refine blk_drewN ?_ _ | refine blk_drew ?_ | refine blk_alloc ?_ _)); refine blk_far ?_ NB272_295.out _; (with_reducible repeat (first | refine blk_drewN ?_ _ | refine blk_drew ?_ | refine blk_alloc ?_ _)); refine blk_far ?_ NB272_295.out _; (with_reducible repeat (first | refine blk_drewN ?_ _ | refine blk_drew ?_ | refine blk_alloc ?_ _)); refine blk_far ?_ NB272_295.out _; (with_reducible repeat (first | refine blk_drewN ?_ _ | refine blk_drew ?_ | refine blk_alloc ?_ _)); exact BK272.out⟩
        have n5_ : Aside0 ((((w87.setCell ⟨gb295, 0, none⟩ (.int .i64 t292)).setCell ⟨gb295, 1, none⟩ (.int .i64 t293)).setCell ⟨gb295, 2, none⟩ (.int .i64 t294)).heap[gb279]? = some (.cells #[.int .i64 t276, .int .i64 t277, .int .i64 t278] 41 (0, 0))) := ⟨by (with_reducible repeat (first | refine blk_drewN ?_ _ | refine blk_drew ?_ | refine blk_alloc ?_ _)); refine blk_far ?_ NB279_295.out _; (with_reducible repeat (first | refine blk_drewN ?_ _ | refine blk_drew ?_ | refine blk_alloc ?_ _)); refine blk_far ?_ NB279_295.out _; (with_reducible repeat (first | refine blk_drewN ?_ _ | refine blk_drew ?_ | refine blk_alloc ?_ _)); refine blk_far ?_ NB279_295.out _; (with_reducible repeat (first | refine blk_drewN ?_ _ | refine blk_drew ?_ | refine blk_alloc ?_ _)); exact BK279.out⟩
        have n6_ : Aside0 ((((w87.setCell ⟨gb295, 0, none⟩ (.int .i64 t292)).setCell ⟨gb295, 1, none⟩ (.int .i64 t293)).setCell ⟨gb295, 2, none⟩ (.int .i64 t294)).heap[gb286]? = some (.cells #[.int .i64 t280, .int .i64 t281, .int .i64 t282] 41 (0, 0))) := ⟨by (with_reducible repeat (first | refine blk_drewN ?_ _ | refine blk_drew ?_ | refine blk_alloc ?_ _)); refine blk_far ?_ NB286_295.out _; (with_reducible repeat (first | refine blk_drewN ?_ _ | refine blk_drew ?_ | refine blk_alloc ?_ _)); refine blk_far ?_ NB286_295.out _; (with_reducible repeat (first | refine blk_drewN ?_ _ | refine blk_drew ?_ | refine blk_alloc ?_ _)); refine blk_far ?_ NB286_295.out _; (with_reducible repeat (first | refine blk_drewN ?_ _ | refine blk_drew ?_ | refine blk_alloc ?_ _)); exact BK286.out⟩
        have n7_ : Aside0 ((((w87.setCell ⟨gb295, 0, none⟩ (.int .i64 t292)).setCell ⟨gb295, 1, none⟩ (.int .i64 t293)).setCell ⟨gb295, 2, none⟩ (.int .i64 t294)).heap[gb287]? = some (.cells #[.int .i64 t284, .int .i64 t285] 39 (0, 0))) := ⟨by (with_reducible repeat (first | refine blk_drewN ?_ _ | refine blk_drew ?_ | refine blk_alloc ?_ _)); refine blk_far ?_ NB287_295.out _; (with_reducible repeat (first | refine blk_drewN ?_ _ | refine blk_drew ?_ | refine blk_alloc ?_ _)); refine blk_far ?_ NB287_295.out _; (with_reducible repeat (first | refine blk_drewN ?_ _ | refine blk_drew ?_ | refine blk_alloc ?_ _)); refine blk_far ?_ NB287_295.out _; (with_reducible repeat (first | refine blk_drewN ?_ _ | refine blk_drew ?_ | refine blk_alloc ?_ _)); exact BK287.out⟩
        have n8_ : Aside0 ((((w87.setCell ⟨gb295, 0, none⟩ (.int .i64 t292)).setCell ⟨gb295, 1, none⟩ (.int .i64 t293)).setCell ⟨gb295, 2, none⟩ (.int .i64 t294)).heap[gb291]? = some (.cells #[.int .i64 t288, .int .i64 t289, .int .i64 t290] 41 (0, 0))) := ⟨by (with_reducible repeat (first | refine blk_drewN ?_ _ | refine blk_drew ?_ | refine blk_alloc ?_ _)); refine blk_far ?_ NB291_295.out _; (with_reducible repeat (first | refine blk_drewN ?_ _ | refine blk_drew ?_ | refine blk_alloc ?_ _)); refine blk_far ?_ NB291_295.out _; (with_reducible repeat (first | refine blk_drewN ?_ _ | refine blk_drew ?_ | refine blk_alloc ?_ _)); refine blk_far ?_ NB291_295.out _; (with_reducible repeat (first | refine blk_drewN ?_ _ | refine blk_drew ?_ | refine blk_alloc ?_ _)); exact BK291.out⟩
        have n9_ : Aside0 ((((w87.setCell ⟨gb295, 0, none⟩ (.int .i64 t292)).setCell ⟨gb295, 1, none⟩ (.int .i64 t293)).setCell ⟨gb295, 2, none⟩ (.int .i64 t294)).heap[gb295]? = some (.cells #[.int .i64 t292, .int .i64 t293, .int .i64 t294] 41 (0, 0))) := ⟨by (with_reducible repeat (first | refine blk_drewN ?_ _ | refine blk_drew ?_ | refine blk_alloc ?_ _)); refine blk_put (cs := #[.int .i64 t292, .int .i64 t293, .int .i64 0]) ?_ 2 _ rfl; (with_reducible repeat (first | refine blk_drewN ?_ _ | refine blk_drew ?_ | refine blk_alloc ?_ _)); refine blk_put (cs := #[.int .i64 t292, .int .i64 0, .int .i64 0]) ?_ 1 _ rfl; (with_reducible repeat (first | refine blk_drewN ?_ _ | refine blk_drew ?_ | refine blk_alloc ?_ _)); refine blk_put (cs := #[.int .i64 0, .int .i64 0, .int .i64 0]) ?_ 0 _ rfl; (with_reducible repeat (first | refine blk_drewN ?_ _ | refine blk_drew ?_ | refine blk_alloc ?_ _)); exact BK295.out⟩
        have n10_ : Aside0 (Below w.heap.size w (((w87.setCell ⟨gb295, 0, none⟩ (.int .i64 t292)).setCell ⟨gb295, 1, none⟩ (.int .i64 t293)).setCell ⟨gb295, 2, none⟩ (.int .i64 t294))) := ⟨aH⟩
        (try clear BK262)
        (try clear BK263)
        (try clear BK264)
        (try clear BK268)
        (try clear BK272)
        (try clear BK279)
        (try clear BK286)
        (try clear BK287)
        (try clear BK291)
        (try clear BK295)
        (try clear HB)
        generalize (((w87.setCell ⟨gb295, 0, none⟩ (.int .i64 t292)).setCell ⟨gb295, 1, none⟩ (.int .i64 t293)).setCell ⟨gb295, 2, none⟩ (.int .i64 t294)) = w98 at n0_ n1_ n2_ n3_ n4_ n5_ n6_ n7_ n8_ n9_ n10_ ⊢
        have BK262 := n0_
        have BK263 := n1_
        have BK264 := n2_
        have BK268 := n3_
        have BK272 := n4_
        have BK279 := n5_
        have BK286 := n6_
        have BK287 := n7_
        have BK291 := n8_
        have BK295 := n9_
        have HB := n10_
        clear n0_ n1_ n2_ n3_ n4_ n5_ n6_ n7_ n8_ n9_ n10_
        have n0_ := Aside0.mk (blk_drew BK262.out)
        have n1_ := Aside0.mk (blk_drew BK263.out)
        have n2_ := Aside0.mk (blk_drew BK264.out)
        have n3_ := Aside0.mk (blk_drew BK268.out)
        have n4_ := Aside0.mk (blk_drew BK272.out)
        have n5_ := Aside0.mk (blk_drew BK279.out)
        have n6_ := Aside0.mk (blk_drew BK286.out)
        have n7_ := Aside0.mk (blk_drew BK287.out)
        have n8_ := Aside0.mk (blk_drew BK291.out)
        have n9_ := Aside0.mk (blk_drew BK295.out)
        have n10_ := Aside0.mk (below_drew1 HB.out)
        clear BK262
        clear BK263
        clear BK264
        clear BK268
        clear BK272
        clear BK279
        clear BK286
        clear BK287
        clear BK291
        clear BK295
        clear HB
        have BK262 := n0_
        have BK263 := n1_
        have BK264 := n2_
        have BK268 := n3_
        have BK272 := n4_
        have BK279 := n5_
        have BK286 := n6_
        have BK287 := n7_
        have BK291 := n8_
        have BK295 := n9_
        have HB := n10_
        clear n0_ n1_ n2_ n3_ n4_ n5_ n6_ n7_ n8_ n9_ n10_
        refine start_ (n := 49) (S := fun w' => w'.cell? ⟨gb268, 0, none⟩ = some (.int .i64 t265) ∧ w'.cell? ⟨gb268, 1, none⟩ = some (.int .i64 t266) ∧ w'.cell? ⟨gb268, 2, none⟩ = some (.int .i64 t267) ∧ w'.cell? ⟨gb263, 0, none⟩ = some (.int .i64 t256) ∧ w'.cell? ⟨gb263, 1, none⟩ = some (.int .i64 t257) ∧ w'.cell? ⟨gb263, 2, none⟩ = some (.int .i64 t258) ∧ w'.cell? ⟨gb262, 0, none⟩ = some (.int .i64 t253) ∧ w'.cell? ⟨gb262, 1, none⟩ = some (.int .i64 t254) ∧ w'.cell? ⟨gb262, 2, none⟩ = some (.int .i64 t255) ∧ w'.cell? ⟨gb272, 0, none⟩ = some (.int .i64 t269) ∧ w'.cell? ⟨gb272, 1, none⟩ = some (.int .i64 t270) ∧ w'.cell? ⟨gb272, 2, none⟩ = some (.int .i64 t271) ∧ w'.cell? ⟨gb279, 0, none⟩ = some (.int .i64 t276) ∧ w'.cell? ⟨gb279, 1, none⟩ = some (.int .i64 t277) ∧ w'.cell? ⟨gb279, 2, none⟩ = some (.int .i64 t278) ∧ w'.cell? ⟨gb291, 0, none⟩ = some (.int .i64 t288) ∧ w'.cell? ⟨gb291, 1, none⟩ = some (.int .i64 t289) ∧ w'.cell? ⟨gb291, 2, none⟩ = some (.int .i64 t290) ∧ w'.cell? ⟨gb286, 0, none⟩ = some (.int .i64 t280) ∧ w'.cell? ⟨gb286, 1, none⟩ = some (.int .i64 t281) ∧ w'.cell? ⟨gb286, 2, none⟩ = some (.int .i64 t282) ∧ w'.cell? ⟨gb287, 0, none⟩ = some (.int .i64 t284) ∧ w'.cell? ⟨gb287, 1, none⟩ = some (.int .i64 t285) ∧ w'.cell? ⟨gb295, 0, none⟩ = some (.int .i64 t292) ∧ w'.cell? ⟨gb295, 1, none⟩ = some (.int .i64 t293) ∧ w'.cell? ⟨gb295, 2, none⟩ = some (.int .i64 t294)) (ds := []) bb6_0 (by kernel_rfl) rfl rfl ⟨cR BK268.out 0, cR BK268.out 1, cR BK268.out 2, cR BK263.out 0, cR BK263.out 1, cR BK263.out 2, cR BK262.out 0, cR BK262.out 1, cR BK262.out 2, cR BK272.out 0, cR BK272.out 1, cR BK272.out 2, cR BK279.out 0, cR BK279.out 1, cR BK279.out 2, cR BK291.out 0, cR BK291.out 1, cR BK291.out 2, cR BK286.out 0, cR BK286.out 1, cR BK286.out 2, cR BK287.out 0, cR BK287.out 1, cR BK295.out 0, cR BK295.out 1, cR BK295.out 2⟩ (fun hHeld => ?_); refine with_tabW laws_FnRegs.tab10 laws_FnRegs.bits10 (fun HT_ HW_ => ?_)
        generalize w98.drew = w99 at BK262 BK263 BK264 BK268 BK272 BK279 BK286 BK287 BK291 BK295 HB hHeld ⊢
        refine tP 0 50 bb6_1 ?_
        refine tP 1 51 bb6_2 ?_
        refine tP 2 52 bb6_3 ?_
        refine one_ (i := 3) (N := some 53) bb6_4 rfl rfl (one_of HT_.out (by kernel_rfl)) (by decide) (fun K hK => ?_)
        refine goes_ Try.func28 (by kernel_rfl) rfl #[.agg #[.int .i64 t256, .int .i64 t257, .int .i64 t258], .agg #[.int .i64 t253, .int .i64 t254, .int .i64 t255]] (by rfl) rfl rfl (by (try simp only [List.map_toArray, List.map_cons, List.map_nil]); first | done | rfl | (simp only [List.length_drop, List.length_take]; rfl)) ?_
        with_reducible refine (impl_JoinReg.calls k t256 t257 t258 t253 t254 t255 t296 t297 t298 _ A12.out).mono ?_
        rintro e w100 ⟨rfl, hb⟩
        refine ⟨_, rfl, ?_⟩
        have n0_ := Aside0.mk (kB BK262.out hb)
        have n1_ := Aside0.mk (kB BK263.out hb)
        have n2_ := Aside0.mk (kB BK264.out hb)
        have n3_ := Aside0.mk (kB BK268.out hb)
        have n4_ := Aside0.mk (kB BK272.out hb)
        have n5_ := Aside0.mk (kB BK279.out hb)
        have n6_ := Aside0.mk (kB BK286.out hb)
        have n7_ := Aside0.mk (kB BK287.out hb)
        have n8_ := Aside0.mk (kB BK291.out hb)
        have n9_ := Aside0.mk (kB BK295.out hb)
        have n10_ := Aside0.mk (below_step aH hb)
        clear BK262
        clear BK263
        clear BK264
        clear BK268
        clear BK272
        clear BK279
        clear BK286
        clear BK287
        clear BK291
        clear BK295
        clear HB
        have BK262 := n0_
        have BK263 := n1_
        have BK264 := n2_
        have BK268 := n3_
        have BK272 := n4_
        have BK279 := n5_
        have BK286 := n6_
        have BK287 := n7_
        have BK291 := n8_
        have BK295 := n9_
        have HB := n10_
        clear n0_ n1_ n2_ n3_ n4_ n5_ n6_ n7_ n8_ n9_ n10_
        (try clear hb)
        (try clear hb2)
        (try clear hk)
        (try clear hi)
        refine hK.out _ _ ⟨cR BK268.out 0, cR BK268.out 1, cR BK268.out 2, cR BK263.out 0, cR BK263.out 1, cR BK263.out 2, cR BK262.out 0, cR BK262.out 1, cR BK262.out 2, cR BK272.out 0, cR BK272.out 1, cR BK272.out 2, cR BK279.out 0, cR BK279.out 1, cR BK279.out 2, cR BK291.out 0, cR BK291.out 1, cR BK291.out 2, cR BK286.out 0, cR BK286.out 1, cR BK286.out 2, cR BK287.out 0, cR BK287.out 1, cR BK295.out 0, cR BK295.out 1, cR BK295.out 2⟩ (fun hHeld => ?_)
        clear hK K
        refine nP 53 ?_
        refine pP 4 54 bb6_5 ?_
        refine pP 5 55 bb6_6 ?_
        refine tP 6 56 bb6_7 ?_
        refine tP 7 57 bb6_8 ?_
        refine tP 9 59 bb6_9 ?_
        refine one_ (i := 8) (N := some 58) bb6_10 rfl rfl (one_of HT_.out (by kernel_rfl)) (by decide) (fun K hK => ?_)
        refine goes_ Try.func28 (by kernel_rfl) rfl #[.agg #[.int .i64 t265, .int .i64 t266, .int .i64 t267], .agg #[.int .i64 t253, .int .i64 t254, .int .i64 t255]] (by rfl) rfl rfl (by (try simp only [List.map_toArray, List.map_cons, List.map_nil]); first | done | rfl | (simp only [List.length_drop, List.length_take]; rfl)) ?_
        with_reducible refine (impl_JoinReg.calls k t265 t266 t267 t253 t254 t255 t299 t300 t301 _ A14.out).mono ?_
        rintro e w101 ⟨rfl, hb⟩
        refine ⟨_, rfl, ?_⟩
        have n0_ := Aside0.mk (kB BK262.out hb)
        have n1_ := Aside0.mk (kB BK263.out hb)
        have n2_ := Aside0.mk (kB BK264.out hb)
        have n3_ := Aside0.mk (kB BK268.out hb)
        have n4_ := Aside0.mk (kB BK272.out hb)
        have n5_ := Aside0.mk (kB BK279.out hb)
        have n6_ := Aside0.mk (kB BK286.out hb)
        have n7_ := Aside0.mk (kB BK287.out hb)
        have n8_ := Aside0.mk (kB BK291.out hb)
        have n9_ := Aside0.mk (kB BK295.out hb)
        have n10_ := Aside0.mk (below_step aH hb)
        clear BK262
        clear BK263
        clear BK264
        clear BK268
        clear BK272
        clear BK279
        clear BK286
        clear BK287
        clear BK291
        clear BK295
        clear HB
        have BK262 := n0_
        have BK263 := n1_
        have BK264 := n2_
        have BK268 := n3_
        have BK272 := n4_
        have BK279 := n5_
        have BK286 := n6_
        have BK287 := n7_
        have BK291 := n8_
        have BK295 := n9_
        have HB := n10_
        clear n0_ n1_ n2_ n3_ n4_ n5_ n6_ n7_ n8_ n9_ n10_
        (try clear hb)
        (try clear hb2)
        (try clear hk)
        (try clear hi)
        refine hK.out _ _ ⟨cR BK268.out 0, cR BK268.out 1, cR BK268.out 2, cR BK263.out 0, cR BK263.out 1, cR BK263.out 2, cR BK262.out 0, cR BK262.out 1, cR BK262.out 2, cR BK272.out 0, cR BK272.out 1, cR BK272.out 2, cR BK279.out 0, cR BK279.out 1, cR BK279.out 2, cR BK291.out 0, cR BK291.out 1, cR BK291.out 2, cR BK286.out 0, cR BK286.out 1, cR BK286.out 2, cR BK287.out 0, cR BK287.out 1, cR BK295.out 0, cR BK295.out 1, cR BK295.out 2⟩ (fun hHeld => ?_)
        clear hK K
        refine nP 58 ?_
        refine pP 10 60 bb6_11 ?_
        refine pP 11 61 bb6_12 ?_
        refine pP 12 62 bb6_13 ?_
        refine tP 13 63 bb6_14 ?_
        refine tP 14 64 bb6_15 ?_
        refine pP 15 65 bb6_16 ?_
        refine pP 16 66 bb6_17 ?_
        refine pP 17 67 bb6_18 ?_
        refine tP 18 68 bb6_19 ?_
        refine tP 19 69 bb6_20 ?_
        refine pP 20 70 bb6_21 ?_
        refine pP 21 71 bb6_22 ?_
        refine pU 22 72 bb6_23 ?_
        refine pU 23 73 bb6_24 ?_
        refine pU 24 74 bb6_25 ?_
        refine pP 25 75 bb6_26 ?_
        refine pP 26 76 bb6_27 ?_
        refine pP 27 77 bb6_28 ?_
        refine pP 30 80 bb6_29 ?_
        refine tP 28 78 bb6_30 ?_
        refine tP 29 79 bb6_31 ?_
        refine tP 31 81 bb6_32 ?_
        refine one_ (i := 32) (N := some 82) bb6_33 rfl rfl (one_of HT_.out (by kernel_rfl)) (by decide) (fun K hK => ?_)
        refine goes_ Try.func31 (by kernel_rfl) rfl #[.agg #[.int .i64 t280, .int .i64 t281, .int .i64 t282], .int .i64 t283, .agg #[.int .i64 t284, .int .i64 t285]] (by rfl) rfl rfl (by (try simp only [List.map_toArray, List.map_cons, List.map_nil]); first | done | rfl | (simp only [List.length_drop, List.length_take]; rfl)) ?_
        with_reducible refine (spec_PutReg.calls t280 t281 t282 t283 t284 t285 t302 t303 t304 _ A18.out).mono ?_
        rintro e w102 ⟨rfl, hb⟩
        refine ⟨_, rfl, ?_⟩
        have n0_ := Aside0.mk (kB BK262.out hb)
        have n1_ := Aside0.mk (kB BK263.out hb)
        have n2_ := Aside0.mk (kB BK264.out hb)
        have n3_ := Aside0.mk (kB BK268.out hb)
        have n4_ := Aside0.mk (kB BK272.out hb)
        have n5_ := Aside0.mk (kB BK279.out hb)
        have n6_ := Aside0.mk (kB BK286.out hb)
        have n7_ := Aside0.mk (kB BK287.out hb)
        have n8_ := Aside0.mk (kB BK291.out hb)
        have n9_ := Aside0.mk (kB BK295.out hb)
        have n10_ := Aside0.mk (below_step aH hb)
        clear BK262
        clear BK263
        clear BK264
        clear BK268
        clear BK272
        clear BK279
        clear BK286
        clear BK287
        clear BK291
        clear BK295
        clear HB
        have BK262 := n0_
        have BK263 := n1_
        have BK264 := n2_
        have BK268 := n3_
        have BK272 := n4_
        have BK279 := n5_
        have BK286 := n6_
        have BK287 := n7_
        have BK291 := n8_
        have BK295 := n9_
        have HB := n10_
        clear n0_ n1_ n2_ n3_ n4_ n5_ n6_ n7_ n8_ n9_ n10_
        (try clear hb)
        (try clear hb2)
        (try clear hk)
        (try clear hi)
        refine hK.out _ _ ⟨cR BK268.out 0, cR BK268.out 1, cR BK268.out 2, cR BK263.out 0, cR BK263.out 1, cR BK263.out 2, cR BK262.out 0, cR BK262.out 1, cR BK262.out 2, cR BK272.out 0, cR BK272.out 1, cR BK272.out 2, cR BK279.out 0, cR BK279.out 1, cR BK279.out 2, cR BK291.out 0, cR BK291.out 1, cR BK291.out 2, cR BK286.out 0, cR BK286.out 1, cR BK286.out 2, cR BK287.out 0, cR BK287.out 1, cR BK295.out 0, cR BK295.out 1, cR BK295.out 2⟩ (fun hHeld => ?_)
        clear hK K
        refine nP 82 ?_
        refine pP 33 83 bb6_34 ?_
        refine pP 34 84 bb6_35 ?_
        refine pP 35 85 bb6_36 ?_
        refine pP 36 86 bb6_37 ?_
        refine tP 37 87 bb6_38 ?_
        refine pP 38 88 bb6_39 ?_
        refine pP 39 89 bb6_40 ?_
        refine pP 40 90 bb6_41 ?_
        refine pP 42 92 bb6_42 ?_
        refine tP 41 91 bb6_43 ?_
        refine tP 43 93 bb6_44 ?_
        refine tP 45 95 bb6_45 ?_
        refine one_ (i := 44) (N := some 94) bb6_46 rfl rfl (one_of HT_.out (by kernel_rfl)) (by decide) (fun K hK => ?_)
        refine goes_ Try.func30 (by kernel_rfl) rfl #[.agg #[.int .i64 t292, .int .i64 t293, .int .i64 t294], .int .i64 3, .agg #[.int .i64 t254, .int .i64 t255]] (by rfl) rfl rfl (by (try simp only [List.map_toArray, List.map_cons, List.map_nil]); first | done | rfl | (simp only [List.length_drop, List.length_take]; rfl)) ?_
        with_reducible refine (impl_PutReg.calls t292 t293 t294 3 t254 t255 t305 t306 t307 _ A21.out).mono ?_
        rintro e w103 ⟨rfl, hb⟩
        refine ⟨_, rfl, ?_⟩
        have n0_ := Aside0.mk (kB BK262.out hb)
        have n1_ := Aside0.mk (kB BK263.out hb)
        have n2_ := Aside0.mk (kB BK264.out hb)
        have n3_ := Aside0.mk (kB BK268.out hb)
        have n4_ := Aside0.mk (kB BK272.out hb)
        have n5_ := Aside0.mk (kB BK279.out hb)
        have n6_ := Aside0.mk (kB BK286.out hb)
        have n7_ := Aside0.mk (kB BK287.out hb)
        have n8_ := Aside0.mk (kB BK291.out hb)
        have n9_ := Aside0.mk (kB BK295.out hb)
        have n10_ := Aside0.mk (below_step aH hb)
        clear BK262
        clear BK263
        clear BK264
        clear BK268
        clear BK272
        clear BK279
        clear BK286
        clear BK287
        clear BK291
        clear BK295
        clear HB
        have BK262 := n0_
        have BK263 := n1_
        have BK264 := n2_
        have BK268 := n3_
        have BK272 := n4_
        have BK279 := n5_
        have BK286 := n6_
        have BK287 := n7_
        have BK291 := n8_
        have BK295 := n9_
        have HB := n10_
        clear n0_ n1_ n2_ n3_ n4_ n5_ n6_ n7_ n8_ n9_ n10_
        (try clear hb)
        (try clear hb2)
        (try clear hk)
        (try clear hi)
        refine hK.out _ _ ⟨cR BK268.out 0, cR BK268.out 1, cR BK268.out 2, cR BK263.out 0, cR BK263.out 1, cR BK263.out 2, cR BK262.out 0, cR BK262.out 1, cR BK262.out 2, cR BK272.out 0, cR BK272.out 1, cR BK272.out 2, cR BK279.out 0, cR BK279.out 1, cR BK279.out 2, cR BK291.out 0, cR BK291.out 1, cR BK291.out 2, cR BK286.out 0, cR BK286.out 1, cR BK286.out 2, cR BK287.out 0, cR BK287.out 1, cR BK295.out 0, cR BK295.out 1, cR BK295.out 2⟩ (fun hHeld => ?_)
        clear hK K
        refine nP 94 ?_
        refine pP 46 96 bb6_47 ?_
        refine pP 47 97 bb6_48 ?_
        refine pP 48 2 bb6_49 ?_
        refine done_ (done_of HT_.out (by kernel_rfl)) ?_
        try go_wp2
        go_ret
        exact ⟨by first | rfl | (simp [errW_none, errW_some] <;> rfl) | (simp [*, errW_none, errW_some] <;> rfl), aH⟩
       ·rw [if_neg c20] at H
        have c20b0 : (t292 == 7) = false := beq_eq_false_iff_ne.mpr c20
        have c20b1 : (t292 != 7) = true := bne_iff_ne.mpr c20
        exact absurd H (by simp)
      ·rw [if_neg c19] at H
       have c19b0 : (t288 == t302 && ((t289 == t303 && (t290 == t304)))) = false := by simpa using c19
       (try (have c19b1 : decide (t288 = t302 && ((t289 == t303 && (t290 == t304)))) = false := by simpa using c19))
       (try (have c19b2 : (t288 == t302 && ((t289 == t303 && (t290 == t304)))) = false := by simpa using c19))
       (try (have c19b3 : ¬ (t288 = t302 && ((t289 == t303 && (t290 == t304)))) := by simpa using c19))
       clear c19
       exact absurd H (by simp)
     ·rw [if_neg c17] at H
      have c17b0 : (t265 == t253 && ((t266 == t254 && (t267 == t255)))) = false := by simpa using c17
      (try (have c17b1 : decide (t265 = t253 && ((t266 == t254 && (t267 == t255)))) = false := by simpa using c17))
      (try (have c17b2 : (t265 == t253 && ((t266 == t254 && (t267 == t255)))) = false := by simpa using c17))
      (try (have c17b3 : ¬ (t265 = t253 && ((t266 == t254 && (t267 == t255)))) := by simpa using c17))
      clear c17
      by_cases c104 : (t265 == t256 && ((t266 == t257 && (t267 == t258)))) = true
      ·rw [if_pos c104] at H
       have c104b0 : (t265 == t256 && ((t266 == t257 && (t267 == t258)))) = true := c104
       (try (have c104b1 : decide (t265 = t256 && ((t266 == t257 && (t267 == t258)))) = true := by simpa using c104))
       (try (have c104b2 : (t265 == t256 && ((t266 == t257 && (t267 == t258)))) = true := by simpa using c104))
       clear c104
       replace H := Option.bind_eq_some_iff.mp H
       obtain ⟨⟨t308, t309, t310⟩, A1050, H⟩ := H
       try dsimp only at H
       have A105 := Aside0.mk A1050
       clear A1050
       by_cases c106 : (t288 == t308 && ((t289 == t309 && (t290 == t310)))) = true
       ·rw [if_pos c106] at H
        have c106b0 : (t288 == t308 && ((t289 == t309 && (t290 == t310)))) = true := c106
        (try (have c106b1 : decide (t288 = t308 && ((t289 == t309 && (t290 == t310)))) = true := by simpa using c106))
        (try (have c106b2 : (t288 == t308 && ((t289 == t309 && (t290 == t310)))) = true := by simpa using c106))
        clear c106
        by_cases c107 : t292 = 7
        ·rw [if_pos c107] at H
         have c107b0 : (t292 == 7) = true := beq_iff_eq.mpr c107
         have c107b1 : (t292 != 7) = false := bne_eq_false_iff_eq.mpr c107
         clear c107
         replace H := Option.bind_eq_some_iff.mp H
         obtain ⟨⟨t311, t312, t313⟩, A1080, H⟩ := H
         replace H : (some (t311 == t292 && ((t312 == t293 && (t313 == t294))))) = some r := H
         have A108 := Aside0.mk A1080
         clear A1080
         obtain rfl := Option.some.inj H
         go_enter Try.func5, Try.ntmps5
         try go_wp2_with (first | ((with_reducible refine gate_callee (f := 20) rfl ?_); refine gL_ (some 15) Try.func20 #[.slice A0 l0.length c0] ?_; (with_reducible refine (laws_big.calls _ _ l0 false _ ?side1 ?side2 A2.out).mono ?_); (case side1 => repeat (first | exact HR0.out | (with_reducible refine Kd.C_alloc ?_ _) | (with_reducible refine Kd.C_drewN ?_ _) | (with_reducible refine Kd.C_drew ?_))); (case side2 => exact HC0.out); rintro e w' ⟨rfl, ⟨nd, rfl⟩⟩; refine ⟨_, rfl, ?_⟩) | ((with_reducible refine gate_callee (f := 27) rfl ?_); refine gL_ (some 18) Try.func27 #[.slice A0 l0.length c0] ?_; (with_reducible refine (spec_DrawRegs.calls k _ _ l0 t253 t254 t255 t256 t257 t258 t259 t260 t261 _ ?side1 ?side2 A4.out).mono ?_); (case side1 => repeat (first | exact HR0.out | (with_reducible refine Kd.C_alloc ?_ _) | (with_reducible refine Kd.C_drewN ?_ _) | (with_reducible refine Kd.C_drew ?_))); (case side2 => exact HC0.out); rintro e w109 ⟨rfl, hb⟩; refine ⟨_, rfl, ?_⟩; have n0_ := Aside0.mk (below_step aH hb); clear HB; have HB := n0_; clear n0_; (try clear hb); (try clear hb2); (try clear hk); (try clear hi)) | ((with_reducible refine gate_dst (N := 3) rfl ?_); refine bE 3 #[.int .i64 0, .int .i64 0, .int .i64 0] 41 ?_; intro gb262 hg w110 hbox hb; have n0_ := Aside0.mk (below_step aH hb); have n1_ := Aside0.mk (hbox); have n2_ := Aside0.mk ((gS hg : w.heap.size ≤ gb262)); have n3_ := Aside0.mk ((gS hg : w.heap.size ≤ gb262)); clear HB; have HB := n0_; have BK262 := n1_; have GW262 := n2_; have GE262 := n3_; clear n0_ n1_ n2_ n3_; clear hb hbox hg) | ((with_reducible refine gate_dst (N := 4) rfl ?_); refine bE 4 #[.int .i64 0, .int .i64 0, .int .i64 0] 41 ?_; intro gb263 hg w111 hbox hb; have n0_ := Aside0.mk (kB BK262.out hb); have n1_ := Aside0.mk (below_step aH hb); have n2_ := Aside0.mk (hbox); have n3_ := Aside0.mk ((gS hg : w.heap.size ≤ gb263)); have n4_ := Aside0.mk ((gS hg : w.heap.size ≤ gb263)); have n5_ := Aside0.mk (gL hg BK262.out); have n6_ := Aside0.mk (gG hg BK262.out); clear BK262; clear HB; have BK262 := n0_; have HB := n1_; have BK263 := n2_; have GW263 := n3_; have GE263 := n4_; have NB262_263 := n5_; have NB263_262 := n6_; clear n0_ n1_ n2_ n3_ n4_ n5_ n6_; clear hb hbox hg) | ((with_reducible refine gate_dst (N := 5) rfl ?_); refine bE 5 #[.int .i64 0, .int .i64 0, .int .i64 0] 41 ?_; intro gb264 hg w112 hbox hb; have n0_ := Aside0.mk (kB BK262.out hb); have n1_ := Aside0.mk (kB BK263.out hb); have n2_ := Aside0.mk (below_step aH hb); have n3_ := Aside0.mk (hbox); have n4_ := Aside0.mk ((gS hg : w.heap.size ≤ gb264)); have n5_ := Aside0.mk ((gS hg : w.heap.size ≤ gb264)); have n6_ := Aside0.mk (gL hg BK262.out); have n7_ := Aside0.mk (gG hg BK262.out); have n8_ := Aside0.mk (gL hg BK263.out); have n9_ := Aside0.mk (gG hg BK263.out); clear BK262; clear BK263; clear HB; have BK262 := n0_; have BK263 := n1_; have HB := n2_; have BK264 := n3_; have GW264 := n4_; have GE264 := n5_; have NB262_264 := n6_; have NB264_262 := n7_; have NB263_264 := n8_; have NB264_263 := n9_; clear n0_ n1_ n2_ n3_ n4_ n5_ n6_ n7_ n8_ n9_; clear hb hbox hg; have hnb113 := NB262_263.out; have hnc113 := NB263_262.out; have hnb114 := NB262_264.out; have hnc114 := NB264_262.out; have hcz115_0 : w112.cell? ⟨gb262, 0, none⟩ = some (.int .i64 0) := cR BK262.out 0; have hcz115_1 : w112.cell? ⟨gb262, 1, none⟩ = some (.int .i64 0) := cR BK262.out 1; have hcz115_2 : w112.cell? ⟨gb262, 2, none⟩ = some (.int .i64 0) := cR BK262.out 2; have hfz115_0 := blk_frozen BK262.out 0; have hfz115_1 := blk_frozen BK262.out 1; have hfz115_2 := blk_frozen BK262.out 2; have hnb116 := NB263_264.out; have hnc116 := NB264_263.out; have hcz117_0 : w112.cell? ⟨gb263, 0, none⟩ = some (.int .i64 0) := cR BK263.out 0; have hcz117_1 : w112.cell? ⟨gb263, 1, none⟩ = some (.int .i64 0) := cR BK263.out 1; have hcz117_2 : w112.cell? ⟨gb263, 2, none⟩ = some (.int .i64 0) := cR BK263.out 2; have hfz117_0 := blk_frozen BK263.out 0; have hfz117_1 := blk_frozen BK263.out 1; have hfz117_2 := blk_frozen BK263.out 2; have hcz118_0 : w112.cell? ⟨gb264, 0, none⟩ = some (.int .i64 0) := cR BK264.out 0; have hcz118_1 : w112.cell? ⟨gb264, 1, none⟩ = some (.int .i64 0) := cR BK264.out 1; have hcz118_2 : w112.cell? ⟨gb264, 2, none⟩ = some (.int .i64 0) := cR BK264.out 2; have hfz118_0 := blk_frozen BK264.out 0; have hfz118_1 := blk_frozen BK264.out 1; have hfz118_2 := blk_frozen BK264.out 2) | ((with_reducible refine gate_callee (f := 28) rfl ?_); refine gL_ (some 24) Try.func28 #[.agg #[.int .i64 t253, .int .i64 t254, .int .i64 t255], .agg #[.int .i64 t256, .int .i64 t257, .int .i64 t258]] ?_; (with_reducible refine (impl_JoinReg.calls k t253 t254 t255 t256 t257 t258 t265 t266 t267 _ A5.out).mono ?_); rintro e w119 ⟨rfl, hb⟩; refine ⟨_, rfl, ?_⟩; have n0_ := Aside0.mk (blk_below (g := gb262) (o := .cells #[.int .i64 t253, .int .i64 t254, .int .i64 t255] 41 (0, 0)) (by (with_reducible repeat (first | refine blk_drewN ?_ _ | refine blk_drew ?_ | refine blk_alloc ?_ _)); refine blk_far ?_ NB262_264.out _; (with_reducible repeat (first | refine blk_drewN ?_ _ | refine blk_drew ?_ | refine blk_alloc ?_ _)); refine blk_far ?_ NB262_264.out _; (with_reducible repeat (first | refine blk_drewN ?_ _ | refine blk_drew ?_ | refine blk_alloc ?_ _)); refine blk_far ?_ NB262_264.out _; (with_reducible repeat (first | refine blk_drewN ?_ _ | refine blk_drew ?_ | refine blk_alloc ?_ _)); refine blk_far ?_ NB262_263.out _; (with_reducible repeat (first | refine blk_drewN ?_ _ | refine blk_drew ?_ | refine blk_alloc ?_ _)); refine blk_far ?_ NB262_263.out _; (with_reducible repeat (first | refine blk_drewN ?_ _ | refine blk_drew ?_ | refine blk_alloc ?_ _)); refine blk_far ?_ NB262_263.out _; (with_reducible repeat (first | refine blk_drewN ?_ _ | refine blk_drew ?_ | refine blk_alloc ?_ _)); refine blk_put (cs := #[.int .i64 t253, .int .i64 t254, .int .i64 0]) ?_ 2 _ rfl; (with_reducible repeat (first | refine blk_drewN ?_ _ | refine blk_drew ?_ | refine blk_alloc ?_ _)); refine blk_put (cs := #[.int .i64 t253, .int .i64 0, .int .i64 0]) ?_ 1 _ rfl; (with_reducible repeat (first | refine blk_drewN ?_ _ | refine blk_drew ?_ | refine blk_alloc ?_ _)); refine blk_put (cs := #[.int .i64 0, .int .i64 0, .int .i64 0]) ?_ 0 _ rfl; (with_reducible repeat (first | refine blk_drewN ?_ _ | refine blk_drew ?_ | refine blk_alloc ?_ _)); exact BK262.out) hb); have n1_ := Aside0.mk (blk_below (g := gb263) (o := .cells #[.int .i64 t256, .int .i64 t257, .int .i64 t258] 41 (0, 0)) (by (with_reducible repeat (first | refine blk_drewN ?_ _ | refine blk_drew ?_ | refine blk_alloc ?_ _)); refine blk_far ?_ NB263_264.out _; (with_reducible repeat (first | refine blk_drewN ?_ _ | refine blk_drew ?_ | refine blk_alloc ?_ _)); refine blk_far ?_ NB263_264.out _; (with_reducible repeat (first | refine blk_drewN ?_ _ | refine blk_drew ?_ | refine blk_alloc ?_ _)); refine blk_far ?_ NB263_264.out _; (with_reducible repeat (first | refine blk_drewN ?_ _ | refine blk_drew ?_ | refine blk_alloc ?_ _)); refine blk_put (cs := #[.int .i64 t256, .int .i64 t257, .int .i64 0]) ?_ 2 _ rfl; (with_reducible repeat (first | refine blk_drewN ?_ _ | refine blk_drew ?_ | refine blk_alloc ?_ _)); refine blk_put (cs := #[.int .i64 t256, .int .i64 0, .int .i64 0]) ?_ 1 _ rfl; (with_reducible repeat (first | refine blk_drewN ?_ _ | refine blk_drew ?_ | refine blk_alloc ?_ _)); refine blk_put (cs := #[.int .i64 0, .int .i64 0, .int .i64 0]) ?_ 0 _ rfl; (with_reducible repeat (first | refine blk_drewN ?_ _ | refine blk_drew ?_ | refine blk_alloc ?_ _)); refine blk_far ?_ NB263_262.out _; (with_reducible repeat (first | refine blk_drewN ?_ _ | refine blk_drew ?_ | refine blk_alloc ?_ _)); refine blk_far ?_ NB263_262.out _; (with_reducible repeat (first | refine blk_drewN ?_ _ | refine blk_drew ?_ | refine blk_alloc ?_ _)); refine blk_far ?_ NB263_262.out _; (with_reducible repeat (first | refine blk_drewN ?_ _ | refine blk_drew ?_ | refine blk_alloc ?_ _)); exact BK263.out) hb); have n2_ := Aside0.mk (blk_below (g := gb264) (o := .cells #[.int .i64 t259, .int .i64 t260, .int .i64 t261] 41 (0, 0)) (by (with_reducible repeat (first | refine blk_drewN ?_ _ | refine blk_drew ?_ | refine blk_alloc ?_ _)); refine blk_put (cs := #[.int .i64 t259, .int .i64 t260, .int .i64 0]) ?_ 2 _ rfl; (with_reducible repeat (first | refine blk_drewN ?_ _ | refine blk_drew ?_ | refine blk_alloc ?_ _)); refine blk_put (cs := #[.int .i64 t259, .int .i64 0, .int .i64 0]) ?_ 1 _ rfl; (with_reducible repeat (first | refine blk_drewN ?_ _ | refine blk_drew ?_ | refine blk_alloc ?_ _)); refine blk_put (cs := #[.int .i64 0, .int .i64 0, .int .i64 0]) ?_ 0 _ rfl; (with_reducible repeat (first | refine blk_drewN ?_ _ | refine blk_drew ?_ | refine blk_alloc ?_ _)); refine blk_far ?_ NB264_263.out _; (with_reducible repeat (first | refine blk_drewN ?_ _ | refine blk_drew ?_ | refine blk_alloc ?_ _)); refine blk_far ?_ NB264_263.out _; (with_reducible repeat (first | refine blk_drewN ?_ _ | refine blk_drew ?_ | refine blk_alloc ?_ _)); refine blk_far ?_ NB264_263.out _; (with_reducible repeat (first | refine blk_drewN ?_ _ | refine blk_drew ?_ | refine blk_alloc ?_ _)); refine blk_far ?_ NB264_262.out _; (with_reducible repeat (first | refine blk_drewN ?_ _ | refine blk_drew ?_ | refine blk_alloc ?_ _)); refine blk_far ?_ NB264_262.out _; (with_reducible repeat (first | refine blk_drewN ?_ _ | refine blk_drew ?_ | refine blk_alloc ?_ _)); refine blk_far ?_ NB264_262.out _; (with_reducible repeat (first | refine blk_drewN ?_ _ | refine blk_drew ?_ | refine blk_alloc ?_ _)); exact BK264.out) hb); have n3_ := Aside0.mk (below_step aH hb); clear BK262; clear BK263; clear BK264; clear HB; have BK262 := n0_; have BK263 := n1_; have BK264 := n2_; have HB := n3_; clear n0_ n1_ n2_ n3_; (try clear hb); (try clear hb2); (try clear hk); (try clear hi)) | ((with_reducible refine gate_dst (N := 6) rfl ?_); refine bE 6 #[.int .i64 0, .int .i64 0, .int .i64 0] 41 ?_; intro gb268 hg w120 hbox hb; have n0_ := Aside0.mk (kB BK262.out hb); have n1_ := Aside0.mk (kB BK263.out hb); have n2_ := Aside0.mk (kB BK264.out hb); have n3_ := Aside0.mk (below_step aH hb); have n4_ := Aside0.mk (hbox); have n5_ := Aside0.mk ((gS hg : w.heap.size ≤ gb268)); have n6_ := Aside0.mk ((gS hg : w.heap.size ≤ gb268)); have n7_ := Aside0.mk (gL hg BK262.out); have n8_ := Aside0.mk (gG hg BK262.out); have n9_ := Aside0.mk (gL hg BK263.out); have n10_ := Aside0.mk (gG hg BK263.out); have n11_ := Aside0.mk (gL hg BK264.out); have n12_ := Aside0.mk (gG hg BK264.out); clear BK262; clear BK263; clear BK264; clear HB; have BK262 := n0_; have BK263 := n1_; have BK264 := n2_; have HB := n3_; have BK268 := n4_; have GW268 := n5_; have GE268 := n6_; have NB262_268 := n7_; have NB268_262 := n8_; have NB263_268 := n9_; have NB268_263 := n10_; have NB264_268 := n11_; have NB268_264 := n12_; clear n0_ n1_ n2_ n3_ n4_ n5_ n6_ n7_ n8_ n9_ n10_ n11_ n12_; clear hb hbox hg; have hnb121 := NB268_262.out; have hnc121 := NB262_268.out; have hnb122 := NB268_263.out; have hnc122 := NB263_268.out; have hnb123 := NB268_264.out; have hnc123 := NB264_268.out; have hcz124_0 : w120.cell? ⟨gb268, 0, none⟩ = some (.int .i64 0) := cR BK268.out 0; have hcz124_1 : w120.cell? ⟨gb268, 1, none⟩ = some (.int .i64 0) := cR BK268.out 1; have hcz124_2 : w120.cell? ⟨gb268, 2, none⟩ = some (.int .i64 0) := cR BK268.out 2; have hfz124_0 := blk_frozen BK268.out 0; have hfz124_1 := blk_frozen BK268.out 1; have hfz124_2 := blk_frozen BK268.out 2; have hcz125_0 : w120.cell? ⟨gb264, 0, none⟩ = some (.int .i64 t259) := cR BK264.out 0; have hcz125_1 : w120.cell? ⟨gb264, 1, none⟩ = some (.int .i64 t260) := cR BK264.out 1; have hcz125_2 : w120.cell? ⟨gb264, 2, none⟩ = some (.int .i64 t261) := cR BK264.out 2; have hfz125_0 := blk_frozen BK264.out 0; have hfz125_1 := blk_frozen BK264.out 1; have hfz125_2 := blk_frozen BK264.out 2) | ((with_reducible refine gate_callee (f := 28) rfl ?_); refine gL_ (some 27) Try.func28 #[.agg #[.int .i64 t265, .int .i64 t266, .int .i64 t267], .agg #[.int .i64 t259, .int .i64 t260, .int .i64 t261]] ?_; (with_reducible refine (impl_JoinReg.calls k t265 t266 t267 t259 t260 t261 t269 t270 t271 _ A6.out).mono ?_); rintro e w126 ⟨rfl, hb⟩; refine ⟨_, rfl, ?_⟩; have n0_ := Aside0.mk (blk_below (g := gb262) (o := .cells #[.int .i64 t253, .int .i64 t254, .int .i64 t255] 41 (0, 0)) (by (with_reducible repeat (first | refine blk_drewN ?_ _ | refine blk_drew ?_ | refine blk_alloc ?_ _)); refine blk_far ?_ NB262_268.out _; (with_reducible repeat (first | refine blk_drewN ?_ _ | refine blk_drew ?_ | refine blk_alloc ?_ _)); refine blk_far ?_ NB262_268.out _; (with_reducible repeat (first | refine blk_drewN ?_ _ | refine blk_drew ?_ | refine blk_alloc ?_ _)); refine blk_far ?_ NB262_268.out _; (with_reducible repeat (first | refine blk_drewN ?_ _ | refine blk_drew ?_ | refine blk_alloc ?_ _)); exact BK262.out) hb); have n1_ := Aside0.mk (blk_below (g := gb263) (o := .cells #[.int .i64 t256, .int .i64 t257, .int .i64 t258] 41 (0, 0)) (by (with_reducible repeat (first | refine blk_drewN ?_ _ | refine blk_drew ?_ | refine blk_alloc ?_ _)); refine blk_far ?_ NB263_268.out _; (with_reducible repeat (first | refine blk_drewN ?_ _ | refine blk_drew ?_ | refine blk_alloc ?_ _)); refine blk_far ?_ NB263_268.out _; (with_reducible repeat (first | refine blk_drewN ?_ _ | refine blk_drew ?_ | refine blk_alloc ?_ _)); refine blk_far ?_ NB263_268.out _; (with_reducible repeat (first | refine blk_drewN ?_ _ | refine blk_drew ?_ | refine blk_alloc ?_ _)); exact BK263.out) hb); have n2_ := Aside0.mk (blk_below (g := gb264) (o := .cells #[.int .i64 t259, .int .i64 t260, .int .i64 t261] 41 (0, 0)) (by (with_reducible repeat (first | refine blk_drewN ?_ _ | refine blk_drew ?_ | refine blk_alloc ?_ _)); refine blk_far ?_ NB264_268.out _; (with_reducible repeat (first | refine blk_drewN ?_ _ | refine blk_drew ?_ | refine blk_alloc ?_ _)); refine blk_far ?_ NB264_268.out _; (with_reducible repeat (first | refine blk_drewN ?_ _ | refine blk_drew ?_ | refine blk_alloc ?_ _)); refine blk_far ?_ NB264_268.out _; (with_reducible repeat (first | refine blk_drewN ?_ _ | refine blk_drew ?_ | refine blk_alloc ?_ _)); exact BK264.out) hb); have n3_ := Aside0.mk (blk_below (g := gb268) (o := .cells #[.int .i64 t265, .int .i64 t266, .int .i64 t267] 41 (0, 0)) (by (with_reducible repeat (first | refine blk_drewN ?_ _ | refine blk_drew ?_ | refine blk_alloc ?_ _)); refine blk_put (cs := #[.int .i64 t265, .int .i64 t266, .int .i64 0]) ?_ 2 _ rfl; (with_reducible repeat (first | refine blk_drewN ?_ _ | refine blk_drew ?_ | refine blk_alloc ?_ _)); refine blk_put (cs := #[.int .i64 t265, .int .i64 0, .int .i64 0]) ?_ 1 _ rfl; (with_reducible repeat (first | refine blk_drewN ?_ _ | refine blk_drew ?_ | refine blk_alloc ?_ _)); refine blk_put (cs := #[.int .i64 0, .int .i64 0, .int .i64 0]) ?_ 0 _ rfl; (with_reducible repeat (first | refine blk_drewN ?_ _ | refine blk_drew ?_ | refine blk_alloc ?_ _)); exact BK268.out) hb); have n4_ := Aside0.mk (below_step aH hb); clear BK262; clear BK263; clear BK264; clear BK268; clear HB; have BK262 := n0_; have BK263 := n1_; have BK264 := n2_; have BK268 := n3_; have HB := n4_; clear n0_ n1_ n2_ n3_ n4_; (try clear hb); (try clear hb2); (try clear hk); (try clear hi)) | ((with_reducible refine gate_dst (N := 7) rfl ?_); refine bE 7 #[.int .i64 0, .int .i64 0, .int .i64 0] 41 ?_; intro gb272 hg w127 hbox hb; have n0_ := Aside0.mk (kB BK262.out hb); have n1_ := Aside0.mk (kB BK263.out hb); have n2_ := Aside0.mk (kB BK264.out hb); have n3_ := Aside0.mk (kB BK268.out hb); have n4_ := Aside0.mk (below_step aH hb); have n5_ := Aside0.mk (hbox); have n6_ := Aside0.mk ((gS hg : w.heap.size ≤ gb272)); have n7_ := Aside0.mk ((gS hg : w.heap.size ≤ gb272)); have n8_ := Aside0.mk (gL hg BK262.out); have n9_ := Aside0.mk (gG hg BK262.out); have n10_ := Aside0.mk (gL hg BK263.out); have n11_ := Aside0.mk (gG hg BK263.out); have n12_ := Aside0.mk (gL hg BK264.out); have n13_ := Aside0.mk (gG hg BK264.out); have n14_ := Aside0.mk (gL hg BK268.out); have n15_ := Aside0.mk (gG hg BK268.out); clear BK262; clear BK263; clear BK264; clear BK268; clear HB; have BK262 := n0_; have BK263 := n1_; have BK264 := n2_; have BK268 := n3_; have HB := n4_; have BK272 := n5_; have GW272 := n6_; have GE272 := n7_; have NB262_272 := n8_; have NB272_262 := n9_; have NB263_272 := n10_; have NB272_263 := n11_; have NB264_272 := n12_; have NB272_264 := n13_; have NB268_272 := n14_; have NB272_268 := n15_; clear n0_ n1_ n2_ n3_ n4_ n5_ n6_ n7_ n8_ n9_ n10_ n11_ n12_ n13_ n14_ n15_; clear hb hbox hg; have hnb128 := NB272_262.out; have hnc128 := NB262_272.out; have hnb129 := NB272_263.out; have hnc129 := NB263_272.out; have hnb130 := NB272_264.out; have hnc130 := NB264_272.out; have hnb131 := NB272_268.out; have hnc131 := NB268_272.out; have hcz132_0 : w127.cell? ⟨gb272, 0, none⟩ = some (.int .i64 0) := cR BK272.out 0; have hcz132_1 : w127.cell? ⟨gb272, 1, none⟩ = some (.int .i64 0) := cR BK272.out 1; have hcz132_2 : w127.cell? ⟨gb272, 2, none⟩ = some (.int .i64 0) := cR BK272.out 2; have hfz132_0 := blk_frozen BK272.out 0; have hfz132_1 := blk_frozen BK272.out 1; have hfz132_2 := blk_frozen BK272.out 2))
         have n0_ : Aside0 ((((w127.setCell ⟨gb272, 0, none⟩ (.int .i64 t269)).setCell ⟨gb272, 1, none⟩ (.int .i64 t270)).setCell ⟨gb272, 2, none⟩ (.int .i64 t271)).heap[gb262]? = some (.cells #[.int .i64 t253, .int .i64 t254, .int .i64 t255] 41 (0, 0))) := ⟨by (with_reducible repeat (first | refine blk_drewN ?_ _ | refine blk_drew ?_ | refine blk_alloc ?_ _)); refine blk_far ?_ NB262_272.out _; (with_reducible repeat (first | refine blk_drewN ?_ _ | refine blk_drew ?_ | refine blk_alloc ?_ _)); refine blk_far ?_ NB262_272.out _; (with_reducible repeat (first | refine blk_drewN ?_ _ | refine blk_drew ?_ | refine blk_alloc ?_ _)); refine blk_far ?_ NB262_272.out _; (with_reducible repeat (first | refine blk_drewN ?_ _ | refine blk_drew ?_ | refine blk_alloc ?_ _)); exact BK262.out⟩
         have n1_ : Aside0 ((((w127.setCell ⟨gb272, 0, none⟩ (.int .i64 t269)).setCell ⟨gb272, 1, none⟩ (.int .i64 t270)).setCell ⟨gb272, 2, none⟩ (.int .i64 t271)).heap[gb263]? = some (.cells #[.int .i64 t256, .int .i64 t257, .int .i64 t258] 41 (0, 0))) := ⟨by (with_reducible repeat (first | refine blk_drewN ?_ _ | refine blk_drew ?_ | refine blk_alloc ?_ _)); refine blk_far ?_ NB263_272.out _; (with_reducible repeat (first | refine blk_drewN ?_ _ | refine blk_drew ?_ | refine blk_alloc ?_ _)); refine blk_far ?_ NB263_272.out _; (with_reducible repeat (first | refine blk_drewN ?_ _ | refine blk_drew ?_ | refine blk_alloc ?_ _)); refine blk_far ?_ NB263_272.out _; (with_reducible repeat (first | refine blk_drewN ?_ _ | refine blk_drew ?_ | refine blk_alloc ?_ _)); exact BK263.out⟩
         have n2_ : Aside0 ((((w127.setCell ⟨gb272, 0, none⟩ (.int .i64 t269)).setCell ⟨gb272, 1, none⟩ (.int .i64 t270)).setCell ⟨gb272, 2, none⟩ (.int .i64 t271)).heap[gb264]? = some (.cells #[.int .i64 t259, .int .i64 t260, .int .i64 t261] 41 (0, 0))) := ⟨by (with_reducible repeat (first | refine blk_drewN ?_ _ | refine blk_drew ?_ | refine blk_alloc ?_ _)); refine blk_far ?_ NB264_272.out _; (with_reducible repeat (first | refine blk_drewN ?_ _ | refine blk_drew ?_ | refine blk_alloc ?_ _)); refine blk_far ?_ NB264_272.out _; (with_reducible repeat (first | refine blk_drewN ?_ _ | refine blk_drew ?_ | refine blk_alloc ?_ _)); refine blk_far ?_ NB264_272.out _; (with_reducible repeat (first | refine blk_drewN ?_ _ | refine blk_drew ?_ | refine blk_alloc ?_ _)); exact BK264.out⟩
         have n3_ : Aside0 ((((w127.setCell ⟨gb272, 0, none⟩ (.int .i64 t269)).setCell ⟨gb272, 1, none⟩ (.int .i64 t270)).setCell ⟨gb272, 2, none⟩ (.int .i64 t271)).heap[gb268]? = some (.cells #[.int .i64 t265, .int .i64 t266, .int .i64 t267] 41 (0, 0))) := ⟨by (with_reducible repeat (first | refine blk_drewN ?_ _ | refine blk_drew ?_ | refine blk_alloc ?_ _)); refine blk_far ?_ NB268_272.out _; (with_reducible repeat (first | refine blk_drewN ?_ _ | refine blk_drew ?_ | refine blk_alloc ?_ _)); refine blk_far ?_ NB268_272.out _; (with_reducible repeat (first | refine blk_drewN ?_ _ | refine blk_drew ?_ | refine blk_alloc ?_ _)); refine blk_far ?_ NB268_272.out _; (with_reducible repeat (first | refine blk_drewN ?_ _ | refine blk_drew ?_ | refine blk_alloc ?_ _)); exact BK268.out⟩
         have n4_ : Aside0 ((((w127.setCell ⟨gb272, 0, none⟩ (.int .i64 t269)).setCell ⟨gb272, 1, none⟩ (.int .i64 t270)).setCell ⟨gb272, 2, none⟩ (.int .i64 t271)).heap[gb272]? = some (.cells #[.int .i64 t269, .int .i64 t270, .int .i64 t271] 41 (0, 0))) := ⟨by (with_reducible repeat (first | refine blk_drewN ?_ _ | refine blk_drew ?_ | refine blk_alloc ?_ _)); refine blk_put (cs := #[.int .i64 t269, .int .i64 t270, .int .i64 0]) ?_ 2 _ rfl; (with_reducible repeat (first | refine blk_drewN ?_ _ | refine blk_drew ?_ | refine blk_alloc ?_ _)); refine blk_put (cs := #[.int .i64 t269, .int .i64 0, .int .i64 0]) ?_ 1 _ rfl; (with_reducible repeat (first | refine blk_drewN ?_ _ | refine blk_drew ?_ | refine blk_alloc ?_ _)); refine blk_put (cs := #[.int .i64 0, .int .i64 0, .int .i64 0]) ?_ 0 _ rfl; (with_reducible repeat (first | refine blk_drewN ?_ _ | refine blk_drew ?_ | refine blk_alloc ?_ _)); exact BK272.out⟩
         have n5_ : Aside0 (Below w.heap.size w (((w127.setCell ⟨gb272, 0, none⟩ (.int .i64 t269)).setCell ⟨gb272, 1, none⟩ (.int .i64 t270)).setCell ⟨gb272, 2, none⟩ (.int .i64 t271))) := ⟨aH⟩
         (try clear BK262)
         (try clear BK263)
         (try clear BK264)
         (try clear BK268)
         (try clear BK272)
         (try clear HB)
         generalize (((w127.setCell ⟨gb272, 0, none⟩ (.int .i64 t269)).setCell ⟨gb272, 1, none⟩ (.int .i64 t270)).setCell ⟨gb272, 2, none⟩ (.int .i64 t271)) = w133 at n0_ n1_ n2_ n3_ n4_ n5_ ⊢
         have BK262 := n0_
         have BK263 := n1_
         have BK264 := n2_
         have BK268 := n3_
         have BK272 := n4_
         have HB := n5_
         clear n0_ n1_ n2_ n3_ n4_ n5_
         have n0_ := Aside0.mk (blk_drew BK262.out)
         have n1_ := Aside0.mk (blk_drew BK263.out)
         have n2_ := Aside0.mk (blk_drew BK264.out)
         have n3_ := Aside0.mk (blk_drew BK268.out)
         have n4_ := Aside0.mk (blk_drew BK272.out)
         have n5_ := Aside0.mk (below_drew1 HB.out)
         clear BK262
         clear BK263
         clear BK264
         clear BK268
         clear BK272
         clear HB
         have BK262 := n0_
         have BK263 := n1_
         have BK264 := n2_
         have BK268 := n3_
         have BK272 := n4_
         have HB := n5_
         clear n0_ n1_ n2_ n3_ n4_ n5_
         refine start_ (n := 7) (S := fun w' => w'.cell? ⟨gb262, 0, none⟩ = some (.int .i64 t253) ∧ w'.cell? ⟨gb262, 1, none⟩ = some (.int .i64 t254) ∧ w'.cell? ⟨gb262, 2, none⟩ = some (.int .i64 t255) ∧ w'.cell? ⟨gb263, 0, none⟩ = some (.int .i64 t256) ∧ w'.cell? ⟨gb263, 1, none⟩ = some (.int .i64 t257) ∧ w'.cell? ⟨gb263, 2, none⟩ = some (.int .i64 t258) ∧ w'.cell? ⟨gb264, 0, none⟩ = some (.int .i64 t259) ∧ w'.cell? ⟨gb264, 1, none⟩ = some (.int .i64 t260) ∧ w'.cell? ⟨gb264, 2, none⟩ = some (.int .i64 t261)) (ds := []) #[false, false, false, false, false, false, false] (by kernel_rfl) rfl rfl ⟨cR BK262.out 0, cR BK262.out 1, cR BK262.out 2, cR BK263.out 0, cR BK263.out 1, cR BK263.out 2, cR BK264.out 0, cR BK264.out 1, cR BK264.out 2⟩ (fun hHeld => ?_)
         generalize w133.drew = w134 at BK262 BK263 BK264 BK268 BK272 HB hHeld ⊢
         refine take_ (i := 0) (N := some 28) (v := ?_) (a' := ?_) #[true, false, false, false, false, false, false] rfl rfl (by kernel_rfl) (fun _ _ _ h => h) (Or.inl ⟨by rfl, ?_⟩) hHeld ?_ ?_
         rotate_left
         ·rintro w' ⟨s0, s1, s2, s3, s4, s5, s6, s7, s8⟩
          go_simp
          with_reducible rfl
         rotate_left
         ·simp only [Act.put, List.setIfInBounds_toArray, List.set_cons_zero, List.set_cons_succ, i64_w, i32_w]
          rfl
         refine take_ (i := 1) (N := some 29) (v := ?_) (a' := ?_) #[true, true, false, false, false, false, false] rfl rfl (by kernel_rfl) (fun _ _ _ h => h) (Or.inl ⟨by rfl, ?_⟩) hHeld ?_ ?_
         rotate_left
         ·rintro w' ⟨s0, s1, s2, s3, s4, s5, s6, s7, s8⟩
          go_simp
          with_reducible rfl
         rotate_left
         ·simp only [Act.put, List.setIfInBounds_toArray, List.set_cons_zero, List.set_cons_succ, i64_w, i32_w]
          rfl
         refine take_ (i := 2) (N := some 30) (v := ?_) (a' := ?_) #[true, true, true, false, false, false, false] rfl rfl (by kernel_rfl) (fun _ _ _ h => h) (Or.inl ⟨by rfl, ?_⟩) hHeld ?_ ?_
         rotate_left
         ·rintro w' ⟨s0, s1, s2, s3, s4, s5, s6, s7, s8⟩
          go_simp
          with_reducible rfl
         rotate_left
         ·simp only [Act.put, List.setIfInBounds_toArray, List.set_cons_zero, List.set_cons_succ, i64_w, i32_w]
          rfl
         refine join_ (σ := Nat) 1 #[true, true, true, true, true, true, false] (fun s_ => [(31, .agg #[.int .i64 t273, .int .i64 t274, .int .i64 t275]), (32, .agg #[.int .i64 t276, .int .i64 t277, .int .i64 t278]), (8, .pointer (some ⟨s_, 0, none⟩))]) (fun s_ w' => (w'.cell? ⟨gb262, 0, none⟩ = some (.int .i64 t253) ∧ w'.cell? ⟨gb262, 1, none⟩ = some (.int .i64 t254) ∧ w'.cell? ⟨gb262, 2, none⟩ = some (.int .i64 t255) ∧ w'.cell? ⟨gb263, 0, none⟩ = some (.int .i64 t256) ∧ w'.cell? ⟨gb263, 1, none⟩ = some (.int .i64 t257) ∧ w'.cell? ⟨gb263, 2, none⟩ = some (.int .i64 t258) ∧ w'.cell? ⟨gb264, 0, none⟩ = some (.int .i64 t259) ∧ w'.cell? ⟨gb264, 1, none⟩ = some (.int .i64 t260) ∧ w'.cell? ⟨gb264, 2, none⟩ = some (.int .i64 t261)) ∧ (w'.heap[gb262]? = some (.cells #[.int .i64 t253, .int .i64 t254, .int .i64 t255] 41 (0, 0))) ∧ (w'.heap[gb263]? = some (.cells #[.int .i64 t256, .int .i64 t257, .int .i64 t258] 41 (0, 0))) ∧ (w'.heap[gb264]? = some (.cells #[.int .i64 t259, .int .i64 t260, .int .i64 t261] 41 (0, 0))) ∧ (w'.heap[gb268]? = some (.cells #[.int .i64 t265, .int .i64 t266, .int .i64 t267] 41 (0, 0))) ∧ (w'.heap[gb272]? = some (.cells #[.int .i64 t269, .int .i64 t270, .int .i64 t271] 41 (0, 0))) ∧ (w'.heap[s_]? = some (.cells #[.int .i64 0, .int .i64 0, .int .i64 0] 41 (0, 0))) ∧ (w.heap.size ≤ s_) ∧ (w.heap.size ≤ s_) ∧ (gb262 ≠ s_) ∧ (s_ ≠ gb262) ∧ (gb263 ≠ s_) ∧ (s_ ≠ gb263) ∧ (gb264 ≠ s_) ∧ (s_ ≠ gb264) ∧ (gb268 ≠ s_) ∧ (s_ ≠ gb268) ∧ (gb272 ≠ s_) ∧ (s_ ≠ gb272) ∧ (Below w.heap.size w w')) ?_ ?_
         rotate_left
         ·intro hCont
          refine two_ (i := 3) (j := 5) (Ni := some 31) (Nj := some 8) #[true, true, true, true, false, false, false] #[true, true, true, false, false, true, false] rfl rfl rfl rfl (by kernel_rfl) (by decide) (by decide) (fun K hK => ?_) (fun K hK => ?_)
          ·skip
           refine goes_ Try.func28 (by kernel_rfl) rfl #[.agg #[.int .i64 t256, .int .i64 t257, .int .i64 t258], .agg #[.int .i64 t259, .int .i64 t260, .int .i64 t261]] (by rfl) rfl rfl (by (try simp only [List.map_toArray, List.map_cons, List.map_nil]); first | done | rfl | (simp only [List.length_drop, List.length_take]; rfl)) ?_
           with_reducible refine (impl_JoinReg.calls k t256 t257 t258 t259 t260 t261 t273 t274 t275 _ A7.out).mono ?_
           rintro e w135 ⟨rfl, hb⟩
           refine ⟨_, rfl, ?_⟩
           have n0_ := Aside0.mk (kB BK262.out hb)
           have n1_ := Aside0.mk (kB BK263.out hb)
           have n2_ := Aside0.mk (kB BK264.out hb)
           have n3_ := Aside0.mk (kB BK268.out hb)
           have n4_ := Aside0.mk (kB BK272.out hb)
           have n5_ := Aside0.mk (below_step aH hb)
           clear BK262
           clear BK263
           clear BK264
           clear BK268
           clear BK272
           clear HB
           have BK262 := n0_
           have BK263 := n1_
           have BK264 := n2_
           have BK268 := n3_
           have BK272 := n4_
           have HB := n5_
           clear n0_ n1_ n2_ n3_ n4_ n5_
           (try clear hb)
           (try clear hb2)
           (try clear hk)
           (try clear hi)
           refine hK.out _ _ ⟨cR BK262.out 0, cR BK262.out 1, cR BK262.out 2, cR BK263.out 0, cR BK263.out 1, cR BK263.out 2, cR BK264.out 0, cR BK264.out 1, cR BK264.out 2⟩ (fun hHeld => ?_)
           clear hK K
           refine nP 31 ?_
           refine two_ (i := 4) (j := 5) (Ni := some 32) (Nj := some 8) #[true, true, true, true, true, false, false] #[true, true, true, true, false, true, false] rfl rfl rfl rfl (by kernel_rfl) (by decide) (by decide) (fun K hK => ?_) (fun K hK => ?_)
           ·skip
            refine goes_ Try.func28 (by kernel_rfl) rfl #[.agg #[.int .i64 t253, .int .i64 t254, .int .i64 t255], .agg #[.int .i64 t273, .int .i64 t274, .int .i64 t275]] (by rfl) rfl rfl (by (try simp only [List.map_toArray, List.map_cons, List.map_nil]); first | done | rfl | (simp only [List.length_drop, List.length_take]; rfl)) ?_
            with_reducible refine (impl_JoinReg.calls k t253 t254 t255 t273 t274 t275 t276 t277 t278 _ A8.out).mono ?_
            rintro e w136 ⟨rfl, hb⟩
            refine ⟨_, rfl, ?_⟩
            have n0_ := Aside0.mk (kB BK262.out hb)
            have n1_ := Aside0.mk (kB BK263.out hb)
            have n2_ := Aside0.mk (kB BK264.out hb)
            have n3_ := Aside0.mk (kB BK268.out hb)
            have n4_ := Aside0.mk (kB BK272.out hb)
            have n5_ := Aside0.mk (below_step aH hb)
            clear BK262
            clear BK263
            clear BK264
            clear BK268
            clear BK272
            clear HB
            have BK262 := n0_
            have BK263 := n1_
            have BK264 := n2_
            have BK268 := n3_
            have BK272 := n4_
            have HB := n5_
            clear n0_ n1_ n2_ n3_ n4_ n5_
            (try clear hb)
            (try clear hb2)
            (try clear hk)
            (try clear hi)
            refine hK.out _ _ ⟨cR BK262.out 0, cR BK262.out 1, cR BK262.out 2, cR BK263.out 0, cR BK263.out 1, cR BK263.out 2, cR BK264.out 0, cR BK264.out 1, cR BK264.out 2⟩ (fun hHeld => ?_)
            clear hK K
            refine nP 32 ?_
            refine one_ (i := 5) (N := some 8) #[true, true, true, true, true, true, false] rfl rfl (by kernel_rfl) (by decide) (fun K hK => ?_)
            refine box_step ?hg (N := 8) ?hd (cs := #[.int .i64 0, .int .i64 0, .int .i64 0]) (t := 41) ?hr ?_; (case hd => rfl); (case hg => rfl); (case hr => first | (go_simp; done) | (go_simp; rfl))
            intro gb279 hg w137 hbox hb
            have n0_ := Aside0.mk (kB BK262.out hb)
            have n1_ := Aside0.mk (kB BK263.out hb)
            have n2_ := Aside0.mk (kB BK264.out hb)
            have n3_ := Aside0.mk (kB BK268.out hb)
            have n4_ := Aside0.mk (kB BK272.out hb)
            have n5_ := Aside0.mk (below_step aH hb)
            have n6_ := Aside0.mk (hbox)
            have n7_ := Aside0.mk ((gS hg : w.heap.size ≤ gb279))
            have n8_ := Aside0.mk ((gS hg : w.heap.size ≤ gb279))
            have n9_ := Aside0.mk (gL hg BK262.out)
            have n10_ := Aside0.mk (gG hg BK262.out)
            have n11_ := Aside0.mk (gL hg BK263.out)
            have n12_ := Aside0.mk (gG hg BK263.out)
            have n13_ := Aside0.mk (gL hg BK264.out)
            have n14_ := Aside0.mk (gG hg BK264.out)
            have n15_ := Aside0.mk (gL hg BK268.out)
            have n16_ := Aside0.mk (gG hg BK268.out)
            have n17_ := Aside0.mk (gL hg BK272.out)
            have n18_ := Aside0.mk (gG hg BK272.out)
            clear BK262
            clear BK263
            clear BK264
            clear BK268
            clear BK272
            clear HB
            have BK262 := n0_
            have BK263 := n1_
            have BK264 := n2_
            have BK268 := n3_
            have BK272 := n4_
            have HB := n5_
            have BK279 := n6_
            have GW279 := n7_
            have GE279 := n8_
            have NB262_279 := n9_
            have NB279_262 := n10_
            have NB263_279 := n11_
            have NB279_263 := n12_
            have NB264_279 := n13_
            have NB279_264 := n14_
            have NB268_279 := n15_
            have NB279_268 := n16_
            have NB272_279 := n17_
            have NB279_272 := n18_
            clear n0_ n1_ n2_ n3_ n4_ n5_ n6_ n7_ n8_ n9_ n10_ n11_ n12_ n13_ n14_ n15_ n16_ n17_ n18_
            clear hb hbox hg
            refine hK.out _ _ ⟨cR BK262.out 0, cR BK262.out 1, cR BK262.out 2, cR BK263.out 0, cR BK263.out 1, cR BK263.out 2, cR BK264.out 0, cR BK264.out 1, cR BK264.out 2⟩ (fun hHeld => ?_)
            clear hK K
            refine nP 8 ?_
            exact norm_ (by simp only [putAll, Act.put, List.setIfInBounds_toArray, List.set_cons_zero, List.set_cons_succ]) (hCont (gb279) _ ⟨hHeld, (aB BK262.out), (aB BK263.out), (aB BK264.out), (aB BK268.out), (aB BK272.out), (aB BK279.out), GW279.out, GE279.out, NB262_279.out, NB279_262.out, NB263_279.out, NB279_263.out, NB264_279.out, NB279_264.out, NB268_279.out, NB279_268.out, NB272_279.out, NB279_272.out, aH⟩)
           ·skip
            refine box_step ?hg (N := 8) ?hd (cs := #[.int .i64 0, .int .i64 0, .int .i64 0]) (t := 41) ?hr ?_; (case hd => rfl); (case hg => rfl); (case hr => first | (go_simp; done) | (go_simp; rfl))
            intro gb279 hg w136 hbox hb
            have n0_ := Aside0.mk (kB BK262.out hb)
            have n1_ := Aside0.mk (kB BK263.out hb)
            have n2_ := Aside0.mk (kB BK264.out hb)
            have n3_ := Aside0.mk (kB BK268.out hb)
            have n4_ := Aside0.mk (kB BK272.out hb)
            have n5_ := Aside0.mk (below_step aH hb)
            have n6_ := Aside0.mk (hbox)
            have n7_ := Aside0.mk ((gS hg : w.heap.size ≤ gb279))
            have n8_ := Aside0.mk ((gS hg : w.heap.size ≤ gb279))
            have n9_ := Aside0.mk (gL hg BK262.out)
            have n10_ := Aside0.mk (gG hg BK262.out)
            have n11_ := Aside0.mk (gL hg BK263.out)
            have n12_ := Aside0.mk (gG hg BK263.out)
            have n13_ := Aside0.mk (gL hg BK264.out)
            have n14_ := Aside0.mk (gG hg BK264.out)
            have n15_ := Aside0.mk (gL hg BK268.out)
            have n16_ := Aside0.mk (gG hg BK268.out)
            have n17_ := Aside0.mk (gL hg BK272.out)
            have n18_ := Aside0.mk (gG hg BK272.out)
            clear BK262
            clear BK263
            clear BK264
            clear BK268
            clear BK272
            clear HB
            have BK262 := n0_
            have BK263 := n1_
            have BK264 := n2_
            have BK268 := n3_
            have BK272 := n4_
            have HB := n5_
            have BK279 := n6_
            have GW279 := n7_
            have GE279 := n8_
            have NB262_279 := n9_
            have NB279_262 := n10_
            have NB263_279 := n11_
            have NB279_263 := n12_
            have NB264_279 := n13_
            have NB279_264 := n14_
            have NB268_279 := n15_
            have NB279_268 := n16_
            have NB272_279 := n17_
            have NB279_272 := n18_
            clear n0_ n1_ n2_ n3_ n4_ n5_ n6_ n7_ n8_ n9_ n10_ n11_ n12_ n13_ n14_ n15_ n16_ n17_ n18_
            clear hb hbox hg
            refine hK.out _ _ ⟨cR BK262.out 0, cR BK262.out 1, cR BK262.out 2, cR BK263.out 0, cR BK263.out 1, cR BK263.out 2, cR BK264.out 0, cR BK264.out 1, cR BK264.out 2⟩ (fun hHeld => ?_)
            clear hK K
            refine nP 8 ?_
            refine one_ (i := 4) (N := some 32) #[true, true, true, true, true, true, false] rfl rfl (by kernel_rfl) (by decide) (fun K hK => ?_)
            refine goes_ Try.func28 (by kernel_rfl) rfl #[.agg #[.int .i64 t253, .int .i64 t254, .int .i64 t255], .agg #[.int .i64 t273, .int .i64 t274, .int .i64 t275]] (by rfl) rfl rfl (by (try simp only [List.map_toArray, List.map_cons, List.map_nil]); first | done | rfl | (simp only [List.length_drop, List.length_take]; rfl)) ?_
            with_reducible refine (impl_JoinReg.calls k t253 t254 t255 t273 t274 t275 t276 t277 t278 _ A8.out).mono ?_
            rintro e w137 ⟨rfl, hb⟩
            refine ⟨_, rfl, ?_⟩
            have n0_ := Aside0.mk (kB BK262.out hb)
            have n1_ := Aside0.mk (kB BK263.out hb)
            have n2_ := Aside0.mk (kB BK264.out hb)
            have n3_ := Aside0.mk (kB BK268.out hb)
            have n4_ := Aside0.mk (kB BK272.out hb)
            have n5_ := Aside0.mk (kB BK279.out hb)
            have n6_ := Aside0.mk (below_step aH hb)
            clear BK262
            clear BK263
            clear BK264
            clear BK268
            clear BK272
            clear BK279
            clear HB
            have BK262 := n0_
            have BK263 := n1_
            have BK264 := n2_
            have BK268 := n3_
            have BK272 := n4_
            have BK279 := n5_
            have HB := n6_
            clear n0_ n1_ n2_ n3_ n4_ n5_ n6_
            (try clear hb)
            (try clear hb2)
            (try clear hk)
            (try clear hi)
            refine hK.out _ _ ⟨cR BK262.out 0, cR BK262.out 1, cR BK262.out 2, cR BK263.out 0, cR BK263.out 1, cR BK263.out 2, cR BK264.out 0, cR BK264.out 1, cR BK264.out 2⟩ (fun hHeld => ?_)
            clear hK K
            refine nP 32 ?_
            exact norm_ (by simp only [putAll, Act.put, List.setIfInBounds_toArray, List.set_cons_zero, List.set_cons_succ]) (hCont (gb279) _ ⟨hHeld, (aB BK262.out), (aB BK263.out), (aB BK264.out), (aB BK268.out), (aB BK272.out), (aB BK279.out), GW279.out, GE279.out, NB262_279.out, NB279_262.out, NB263_279.out, NB279_263.out, NB264_279.out, NB279_264.out, NB268_279.out, NB279_268.out, NB272_279.out, NB279_272.out, aH⟩)
          ·skip
           refine box_step ?hg (N := 8) ?hd (cs := #[.int .i64 0, .int .i64 0, .int .i64 0]) (t := 41) ?hr ?_; (case hd => rfl); (case hg => rfl); (case hr => first | (go_simp; done) | (go_simp; rfl))
           intro gb279 hg w135 hbox hb
           have n0_ := Aside0.mk (kB BK262.out hb)
           have n1_ := Aside0.mk (kB BK263.out hb)
           have n2_ := Aside0.mk (kB BK264.out hb)
           have n3_ := Aside0.mk (kB BK268.out hb)
           have n4_ := Aside0.mk (kB BK272.out hb)
           have n5_ := Aside0.mk (below_step aH hb)
           have n6_ := Aside0.mk (hbox)
           have n7_ := Aside0.mk ((gS hg : w.heap.size ≤ gb279))
           have n8_ := Aside0.mk ((gS hg : w.heap.size ≤ gb279))
           have n9_ := Aside0.mk (gL hg BK262.out)
           have n10_ := Aside0.mk (gG hg BK262.out)
           have n11_ := Aside0.mk (gL hg BK263.out)
           have n12_ := Aside0.mk (gG hg BK263.out)
           have n13_ := Aside0.mk (gL hg BK264.out)
           have n14_ := Aside0.mk (gG hg BK264.out)
           have n15_ := Aside0.mk (gL hg BK268.out)
           have n16_ := Aside0.mk (gG hg BK268.out)
           have n17_ := Aside0.mk (gL hg BK272.out)
           have n18_ := Aside0.mk (gG hg BK272.out)
           clear BK262
           clear BK263
           clear BK264
           clear BK268
           clear BK272
           clear HB
           have BK262 := n0_
           have BK263 := n1_
           have BK264 := n2_
           have BK268 := n3_
           have BK272 := n4_
           have HB := n5_
           have BK279 := n6_
           have GW279 := n7_
           have GE279 := n8_
           have NB262_279 := n9_
           have NB279_262 := n10_
           have NB263_279 := n11_
           have NB279_263 := n12_
           have NB264_279 := n13_
           have NB279_264 := n14_
           have NB268_279 := n15_
           have NB279_268 := n16_
           have NB272_279 := n17_
           have NB279_272 := n18_
           clear n0_ n1_ n2_ n3_ n4_ n5_ n6_ n7_ n8_ n9_ n10_ n11_ n12_ n13_ n14_ n15_ n16_ n17_ n18_
           clear hb hbox hg
           refine hK.out _ _ ⟨cR BK262.out 0, cR BK262.out 1, cR BK262.out 2, cR BK263.out 0, cR BK263.out 1, cR BK263.out 2, cR BK264.out 0, cR BK264.out 1, cR BK264.out 2⟩ (fun hHeld => ?_)
           clear hK K
           refine nP 8 ?_
           refine one_ (i := 3) (N := some 31) #[true, true, true, true, false, true, false] rfl rfl (by kernel_rfl) (by decide) (fun K hK => ?_)
           refine goes_ Try.func28 (by kernel_rfl) rfl #[.agg #[.int .i64 t256, .int .i64 t257, .int .i64 t258], .agg #[.int .i64 t259, .int .i64 t260, .int .i64 t261]] (by rfl) rfl rfl (by (try simp only [List.map_toArray, List.map_cons, List.map_nil]); first | done | rfl | (simp only [List.length_drop, List.length_take]; rfl)) ?_
           with_reducible refine (impl_JoinReg.calls k t256 t257 t258 t259 t260 t261 t273 t274 t275 _ A7.out).mono ?_
           rintro e w136 ⟨rfl, hb⟩
           refine ⟨_, rfl, ?_⟩
           have n0_ := Aside0.mk (kB BK262.out hb)
           have n1_ := Aside0.mk (kB BK263.out hb)
           have n2_ := Aside0.mk (kB BK264.out hb)
           have n3_ := Aside0.mk (kB BK268.out hb)
           have n4_ := Aside0.mk (kB BK272.out hb)
           have n5_ := Aside0.mk (kB BK279.out hb)
           have n6_ := Aside0.mk (below_step aH hb)
           clear BK262
           clear BK263
           clear BK264
           clear BK268
           clear BK272
           clear BK279
           clear HB
           have BK262 := n0_
           have BK263 := n1_
           have BK264 := n2_
           have BK268 := n3_
           have BK272 := n4_
           have BK279 := n5_
           have HB := n6_
           clear n0_ n1_ n2_ n3_ n4_ n5_ n6_
           (try clear hb)
           (try clear hb2)
           (try clear hk)
           (try clear hi)
           refine hK.out _ _ ⟨cR BK262.out 0, cR BK262.out 1, cR BK262.out 2, cR BK263.out 0, cR BK263.out 1, cR BK263.out 2, cR BK264.out 0, cR BK264.out 1, cR BK264.out 2⟩ (fun hHeld => ?_)
           clear hK K
           refine nP 31 ?_
           refine one_ (i := 4) (N := some 32) #[true, true, true, true, true, true, false] rfl rfl (by kernel_rfl) (by decide) (fun K hK => ?_)
           refine goes_ Try.func28 (by kernel_rfl) rfl #[.agg #[.int .i64 t253, .int .i64 t254, .int .i64 t255], .agg #[.int .i64 t273, .int .i64 t274, .int .i64 t275]] (by rfl) rfl rfl (by (try simp only [List.map_toArray, List.map_cons, List.map_nil]); first | done | rfl | (simp only [List.length_drop, List.length_take]; rfl)) ?_
           with_reducible refine (impl_JoinReg.calls k t253 t254 t255 t273 t274 t275 t276 t277 t278 _ A8.out).mono ?_
           rintro e w137 ⟨rfl, hb⟩
           refine ⟨_, rfl, ?_⟩
           have n0_ := Aside0.mk (kB BK262.out hb)
           have n1_ := Aside0.mk (kB BK263.out hb)
           have n2_ := Aside0.mk (kB BK264.out hb)
           have n3_ := Aside0.mk (kB BK268.out hb)
           have n4_ := Aside0.mk (kB BK272.out hb)
           have n5_ := Aside0.mk (kB BK279.out hb)
           have n6_ := Aside0.mk (below_step aH hb)
           clear BK262
           clear BK263
           clear BK264
           clear BK268
           clear BK272
           clear BK279
           clear HB
           have BK262 := n0_
           have BK263 := n1_
           have BK264 := n2_
           have BK268 := n3_
           have BK272 := n4_
           have BK279 := n5_
           have HB := n6_
           clear n0_ n1_ n2_ n3_ n4_ n5_ n6_
           (try clear hb)
           (try clear hb2)
           (try clear hk)
           (try clear hi)
           refine hK.out _ _ ⟨cR BK262.out 0, cR BK262.out 1, cR BK262.out 2, cR BK263.out 0, cR BK263.out 1, cR BK263.out 2, cR BK264.out 0, cR BK264.out 1, cR BK264.out 2⟩ (fun hHeld => ?_)
           clear hK K
           refine nP 32 ?_
           exact norm_ (by simp only [putAll, Act.put, List.setIfInBounds_toArray, List.set_cons_zero, List.set_cons_succ]) (hCont (gb279) _ ⟨hHeld, (aB BK262.out), (aB BK263.out), (aB BK264.out), (aB BK268.out), (aB BK272.out), (aB BK279.out), GW279.out, GE279.out, NB262_279.out, NB279_262.out, NB263_279.out, NB279_263.out, NB264_279.out, NB279_264.out, NB268_279.out, NB279_268.out, NB272_279.out, NB279_272.out, aH⟩)
         rintro gb279 w138 ⟨hS_, h0_, h1_, h2_, h3_, h4_, h5_, h6_, h7_, h8_, h9_, h10_, h11_, h12_, h13_, h14_, h15_, h16_, h17_, h18_⟩
         have n0_ : Aside0 (w138.heap[gb262]? = some (.cells #[.int .i64 t253, .int .i64 t254, .int .i64 t255] 41 (0, 0))) := ⟨h0_⟩
         have n1_ : Aside0 (w138.heap[gb263]? = some (.cells #[.int .i64 t256, .int .i64 t257, .int .i64 t258] 41 (0, 0))) := ⟨h1_⟩
         have n2_ : Aside0 (w138.heap[gb264]? = some (.cells #[.int .i64 t259, .int .i64 t260, .int .i64 t261] 41 (0, 0))) := ⟨h2_⟩
         have n3_ : Aside0 (w138.heap[gb268]? = some (.cells #[.int .i64 t265, .int .i64 t266, .int .i64 t267] 41 (0, 0))) := ⟨h3_⟩
         have n4_ : Aside0 (w138.heap[gb272]? = some (.cells #[.int .i64 t269, .int .i64 t270, .int .i64 t271] 41 (0, 0))) := ⟨h4_⟩
         have n5_ : Aside0 (w138.heap[gb279]? = some (.cells #[.int .i64 0, .int .i64 0, .int .i64 0] 41 (0, 0))) := ⟨h5_⟩
         have n6_ : Aside0 (w.heap.size ≤ gb279) := ⟨h6_⟩
         have n7_ : Aside0 (w.heap.size ≤ gb279) := ⟨h7_⟩
         have n8_ : Aside0 (gb262 ≠ gb279) := ⟨h8_⟩
         have n9_ : Aside0 (gb279 ≠ gb262) := ⟨h9_⟩
         have n10_ : Aside0 (gb263 ≠ gb279) := ⟨h10_⟩
         have n11_ : Aside0 (gb279 ≠ gb263) := ⟨h11_⟩
         have n12_ : Aside0 (gb264 ≠ gb279) := ⟨h12_⟩
         have n13_ : Aside0 (gb279 ≠ gb264) := ⟨h13_⟩
         have n14_ : Aside0 (gb268 ≠ gb279) := ⟨h14_⟩
         have n15_ : Aside0 (gb279 ≠ gb268) := ⟨h15_⟩
         have n16_ : Aside0 (gb272 ≠ gb279) := ⟨h16_⟩
         have n17_ : Aside0 (gb279 ≠ gb272) := ⟨h17_⟩
         have n18_ : Aside0 (Below w.heap.size w w138) := ⟨h18_⟩
         clear BK262
         clear BK263
         clear BK264
         clear BK268
         clear BK272
         clear HB
         clear h0_ h1_ h2_ h3_ h4_ h5_ h6_ h7_ h8_ h9_ h10_ h11_ h12_ h13_ h14_ h15_ h16_ h17_ h18_
         have BK262 := n0_
         have BK263 := n1_
         have BK264 := n2_
         have BK268 := n3_
         have BK272 := n4_
         have BK279 := n5_
         have GW279 := n6_
         have GE279 := n7_
         have NB262_279 := n8_
         have NB279_262 := n9_
         have NB263_279 := n10_
         have NB279_263 := n11_
         have NB264_279 := n12_
         have NB279_264 := n13_
         have NB268_279 := n14_
         have NB279_268 := n15_
         have NB272_279 := n16_
         have NB279_272 := n17_
         have HB := n18_
         clear n0_ n1_ n2_ n3_ n4_ n5_ n6_ n7_ n8_ n9_ n10_ n11_ n12_ n13_ n14_ n15_ n16_ n17_ n18_
         have hHeld : w138.cell? ⟨gb262, 0, none⟩ = some (.int .i64 t253) ∧ w138.cell? ⟨gb262, 1, none⟩ = some (.int .i64 t254) ∧ w138.cell? ⟨gb262, 2, none⟩ = some (.int .i64 t255) ∧ w138.cell? ⟨gb263, 0, none⟩ = some (.int .i64 t256) ∧ w138.cell? ⟨gb263, 1, none⟩ = some (.int .i64 t257) ∧ w138.cell? ⟨gb263, 2, none⟩ = some (.int .i64 t258) ∧ w138.cell? ⟨gb264, 0, none⟩ = some (.int .i64 t259) ∧ w138.cell? ⟨gb264, 1, none⟩ = some (.int .i64 t260) ∧ w138.cell? ⟨gb264, 2, none⟩ = some (.int .i64 t261) := hS_
         refine norm_ (a' := ?_) ?_ ?_
         rotate_left
         ·simp only [putAll, Act.put, List.setIfInBounds_toArray, List.set_cons_zero, List.set_cons_succ]
          rfl
         refine one_ (i := 6) (N := none) #[true, true, true, true, true, true, true] rfl rfl (by kernel_rfl) (by decide) (fun K hK => ?_)
         have hs139 : w138.cell? ⟨gb279, 0, none⟩ = some (.int .i64 0) := cR BK279.out 0
         have hfs139 := blk_frozen BK279.out 0
         have hns139_0 := NB262_279.out
         have hns139_1 := NB263_279.out
         have hns139_2 := NB264_279.out
         have hns139_3 := NB268_279.out
         have hns139_4 := NB272_279.out
         have hms139_0 := NB279_262.out
         have hms139_1 := NB279_263.out
         have hms139_2 := NB279_264.out
         have hms139_3 := NB279_268.out
         have hms139_4 := NB279_272.out
         have hs140 : w138.cell? ⟨gb279, 1, none⟩ = some (.int .i64 0) := cR BK279.out 1
         have hfs140 := blk_frozen BK279.out 1
         have hns140_0 := NB262_279.out
         have hns140_1 := NB263_279.out
         have hns140_2 := NB264_279.out
         have hns140_3 := NB268_279.out
         have hns140_4 := NB272_279.out
         have hms140_0 := NB279_262.out
         have hms140_1 := NB279_263.out
         have hms140_2 := NB279_264.out
         have hms140_3 := NB279_268.out
         have hms140_4 := NB279_272.out
         have hs141 : w138.cell? ⟨gb279, 2, none⟩ = some (.int .i64 0) := cR BK279.out 2
         have hfs141 := blk_frozen BK279.out 2
         have hns141_0 := NB262_279.out
         have hns141_1 := NB263_279.out
         have hns141_2 := NB264_279.out
         have hns141_3 := NB268_279.out
         have hns141_4 := NB272_279.out
         have hms141_0 := NB279_262.out
         have hms141_1 := NB279_263.out
         have hms141_2 := NB279_264.out
         have hms141_3 := NB279_268.out
         have hms141_4 := NB279_272.out
         refine skip_ (w1 := ?_) (by rfl) rfl ?_ ?_
         rotate_left
         ·go_simp
          rfl
         refine hK.out _ _ ⟨((cell_far (p := ⟨gb279, _, none⟩) NB262_279.out _).trans (((cell_far (p := ⟨gb279, _, none⟩) NB262_279.out _).trans (((cell_far (p := ⟨gb279, _, none⟩) NB262_279.out _).trans (hHeld.1)))))), ((cell_far (p := ⟨gb279, _, none⟩) NB262_279.out _).trans (((cell_far (p := ⟨gb279, _, none⟩) NB262_279.out _).trans (((cell_far (p := ⟨gb279, _, none⟩) NB262_279.out _).trans (hHeld.2.1)))))), ((cell_far (p := ⟨gb279, _, none⟩) NB262_279.out _).trans (((cell_far (p := ⟨gb279, _, none⟩) NB262_279.out _).trans (((cell_far (p := ⟨gb279, _, none⟩) NB262_279.out _).trans (hHeld.2.2.1)))))), ((cell_far (p := ⟨gb279, _, none⟩) NB263_279.out _).trans (((cell_far (p := ⟨gb279, _, none⟩) NB263_279.out _).trans (((cell_far (p := ⟨gb279, _, none⟩) NB263_279.out _).trans (hHeld.2.2.2.1)))))), ((cell_far (p := ⟨gb279, _, none⟩) NB263_279.out _).trans (((cell_far (p := ⟨gb279, _, none⟩) NB263_279.out _).trans (((cell_far (p := ⟨gb279, _, none⟩) NB263_279.out _).trans (hHeld.2.2.2.2.1)))))), ((cell_far (p := ⟨gb279, _, none⟩) NB263_279.out _).trans (((cell_far (p := ⟨gb279, _, none⟩) NB263_279.out _).trans (((cell_far (p := ⟨gb279, _, none⟩) NB263_279.out _).trans (hHeld.2.2.2.2.2.1)))))), ((cell_far (p := ⟨gb279, _, none⟩) NB264_279.out _).trans (((cell_far (p := ⟨gb279, _, none⟩) NB264_279.out _).trans (((cell_far (p := ⟨gb279, _, none⟩) NB264_279.out _).trans (hHeld.2.2.2.2.2.2.1)))))), ((cell_far (p := ⟨gb279, _, none⟩) NB264_279.out _).trans (((cell_far (p := ⟨gb279, _, none⟩) NB264_279.out _).trans (((cell_far (p := ⟨gb279, _, none⟩) NB264_279.out _).trans (hHeld.2.2.2.2.2.2.2.1)))))), ((cell_far (p := ⟨gb279, _, none⟩) NB264_279.out _).trans (((cell_far (p := ⟨gb279, _, none⟩) NB264_279.out _).trans (((cell_far (p := ⟨gb279, _, none⟩) NB264_279.out _).trans (hHeld.2.2.2.2.2.2.2.2))))))⟩ (fun hHeld => ?_)
         clear hK K
         refine done_ (by kernel_rfl) ?_
         try go_wp2_with (first | ((with_reducible refine gate_callee (f := 29) rfl ?_); refine gL_ (some 35) Try.func29 #[.slice A0 l0.length c0] ?_; (with_reducible refine (spec_DrawPutReg.calls k _ _ l0 t280 t281 t282 t283 t284 t285 _ ?side1 ?side2 A9.out).mono ?_); (case side1 => exact Kd.C_below HR0.out aH); (case side2 => exact HC0.out); rintro e w142 ⟨rfl, hb⟩; refine ⟨_, rfl, ?_⟩; have n0_ := Aside0.mk (blk_below (g := gb262) (o := .cells #[.int .i64 t253, .int .i64 t254, .int .i64 t255] 41 (0, 0)) (by (with_reducible repeat (first | refine blk_drewN ?_ _ | refine blk_drew ?_ | refine blk_alloc ?_ _)); refine blk_far ?_ NB262_279.out _; (with_reducible repeat (first | refine blk_drewN ?_ _ | refine blk_drew ?_ | refine blk_alloc ?_ _)); refine blk_far ?_ NB262_279.out _; (with_reducible repeat (first | refine blk_drewN ?_ _ | refine blk_drew ?_ | refine blk_alloc ?_ _)); refine blk_far ?_ NB262_279.out _; (with_reducible repeat (first | refine blk_drewN ?_ _ | refine blk_drew ?_ | refine blk_alloc ?_ _)); exact BK262.out) hb); have n1_ := Aside0.mk (blk_below (g := gb263) (o := .cells #[.int .i64 t256, .int .i64 t257, .int .i64 t258] 41 (0, 0)) (by (with_reducible repeat (first | refine blk_drewN ?_ _ | refine blk_drew ?_ | refine blk_alloc ?_ _)); refine blk_far ?_ NB263_279.out _; (with_reducible repeat (first | refine blk_drewN ?_ _ | refine blk_drew ?_ | refine blk_alloc ?_ _)); refine blk_far ?_ NB263_279.out _; (with_reducible repeat (first | refine blk_drewN ?_ _ | refine blk_drew ?_ | refine blk_alloc ?_ _)); refine blk_far ?_ NB263_279.out _; (with_reducible repeat (first | refine blk_drewN ?_ _ | refine blk_drew ?_ | refine blk_alloc ?_ _)); exact BK263.out) hb); have n2_ := Aside0.mk (blk_below (g := gb264) (o := .cells #[.int .i64 t259, .int .i64 t260, .int .i64 t261] 41 (0, 0)) (by (with_reducible repeat (first | refine blk_drewN ?_ _ | refine blk_drew ?_ | refine blk_alloc ?_ _)); refine blk_far ?_ NB264_279.out _; (with_reducible repeat (first | refine blk_drewN ?_ _ | refine blk_drew ?_ | refine blk_alloc ?_ _)); refine blk_far ?_ NB264_279.out _; (with_reducible repeat (first | refine blk_drewN ?_ _ | refine blk_drew ?_ | refine blk_alloc ?_ _)); refine blk_far ?_ NB264_279.out _; (with_reducible repeat (first | refine blk_drewN ?_ _ | refine blk_drew ?_ | refine blk_alloc ?_ _)); exact BK264.out) hb); have n3_ := Aside0.mk (blk_below (g := gb268) (o := .cells #[.int .i64 t265, .int .i64 t266, .int .i64 t267] 41 (0, 0)) (by (with_reducible repeat (first | refine blk_drewN ?_ _ | refine blk_drew ?_ | refine blk_alloc ?_ _)); refine blk_far ?_ NB268_279.out _; (with_reducible repeat (first | refine blk_drewN ?_ _ | refine blk_drew ?_ | refine blk_alloc ?_ _)); refine blk_far ?_ NB268_279.out _; (with_reducible repeat (first | refine blk_drewN ?_ _ | refine blk_drew ?_ | refine blk_alloc ?_ _)); refine blk_far ?_ NB268_279.out _; (with_reducible repeat (first | refine blk_drewN ?_ _ | refine blk_drew ?_ | refine blk_alloc ?_ _)); exact BK268.out) hb); have n4_ := Aside0.mk (blk_below (g := gb272) (o := .cells #[.int .i64 t269, .int .i64 t270, .int .i64 t271] 41 (0, 0)) (by (with_reducible repeat (first | refine blk_drewN ?_ _ | refine blk_drew ?_ | refine blk_alloc ?_ _)); refine blk_far ?_ NB272_279.out _; (with_reducible repeat (first | refine blk_drewN ?_ _ | refine blk_drew ?_ | refine blk_alloc ?_ _)); refine blk_far ?_ NB272_279.out _; (with_reducible repeat (first | refine blk_drewN ?_ _ | refine blk_drew ?_ | refine blk_alloc ?_ _)); refine blk_far ?_ NB272_279.out _; (with_reducible repeat (first | refine blk_drewN ?_ _ | refine blk_drew ?_ | refine blk_alloc ?_ _)); exact BK272.out) hb); have n5_ := Aside0.mk (blk_below (g := gb279) (o := .cells #[.int .i64 t276, .int .i64 t277, .int .i64 t278] 41 (0, 0)) (by (with_reducible repeat (first | refine blk_drewN ?_ _ | refine blk_drew ?_ | refine blk_alloc ?_ _)); refine blk_put (cs := #[.int .i64 t276, .int .i64 t277, .int .i64 0]) ?_ 2 _ rfl; (with_reducible repeat (first | refine blk_drewN ?_ _ | refine blk_drew ?_ | refine blk_alloc ?_ _)); refine blk_put (cs := #[.int .i64 t276, .int .i64 0, .int .i64 0]) ?_ 1 _ rfl; (with_reducible repeat (first | refine blk_drewN ?_ _ | refine blk_drew ?_ | refine blk_alloc ?_ _)); refine blk_put (cs := #[.int .i64 0, .int .i64 0, .int .i64 0]) ?_ 0 _ rfl; (with_reducible repeat (first | refine blk_drewN ?_ _ | refine blk_drew ?_ | refine blk_alloc ?_ _)); exact BK279.out) hb); have n6_ := Aside0.mk (below_step aH hb); clear BK262; clear BK263; clear BK264; clear BK268; clear BK272; clear BK279; clear HB; have BK262 := n0_; have BK263 := n1_; have BK264 := n2_; have BK268 := n3_; have BK272 := n4_; have BK279 := n5_; have HB := n6_; clear n0_ n1_ n2_ n3_ n4_ n5_ n6_; (try clear hb); (try clear hb2); (try clear hk); (try clear hi)) | ((with_reducible refine gate_dst (N := 9) rfl ?_); refine bE 9 #[.int .i64 0, .int .i64 0, .int .i64 0] 41 ?_; intro gb286 hg w143 hbox hb; have n0_ := Aside0.mk (kB BK262.out hb); have n1_ := Aside0.mk (kB BK263.out hb); have n2_ := Aside0.mk (kB BK264.out hb); have n3_ := Aside0.mk (kB BK268.out hb); have n4_ := Aside0.mk (kB BK272.out hb); have n5_ := Aside0.mk (kB BK279.out hb); have n6_ := Aside0.mk (below_step aH hb); have n7_ := Aside0.mk (hbox); have n8_ := Aside0.mk ((gS hg : w.heap.size ≤ gb286)); have n9_ := Aside0.mk ((gS hg : w.heap.size ≤ gb286)); have n10_ := Aside0.mk (gL hg BK262.out); have n11_ := Aside0.mk (gG hg BK262.out); have n12_ := Aside0.mk (gL hg BK263.out); have n13_ := Aside0.mk (gG hg BK263.out); have n14_ := Aside0.mk (gL hg BK264.out); have n15_ := Aside0.mk (gG hg BK264.out); have n16_ := Aside0.mk (gL hg BK268.out); have n17_ := Aside0.mk (gG hg BK268.out); have n18_ := Aside0.mk (gL hg BK272.out); have n19_ := Aside0.mk (gG hg BK272.out); have n20_ := Aside0.mk (gL hg BK279.out); have n21_ := Aside0.mk (gG hg BK279.out); clear BK262; clear BK263; clear BK264; clear BK268; clear BK272; clear BK279; clear HB; have BK262 := n0_; have BK263 := n1_; have BK264 := n2_; have BK268 := n3_; have BK272 := n4_; have BK279 := n5_; have HB := n6_; have BK286 := n7_; have GW286 := n8_; have GE286 := n9_; have NB262_286 := n10_; have NB286_262 := n11_; have NB263_286 := n12_; have NB286_263 := n13_; have NB264_286 := n14_; have NB286_264 := n15_; have NB268_286 := n16_; have NB286_268 := n17_; have NB272_286 := n18_; have NB286_272 := n19_; have NB279_286 := n20_; have NB286_279 := n21_; clear n0_ n1_ n2_ n3_ n4_ n5_ n6_ n7_ n8_ n9_ n10_ n11_ n12_ n13_ n14_ n15_ n16_ n17_ n18_ n19_ n20_ n21_; clear hb hbox hg) | ((with_reducible refine gate_dst (N := 11) rfl ?_); refine bE 11 #[.int .i64 0, .int .i64 0] 39 ?_; intro gb287 hg w144 hbox hb; have n0_ := Aside0.mk (kB BK262.out hb); have n1_ := Aside0.mk (kB BK263.out hb); have n2_ := Aside0.mk (kB BK264.out hb); have n3_ := Aside0.mk (kB BK268.out hb); have n4_ := Aside0.mk (kB BK272.out hb); have n5_ := Aside0.mk (kB BK279.out hb); have n6_ := Aside0.mk (kB BK286.out hb); have n7_ := Aside0.mk (below_step aH hb); have n8_ := Aside0.mk (hbox); have n9_ := Aside0.mk ((gS hg : w.heap.size ≤ gb287)); have n10_ := Aside0.mk ((gS hg : w.heap.size ≤ gb287)); have n11_ := Aside0.mk (gL hg BK262.out); have n12_ := Aside0.mk (gG hg BK262.out); have n13_ := Aside0.mk (gL hg BK263.out); have n14_ := Aside0.mk (gG hg BK263.out); have n15_ := Aside0.mk (gL hg BK264.out); have n16_ := Aside0.mk (gG hg BK264.out); have n17_ := Aside0.mk (gL hg BK268.out); have n18_ := Aside0.mk (gG hg BK268.out); have n19_ := Aside0.mk (gL hg BK272.out); have n20_ := Aside0.mk (gG hg BK272.out); have n21_ := Aside0.mk (gL hg BK279.out); have n22_ := Aside0.mk (gG hg BK279.out); have n23_ := Aside0.mk (gL hg BK286.out); have n24_ := Aside0.mk (gG hg BK286.out); clear BK262; clear BK263; clear BK264; clear BK268; clear BK272; clear BK279; clear BK286; clear HB; have BK262 := n0_; have BK263 := n1_; have BK264 := n2_; have BK268 := n3_; have BK272 := n4_; have BK279 := n5_; have BK286 := n6_; have HB := n7_; have BK287 := n8_; have GW287 := n9_; have GE287 := n10_; have NB262_287 := n11_; have NB287_262 := n12_; have NB263_287 := n13_; have NB287_263 := n14_; have NB264_287 := n15_; have NB287_264 := n16_; have NB268_287 := n17_; have NB287_268 := n18_; have NB272_287 := n19_; have NB287_272 := n20_; have NB279_287 := n21_; have NB287_279 := n22_; have NB286_287 := n23_; have NB287_286 := n24_; clear n0_ n1_ n2_ n3_ n4_ n5_ n6_ n7_ n8_ n9_ n10_ n11_ n12_ n13_ n14_ n15_ n16_ n17_ n18_ n19_ n20_ n21_ n22_ n23_ n24_; clear hb hbox hg; have hnb145 := NB286_262.out; have hnc145 := NB262_286.out; have hnb146 := NB286_263.out; have hnc146 := NB263_286.out; have hnb147 := NB286_264.out; have hnc147 := NB264_286.out; have hnb148 := NB286_268.out; have hnc148 := NB268_286.out; have hnb149 := NB286_272.out; have hnc149 := NB272_286.out; have hnb150 := NB286_279.out; have hnc150 := NB279_286.out; have hnb151 := NB286_287.out; have hnc151 := NB287_286.out; have hcz152_0 : w144.cell? ⟨gb286, 0, none⟩ = some (.int .i64 0) := cR BK286.out 0; have hcz152_1 : w144.cell? ⟨gb286, 1, none⟩ = some (.int .i64 0) := cR BK286.out 1; have hcz152_2 : w144.cell? ⟨gb286, 2, none⟩ = some (.int .i64 0) := cR BK286.out 2; have hfz152_0 := blk_frozen BK286.out 0; have hfz152_1 := blk_frozen BK286.out 1; have hfz152_2 := blk_frozen BK286.out 2; have hnb153 := NB287_262.out; have hnc153 := NB262_287.out; have hnb154 := NB287_263.out; have hnc154 := NB263_287.out; have hnb155 := NB287_264.out; have hnc155 := NB264_287.out; have hnb156 := NB287_268.out; have hnc156 := NB268_287.out; have hnb157 := NB287_272.out; have hnc157 := NB272_287.out; have hnb158 := NB287_279.out; have hnc158 := NB279_287.out; have hcz159_0 : w144.cell? ⟨gb287, 0, none⟩ = some (.int .i64 0) := cR BK287.out 0; have hcz159_1 : w144.cell? ⟨gb287, 1, none⟩ = some (.int .i64 0) := cR BK287.out 1; have hfz159_0 := blk_frozen BK287.out 0; have hfz159_1 := blk_frozen BK287.out 1) | ((with_reducible refine gate_callee (f := 30) rfl ?_); refine gL_ (some 42) Try.func30 #[.agg #[.int .i64 t280, .int .i64 t281, .int .i64 t282], .int .i64 t283, .agg #[.int .i64 t284, .int .i64 t285]] ?_; (with_reducible refine (impl_PutReg.calls t280 t281 t282 t283 t284 t285 t288 t289 t290 _ A10.out).mono ?_); rintro e w160 ⟨rfl, hb⟩; refine ⟨_, rfl, ?_⟩; have n0_ := Aside0.mk (blk_below (g := gb262) (o := .cells #[.int .i64 t253, .int .i64 t254, .int .i64 t255] 41 (0, 0)) (by (with_reducible repeat (first | refine blk_drewN ?_ _ | refine blk_drew ?_ | refine blk_alloc ?_ _)); refine blk_far ?_ NB262_287.out _; (with_reducible repeat (first | refine blk_drewN ?_ _ | refine blk_drew ?_ | refine blk_alloc ?_ _)); refine blk_far ?_ NB262_287.out _; (with_reducible repeat (first | refine blk_drewN ?_ _ | refine blk_drew ?_ | refine blk_alloc ?_ _)); refine blk_far ?_ NB262_286.out _; (with_reducible repeat (first | refine blk_drewN ?_ _ | refine blk_drew ?_ | refine blk_alloc ?_ _)); refine blk_far ?_ NB262_286.out _; (with_reducible repeat (first | refine blk_drewN ?_ _ | refine blk_drew ?_ | refine blk_alloc ?_ _)); refine blk_far ?_ NB262_286.out _; (with_reducible repeat (first | refine blk_drewN ?_ _ | refine blk_drew ?_ | refine blk_alloc ?_ _)); exact BK262.out) hb); have n1_ := Aside0.mk (blk_below (g := gb263) (o := .cells #[.int .i64 t256, .int .i64 t257, .int .i64 t258] 41 (0, 0)) (by (with_reducible repeat (first | refine blk_drewN ?_ _ | refine blk_drew ?_ | refine blk_alloc ?_ _)); refine blk_far ?_ NB263_287.out _; (with_reducible repeat (first | refine blk_drewN ?_ _ | refine blk_drew ?_ | refine blk_alloc ?_ _)); refine blk_far ?_ NB263_287.out _; (with_reducible repeat (first | refine blk_drewN ?_ _ | refine blk_drew ?_ | refine blk_alloc ?_ _)); refine blk_far ?_ NB263_286.out _; (with_reducible repeat (first | refine blk_drewN ?_ _ | refine blk_drew ?_ | refine blk_alloc ?_ _)); refine blk_far ?_ NB263_286.out _; (with_reducible repeat (first | refine blk_drewN ?_ _ | refine blk_drew ?_ | refine blk_alloc ?_ _)); refine blk_far ?_ NB263_286.out _; (with_reducible repeat (first | refine blk_drewN ?_ _ | refine blk_drew ?_ | refine blk_alloc ?_ _)); exact BK263.out) hb); have n2_ := Aside0.mk (blk_below (g := gb264) (o := .cells #[.int .i64 t259, .int .i64 t260, .int .i64 t261] 41 (0, 0)) (by (with_reducible repeat (first | refine blk_drewN ?_ _ | refine blk_drew ?_ | refine blk_alloc ?_ _)); refine blk_far ?_ NB264_287.out _; (with_reducible repeat (first | refine blk_drewN ?_ _ | refine blk_drew ?_ | refine blk_alloc ?_ _)); refine blk_far ?_ NB264_287.out _; (with_reducible repeat (first | refine blk_drewN ?_ _ | refine blk_drew ?_ | refine blk_alloc ?_ _)); refine blk_far ?_ NB264_286.out _; (with_reducible repeat (first | refine blk_drewN ?_ _ | refine blk_drew ?_ | refine blk_alloc ?_ _)); refine blk_far ?_ NB264_286.out _; (with_reducible repeat (first | refine blk_drewN ?_ _ | refine blk_drew ?_ | refine blk_alloc ?_ _)); refine blk_far ?_ NB264_286.out _; (with_reducible repeat (first | refine blk_drewN ?_ _ | refine blk_drew ?_ | refine blk_alloc ?_ _)); exact BK264.out) hb); have n3_ := Aside0.mk (blk_below (g := gb268) (o := .cells #[.int .i64 t265, .int .i64 t266, .int .i64 t267] 41 (0, 0)) (by (with_reducible repeat (first | refine blk_drewN ?_ _ | refine blk_drew ?_ | refine blk_alloc ?_ _)); refine blk_far ?_ NB268_287.out _; (with_reducible repeat (first | refine blk_drewN ?_ _ | refine blk_drew ?_ | refine blk_alloc ?_ _)); refine blk_far ?_ NB268_287.out _; (with_reducible repeat (first | refine blk_drewN ?_ _ | refine blk_drew ?_ | refine blk_alloc ?_ _)); refine blk_far ?_ NB268_286.out _; (with_reducible repeat (first | refine blk_drewN ?_ _ | refine blk_drew ?_ | refine blk_alloc ?_ _)); refine blk_far ?_ NB268_286.out _; (with_reducible repeat (first | refine blk_drewN ?_ _ | refine blk_drew ?_ | refine blk_alloc ?_ _)); refine blk_far ?_ NB268_286.out _; (with_reducible repeat (first | refine blk_drewN ?_ _ | refine blk_drew ?_ | refine blk_alloc ?_ _)); exact BK268.out) hb); have n4_ := Aside0.mk (blk_below (g := gb272) (o := .cells #[.int .i64 t269, .int .i64 t270, .int .i64 t271] 41 (0, 0)) (by (with_reducible repeat (first | refine blk_drewN ?_ _ | refine blk_drew ?_ | refine blk_alloc ?_ _)); refine blk_far ?_ NB272_287.out _; (with_reducible repeat (first | refine blk_drewN ?_ _ | refine blk_drew ?_ | refine blk_alloc ?_ _)); refine blk_far ?_ NB272_287.out _; (with_reducible repeat (first | refine blk_drewN ?_ _ | refine blk_drew ?_ | refine blk_alloc ?_ _)); refine blk_far ?_ NB272_286.out _; (with_reducible repeat (first | refine blk_drewN ?_ _ | refine blk_drew ?_ | refine blk_alloc ?_ _)); refine blk_far ?_ NB272_286.out _; (with_reducible repeat (first | refine blk_drewN ?_ _ | refine blk_drew ?_ | refine blk_alloc ?_ _)); refine blk_far ?_ NB272_286.out _; (with_reducible repeat (first | refine blk_drewN ?_ _ | refine blk_drew ?_ | refine blk_alloc ?_ _)); exact BK272.out) hb); have n5_ := Aside0.mk (blk_below (g := gb279) (o := .cells #[.int .i64 t276, .int .i64 t277, .int .i64 t278] 41 (0, 0)) (by (with_reducible repeat (first | refine blk_drewN ?_ _ | refine blk_drew ?_ | refine blk_alloc ?_ _)); refine blk_far ?_ NB279_287.out _; (with_reducible repeat (first | refine blk_drewN ?_ _ | refine blk_drew ?_ | refine blk_alloc ?_ _)); refine blk_far ?_ NB279_287.out _; (with_reducible repeat (first | refine blk_drewN ?_ _ | refine blk_drew ?_ | refine blk_alloc ?_ _)); refine blk_far ?_ NB279_286.out _; (with_reducible repeat (first | refine blk_drewN ?_ _ | refine blk_drew ?_ | refine blk_alloc ?_ _)); refine blk_far ?_ NB279_286.out _; (with_reducible repeat (first | refine blk_drewN ?_ _ | refine blk_drew ?_ | refine blk_alloc ?_ _)); refine blk_far ?_ NB279_286.out _; (with_reducible repeat (first | refine blk_drewN ?_ _ | refine blk_drew ?_ | refine blk_alloc ?_ _)); exact BK279.out) hb); have n6_ := Aside0.mk (blk_below (g := gb286) (o := .cells #[.int .i64 t280, .int .i64 t281, .int .i64 t282] 41 (0, 0)) (by (with_reducible repeat (first | refine blk_drewN ?_ _ | refine blk_drew ?_ | refine blk_alloc ?_ _)); refine blk_far ?_ NB286_287.out _; (with_reducible repeat (first | refine blk_drewN ?_ _ | refine blk_drew ?_ | refine blk_alloc ?_ _)); refine blk_far ?_ NB286_287.out _; (with_reducible repeat (first | refine blk_drewN ?_ _ | refine blk_drew ?_ | refine blk_alloc ?_ _)); refine blk_put (cs := #[.int .i64 t280, .int .i64 t281, .int .i64 0]) ?_ 2 _ rfl; (with_reducible repeat (first | refine blk_drewN ?_ _ | refine blk_drew ?_ | refine blk_alloc ?_ _)); refine blk_put (cs := #[.int .i64 t280, .int .i64 0, .int .i64 0]) ?_ 1 _ rfl; (with_reducible repeat (first | refine blk_drewN ?_ _ | refine blk_drew ?_ | refine blk_alloc ?_ _)); refine blk_put (cs := #[.int .i64 0, .int .i64 0, .int .i64 0]) ?_ 0 _ rfl; (with_reducible repeat (first | refine blk_drewN ?_ _ | refine blk_drew ?_ | refine blk_alloc ?_ _)); exact BK286.out) hb); have n7_ := Aside0.mk (blk_below (g := gb287) (o := .cells #[.int .i64 t284, .int .i64 t285] 39 (0, 0)) (by (with_reducible repeat (first | refine blk_drewN ?_ _ | refine blk_drew ?_ | refine blk_alloc ?_ _)); refine blk_put (cs := #[.int .i64 t284, .int .i64 0]) ?_ 1 _ rfl; (with_reducible repeat (first | refine blk_drewN ?_ _ | refine blk_drew ?_ | refine blk_alloc ?_ _)); refine blk_put (cs := #[.int .i64 0, .int .i64 0]) ?_ 0 _ rfl; (with_reducible repeat (first | refine blk_drewN ?_ _ | refine blk_drew ?_ | refine blk_alloc ?_ _)); refine blk_far ?_ NB287_286.out _; (with_reducible repeat (first | refine blk_drewN ?_ _ | refine blk_drew ?_ | refine blk_alloc ?_ _)); refine blk_far ?_ NB287_286.out _; (with_reducible repeat (first | refine blk_drewN ?_ _ | refine blk_drew ?_ | refine blk_alloc ?_ _)); refine blk_far ?_ NB287_286.out _; (with_reducible repeat (first | refine blk_drewN ?_ _ | refine blk_drew ?_ | refine blk_alloc ?_ _)); exact BK287.out) hb); have n8_ := Aside0.mk (below_step aH hb); clear BK262; clear BK263; clear BK264; clear BK268; clear BK272; clear BK279; clear BK286; clear BK287; clear HB; have BK262 := n0_; have BK263 := n1_; have BK264 := n2_; have BK268 := n3_; have BK272 := n4_; have BK279 := n5_; have BK286 := n6_; have BK287 := n7_; have HB := n8_; clear n0_ n1_ n2_ n3_ n4_ n5_ n6_ n7_ n8_; (try clear hb); (try clear hb2); (try clear hk); (try clear hi)) | ((with_reducible refine gate_dst (N := 12) rfl ?_); refine bE 12 #[.int .i64 0, .int .i64 0, .int .i64 0] 41 ?_; intro gb291 hg w161 hbox hb; have n0_ := Aside0.mk (kB BK262.out hb); have n1_ := Aside0.mk (kB BK263.out hb); have n2_ := Aside0.mk (kB BK264.out hb); have n3_ := Aside0.mk (kB BK268.out hb); have n4_ := Aside0.mk (kB BK272.out hb); have n5_ := Aside0.mk (kB BK279.out hb); have n6_ := Aside0.mk (kB BK286.out hb); have n7_ := Aside0.mk (kB BK287.out hb); have n8_ := Aside0.mk (below_step aH hb); have n9_ := Aside0.mk (hbox); have n10_ := Aside0.mk ((gS hg : w.heap.size ≤ gb291)); have n11_ := Aside0.mk ((gS hg : w.heap.size ≤ gb291)); have n12_ := Aside0.mk (gL hg BK262.out); have n13_ := Aside0.mk (gG hg BK262.out); have n14_ := Aside0.mk (gL hg BK263.out); have n15_ := Aside0.mk (gG hg BK263.out); have n16_ := Aside0.mk (gL hg BK264.out); have n17_ := Aside0.mk (gG hg BK264.out); have n18_ := Aside0.mk (gL hg BK268.out); have n19_ := Aside0.mk (gG hg BK268.out); have n20_ := Aside0.mk (gL hg BK272.out); have n21_ := Aside0.mk (gG hg BK272.out); have n22_ := Aside0.mk (gL hg BK279.out); have n23_ := Aside0.mk (gG hg BK279.out); have n24_ := Aside0.mk (gL hg BK286.out); have n25_ := Aside0.mk (gG hg BK286.out); have n26_ := Aside0.mk (gL hg BK287.out); have n27_ := Aside0.mk (gG hg BK287.out); clear BK262; clear BK263; clear BK264; clear BK268; clear BK272; clear BK279; clear BK286; clear BK287; clear HB; have BK262 := n0_; have BK263 := n1_; have BK264 := n2_; have BK268 := n3_; have BK272 := n4_; have BK279 := n5_; have BK286 := n6_; have BK287 := n7_; have HB := n8_; have BK291 := n9_; have GW291 := n10_; have GE291 := n11_; have NB262_291 := n12_; have NB291_262 := n13_; have NB263_291 := n14_; have NB291_263 := n15_; have NB264_291 := n16_; have NB291_264 := n17_; have NB268_291 := n18_; have NB291_268 := n19_; have NB272_291 := n20_; have NB291_272 := n21_; have NB279_291 := n22_; have NB291_279 := n23_; have NB286_291 := n24_; have NB291_286 := n25_; have NB287_291 := n26_; have NB291_287 := n27_; clear n0_ n1_ n2_ n3_ n4_ n5_ n6_ n7_ n8_ n9_ n10_ n11_ n12_ n13_ n14_ n15_ n16_ n17_ n18_ n19_ n20_ n21_ n22_ n23_ n24_ n25_ n26_ n27_; clear hb hbox hg; have hnb162 := NB291_262.out; have hnc162 := NB262_291.out; have hnb163 := NB291_263.out; have hnc163 := NB263_291.out; have hnb164 := NB291_264.out; have hnc164 := NB264_291.out; have hnb165 := NB291_268.out; have hnc165 := NB268_291.out; have hnb166 := NB291_272.out; have hnc166 := NB272_291.out; have hnb167 := NB291_279.out; have hnc167 := NB279_291.out; have hnb168 := NB291_286.out; have hnc168 := NB286_291.out; have hnb169 := NB291_287.out; have hnc169 := NB287_291.out; have hcz170_0 : w161.cell? ⟨gb291, 0, none⟩ = some (.int .i64 0) := cR BK291.out 0; have hcz170_1 : w161.cell? ⟨gb291, 1, none⟩ = some (.int .i64 0) := cR BK291.out 1; have hcz170_2 : w161.cell? ⟨gb291, 2, none⟩ = some (.int .i64 0) := cR BK291.out 2; have hfz170_0 := blk_frozen BK291.out 0; have hfz170_1 := blk_frozen BK291.out 1; have hfz170_2 := blk_frozen BK291.out 2; have hnb171 := NB262_279.out; have hnc171 := NB279_262.out; have hcz172_0 : w161.cell? ⟨gb262, 0, none⟩ = some (.int .i64 t253) := cR BK262.out 0; have hcz172_1 : w161.cell? ⟨gb262, 1, none⟩ = some (.int .i64 t254) := cR BK262.out 1; have hcz172_2 : w161.cell? ⟨gb262, 2, none⟩ = some (.int .i64 t255) := cR BK262.out 2; have hfz172_0 := blk_frozen BK262.out 0; have hfz172_1 := blk_frozen BK262.out 1; have hfz172_2 := blk_frozen BK262.out 2) | ((with_reducible refine gate_callee (f := 30) rfl ?_); refine gL_ (some 49) Try.func30 #[.agg #[.int .i64 t253, .int .i64 t254, .int .i64 t255], .int .i64 7, .agg #[.int .i64 (wrap64 (t254 + 1)), .int .i64 1]] ?_; (with_reducible refine (impl_PutReg.calls t253 t254 t255 7 (wrap64 (t254 + 1)) 1 t292 t293 t294 _ A11.out).mono ?_); rintro e w173 ⟨rfl, hb⟩; refine ⟨_, rfl, ?_⟩; have n0_ := Aside0.mk (blk_below (g := gb262) (o := .cells #[.int .i64 t253, .int .i64 t254, .int .i64 t255] 41 (0, 0)) (by (with_reducible repeat (first | refine blk_drewN ?_ _ | refine blk_drew ?_ | refine blk_alloc ?_ _)); refine blk_far ?_ NB262_291.out _; (with_reducible repeat (first | refine blk_drewN ?_ _ | refine blk_drew ?_ | refine blk_alloc ?_ _)); refine blk_far ?_ NB262_291.out _; (with_reducible repeat (first | refine blk_drewN ?_ _ | refine blk_drew ?_ | refine blk_alloc ?_ _)); refine blk_far ?_ NB262_291.out _; (with_reducible repeat (first | refine blk_drewN ?_ _ | refine blk_drew ?_ | refine blk_alloc ?_ _)); exact BK262.out) hb); have n1_ := Aside0.mk (blk_below (g := gb263) (o := .cells #[.int .i64 t256, .int .i64 t257, .int .i64 t258] 41 (0, 0)) (by (with_reducible repeat (first | refine blk_drewN ?_ _ | refine blk_drew ?_ | refine blk_alloc ?_ _)); refine blk_far ?_ NB263_291.out _; (with_reducible repeat (first | refine blk_drewN ?_ _ | refine blk_drew ?_ | refine blk_alloc ?_ _)); refine blk_far ?_ NB263_291.out _; (with_reducible repeat (first | refine blk_drewN ?_ _ | refine blk_drew ?_ | refine blk_alloc ?_ _)); refine blk_far ?_ NB263_291.out _; (with_reducible repeat (first | refine blk_drewN ?_ _ | refine blk_drew ?_ | refine blk_alloc ?_ _)); exact BK263.out) hb); have n2_ := Aside0.mk (blk_below (g := gb264) (o := .cells #[.int .i64 t259, .int .i64 t260, .int .i64 t261] 41 (0, 0)) (by (with_reducible repeat (first | refine blk_drewN ?_ _ | refine blk_drew ?_ | refine blk_alloc ?_ _)); refine blk_far ?_ NB264_291.out _; (with_reducible repeat (first | refine blk_drewN ?_ _ | refine blk_drew ?_ | refine blk_alloc ?_ _)); refine blk_far ?_ NB264_291.out _; (with_reducible repeat (first | refine blk_drewN ?_ _ | refine blk_drew ?_ | refine blk_alloc ?_ _)); refine blk_far ?_ NB264_291.out _; (with_reducible repeat (first | refine blk_drewN ?_ _ | refine blk_drew ?_ | refine blk_alloc ?_ _)); exact BK264.out) hb); have n3_ := Aside0.mk (blk_below (g := gb268) (o := .cells #[.int .i64 t265, .int .i64 t266, .int .i64 t267] 41 (0, 0)) (by (with_reducible repeat (first | refine blk_drewN ?_ _ | refine blk_drew ?_ | refine blk_alloc ?_ _)); refine blk_far ?_ NB268_291.out _; (with_reducible repeat (first | refine blk_drewN ?_ _ | refine blk_drew ?_ | refine blk_alloc ?_ _)); refine blk_far ?_ NB268_291.out _; (with_reducible repeat (first | refine blk_drewN ?_ _ | refine blk_drew ?_ | refine blk_alloc ?_ _)); refine blk_far ?_ NB268_291.out _; (with_reducible repeat (first | refine blk_drewN ?_ _ | refine blk_drew ?_ | refine blk_alloc ?_ _)); exact BK268.out) hb); have n4_ := Aside0.mk (blk_below (g := gb272) (o := .cells #[.int .i64 t269, .int .i64 t270, .int .i64 t271] 41 (0, 0)) (by (with_reducible repeat (first | refine blk_drewN ?_ _ | refine blk_drew ?_ | refine blk_alloc ?_ _)); refine blk_far ?_ NB272_291.out _; (with_reducible repeat (first | refine blk_drewN ?_ _ | refine blk_drew ?_ | refine blk_alloc ?_ _)); refine blk_far ?_ NB272_291.out _; (with_reducible repeat (first | refine blk_drewN ?_ _ | refine blk_drew ?_ | refine blk_alloc ?_ _)); refine blk_far ?_ NB272_291.out _; (with_reducible repeat (first | refine blk_drewN ?_ _ | refine blk_drew ?_ | refine blk_alloc ?_ _)); exact BK272.out) hb); have n5_ := Aside0.mk (blk_below (g := gb279) (o := .cells #[.int .i64 t276, .int .i64 t277, .int .i64 t278] 41 (0, 0)) (by (with_reducible repeat (first | refine blk_drewN ?_ _ | refine blk_drew ?_ | refine blk_alloc ?_ _)); refine blk_far ?_ NB279_291.out _; (with_reducible repeat (first | refine blk_drewN ?_ _ | refine blk_drew ?_ | refine blk_alloc ?_ _)); refine blk_far ?_ NB279_291.out _; (with_reducible repeat (first | refine blk_drewN ?_ _ | refine blk_drew ?_ | refine blk_alloc ?_ _)); refine blk_far ?_ NB279_291.out _; (with_reducible repeat (first | refine blk_drewN ?_ _ | refine blk_drew ?_ | refine blk_alloc ?_ _)); exact BK279.out) hb); have n6_ := Aside0.mk (blk_below (g := gb286) (o := .cells #[.int .i64 t280, .int .i64 t281, .int .i64 t282] 41 (0, 0)) (by (with_reducible repeat (first | refine blk_drewN ?_ _ | refine blk_drew ?_ | refine blk_alloc ?_ _)); refine blk_far ?_ NB286_291.out _; (with_reducible repeat (first | refine blk_drewN ?_ _ | refine blk_drew ?_ | refine blk_alloc ?_ _)); refine blk_far ?_ NB286_291.out _; (with_reducible repeat (first | refine blk_drewN ?_ _ | refine blk_drew ?_ | refine blk_alloc ?_ _)); refine blk_far ?_ NB286_291.out _; (with_reducible repeat (first | refine blk_drewN ?_ _ | refine blk_drew ?_ | refine blk_alloc ?_ _)); exact BK286.out) hb); have n7_ := Aside0.mk (blk_below (g := gb287) (o := .cells #[.int .i64 t284, .int .i64 t285] 39 (0, 0)) (by (with_reducible repeat (first | refine blk_drewN ?_ _ | refine blk_drew ?_ | refine blk_alloc ?_ _)); refine blk_far ?_ NB287_291.out _; (with_reducible repeat (first | refine blk_drewN ?_ _ | refine blk_drew ?_ | refine blk_alloc ?_ _)); refine blk_far ?_ NB287_291.out _; (with_reducible repeat (first | refine blk_drewN ?_ _ | refine blk_drew ?_ | refine blk_alloc ?_ _)); refine blk_far ?_ NB287_291.out _; (with_reducible repeat (first | refine blk_drewN ?_ _ | refine blk_drew ?_ | refine blk_alloc ?_ _)); exact BK287.out) hb); have n8_ := Aside0.mk (blk_below (g := gb291) (o := .cells #[.int .i64 t288, .int .i64 t289, .int .i64 t290] 41 (0, 0)) (by (with_reducible repeat (first | refine blk_drewN ?_ _ | refine blk_drew ?_ | refine blk_alloc ?_ _)); refine blk_put (cs := #[.int .i64 t288, .int .i64 t289, .int .i64 0]) ?_ 2 _ rfl; (with_reducible repeat (first | refine blk_drewN ?_ _ | refine blk_drew ?_ | refine blk_alloc ?_ _)); refine blk_put (cs := #[.int .i64 t288, .int .i64 0, .int .i64 0]) ?_ 1 _ rfl; (with_reducible repeat (first | refine blk_drewN ?_ _ | refine blk_drew ?_ | refine blk_alloc ?_ _)); refine blk_put (cs := #[.int .i64 0, .int .i64 0, .int .i64 0]) ?_ 0 _ rfl; (with_reducible repeat (first | refine blk_drewN ?_ _ | refine blk_drew ?_ | refine blk_alloc ?_ _)); exact BK291.out) hb); have n9_ := Aside0.mk (below_step aH hb); clear BK262; clear BK263; clear BK264; clear BK268; clear BK272; clear BK279; clear BK286; clear BK287; clear BK291; clear HB; have BK262 := n0_; have BK263 := n1_; have BK264 := n2_; have BK268 := n3_; have BK272 := n4_; have BK279 := n5_; have BK286 := n6_; have BK287 := n7_; have BK291 := n8_; have HB := n9_; clear n0_ n1_ n2_ n3_ n4_ n5_ n6_ n7_ n8_ n9_; (try clear hb); (try clear hb2); (try clear hk); (try clear hi)) | ((with_reducible refine gate_dst (N := 13) rfl ?_); refine bE 13 #[.int .i64 0, .int .i64 0, .int .i64 0] 41 ?_; intro gb295 hg w174 hbox hb; have n0_ := Aside0.mk (kB BK262.out hb); have n1_ := Aside0.mk (kB BK263.out hb); have n2_ := Aside0.mk (kB BK264.out hb); have n3_ := Aside0.mk (kB BK268.out hb); have n4_ := Aside0.mk (kB BK272.out hb); have n5_ := Aside0.mk (kB BK279.out hb); have n6_ := Aside0.mk (kB BK286.out hb); have n7_ := Aside0.mk (kB BK287.out hb); have n8_ := Aside0.mk (kB BK291.out hb); have n9_ := Aside0.mk (below_step aH hb); have n10_ := Aside0.mk (hbox); have n11_ := Aside0.mk ((gS hg : w.heap.size ≤ gb295)); have n12_ := Aside0.mk ((gS hg : w.heap.size ≤ gb295)); have n13_ := Aside0.mk (gL hg BK262.out); have n14_ := Aside0.mk (gG hg BK262.out); have n15_ := Aside0.mk (gL hg BK263.out); have n16_ := Aside0.mk (gG hg BK263.out); have n17_ := Aside0.mk (gL hg BK264.out); have n18_ := Aside0.mk (gG hg BK264.out); have n19_ := Aside0.mk (gL hg BK268.out); have n20_ := Aside0.mk (gG hg BK268.out); have n21_ := Aside0.mk (gL hg BK272.out); have n22_ := Aside0.mk (gG hg BK272.out); have n23_ := Aside0.mk (gL hg BK279.out); have n24_ := Aside0.mk (gG hg BK279.out); have n25_ := Aside0.mk (gL hg BK286.out); have n26_ := Aside0.mk (gG hg BK286.out); have n27_ := Aside0.mk (gL hg BK287.out); have n28_ := Aside0.mk (gG hg BK287.out); have n29_ := Aside0.mk (gL hg BK291.out); have n30_ := Aside0.mk (gG hg BK291.out); clear BK262; clear BK263; clear BK264; clear BK268; clear BK272; clear BK279; clear BK286; clear BK287; clear BK291; clear HB; have BK262 := n0_; have BK263 := n1_; have BK264 := n2_; have BK268 := n3_; have BK272 := n4_; have BK279 := n5_; have BK286 := n6_; have BK287 := n7_; have BK291 := n8_; have HB := n9_; have BK295 := n10_; have GW295 := n11_; have GE295 := n12_; have NB262_295 := n13_; have NB295_262 := n14_; have NB263_295 := n15_; have NB295_263 := n16_; have NB264_295 := n17_; have NB295_264 := n18_; have NB268_295 := n19_; have NB295_268 := n20_; have NB272_295 := n21_; have NB295_272 := n22_; have NB279_295 := n23_; have NB295_279 := n24_; have NB286_295 := n25_; have NB295_286 := n26_; have NB287_295 := n27_; have NB295_287 := n28_; have NB291_295 := n29_; have NB295_291 := n30_; clear n0_ n1_ n2_ n3_ n4_ n5_ n6_ n7_ n8_ n9_ n10_ n11_ n12_ n13_ n14_ n15_ n16_ n17_ n18_ n19_ n20_ n21_ n22_ n23_ n24_ n25_ n26_ n27_ n28_ n29_ n30_; clear hb hbox hg; have hnb175 := NB295_262.out; have hnc175 := NB262_295.out; have hnb176 := NB295_263.out; have hnc176 := NB263_295.out; have hnb177 := NB295_264.out; have hnc177 := NB264_295.out; have hnb178 := NB295_268.out; have hnc178 := NB268_295.out; have hnb179 := NB295_272.out; have hnc179 := NB272_295.out; have hnb180 := NB295_279.out; have hnc180 := NB279_295.out; have hnb181 := NB295_286.out; have hnc181 := NB286_295.out; have hnb182 := NB295_287.out; have hnc182 := NB287_295.out; have hnb183 := NB295_291.out; have hnc183 := NB291_295.out; have hcz184_0 : w174.cell? ⟨gb295, 0, none⟩ = some (.int .i64 0) := cR BK295.out 0; have hcz184_1 : w174.cell? ⟨gb295, 1, none⟩ = some (.int .i64 0) := cR BK295.out 1; have hcz184_2 : w174.cell? ⟨gb295, 2, none⟩ = some (.int .i64 0) := cR BK295.out 2; have hfz184_0 := blk_frozen BK295.out 0; have hfz184_1 := blk_frozen BK295.out 1; have hfz184_2 := blk_frozen BK295.out 2))
         have n0_ : Aside0 ((((w174.setCell ⟨gb295, 0, none⟩ (.int .i64 t292)).setCell ⟨gb295, 1, none⟩ (.int .i64 t293)).setCell ⟨gb295, 2, none⟩ (.int .i64 t294)).heap[gb262]? = some (.cells #[.int .i64 t253, .int .i64 t254, .int .i64 t255] 41 (0, 0))) := ⟨by (with_reducible repeat (first | refine blk_drewN ?_ _ | refine blk_drew ?_ | refine blk_alloc ?_ _)); refine blk_far ?_ NB262_295.out _; (with_reducible repeat (first | refine blk_drewN ?_ _ | refine blk_drew ?_ | refine blk_alloc ?_ _)); refine blk_far ?_ NB262_295.out _; (with_reducible repeat (first | refine blk_drewN ?_ _ | refine blk_drew ?_ | refine blk_alloc ?_ _)); refine blk_far ?_ NB262_295.out _; (with_reducible repeat (first | refine blk_drewN ?_ _ | refine blk_drew ?_ | refine blk_alloc ?_ _)); exact BK262.out⟩
         have n1_ : Aside0 ((((w174.setCell ⟨gb295, 0, none⟩ (.int .i64 t292)).setCell ⟨gb295, 1, none⟩ (.int .i64 t293)).setCell ⟨gb295, 2, none⟩ (.int .i64 t294)).heap[gb263]? = some (.cells #[.int .i64 t256, .int .i64 t257, .int .i64 t258] 41 (0, 0))) := ⟨by (with_reducible repeat (first | refine blk_drewN ?_ _ | refine blk_drew ?_ | refine blk_alloc ?_ _)); refine blk_far ?_ NB263_295.out _; (with_reducible repeat (first | refine blk_drewN ?_ _ | refine blk_drew ?_ | refine blk_alloc ?_ _)); refine blk_far ?_ NB263_295.out _; (with_reducible repeat (first | refine blk_drewN ?_ _ | refine blk_drew ?_ | refine blk_alloc ?_ _)); refine blk_far ?_ NB263_295.out _; (with_reducible repeat (first | refine blk_drewN ?_ _ | refine blk_drew ?_ | refine blk_alloc ?_ _)); exact BK263.out⟩
         have n2_ : Aside0 ((((w174.setCell ⟨gb295, 0, none⟩ (.int .i64 t292)).setCell ⟨gb295, 1, none⟩ (.int .i64 t293)).setCell ⟨gb295, 2, none⟩ (.int .i64 t294)).heap[gb264]? = some (.cells #[.int .i64 t259, .int .i64 t260, .int .i64 t261] 41 (0, 0))) := ⟨by (with_reducible repeat (first | refine blk_drewN ?_ _ | refine blk_drew ?_ | refine blk_alloc ?_ _)); refine blk_far ?_ NB264_295.out _; (with_reducible repeat (first | refine blk_drewN ?_ _ | refine blk_drew ?_ | refine blk_alloc ?_ _)); refine blk_far ?_ NB264_295.out _; (with_reducible repeat (first | refine blk_drewN ?_ _ | refine blk_drew ?_ | refine blk_alloc ?_ _)); refine blk_far ?_ NB264_295.out _; (with_reducible repeat (first | refine blk_drewN ?_ _ | refine blk_drew ?_ | refine blk_alloc ?_ _)); exact BK264.out⟩
         have n3_ : Aside0 ((((w174.setCell ⟨gb295, 0, none⟩ (.int .i64 t292)).setCell ⟨gb295, 1, none⟩ (.int .i64 t293)).setCell ⟨gb295, 2, none⟩ (.int .i64 t294)).heap[gb268]? = some (.cells #[.int .i64 t265, .int .i64 t266, .int .i64 t267] 41 (0, 0))) := ⟨by (with_reducible repeat (first | refine blk_drewN ?_ _ | refine blk_drew ?_ | refine blk_alloc ?_ _)); refine blk_far ?_ NB268_295.out _; (with_reducible repeat (first | refine blk_drewN ?_ _ | refine blk_drew ?_ | refine blk_alloc ?_ _)); refine blk_far ?_ NB268_295.out _; (with_reducible repeat (first | refine blk_drewN ?_ _ | refine blk_drew ?_ | refine blk_alloc ?_ _)); refine blk_far ?_ NB268_295.out _; (with_reducible repeat (first | refine blk_drewN ?_ _ | refine blk_drew ?_ | refine blk_alloc ?_ _)); exact BK268.out⟩
         have n4_ : Aside0 ((((w174.setCell ⟨gb295, 0, none⟩ (.int .i64 t292)).setCell ⟨gb295, 1, none⟩ (.int .i64 t293)).setCell ⟨gb295, 2, none⟩ (.int .i64 t294)).heap[gb272]? = some (.cells #[.int .i64 t269, .int .i64 t270, .int .i64 t271] 41 (0, 0))) := ⟨by (with_reducible repeat (first | refine blk_drewN ?_ _ | refine blk_drew ?_ | refine blk_alloc ?_ _)); refine blk_far ?_ NB272_295.out _; (with_reducible repeat (first | refine blk_drewN ?_ _ | refine blk_drew ?_ | refine blk_alloc ?_ _)); refine blk_far ?_ NB272_295.out _; (with_reducible repeat (first | refine blk_drewN ?_ _ | refine blk_drew ?_ | refine blk_alloc ?_ _)); refine blk_far ?_ NB272_295.out _; (with_reducible repeat (first | refine blk_drewN ?_ _ | refine blk_drew ?_ | refine blk_alloc ?_ _)); exact BK272.out⟩
         have n5_ : Aside0 ((((w174.setCell ⟨gb295, 0, none⟩ (.int .i64 t292)).setCell ⟨gb295, 1, none⟩ (.int .i64 t293)).setCell ⟨gb295, 2, none⟩ (.int .i64 t294)).heap[gb279]? = some (.cells #[.int .i64 t276, .int .i64 t277, .int .i64 t278] 41 (0, 0))) := ⟨by (with_reducible repeat (first | refine blk_drewN ?_ _ | refine blk_drew ?_ | refine blk_alloc ?_ _)); refine blk_far ?_ NB279_295.out _; (with_reducible repeat (first | refine blk_drewN ?_ _ | refine blk_drew ?_ | refine blk_alloc ?_ _)); refine blk_far ?_ NB279_295.out _; (with_reducible repeat (first | refine blk_drewN ?_ _ | refine blk_drew ?_ | refine blk_alloc ?_ _)); refine blk_far ?_ NB279_295.out _; (with_reducible repeat (first | refine blk_drewN ?_ _ | refine blk_drew ?_ | refine blk_alloc ?_ _)); exact BK279.out⟩
         have n6_ : Aside0 ((((w174.setCell ⟨gb295, 0, none⟩ (.int .i64 t292)).setCell ⟨gb295, 1, none⟩ (.int .i64 t293)).setCell ⟨gb295, 2, none⟩ (.int .i64 t294)).heap[gb286]? = some (.cells #[.int .i64 t280, .int .i64 t281, .int .i64 t282] 41 (0, 0))) := ⟨by (with_reducible repeat (first | refine blk_drewN ?_ _ | refine blk_drew ?_ | refine blk_alloc ?_ _)); refine blk_far ?_ NB286_295.out _; (with_reducible repeat (first | refine blk_drewN ?_ _ | refine blk_drew ?_ | refine blk_alloc ?_ _)); refine blk_far ?_ NB286_295.out _; (with_reducible repeat (first | refine blk_drewN ?_ _ | refine blk_drew ?_ | refine blk_alloc ?_ _)); refine blk_far ?_ NB286_295.out _; (with_reducible repeat (first | refine blk_drewN ?_ _ | refine blk_drew ?_ | refine blk_alloc ?_ _)); exact BK286.out⟩
         have n7_ : Aside0 ((((w174.setCell ⟨gb295, 0, none⟩ (.int .i64 t292)).setCell ⟨gb295, 1, none⟩ (.int .i64 t293)).setCell ⟨gb295, 2, none⟩ (.int .i64 t294)).heap[gb287]? = some (.cells #[.int .i64 t284, .int .i64 t285] 39 (0, 0))) := ⟨by (with_reducible repeat (first | refine blk_drewN ?_ _ | refine blk_drew ?_ | refine blk_alloc ?_ _)); refine blk_far ?_ NB287_295.out _; (with_reducible repeat (first | refine blk_drewN ?_ _ | refine blk_drew ?_ | refine blk_alloc ?_ _)); refine blk_far ?_ NB287_295.out _; (with_reducible repeat (first | refine blk_drewN ?_ _ | refine blk_drew ?_ | refine blk_alloc ?_ _)); refine blk_far ?_ NB287_295.out _; (with_reducible repeat (first | refine blk_drewN ?_ _ | refine blk_drew ?_ | refine blk_alloc ?_ _)); exact BK287.out⟩
         have n8_ : Aside0 ((((w174.setCell ⟨gb295, 0, none⟩ (.int .i64 t292)).setCell ⟨gb295, 1, none⟩ (.int .i64 t293)).setCell ⟨gb295, 2, none⟩ (.int .i64 t294)).heap[gb291]? = some (.cells #[.int .i64 t288, .int .i64 t289, .int .i64 t290] 41 (0, 0))) := ⟨by (with_reducible repeat (first | refine blk_drewN ?_ _ | refine blk_drew ?_ | refine blk_alloc ?_ _)); refine blk_far ?_ NB291_295.out _; (with_reducible repeat (first | refine blk_drewN ?_ _ | refine blk_drew ?_ | refine blk_alloc ?_ _)); refine blk_far ?_ NB291_295.out _; (with_reducible repeat (first | refine blk_drewN ?_ _ | refine blk_drew ?_ | refine blk_alloc ?_ _)); refine blk_far ?_ NB291_295.out _; (with_reducible repeat (first | refine blk_drewN ?_ _ | refine blk_drew ?_ | refine blk_alloc ?_ _)); exact BK291.out⟩
         have n9_ : Aside0 ((((w174.setCell ⟨gb295, 0, none⟩ (.int .i64 t292)).setCell ⟨gb295, 1, none⟩ (.int .i64 t293)).setCell ⟨gb295, 2, none⟩ (.int .i64 t294)).heap[gb295]? = some (.cells #[.int .i64 t292, .int .i64 t293, .int .i64 t294] 41 (0, 0))) := ⟨by (with_reducible repeat (first | refine blk_drewN ?_ _ | refine blk_drew ?_ | refine blk_alloc ?_ _)); refine blk_put (cs := #[.int .i64 t292, .int .i64 t293, .int .i64 0]) ?_ 2 _ rfl; (with_reducible repeat (first | refine blk_drewN ?_ _ | refine blk_drew ?_ | refine blk_alloc ?_ _)); refine blk_put (cs := #[.int .i64 t292, .int .i64 0, .int .i64 0]) ?_ 1 _ rfl; (with_reducible repeat (first | refine blk_drewN ?_ _ | refine blk_drew ?_ | refine blk_alloc ?_ _)); refine blk_put (cs := #[.int .i64 0, .int .i64 0, .int .i64 0]) ?_ 0 _ rfl; (with_reducible repeat (first | refine blk_drewN ?_ _ | refine blk_drew ?_ | refine blk_alloc ?_ _)); exact BK295.out⟩
         have n10_ : Aside0 (Below w.heap.size w (((w174.setCell ⟨gb295, 0, none⟩ (.int .i64 t292)).setCell ⟨gb295, 1, none⟩ (.int .i64 t293)).setCell ⟨gb295, 2, none⟩ (.int .i64 t294))) := ⟨aH⟩
         (try clear BK262)
         (try clear BK263)
         (try clear BK264)
         (try clear BK268)
         (try clear BK272)
         (try clear BK279)
         (try clear BK286)
         (try clear BK287)
         (try clear BK291)
         (try clear BK295)
         (try clear HB)
         generalize (((w174.setCell ⟨gb295, 0, none⟩ (.int .i64 t292)).setCell ⟨gb295, 1, none⟩ (.int .i64 t293)).setCell ⟨gb295, 2, none⟩ (.int .i64 t294)) = w185 at n0_ n1_ n2_ n3_ n4_ n5_ n6_ n7_ n8_ n9_ n10_ ⊢
         have BK262 := n0_
         have BK263 := n1_
         have BK264 := n2_
         have BK268 := n3_
         have BK272 := n4_
         have BK279 := n5_
         have BK286 := n6_
         have BK287 := n7_
         have BK291 := n8_
         have BK295 := n9_
         have HB := n10_
         clear n0_ n1_ n2_ n3_ n4_ n5_ n6_ n7_ n8_ n9_ n10_
         have n0_ := Aside0.mk (blk_drew BK262.out)
         have n1_ := Aside0.mk (blk_drew BK263.out)
         have n2_ := Aside0.mk (blk_drew BK264.out)
         have n3_ := Aside0.mk (blk_drew BK268.out)
         have n4_ := Aside0.mk (blk_drew BK272.out)
         have n5_ := Aside0.mk (blk_drew BK279.out)
         have n6_ := Aside0.mk (blk_drew BK286.out)
         have n7_ := Aside0.mk (blk_drew BK287.out)
         have n8_ := Aside0.mk (blk_drew BK291.out)
         have n9_ := Aside0.mk (blk_drew BK295.out)
         have n10_ := Aside0.mk (below_drew1 HB.out)
         clear BK262
         clear BK263
         clear BK264
         clear BK268
         clear BK272
         clear BK279
         clear BK286
         clear BK287
         clear BK291
         clear BK295
         clear HB
         have BK262 := n0_
         have BK263 := n1_
         have BK264 := n2_
         have BK268 := n3_
         have BK272 := n4_
         have BK279 := n5_
         have BK286 := n6_
         have BK287 := n7_
         have BK291 := n8_
         have BK295 := n9_
         have HB := n10_
         clear n0_ n1_ n2_ n3_ n4_ n5_ n6_ n7_ n8_ n9_ n10_
         refine start_ (n := 49) (S := fun w' => w'.cell? ⟨gb268, 0, none⟩ = some (.int .i64 t265) ∧ w'.cell? ⟨gb268, 1, none⟩ = some (.int .i64 t266) ∧ w'.cell? ⟨gb268, 2, none⟩ = some (.int .i64 t267) ∧ w'.cell? ⟨gb263, 0, none⟩ = some (.int .i64 t256) ∧ w'.cell? ⟨gb263, 1, none⟩ = some (.int .i64 t257) ∧ w'.cell? ⟨gb263, 2, none⟩ = some (.int .i64 t258) ∧ w'.cell? ⟨gb262, 0, none⟩ = some (.int .i64 t253) ∧ w'.cell? ⟨gb262, 1, none⟩ = some (.int .i64 t254) ∧ w'.cell? ⟨gb262, 2, none⟩ = some (.int .i64 t255) ∧ w'.cell? ⟨gb272, 0, none⟩ = some (.int .i64 t269) ∧ w'.cell? ⟨gb272, 1, none⟩ = some (.int .i64 t270) ∧ w'.cell? ⟨gb272, 2, none⟩ = some (.int .i64 t271) ∧ w'.cell? ⟨gb279, 0, none⟩ = some (.int .i64 t276) ∧ w'.cell? ⟨gb279, 1, none⟩ = some (.int .i64 t277) ∧ w'.cell? ⟨gb279, 2, none⟩ = some (.int .i64 t278) ∧ w'.cell? ⟨gb291, 0, none⟩ = some (.int .i64 t288) ∧ w'.cell? ⟨gb291, 1, none⟩ = some (.int .i64 t289) ∧ w'.cell? ⟨gb291, 2, none⟩ = some (.int .i64 t290) ∧ w'.cell? ⟨gb286, 0, none⟩ = some (.int .i64 t280) ∧ w'.cell? ⟨gb286, 1, none⟩ = some (.int .i64 t281) ∧ w'.cell? ⟨gb286, 2, none⟩ = some (.int .i64 t282) ∧ w'.cell? ⟨gb287, 0, none⟩ = some (.int .i64 t284) ∧ w'.cell? ⟨gb287, 1, none⟩ = some (.int .i64 t285) ∧ w'.cell? ⟨gb295, 0, none⟩ = some (.int .i64 t292) ∧ w'.cell? ⟨gb295, 1, none⟩ = some (.int .i64 t293) ∧ w'.cell? ⟨gb295, 2, none⟩ = some (.int .i64 t294)) (ds := []) bb6_0 (by kernel_rfl) rfl rfl ⟨cR BK268.out 0, cR BK268.out 1, cR BK268.out 2, cR BK263.out 0, cR BK263.out 1, cR BK263.out 2, cR BK262.out 0, cR BK262.out 1, cR BK262.out 2, cR BK272.out 0, cR BK272.out 1, cR BK272.out 2, cR BK279.out 0, cR BK279.out 1, cR BK279.out 2, cR BK291.out 0, cR BK291.out 1, cR BK291.out 2, cR BK286.out 0, cR BK286.out 1, cR BK286.out 2, cR BK287.out 0, cR BK287.out 1, cR BK295.out 0, cR BK295.out 1, cR BK295.out 2⟩ (fun hHeld => ?_); refine with_tabW laws_FnRegs.tab10 laws_FnRegs.bits10 (fun HT_ HW_ => ?_)
         generalize w185.drew = w186 at BK262 BK263 BK264 BK268 BK272 BK279 BK286 BK287 BK291 BK295 HB hHeld ⊢
         refine tP 0 50 bb6_1 ?_
         refine tP 1 51 bb6_2 ?_
         refine tP 2 52 bb6_3 ?_
         refine one_ (i := 3) (N := some 53) bb6_4 rfl rfl (one_of HT_.out (by kernel_rfl)) (by decide) (fun K hK => ?_)
         refine goes_ Try.func28 (by kernel_rfl) rfl #[.agg #[.int .i64 t256, .int .i64 t257, .int .i64 t258], .agg #[.int .i64 t253, .int .i64 t254, .int .i64 t255]] (by rfl) rfl rfl (by (try simp only [List.map_toArray, List.map_cons, List.map_nil]); first | done | rfl | (simp only [List.length_drop, List.length_take]; rfl)) ?_
         with_reducible refine (impl_JoinReg.calls k t256 t257 t258 t253 t254 t255 t296 t297 t298 _ A12.out).mono ?_
         rintro e w187 ⟨rfl, hb⟩
         refine ⟨_, rfl, ?_⟩
         have n0_ := Aside0.mk (kB BK262.out hb)
         have n1_ := Aside0.mk (kB BK263.out hb)
         have n2_ := Aside0.mk (kB BK264.out hb)
         have n3_ := Aside0.mk (kB BK268.out hb)
         have n4_ := Aside0.mk (kB BK272.out hb)
         have n5_ := Aside0.mk (kB BK279.out hb)
         have n6_ := Aside0.mk (kB BK286.out hb)
         have n7_ := Aside0.mk (kB BK287.out hb)
         have n8_ := Aside0.mk (kB BK291.out hb)
         have n9_ := Aside0.mk (kB BK295.out hb)
         have n10_ := Aside0.mk (below_step aH hb)
         clear BK262
         clear BK263
         clear BK264
         clear BK268
         clear BK272
         clear BK279
         clear BK286
         clear BK287
         clear BK291
         clear BK295
         clear HB
         have BK262 := n0_
         have BK263 := n1_
         have BK264 := n2_
         have BK268 := n3_
         have BK272 := n4_
         have BK279 := n5_
         have BK286 := n6_
         have BK287 := n7_
         have BK291 := n8_
         have BK295 := n9_
         have HB := n10_
         clear n0_ n1_ n2_ n3_ n4_ n5_ n6_ n7_ n8_ n9_ n10_
         (try clear hb)
         (try clear hb2)
         (try clear hk)
         (try clear hi)
         refine hK.out _ _ ⟨cR BK268.out 0, cR BK268.out 1, cR BK268.out 2, cR BK263.out 0, cR BK263.out 1, cR BK263.out 2, cR BK262.out 0, cR BK262.out 1, cR BK262.out 2, cR BK272.out 0, cR BK272.out 1, cR BK272.out 2, cR BK279.out 0, cR BK279.out 1, cR BK279.out 2, cR BK291.out 0, cR BK291.out 1, cR BK291.out 2, cR BK286.out 0, cR BK286.out 1, cR BK286.out 2, cR BK287.out 0, cR BK287.out 1, cR BK295.out 0, cR BK295.out 1, cR BK295.out 2⟩ (fun hHeld => ?_)
         clear hK K
         refine nP 53 ?_
         refine pP 4 54 bb6_5 ?_
         refine pP 5 55 bb6_6 ?_
         refine tP 6 56 bb6_7 ?_
         refine tP 7 57 bb6_8 ?_
         refine tP 9 59 bb6_9 ?_
         refine one_ (i := 8) (N := some 58) bb6_10 rfl rfl (one_of HT_.out (by kernel_rfl)) (by decide) (fun K hK => ?_)
         refine goes_ Try.func28 (by kernel_rfl) rfl #[.agg #[.int .i64 t265, .int .i64 t266, .int .i64 t267], .agg #[.int .i64 t253, .int .i64 t254, .int .i64 t255]] (by rfl) rfl rfl (by (try simp only [List.map_toArray, List.map_cons, List.map_nil]); first | done | rfl | (simp only [List.length_drop, List.length_take]; rfl)) ?_
         with_reducible refine (impl_JoinReg.calls k t265 t266 t267 t253 t254 t255 t299 t300 t301 _ A14.out).mono ?_
         rintro e w188 ⟨rfl, hb⟩
         refine ⟨_, rfl, ?_⟩
         have n0_ := Aside0.mk (kB BK262.out hb)
         have n1_ := Aside0.mk (kB BK263.out hb)
         have n2_ := Aside0.mk (kB BK264.out hb)
         have n3_ := Aside0.mk (kB BK268.out hb)
         have n4_ := Aside0.mk (kB BK272.out hb)
         have n5_ := Aside0.mk (kB BK279.out hb)
         have n6_ := Aside0.mk (kB BK286.out hb)
         have n7_ := Aside0.mk (kB BK287.out hb)
         have n8_ := Aside0.mk (kB BK291.out hb)
         have n9_ := Aside0.mk (kB BK295.out hb)
         have n10_ := Aside0.mk (below_step aH hb)
         clear BK262
         clear BK263
         clear BK264
         clear BK268
         clear BK272
         clear BK279
         clear BK286
         clear BK287
         clear BK291
         clear BK295
         clear HB
         have BK262 := n0_
         have BK263 := n1_
         have BK264 := n2_
         have BK268 := n3_
         have BK272 := n4_
         have BK279 := n5_
         have BK286 := n6_
         have BK287 := n7_
         have BK291 := n8_
         have BK295 := n9_
         have HB := n10_
         clear n0_ n1_ n2_ n3_ n4_ n5_ n6_ n7_ n8_ n9_ n10_
         (try clear hb)
         (try clear hb2)
         (try clear hk)
         (try clear hi)
         refine hK.out _ _ ⟨cR BK268.out 0, cR BK268.out 1, cR BK268.out 2, cR BK263.out 0, cR BK263.out 1, cR BK263.out 2, cR BK262.out 0, cR BK262.out 1, cR BK262.out 2, cR BK272.out 0, cR BK272.out 1, cR BK272.out 2, cR BK279.out 0, cR BK279.out 1, cR BK279.out 2, cR BK291.out 0, cR BK291.out 1, cR BK291.out 2, cR BK286.out 0, cR BK286.out 1, cR BK286.out 2, cR BK287.out 0, cR BK287.out 1, cR BK295.out 0, cR BK295.out 1, cR BK295.out 2⟩ (fun hHeld => ?_)
         clear hK K
         refine nP 58 ?_
         refine pP 10 60 bb6_11 ?_
         refine pP 11 61 bb6_12 ?_
         refine pP 12 62 bb6_13 ?_
         refine tP 13 63 bb6_14 ?_
         refine tP 14 64 bb6_15 ?_
         refine pP 15 65 bb6_16 ?_
         refine pP 16 66 bb6_17 ?_
         refine pP 17 67 bb6_18 ?_
         refine tP 18 68 bb6_19 ?_
         refine tP 19 69 bb6_20 ?_
         refine pP 20 70 bb6_21 ?_
         refine pP 21 71 bb6_22 ?_
         refine tP 22 72 bb6_23 ?_
         refine tP 23 73 bb6_24 ?_
         refine pP 24 74 bb6_25 ?_
         refine pP 25 75 bb6_26 ?_
         refine pP 26 76 bb6_27 ?_
         refine pP 27 77 bb6_28 ?_
         refine pP 30 80 bb6_29 ?_
         refine tP 28 78 bb6_30 ?_
         refine tP 29 79 bb6_31 ?_
         refine tP 31 81 bb6_32 ?_
         refine one_ (i := 32) (N := some 82) bb6_33 rfl rfl (one_of HT_.out (by kernel_rfl)) (by decide) (fun K hK => ?_)
         refine goes_ Try.func31 (by kernel_rfl) rfl #[.agg #[.int .i64 t280, .int .i64 t281, .int .i64 t282], .int .i64 t283, .agg #[.int .i64 t284, .int .i64 t285]] (by rfl) rfl rfl (by (try simp only [List.map_toArray, List.map_cons, List.map_nil]); first | done | rfl | (simp only [List.length_drop, List.length_take]; rfl)) ?_
         with_reducible refine (spec_PutReg.calls t280 t281 t282 t283 t284 t285 t308 t309 t310 _ A105.out).mono ?_
         rintro e w189 ⟨rfl, hb⟩
         refine ⟨_, rfl, ?_⟩
         have n0_ := Aside0.mk (kB BK262.out hb)
         have n1_ := Aside0.mk (kB BK263.out hb)
         have n2_ := Aside0.mk (kB BK264.out hb)
         have n3_ := Aside0.mk (kB BK268.out hb)
         have n4_ := Aside0.mk (kB BK272.out hb)
         have n5_ := Aside0.mk (kB BK279.out hb)
         have n6_ := Aside0.mk (kB BK286.out hb)
         have n7_ := Aside0.mk (kB BK287.out hb)
         have n8_ := Aside0.mk (kB BK291.out hb)
         have n9_ := Aside0.mk (kB BK295.out hb)
         have n10_ := Aside0.mk (below_step aH hb)
         clear BK262
         clear BK263
         clear BK264
         clear BK268
         clear BK272
         clear BK279
         clear BK286
         clear BK287
         clear BK291
         clear BK295
         clear HB
         have BK262 := n0_
         have BK263 := n1_
         have BK264 := n2_
         have BK268 := n3_
         have BK272 := n4_
         have BK279 := n5_
         have BK286 := n6_
         have BK287 := n7_
         have BK291 := n8_
         have BK295 := n9_
         have HB := n10_
         clear n0_ n1_ n2_ n3_ n4_ n5_ n6_ n7_ n8_ n9_ n10_
         (try clear hb)
         (try clear hb2)
         (try clear hk)
         (try clear hi)
         refine hK.out _ _ ⟨cR BK268.out 0, cR BK268.out 1, cR BK268.out 2, cR BK263.out 0, cR BK263.out 1, cR BK263.out 2, cR BK262.out 0, cR BK262.out 1, cR BK262.out 2, cR BK272.out 0, cR BK272.out 1, cR BK272.out 2, cR BK279.out 0, cR BK279.out 1, cR BK279.out 2, cR BK291.out 0, cR BK291.out 1, cR BK291.out 2, cR BK286.out 0, cR BK286.out 1, cR BK286.out 2, cR BK287.out 0, cR BK287.out 1, cR BK295.out 0, cR BK295.out 1, cR BK295.out 2⟩ (fun hHeld => ?_)
         clear hK K
         refine nP 82 ?_
         refine pP 33 83 bb6_34 ?_
         refine pP 34 84 bb6_35 ?_
         refine pP 35 85 bb6_36 ?_
         refine pP 36 86 bb6_37 ?_
         refine tP 37 87 bb6_38 ?_
         refine pP 38 88 bb6_39 ?_
         refine pP 39 89 bb6_40 ?_
         refine pP 40 90 bb6_41 ?_
         refine pP 42 92 bb6_42 ?_
         refine tP 41 91 bb6_43 ?_
         refine tP 43 93 bb6_44 ?_
         refine tP 45 95 bb6_45 ?_
         refine one_ (i := 44) (N := some 94) bb6_46 rfl rfl (one_of HT_.out (by kernel_rfl)) (by decide) (fun K hK => ?_)
         refine goes_ Try.func30 (by kernel_rfl) rfl #[.agg #[.int .i64 t292, .int .i64 t293, .int .i64 t294], .int .i64 3, .agg #[.int .i64 t254, .int .i64 t255]] (by rfl) rfl rfl (by (try simp only [List.map_toArray, List.map_cons, List.map_nil]); first | done | rfl | (simp only [List.length_drop, List.length_take]; rfl)) ?_
         with_reducible refine (impl_PutReg.calls t292 t293 t294 3 t254 t255 t311 t312 t313 _ A108.out).mono ?_
         rintro e w190 ⟨rfl, hb⟩
         refine ⟨_, rfl, ?_⟩
         have n0_ := Aside0.mk (kB BK262.out hb)
         have n1_ := Aside0.mk (kB BK263.out hb)
         have n2_ := Aside0.mk (kB BK264.out hb)
         have n3_ := Aside0.mk (kB BK268.out hb)
         have n4_ := Aside0.mk (kB BK272.out hb)
         have n5_ := Aside0.mk (kB BK279.out hb)
         have n6_ := Aside0.mk (kB BK286.out hb)
         have n7_ := Aside0.mk (kB BK287.out hb)
         have n8_ := Aside0.mk (kB BK291.out hb)
         have n9_ := Aside0.mk (kB BK295.out hb)
         have n10_ := Aside0.mk (below_step aH hb)
         clear BK262
         clear BK263
         clear BK264
         clear BK268
         clear BK272
         clear BK279
         clear BK286
         clear BK287
         clear BK291
         clear BK295
         clear HB
         have BK262 := n0_
         have BK263 := n1_
         have BK264 := n2_
         have BK268 := n3_
         have BK272 := n4_
         have BK279 := n5_
         have BK286 := n6_
         have BK287 := n7_
         have BK291 := n8_
         have BK295 := n9_
         have HB := n10_
         clear n0_ n1_ n2_ n3_ n4_ n5_ n6_ n7_ n8_ n9_ n10_
         (try clear hb)
         (try clear hb2)
         (try clear hk)
         (try clear hi)
         refine hK.out _ _ ⟨cR BK268.out 0, cR BK268.out 1, cR BK268.out 2, cR BK263.out 0, cR BK263.out 1, cR BK263.out 2, cR BK262.out 0, cR BK262.out 1, cR BK262.out 2, cR BK272.out 0, cR BK272.out 1, cR BK272.out 2, cR BK279.out 0, cR BK279.out 1, cR BK279.out 2, cR BK291.out 0, cR BK291.out 1, cR BK291.out 2, cR BK286.out 0, cR BK286.out 1, cR BK286.out 2, cR BK287.out 0, cR BK287.out 1, cR BK295.out 0, cR BK295.out 1, cR BK295.out 2⟩ (fun hHeld => ?_)
         clear hK K
         refine nP 94 ?_
         refine pP 46 96 bb6_47 ?_
         refine pP 47 97 bb6_48 ?_
         refine pP 48 2 bb6_49 ?_
         refine done_ (done_of HT_.out (by kernel_rfl)) ?_
         try go_wp2
         go_ret
         exact ⟨by first | rfl | (simp [errW_none, errW_some] <;> rfl) | (simp [*, errW_none, errW_some] <;> rfl), aH⟩
        ·rw [if_neg c107] at H
         have c107b0 : (t292 == 7) = false := beq_eq_false_iff_ne.mpr c107
         have c107b1 : (t292 != 7) = true := bne_iff_ne.mpr c107
         exact absurd H (by simp)
       ·rw [if_neg c106] at H
        have c106b0 : (t288 == t308 && ((t289 == t309 && (t290 == t310)))) = false := by simpa using c106
        (try (have c106b1 : decide (t288 = t308 && ((t289 == t309 && (t290 == t310)))) = false := by simpa using c106))
        (try (have c106b2 : (t288 == t308 && ((t289 == t309 && (t290 == t310)))) = false := by simpa using c106))
        (try (have c106b3 : ¬ (t288 = t308 && ((t289 == t309 && (t290 == t310)))) := by simpa using c106))
        clear c106
        exact absurd H (by simp)
      ·rw [if_neg c104] at H
       have c104b0 : (t265 == t256 && ((t266 == t257 && (t267 == t258)))) = false := by simpa using c104
       (try (have c104b1 : decide (t265 = t256 && ((t266 == t257 && (t267 == t258)))) = false := by simpa using c104))
       (try (have c104b2 : (t265 == t256 && ((t266 == t257 && (t267 == t258)))) = false := by simpa using c104))
       (try (have c104b3 : ¬ (t265 = t256 && ((t266 == t257 && (t267 == t258)))) := by simpa using c104))
       clear c104
       exact absurd H (by simp)
    ·rw [if_neg c16] at H
     have c16b0 : (t269 == t276 && ((t270 == t277 && (t271 == t278)))) = false := by simpa using c16
     (try (have c16b1 : decide (t269 = t276 && ((t270 == t277 && (t271 == t278)))) = false := by simpa using c16))
     (try (have c16b2 : (t269 == t276 && ((t270 == t277 && (t271 == t278)))) = false := by simpa using c16))
     (try (have c16b3 : ¬ (t269 = t276 && ((t270 == t277 && (t271 == t278)))) := by simpa using c16))
     clear c16
     exact absurd H (by simp)
   ·rw [if_neg c15] at H
    have c15b0 : (t299 == t265 && ((t300 == t266 && (t301 == t267)))) = false := by simpa using c15
    (try (have c15b1 : decide (t299 = t265 && ((t300 == t266 && (t301 == t267)))) = false := by simpa using c15))
    (try (have c15b2 : (t299 == t265 && ((t300 == t266 && (t301 == t267)))) = false := by simpa using c15))
    (try (have c15b3 : ¬ (t299 = t265 && ((t300 == t266 && (t301 == t267)))) := by simpa using c15))
    clear c15
    exact absurd H (by simp)
  ·rw [if_neg c13] at H
   have c13b0 : (t265 == t296 && ((t266 == t297 && (t267 == t298)))) = false := by simpa using c13
   (try (have c13b1 : decide (t265 = t296 && ((t266 == t297 && (t267 == t298)))) = false := by simpa using c13))
   (try (have c13b2 : (t265 == t296 && ((t266 == t297 && (t267 == t298)))) = false := by simpa using c13))
   (try (have c13b3 : ¬ (t265 = t296 && ((t266 == t297 && (t267 == t298)))) := by simpa using c13))
   clear c13
   exact absurd H (by simp)

/-- THE ONE PURE STATEMENT of laws_FnRegs: yours. -/
def laws_FnRegs.Pure : Prop := ∀ (l0 : List Int), l0.length ≤ maxLen → l0.length * 1 ≤ 140737488351232 → (∀ x ∈ l0, (Lit.int .u8 x).wf = true) → ∃ k, laws_FnRegs.f k l0 = some true
theorem laws_FnRegs.walk (P : laws_FnRegs.Pure) (a0 : Option Addr) (len0 cap0 : Nat) (z0 : List Int) (w : World) (w0 : (a0 = none ∧ len0 = 0 ∧ cap0 = 0 ∧ z0 = []) ∨ ∃ x, a0 = some x ∧ len0 ≤ cap0 ∧ cap0 ≤ maxLen ∧ z0.length = cap0 ∧ (∀ i, i < z0.length → w.cell? (x.add i) = some (.int .u8 (z0.getD i 0))) ∧ ∀ n ∈ z0, (Lit.int .u8 n).wf = true) (y0 : len0 * 1 ≤ 140737488351232) :
  Calls Try.prog 5 #[.slice a0 len0 cap0] w fun e w' => e = .returned (.bool true) ∧ Below w.heap.size w w' := by
 obtain ⟨l0, rfl, hr0, hm0, hw0, hc0⟩ := ReadsInt.ofRowC w0
 obtain ⟨k, h⟩ := P l0 hm0 y0 hw0
 refine (laws_FnRegs.calls k _ _ l0 true w (Kd.C_of_reads (d := (0 : Int)) (h1 := fun _ => rfl) hr0) hc0 h).mono ?_
 rintro e w' ⟨rfl, hd⟩
 exact ⟨rfl, hd⟩

end Go.Proofs.Ytdabhhlfnfjojaa.PFnRegs
