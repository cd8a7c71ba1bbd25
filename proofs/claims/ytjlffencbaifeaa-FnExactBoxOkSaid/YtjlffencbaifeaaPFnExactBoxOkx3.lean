-- Written for this claim by the session's own wip/myprint.py (a patched run of the kit's printer). Not trusted: Lean checks it.
import Derived.Test.YtjlffencbaifeaaPFnExactBoxOkx0
import Derived.Test.YtjlffencbaifeaaPFnExactBoxOkx1
import Derived.Test.YtjlffencbaifeaaPFnExactBoxOkx2
namespace Go.Proofs.Ytjlffencbaifeaa.PFnExactBoxOk
open Go.RowKit Go.Proofs.YtjlffencbaifeaaW.PrintWords Go.Proofs.YtjlffencbaifeaaW.PrintLast Go.Proofs.YtjlffencbaifeaaW.PrintMore
abbrev bb3_0 : Array Bool := (bA 41 0)
abbrev bb3_1 : Array Bool := (bA 41 1)
abbrev bb3_2 : Array Bool := (bA 41 3)
abbrev bb3_3 : Array Bool := (bA 41 7)
abbrev bb3_4 : Array Bool := (bA 41 15)
abbrev bb3_5 : Array Bool := (bA 41 31)
abbrev bb3_6 : Array Bool := (bA 41 95)
abbrev bb3_7 : Array Bool := (bA 41 127)
abbrev bb3_8 : Array Bool := (bA 41 255)
abbrev bb3_9 : Array Bool := (bA 41 511)
abbrev bb3_10 : Array Bool := (bA 41 1023)
abbrev bb3_11 : Array Bool := (bA 41 2047)
abbrev bb3_12 : Array Bool := (bA 41 4095)
abbrev bb3_13 : Array Bool := (bA 41 8191)
abbrev bb3_14 : Array Bool := (bA 41 16383)
abbrev bb3_15 : Array Bool := (bA 41 32767)
abbrev bb3_16 : Array Bool := (bA 41 65535)
abbrev bb3_17 : Array Bool := (bA 41 131071)
abbrev bb3_18 : Array Bool := (bA 41 262143)
abbrev bb3_19 : Array Bool := (bA 41 524287)
abbrev bb3_20 : Array Bool := (bA 41 1048575)
abbrev bb3_21 : Array Bool := (bA 41 2097151)
abbrev bb3_22 : Array Bool := (bA 41 4194303)
abbrev bb3_23 : Array Bool := (bA 41 8388607)
abbrev bb3_24 : Array Bool := (bA 41 16777215)
abbrev bb3_25 : Array Bool := (bA 41 33554431)
abbrev bb3_26 : Array Bool := (bA 41 67108863)
abbrev bb3_27 : Array Bool := (bA 41 134217727)
abbrev bb3_28 : Array Bool := (bA 41 268435455)
abbrev bb3_29 : Array Bool := (bA 41 536870911)
abbrev bb3_30 : Array Bool := (bA 41 1073741823)
abbrev bb3_31 : Array Bool := (bA 41 2147483647)
abbrev bb3_32 : Array Bool := (bA 41 4294967295)
abbrev bb3_33 : Array Bool := (bA 41 8589934591)
abbrev bb3_34 : Array Bool := (bA 41 17179869183)
abbrev bb3_35 : Array Bool := (bA 41 34359738367)
abbrev bb3_36 : Array Bool := (bA 41 68719476735)
abbrev bb3_37 : Array Bool := (bA 41 137438953471)
abbrev bb3_38 : Array Bool := (bA 41 274877906943)
abbrev bb3_39 : Array Bool := (bA 41 549755813887)
abbrev bb3_40 : Array Bool := (bA 41 1099511627775)
abbrev bb3_41 : Array Bool := (bA 41 2199023255551)
abbrev bb3_42 : Array Bool := (bA 41 98303)
abbrev bb3_43 : Array Bool := (bA 41 229375)
abbrev bb3_44 : Array Bool := (bA 41 2326527)
abbrev bb3_45 : Array Bool := (bA 41 2359295)
abbrev bb3_46 : Array Bool := (bA 41 2621439)
abbrev bb3_47 : Array Bool := (bA 41 3145727)
abbrev bb3_48 : Array Bool := (bA 41 805306367)
abbrev bb3_49 : Array Bool := (bA 41 51539607551)
abbrev bb3_50 : Array Bool := (bA 41 326417514495)
abbrev bb3_51 : Array Bool := (bA 41 343597383679)
abbrev bb3_52 : Array Bool := (bA 41 412316860415)
attribute [local go_sem] gtr_str max2_str max2_int min2_int max_two min_two max_three min_three max_four min_four   -- for this text's walks alone
set_option linter.unusedVariables false
set_option linter.unusedSimpArgs false

/-! ### spec_BoxOk: function 32 -/
mutual
def spec_BoxOk.j0 : Nat → Bool → Int → ByteArray → Int → Int → Int → List (S24) → List Int → Option (Bool)
 | 0, _, _, _, _, _, _, _, _ => none
 | k + 1, x38, x130000, x130001, x130002, x130003, x130004, x130005, x130006 => if x38 = true then (some false) else (spec_BoxOk.l0 k 0 x130000 x130001 x130002 x130003 x130004 x130005 x130006)
def spec_BoxOk.l0 : Nat → Int → Int → ByteArray → Int → Int → Int → List (S24) → List Int → Option (Bool)
 | 0, _, _, _, _, _, _, _, _ => none
 | k + 1, x3, x130000, x130001, x130002, x130003, x130004, x130005, x130006 => if x3 < (x130005.length : Int) then (if 0 ≤ x3 then ((spec_MailOk.f k ((rd_T24 x130005 x3).f0) ((rd_T24 x130005 x3).f1) ((rd_T24 x130005 x3).f2) ((rd_T24 x130005 x3).f3)).bind fun t137 => (if t137 = true then (if ((rd_T24 x130005 x3).f1) ≥ x130004 then (spec_BoxOk.j2 k x3 true x130000 x130001 x130002 x130003 x130004 x130005 x130006) else (if x3 > 0 then (if 0 ≤ (wrap64 (x3 - 1)) then (if (wrap64 (x3 - 1)) < (x130005.length : Int) then (if ((rd_T24 x130005 (wrap64 (x3 - 1))).f1) ≥ ((rd_T24 x130005 x3).f1) then (spec_BoxOk.j2 k x3 true x130000 x130001 x130002 x130003 x130004 x130005 x130006) else ((spec_l06In.f k x130006 ((rd_T24 x130005 x3).f0)).bind fun t139 => (if t139 = true then (spec_BoxOk.j2 k x3 true x130000 x130001 x130002 x130003 x130004 x130005 x130006) else ((spec_MailAt.f k x130000 x130001 x130002 x130003 x130004 x130005 x130006 ((rd_T24 x130005 x3).f0)).bind fun t140 => (spec_BoxOk.j2 k x3 (t140 != x3) x130000 x130001 x130002 x130003 x130004 x130005 x130006))))) else (none)) else (none)) else ((spec_l06In.f k x130006 ((rd_T24 x130005 x3).f0)).bind fun t141 => (if t141 = true then (spec_BoxOk.j2 k x3 true x130000 x130001 x130002 x130003 x130004 x130005 x130006) else ((spec_MailAt.f k x130000 x130001 x130002 x130003 x130004 x130005 x130006 ((rd_T24 x130005 x3).f0)).bind fun t142 => (spec_BoxOk.j2 k x3 (t142 != x3) x130000 x130001 x130002 x130003 x130004 x130005 x130006)))))) else (spec_BoxOk.j2 k x3 true x130000 x130001 x130002 x130003 x130004 x130005 x130006))) else (none)) else (some true)
def spec_BoxOk.j2 : Nat → Int → Bool → Int → ByteArray → Int → Int → Int → List (S24) → List Int → Option (Bool)
 | 0, _, _, _, _, _, _, _, _, _ => none
 | k + 1, x3, x91, x130000, x130001, x130002, x130003, x130004, x130005, x130006 => if x91 = true then (some false) else (spec_BoxOk.l0 k (wrap64 (x3 + 1)) x130000 x130001 x130002 x130003 x130004 x130005 x130006)
end
def spec_BoxOk.f (k : Nat) (a0_0 : Int) (a0_1 : ByteArray) (a0_2 : Int) (a0_3 : Int) (a0_4 : Int) (l0_5 : List (S24)) (l0_6 : List Int) : Option (Bool) := (spec_l01In.f a0_0 1 9999).bind fun t130 => (if t130 = true then ((spec_NameOk.f k a0_1).bind fun t131 => (if t131 = true then ((spec_StampOk.f a0_2 a0_3).bind fun t132 => (if t132 = true then ((spec_l01In.f a0_4 1 10000).bind fun t133 => (if t133 = true then (if (l0_5.length : Int) > 10 then (spec_BoxOk.j0 k true a0_0 a0_1 a0_2 a0_3 a0_4 l0_5 l0_6) else ((spec_l06Sorted.f k l0_6 40).bind fun t134 => (spec_BoxOk.j0 k (!t134) a0_0 a0_1 a0_2 a0_3 a0_4 l0_5 l0_6))) else (spec_BoxOk.j0 k true a0_0 a0_1 a0_2 a0_3 a0_4 l0_5 l0_6))) else (spec_BoxOk.j0 k true a0_0 a0_1 a0_2 a0_3 a0_4 l0_5 l0_6))) else (spec_BoxOk.j0 k true a0_0 a0_1 a0_2 a0_3 a0_4 l0_5 l0_6))) else (spec_BoxOk.j0 k true a0_0 a0_1 a0_2 a0_3 a0_4 l0_5 l0_6))
theorem spec_BoxOk.mono_l : ∀ k, (∀ y0 y1 y2 y3 y4 y5 y6 y7, LeO (spec_BoxOk.j0 k y0 y1 y2 y3 y4 y5 y6 y7) (spec_BoxOk.j0 (k + 1) y0 y1 y2 y3 y4 y5 y6 y7)) ∧ (∀ y0 y1 y2 y3 y4 y5 y6 y7, LeO (spec_BoxOk.l0 k y0 y1 y2 y3 y4 y5 y6 y7) (spec_BoxOk.l0 (k + 1) y0 y1 y2 y3 y4 y5 y6 y7)) ∧ (∀ y0 y1 y2 y3 y4 y5 y6 y7 y8, LeO (spec_BoxOk.j2 k y0 y1 y2 y3 y4 y5 y6 y7 y8) (spec_BoxOk.j2 (k + 1) y0 y1 y2 y3 y4 y5 y6 y7 y8))
 | 0 => ⟨fun _ _ _ _ _ _ _ _ r h => by simp [spec_BoxOk.j0] at h, fun _ _ _ _ _ _ _ _ r h => by simp [spec_BoxOk.l0] at h, fun _ _ _ _ _ _ _ _ _ r h => by simp [spec_BoxOk.j2] at h⟩
 | k + 1 => by
  obtain ⟨ih0, ih1, ih2⟩ := spec_BoxOk.mono_l k
  refine ⟨?_, ?_, ?_⟩
  ·intro y0 y1 y2 y3 y4 y5 y6 y7
   unfold spec_BoxOk.j0
   repeat' first
   | (with_reducible exact ih0 _ _ _ _ _ _ _ _)
   | (with_reducible exact ih1 _ _ _ _ _ _ _ _)
   | (with_reducible exact ih2 _ _ _ _ _ _ _ _ _)
   | (with_reducible exact spec_MailAt.mono _ _ _ _ _ _ _ _ _)
   | (with_reducible exact spec_MailOk.mono _ _ _ _ _)
   | (with_reducible exact spec_NameOk.mono _ _)
   | (with_reducible exact spec_l06In.mono _ _ _)
   | (with_reducible exact spec_l06Sorted.mono _ _ _)
   | (with_reducible exact LeO.refl _)
   | (with_reducible exact LeO.none _)
   | (with_reducible refine LeO.ite ?_ ?_)
   | (with_reducible refine LeO.bind ?_ (fun _ => ?_))
   | exact ih0 _ _ _ _ _ _ _ _
   | exact ih1 _ _ _ _ _ _ _ _
   | exact ih2 _ _ _ _ _ _ _ _ _
   | exact spec_MailAt.mono _ _ _ _ _ _ _ _ _
   | exact spec_MailOk.mono _ _ _ _ _
   | exact spec_NameOk.mono _ _
   | exact spec_l06In.mono _ _ _
   | exact spec_l06Sorted.mono _ _ _
   | exact LeO.none _
   | refine LeO.ite ?_ ?_
   | refine LeO.bind ?_ (fun _ => ?_)
  ·intro y0 y1 y2 y3 y4 y5 y6 y7
   unfold spec_BoxOk.l0
   repeat' first
   | (with_reducible exact ih0 _ _ _ _ _ _ _ _)
   | (with_reducible exact ih1 _ _ _ _ _ _ _ _)
   | (with_reducible exact ih2 _ _ _ _ _ _ _ _ _)
   | (with_reducible exact spec_MailAt.mono _ _ _ _ _ _ _ _ _)
   | (with_reducible exact spec_MailOk.mono _ _ _ _ _)
   | (with_reducible exact spec_NameOk.mono _ _)
   | (with_reducible exact spec_l06In.mono _ _ _)
   | (with_reducible exact spec_l06Sorted.mono _ _ _)
   | (with_reducible exact LeO.refl _)
   | (with_reducible exact LeO.none _)
   | (with_reducible refine LeO.ite ?_ ?_)
   | (with_reducible refine LeO.bind ?_ (fun _ => ?_))
   | exact ih0 _ _ _ _ _ _ _ _
   | exact ih1 _ _ _ _ _ _ _ _
   | exact ih2 _ _ _ _ _ _ _ _ _
   | exact spec_MailAt.mono _ _ _ _ _ _ _ _ _
   | exact spec_MailOk.mono _ _ _ _ _
   | exact spec_NameOk.mono _ _
   | exact spec_l06In.mono _ _ _
   | exact spec_l06Sorted.mono _ _ _
   | exact LeO.none _
   | refine LeO.ite ?_ ?_
   | refine LeO.bind ?_ (fun _ => ?_)
  ·intro y0 y1 y2 y3 y4 y5 y6 y7 y8
   unfold spec_BoxOk.j2
   repeat' first
   | (with_reducible exact ih0 _ _ _ _ _ _ _ _)
   | (with_reducible exact ih1 _ _ _ _ _ _ _ _)
   | (with_reducible exact ih2 _ _ _ _ _ _ _ _ _)
   | (with_reducible exact spec_MailAt.mono _ _ _ _ _ _ _ _ _)
   | (with_reducible exact spec_MailOk.mono _ _ _ _ _)
   | (with_reducible exact spec_NameOk.mono _ _)
   | (with_reducible exact spec_l06In.mono _ _ _)
   | (with_reducible exact spec_l06Sorted.mono _ _ _)
   | (with_reducible exact LeO.refl _)
   | (with_reducible exact LeO.none _)
   | (with_reducible refine LeO.ite ?_ ?_)
   | (with_reducible refine LeO.bind ?_ (fun _ => ?_))
   | exact ih0 _ _ _ _ _ _ _ _
   | exact ih1 _ _ _ _ _ _ _ _
   | exact ih2 _ _ _ _ _ _ _ _ _
   | exact spec_MailAt.mono _ _ _ _ _ _ _ _ _
   | exact spec_MailOk.mono _ _ _ _ _
   | exact spec_NameOk.mono _ _
   | exact spec_l06In.mono _ _ _
   | exact spec_l06Sorted.mono _ _ _
   | exact LeO.none _
   | refine LeO.ite ?_ ?_
   | refine LeO.bind ?_ (fun _ => ?_)
theorem spec_BoxOk.mono : ∀ a0 a1 a2 a3 a4 a5 a6 k, LeO (spec_BoxOk.f k a0 a1 a2 a3 a4 a5 a6) (spec_BoxOk.f (k + 1) a0 a1 a2 a3 a4 a5 a6) := by
 intro a0 a1 a2 a3 a4 a5 a6 k
 obtain ⟨ih0, ih1, ih2⟩ := spec_BoxOk.mono_l k
 unfold spec_BoxOk.f
 repeat' first
   | (with_reducible exact ih0 _ _ _ _ _ _ _ _)
   | (with_reducible exact ih1 _ _ _ _ _ _ _ _)
   | (with_reducible exact ih2 _ _ _ _ _ _ _ _ _)
   | (with_reducible exact spec_MailAt.mono _ _ _ _ _ _ _ _ _)
   | (with_reducible exact spec_MailOk.mono _ _ _ _ _)
   | (with_reducible exact spec_NameOk.mono _ _)
   | (with_reducible exact spec_l06In.mono _ _ _)
   | (with_reducible exact spec_l06Sorted.mono _ _ _)
   | (with_reducible exact LeO.refl _)
   | (with_reducible exact LeO.none _)
   | (with_reducible refine LeO.ite ?_ ?_)
   | (with_reducible refine LeO.bind ?_ (fun _ => ?_))
   | exact ih0 _ _ _ _ _ _ _ _
   | exact ih1 _ _ _ _ _ _ _ _
   | exact ih2 _ _ _ _ _ _ _ _ _
   | exact spec_MailAt.mono _ _ _ _ _ _ _ _ _
   | exact spec_MailOk.mono _ _ _ _ _
   | exact spec_NameOk.mono _ _
   | exact spec_l06In.mono _ _ _
   | exact spec_l06Sorted.mono _ _ _
   | exact LeO.none _
   | refine LeO.ite ?_ ?_
   | refine LeO.bind ?_ (fun _ => ?_)
def spec_BoxOk.T7 : Bool × List (List Nat × List Nat) := (true, [([], []), ([0], [0]), ([1], [1]), ([2, 1], [2]), ([3], [3]), ([4, 3], [3, 4]), ([3], [3]), ([6, 3], [3, 6]), ([5, 7, 3], [3, 5, 7]), ([3, 8], [3, 8]), ([9, 3], [9]), ([10], [10]), ([11, 10], [10, 11]), ([12, 10, 10], [10, 12]), ([13], [13]), ([14, 13], [13, 14]), ([13], [13]), ([16, 13], [13, 16]), ([15, 17, 13], [13, 15, 17]), ([18, 13], [13, 18]), ([19, 13], [13, 19]), ([13], [13]), ([21, 13], [13, 21]), ([20, 22, 13], [13, 20, 22]), ([13, 23, 10], [10, 13, 23]), ([10, 24], [10, 24]), ([25, 13], [25]), ([26], [26]), ([27, 26], [26, 27]), ([26], [26]), ([29, 26], [26, 29]), ([28, 30, 26, 26], [26, 28, 30]), ([26, 31], [26, 31]), ([32, 31], [32]), ([33], [33]), ([33], [33]), ([35, 33], [33, 35]), ([34, 36, 33, 33], [33, 34, 36]), ([33], [33]), ([37, 38, 33], [33, 37, 38]), ([33, 39], [33, 39])])
def spec_BoxOk.B7 : List Nat := [0, 1, 3, 7, 15, 31, 15, 79, 255, 511, 1023, 2047, 4095, 8191, 16383, 32767, 16383, 81919, 262143, 524287, 1048575, 16383, 2113535, 8388607, 16777215, 33554431, 67108863, 134217727, 268435455, 134217727, 671088639, 2147483647, 4294967295, 8589934591, 17179869183, 17179869183, 51539607551, 137438953471, 17179869183, 549755813887, 1099511627775]
theorem spec_BoxOk.tab7 : rtab .any (opsOf Try.f32 7) = spec_BoxOk.T7 := by kernel_rfl
theorem spec_BoxOk.bits7 : waitsOk spec_BoxOk.T7.2 spec_BoxOk.B7 = true := by kernel_rfl
set_option maxHeartbeats 8000000 in
set_option maxRecDepth 100000 in
theorem spec_BoxOk.calls (k : Nat) (a0_0 : Int) (a0_1 : ByteArray) (a0_2 : Int) (a0_3 : Int) (a0_4 : Int) (A0_5 : Option Addr) (c0_5 : Nat) (l0_5 : List (S24)) (A0_6 : Option Addr) (c0_6 : Nat) (l0_6 : List Int) (r : Bool) (w : World) (hr0_5 : Kd.C k24 w A0_5 l0_5.length l0_5) (hc0_5 : l0_5.length ≤ c0_5) (hr0_6 : Kd.C (Kd.int .i64) w A0_6 l0_6.length l0_6) (hc0_6 : l0_6.length ≤ c0_6) (h : spec_BoxOk.f k a0_0 a0_1 a0_2 a0_3 a0_4 l0_5 l0_6 = some r) :
  Calls Try.prog 32 #[.agg #[.int .i64 a0_0, .string a0_1, .int .i64 a0_2, .int .i64 a0_3, .int .i64 a0_4, .slice A0_5 l0_5.length c0_5, .slice A0_6 l0_6.length c0_6]] w fun e w' => e = .returned (.bool r) ∧ Below w.heap.size w w' := by
 have hu59 := Try.underlying59
 have hu36 := Try.underlying36
 have hu24 := Try.underlying24
 have HR0_5 := Aside0.mk hr0_5
 have HC0_5 := Aside0.mk hc0_5
 clear hr0_5 hc0_5
 have HR0_6 := Aside0.mk hr0_6
 have HC0_6 := Aside0.mk hc0_6
 clear hr0_6 hc0_6
 have HB := Aside0.mk (Below.refl w.heap.size w)
 have H := h
 unfold spec_BoxOk.f at H
 clear h
 have HC2 := Aside0.mk H
 clear H
 go_enter Try.func32, Try.ntmps32
 go_upto_region 1 with (first | ((with_reducible refine gate_dst (N := 1) rfl ?_); (try (refine gate_guard (by rfl) ?_; dsimp only)); refine bE 1 #[.int .i64 a0_0, .string a0_1, .int .i64 a0_2, .int .i64 a0_3, .int .i64 a0_4, .slice A0_5 l0_5.length c0_5, .slice A0_6 l0_6.length c0_6] 59 ?_; intro gb129 hg w3 hbox hb; have n0_ := Aside0.mk (below_step aH hb); have n1_ := Aside0.mk (hbox); have n2_ := Aside0.mk ((gS hg : w.heap.size ≤ gb129)); have n3_ := Aside0.mk ((gS hg : w.heap.size ≤ gb129)); clear HB; have HB := n0_; have BK129 := n1_; have GW129 := n2_; have GE129 := n3_; clear n0_ n1_ n2_ n3_; clear hb hbox hg))
 (try simp only [Act.put, List.setIfInBounds_toArray, List.set_cons_zero, List.set_cons_succ])
 go_cut [38] (fun v38 wc => ∃ (kq : Nat) (x38_1 : Bool), v38 = .bool x38_1 ∧ Aside0 (spec_BoxOk.j0 kq x38_1 a0_0 a0_1 a0_2 a0_3 a0_4 l0_5 l0_6 = some r) ∧ Aside0 (kq ≤ k) ∧ Aside0 (wc.heap[gb129]? = some (.cells #[.int .i64 a0_0, .string a0_1, .int .i64 a0_2, .int .i64 a0_3, .int .i64 a0_4, (.slice A0_5 l0_5.length c0_5), (.slice A0_6 l0_6.length c0_6)] 59 (0, 0))) ∧ Aside0 (Below w.heap.size w wc))
 case first =>
  have H := HC2.out
  clear HC2
  replace H := Option.bind_eq_some_iff.mp H
  obtain ⟨t130, A40, H⟩ := H
  try dsimp only at H
  have A4 := Aside0.mk A40
  clear A40
  by_cases c5 : t130 = true
  ·subst c5
   have H1 := wT H
   clear H
   have H := H1
   clear H1
   replace H := Option.bind_eq_some_iff.mp H
   obtain ⟨t131, A60, H⟩ := H
   try dsimp only at H
   have A6 := Aside0.mk A60
   clear A60
   by_cases c7 : t131 = true
   ·subst c7
    have H1 := wT H
    clear H
    have H := H1
    clear H1
    replace H := Option.bind_eq_some_iff.mp H
    obtain ⟨t132, A80, H⟩ := H
    try dsimp only at H
    have A8 := Aside0.mk A80
    clear A80
    by_cases c9 : t132 = true
    ·subst c9
     have H1 := wT H
     clear H
     have H := H1
     clear H1
     replace H := Option.bind_eq_some_iff.mp H
     obtain ⟨t133, A100, H⟩ := H
     try dsimp only at H
     have A10 := Aside0.mk A100
     clear A100
     by_cases c11 : t133 = true
     ·subst c11
      have H1 := wT H
      clear H
      have H := H1
      clear H1
      by_cases c12 : (l0_5.length : Int) > 10
      ·rw [if_pos c12] at H
       have c12b0 : decide (10 < (l0_5.length : Int)) = true := decide_eq_true c12
       have c12b1 : decide (10 < l0_5.length) = true := decide_eq_true (by omega)
       clear c12
       (first | rw [c12b0] | (simp only [i64_w, i32_w]; rw [c12b0]) | skip)
       have H' := Aside0.mk H
       clear H
       have hcz13_0 : w3.cell? ⟨gb129, 0, none⟩ = some (.int .i64 a0_0) := cR BK129.out 0
       have hcz13_1 : w3.cell? ⟨gb129, 1, none⟩ = some (.string a0_1) := cR BK129.out 1
       have hcz13_2 : w3.cell? ⟨gb129, 2, none⟩ = some (.int .i64 a0_2) := cR BK129.out 2
       have hcz13_3 : w3.cell? ⟨gb129, 3, none⟩ = some (.int .i64 a0_3) := cR BK129.out 3
       have hcz13_4 : w3.cell? ⟨gb129, 4, none⟩ = some (.int .i64 a0_4) := cR BK129.out 4
       have hcz13_5 : w3.cell? ⟨gb129, 5, none⟩ = some (.slice A0_5 l0_5.length c0_5) := cR BK129.out 5
       have hcz13_6 : w3.cell? ⟨gb129, 6, none⟩ = some (.slice A0_6 l0_6.length c0_6) := cR BK129.out 6
       have hfz13_0 := blk_frozen BK129.out 0
       have hfz13_1 := blk_frozen BK129.out 1
       have hfz13_2 := blk_frozen BK129.out 2
       have hfz13_3 := blk_frozen BK129.out 3
       have hfz13_4 := blk_frozen BK129.out 4
       have hfz13_5 := blk_frozen BK129.out 5
       have hfz13_6 := blk_frozen BK129.out 6
       go_wp2_with (first | ((with_reducible refine gate_callee (f := 72) rfl ?_); refine gL_ (some 7) Try.func72 #[.int .i64 a0_0, .int .i64 1, .int .i64 9999] ?_; (with_reducible refine (spec_l01In.calls a0_0 1 9999 true _ A4.out).mono ?_); rintro e w' ⟨rfl, ⟨nd, rfl⟩⟩; refine ⟨_, rfl, ?_⟩) | (go_at_call 73; (with_reducible refine (spec_NameOk.calls k a0_1 true _ A6.out).mono ?_); rintro e w' ⟨rfl, ⟨nd, rfl⟩⟩) | (go_at_call 74; (with_reducible refine (spec_StampOk.calls a0_2 a0_3 true _ A8.out).mono ?_); rintro e w14 ⟨rfl, hb⟩; have n0_ := Aside0.mk (kB BK129.out hb); have n1_ := Aside0.mk (below_step aH hb); clear BK129; clear HB; have BK129 := n0_; have HB := n1_; clear n0_ n1_; (try clear hb); (try clear hb2); (try clear hk); (try clear hi); have hcz15_0 : w14.cell? ⟨gb129, 0, none⟩ = some (.int .i64 a0_0) := cR BK129.out 0; have hcz15_1 : w14.cell? ⟨gb129, 1, none⟩ = some (.string a0_1) := cR BK129.out 1; have hcz15_2 : w14.cell? ⟨gb129, 2, none⟩ = some (.int .i64 a0_2) := cR BK129.out 2; have hcz15_3 : w14.cell? ⟨gb129, 3, none⟩ = some (.int .i64 a0_3) := cR BK129.out 3; have hcz15_4 : w14.cell? ⟨gb129, 4, none⟩ = some (.int .i64 a0_4) := cR BK129.out 4; have hcz15_5 : w14.cell? ⟨gb129, 5, none⟩ = some (.slice A0_5 l0_5.length c0_5) := cR BK129.out 5; have hcz15_6 : w14.cell? ⟨gb129, 6, none⟩ = some (.slice A0_6 l0_6.length c0_6) := cR BK129.out 6; have hfz15_0 := blk_frozen BK129.out 0; have hfz15_1 := blk_frozen BK129.out 1; have hfz15_2 := blk_frozen BK129.out 2; have hfz15_3 := blk_frozen BK129.out 3; have hfz15_4 := blk_frozen BK129.out 4; have hfz15_5 := blk_frozen BK129.out 5; have hfz15_6 := blk_frozen BK129.out 6) | (go_at_call 72; (with_reducible refine (spec_l01In.calls a0_4 1 10000 true _ A10.out).mono ?_); rintro e w' ⟨rfl, ⟨nd, rfl⟩⟩))
       go_meet
       case rel => exact ⟨_, (true), aF, H', ⟨aO⟩, ⟨aB BK129.out⟩, ⟨aH⟩⟩
      ·rw [if_neg c12] at H
       have c12b0 : decide (10 < (l0_5.length : Int)) = false := decide_eq_false c12
       have c12b1 : decide (10 < l0_5.length) = false := decide_eq_false (by omega)
       clear c12
       (first | rw [c12b0] | (simp only [i64_w, i32_w]; rw [c12b0]) | skip)
       replace H := Option.bind_eq_some_iff.mp H
       obtain ⟨t134, A160, H⟩ := H
       replace H : (spec_BoxOk.j0 k (!t134) a0_0 a0_1 a0_2 a0_3 a0_4 l0_5 l0_6) = some r := H
       have A16 := Aside0.mk A160
       clear A160
       have H' := Aside0.mk H
       clear H
       have hcz17_0 : w3.cell? ⟨gb129, 0, none⟩ = some (.int .i64 a0_0) := cR BK129.out 0
       have hcz17_1 : w3.cell? ⟨gb129, 1, none⟩ = some (.string a0_1) := cR BK129.out 1
       have hcz17_2 : w3.cell? ⟨gb129, 2, none⟩ = some (.int .i64 a0_2) := cR BK129.out 2
       have hcz17_3 : w3.cell? ⟨gb129, 3, none⟩ = some (.int .i64 a0_3) := cR BK129.out 3
       have hcz17_4 : w3.cell? ⟨gb129, 4, none⟩ = some (.int .i64 a0_4) := cR BK129.out 4
       have hcz17_5 : w3.cell? ⟨gb129, 5, none⟩ = some (.slice A0_5 l0_5.length c0_5) := cR BK129.out 5
       have hcz17_6 : w3.cell? ⟨gb129, 6, none⟩ = some (.slice A0_6 l0_6.length c0_6) := cR BK129.out 6
       have hfz17_0 := blk_frozen BK129.out 0
       have hfz17_1 := blk_frozen BK129.out 1
       have hfz17_2 := blk_frozen BK129.out 2
       have hfz17_3 := blk_frozen BK129.out 3
       have hfz17_4 := blk_frozen BK129.out 4
       have hfz17_5 := blk_frozen BK129.out 5
       have hfz17_6 := blk_frozen BK129.out 6
       go_wp2_with (first | ((with_reducible refine gate_callee (f := 72) rfl ?_); refine gL_ (some 7) Try.func72 #[.int .i64 a0_0, .int .i64 1, .int .i64 9999] ?_; (with_reducible refine (spec_l01In.calls a0_0 1 9999 true _ A4.out).mono ?_); rintro e w' ⟨rfl, ⟨nd, rfl⟩⟩; refine ⟨_, rfl, ?_⟩) | (go_at_call 73; (with_reducible refine (spec_NameOk.calls k a0_1 true _ A6.out).mono ?_); rintro e w' ⟨rfl, ⟨nd, rfl⟩⟩) | (go_at_call 74; (with_reducible refine (spec_StampOk.calls a0_2 a0_3 true _ A8.out).mono ?_); rintro e w18 ⟨rfl, hb⟩; have n0_ := Aside0.mk (kB BK129.out hb); have n1_ := Aside0.mk (below_step aH hb); clear BK129; clear HB; have BK129 := n0_; have HB := n1_; clear n0_ n1_; (try clear hb); (try clear hb2); (try clear hk); (try clear hi); have hcz19_0 : w18.cell? ⟨gb129, 0, none⟩ = some (.int .i64 a0_0) := cR BK129.out 0; have hcz19_1 : w18.cell? ⟨gb129, 1, none⟩ = some (.string a0_1) := cR BK129.out 1; have hcz19_2 : w18.cell? ⟨gb129, 2, none⟩ = some (.int .i64 a0_2) := cR BK129.out 2; have hcz19_3 : w18.cell? ⟨gb129, 3, none⟩ = some (.int .i64 a0_3) := cR BK129.out 3; have hcz19_4 : w18.cell? ⟨gb129, 4, none⟩ = some (.int .i64 a0_4) := cR BK129.out 4; have hcz19_5 : w18.cell? ⟨gb129, 5, none⟩ = some (.slice A0_5 l0_5.length c0_5) := cR BK129.out 5; have hcz19_6 : w18.cell? ⟨gb129, 6, none⟩ = some (.slice A0_6 l0_6.length c0_6) := cR BK129.out 6; have hfz19_0 := blk_frozen BK129.out 0; have hfz19_1 := blk_frozen BK129.out 1; have hfz19_2 := blk_frozen BK129.out 2; have hfz19_3 := blk_frozen BK129.out 3; have hfz19_4 := blk_frozen BK129.out 4; have hfz19_5 := blk_frozen BK129.out 5; have hfz19_6 := blk_frozen BK129.out 6) | (go_at_call 72; (with_reducible refine (spec_l01In.calls a0_4 1 10000 true _ A10.out).mono ?_); rintro e w' ⟨rfl, ⟨nd, rfl⟩⟩) | (go_at_call 75; (with_reducible refine (spec_l06Sorted.calls k _ _ l0_6 40 t134 _ ?side1 ?side2 A16.out).mono ?_); (case side1 => repeat (first | exact (Kd.C_below HR0_6.out aH) | (with_reducible refine Kd.C_alloc ?_ _) | (with_reducible refine Kd.C_drewN ?_ _) | (with_reducible refine Kd.C_drew ?_))); (case side2 => exact HC0_6.out); rintro e w' ⟨rfl, ⟨nd, rfl⟩⟩))
       go_meet
       case rel => exact ⟨_, (!t134), aF, H', ⟨aO⟩, ⟨aB BK129.out⟩, ⟨aH⟩⟩
     ·replace c11 := Bool.eq_false_iff.mpr c11
      subst c11
      have H1 := wF H
      clear H
      have H := H1
      clear H1
      have H' := Aside0.mk H
      clear H
      have hcz20_0 : w3.cell? ⟨gb129, 0, none⟩ = some (.int .i64 a0_0) := cR BK129.out 0
      have hcz20_1 : w3.cell? ⟨gb129, 1, none⟩ = some (.string a0_1) := cR BK129.out 1
      have hcz20_2 : w3.cell? ⟨gb129, 2, none⟩ = some (.int .i64 a0_2) := cR BK129.out 2
      have hcz20_3 : w3.cell? ⟨gb129, 3, none⟩ = some (.int .i64 a0_3) := cR BK129.out 3
      have hcz20_4 : w3.cell? ⟨gb129, 4, none⟩ = some (.int .i64 a0_4) := cR BK129.out 4
      have hcz20_5 : w3.cell? ⟨gb129, 5, none⟩ = some (.slice A0_5 l0_5.length c0_5) := cR BK129.out 5
      have hcz20_6 : w3.cell? ⟨gb129, 6, none⟩ = some (.slice A0_6 l0_6.length c0_6) := cR BK129.out 6
      have hfz20_0 := blk_frozen BK129.out 0
      have hfz20_1 := blk_frozen BK129.out 1
      have hfz20_2 := blk_frozen BK129.out 2
      have hfz20_3 := blk_frozen BK129.out 3
      have hfz20_4 := blk_frozen BK129.out 4
      have hfz20_5 := blk_frozen BK129.out 5
      have hfz20_6 := blk_frozen BK129.out 6
      go_wp2_with (first | ((with_reducible refine gate_callee (f := 72) rfl ?_); refine gL_ (some 7) Try.func72 #[.int .i64 a0_0, .int .i64 1, .int .i64 9999] ?_; (with_reducible refine (spec_l01In.calls a0_0 1 9999 true _ A4.out).mono ?_); rintro e w' ⟨rfl, ⟨nd, rfl⟩⟩; refine ⟨_, rfl, ?_⟩) | (go_at_call 73; (with_reducible refine (spec_NameOk.calls k a0_1 true _ A6.out).mono ?_); rintro e w' ⟨rfl, ⟨nd, rfl⟩⟩) | (go_at_call 74; (with_reducible refine (spec_StampOk.calls a0_2 a0_3 true _ A8.out).mono ?_); rintro e w21 ⟨rfl, hb⟩; have n0_ := Aside0.mk (kB BK129.out hb); have n1_ := Aside0.mk (below_step aH hb); clear BK129; clear HB; have BK129 := n0_; have HB := n1_; clear n0_ n1_; (try clear hb); (try clear hb2); (try clear hk); (try clear hi); have hcz22_0 : w21.cell? ⟨gb129, 0, none⟩ = some (.int .i64 a0_0) := cR BK129.out 0; have hcz22_1 : w21.cell? ⟨gb129, 1, none⟩ = some (.string a0_1) := cR BK129.out 1; have hcz22_2 : w21.cell? ⟨gb129, 2, none⟩ = some (.int .i64 a0_2) := cR BK129.out 2; have hcz22_3 : w21.cell? ⟨gb129, 3, none⟩ = some (.int .i64 a0_3) := cR BK129.out 3; have hcz22_4 : w21.cell? ⟨gb129, 4, none⟩ = some (.int .i64 a0_4) := cR BK129.out 4; have hcz22_5 : w21.cell? ⟨gb129, 5, none⟩ = some (.slice A0_5 l0_5.length c0_5) := cR BK129.out 5; have hcz22_6 : w21.cell? ⟨gb129, 6, none⟩ = some (.slice A0_6 l0_6.length c0_6) := cR BK129.out 6; have hfz22_0 := blk_frozen BK129.out 0; have hfz22_1 := blk_frozen BK129.out 1; have hfz22_2 := blk_frozen BK129.out 2; have hfz22_3 := blk_frozen BK129.out 3; have hfz22_4 := blk_frozen BK129.out 4; have hfz22_5 := blk_frozen BK129.out 5; have hfz22_6 := blk_frozen BK129.out 6) | (go_at_call 72; (with_reducible refine (spec_l01In.calls a0_4 1 10000 false _ A10.out).mono ?_); rintro e w' ⟨rfl, ⟨nd, rfl⟩⟩))
      go_meet
      case rel => exact ⟨_, (true), aF, H', ⟨aO⟩, ⟨aB BK129.out⟩, ⟨aH⟩⟩
    ·replace c9 := Bool.eq_false_iff.mpr c9
     subst c9
     have H1 := wF H
     clear H
     have H := H1
     clear H1
     have H' := Aside0.mk H
     clear H
     have hcz23_0 : w3.cell? ⟨gb129, 0, none⟩ = some (.int .i64 a0_0) := cR BK129.out 0
     have hcz23_1 : w3.cell? ⟨gb129, 1, none⟩ = some (.string a0_1) := cR BK129.out 1
     have hcz23_2 : w3.cell? ⟨gb129, 2, none⟩ = some (.int .i64 a0_2) := cR BK129.out 2
     have hcz23_3 : w3.cell? ⟨gb129, 3, none⟩ = some (.int .i64 a0_3) := cR BK129.out 3
     have hcz23_4 : w3.cell? ⟨gb129, 4, none⟩ = some (.int .i64 a0_4) := cR BK129.out 4
     have hcz23_5 : w3.cell? ⟨gb129, 5, none⟩ = some (.slice A0_5 l0_5.length c0_5) := cR BK129.out 5
     have hcz23_6 : w3.cell? ⟨gb129, 6, none⟩ = some (.slice A0_6 l0_6.length c0_6) := cR BK129.out 6
     have hfz23_0 := blk_frozen BK129.out 0
     have hfz23_1 := blk_frozen BK129.out 1
     have hfz23_2 := blk_frozen BK129.out 2
     have hfz23_3 := blk_frozen BK129.out 3
     have hfz23_4 := blk_frozen BK129.out 4
     have hfz23_5 := blk_frozen BK129.out 5
     have hfz23_6 := blk_frozen BK129.out 6
     go_wp2_with (first | ((with_reducible refine gate_callee (f := 72) rfl ?_); refine gL_ (some 7) Try.func72 #[.int .i64 a0_0, .int .i64 1, .int .i64 9999] ?_; (with_reducible refine (spec_l01In.calls a0_0 1 9999 true _ A4.out).mono ?_); rintro e w' ⟨rfl, ⟨nd, rfl⟩⟩; refine ⟨_, rfl, ?_⟩) | (go_at_call 73; (with_reducible refine (spec_NameOk.calls k a0_1 true _ A6.out).mono ?_); rintro e w' ⟨rfl, ⟨nd, rfl⟩⟩) | (go_at_call 74; (with_reducible refine (spec_StampOk.calls a0_2 a0_3 false _ A8.out).mono ?_); rintro e w24 ⟨rfl, hb⟩; have n0_ := Aside0.mk (kB BK129.out hb); have n1_ := Aside0.mk (below_step aH hb); clear BK129; clear HB; have BK129 := n0_; have HB := n1_; clear n0_ n1_; (try clear hb); (try clear hb2); (try clear hk); (try clear hi)))
     go_meet
     case rel => exact ⟨_, (true), aF, H', ⟨aO⟩, ⟨aB BK129.out⟩, ⟨aH⟩⟩
   ·replace c7 := Bool.eq_false_iff.mpr c7
    subst c7
    have H1 := wF H
    clear H
    have H := H1
    clear H1
    have H' := Aside0.mk H
    clear H
    have hcz25_0 : w3.cell? ⟨gb129, 0, none⟩ = some (.int .i64 a0_0) := cR BK129.out 0
    have hcz25_1 : w3.cell? ⟨gb129, 1, none⟩ = some (.string a0_1) := cR BK129.out 1
    have hcz25_2 : w3.cell? ⟨gb129, 2, none⟩ = some (.int .i64 a0_2) := cR BK129.out 2
    have hcz25_3 : w3.cell? ⟨gb129, 3, none⟩ = some (.int .i64 a0_3) := cR BK129.out 3
    have hcz25_4 : w3.cell? ⟨gb129, 4, none⟩ = some (.int .i64 a0_4) := cR BK129.out 4
    have hcz25_5 : w3.cell? ⟨gb129, 5, none⟩ = some (.slice A0_5 l0_5.length c0_5) := cR BK129.out 5
    have hcz25_6 : w3.cell? ⟨gb129, 6, none⟩ = some (.slice A0_6 l0_6.length c0_6) := cR BK129.out 6
    have hfz25_0 := blk_frozen BK129.out 0
    have hfz25_1 := blk_frozen BK129.out 1
    have hfz25_2 := blk_frozen BK129.out 2
    have hfz25_3 := blk_frozen BK129.out 3
    have hfz25_4 := blk_frozen BK129.out 4
    have hfz25_5 := blk_frozen BK129.out 5
    have hfz25_6 := blk_frozen BK129.out 6
    go_wp2_with (first | ((with_reducible refine gate_callee (f := 72) rfl ?_); refine gL_ (some 7) Try.func72 #[.int .i64 a0_0, .int .i64 1, .int .i64 9999] ?_; (with_reducible refine (spec_l01In.calls a0_0 1 9999 true _ A4.out).mono ?_); rintro e w' ⟨rfl, ⟨nd, rfl⟩⟩; refine ⟨_, rfl, ?_⟩) | (go_at_call 73; (with_reducible refine (spec_NameOk.calls k a0_1 false _ A6.out).mono ?_); rintro e w' ⟨rfl, ⟨nd, rfl⟩⟩))
    go_meet
    case rel => exact ⟨_, (true), aF, H', ⟨aO⟩, ⟨aB BK129.out⟩, ⟨aH⟩⟩
  ·replace c5 := Bool.eq_false_iff.mpr c5
   subst c5
   have H1 := wF H
   clear H
   have H := H1
   clear H1
   have H' := Aside0.mk H
   clear H
   have hcz26_0 : w3.cell? ⟨gb129, 0, none⟩ = some (.int .i64 a0_0) := cR BK129.out 0
   have hcz26_1 : w3.cell? ⟨gb129, 1, none⟩ = some (.string a0_1) := cR BK129.out 1
   have hcz26_2 : w3.cell? ⟨gb129, 2, none⟩ = some (.int .i64 a0_2) := cR BK129.out 2
   have hcz26_3 : w3.cell? ⟨gb129, 3, none⟩ = some (.int .i64 a0_3) := cR BK129.out 3
   have hcz26_4 : w3.cell? ⟨gb129, 4, none⟩ = some (.int .i64 a0_4) := cR BK129.out 4
   have hcz26_5 : w3.cell? ⟨gb129, 5, none⟩ = some (.slice A0_5 l0_5.length c0_5) := cR BK129.out 5
   have hcz26_6 : w3.cell? ⟨gb129, 6, none⟩ = some (.slice A0_6 l0_6.length c0_6) := cR BK129.out 6
   have hfz26_0 := blk_frozen BK129.out 0
   have hfz26_1 := blk_frozen BK129.out 1
   have hfz26_2 := blk_frozen BK129.out 2
   have hfz26_3 := blk_frozen BK129.out 3
   have hfz26_4 := blk_frozen BK129.out 4
   have hfz26_5 := blk_frozen BK129.out 5
   have hfz26_6 := blk_frozen BK129.out 6
   go_wp2_with (first | ((with_reducible refine gate_callee (f := 72) rfl ?_); refine gL_ (some 7) Try.func72 #[.int .i64 a0_0, .int .i64 1, .int .i64 9999] ?_; (with_reducible refine (spec_l01In.calls a0_0 1 9999 false _ A4.out).mono ?_); rintro e w' ⟨rfl, ⟨nd, rfl⟩⟩; refine ⟨_, rfl, ?_⟩))
   go_meet
   case rel => exact ⟨_, (true), aF, H', ⟨aO⟩, ⟨aB BK129.out⟩, ⟨aH⟩⟩
 case rest =>
  clear HC2
  try clear c1
  try clear p2
  try clear c3
  try clear c5
  try clear c7
  try clear c9
  try clear c11
  try clear c12
  try clear c12b0
  try clear c12b1
  try clear hcz13_0
  try clear hcz13_1
  try clear hcz13_2
  try clear hcz13_3
  try clear hcz13_4
  try clear hcz13_5
  try clear hcz13_6
  try clear hcz15_0
  try clear hcz15_1
  try clear hcz15_2
  try clear hcz15_3
  try clear hcz15_4
  try clear hcz15_5
  try clear hcz15_6
  try clear hcz17_0
  try clear hcz17_1
  try clear hcz17_2
  try clear hcz17_3
  try clear hcz17_4
  try clear hcz17_5
  try clear hcz17_6
  try clear hcz19_0
  try clear hcz19_1
  try clear hcz19_2
  try clear hcz19_3
  try clear hcz19_4
  try clear hcz19_5
  try clear hcz19_6
  try clear hcz20_0
  try clear hcz20_1
  try clear hcz20_2
  try clear hcz20_3
  try clear hcz20_4
  try clear hcz20_5
  try clear hcz20_6
  try clear hcz22_0
  try clear hcz22_1
  try clear hcz22_2
  try clear hcz22_3
  try clear hcz22_4
  try clear hcz22_5
  try clear hcz22_6
  try clear hcz23_0
  try clear hcz23_1
  try clear hcz23_2
  try clear hcz23_3
  try clear hcz23_4
  try clear hcz23_5
  try clear hcz23_6
  try clear hcz25_0
  try clear hcz25_1
  try clear hcz25_2
  try clear hcz25_3
  try clear hcz25_4
  try clear hcz25_5
  try clear hcz25_6
  try clear hcz26_0
  try clear hcz26_1
  try clear hcz26_2
  try clear hcz26_3
  try clear hcz26_4
  try clear hcz26_5
  try clear hcz26_6
  try clear hfz13_0
  try clear hfz13_1
  try clear hfz13_2
  try clear hfz13_3
  try clear hfz13_4
  try clear hfz13_5
  try clear hfz13_6
  try clear hfz15_0
  try clear hfz15_1
  try clear hfz15_2
  try clear hfz15_3
  try clear hfz15_4
  try clear hfz15_5
  try clear hfz15_6
  try clear hfz17_0
  try clear hfz17_1
  try clear hfz17_2
  try clear hfz17_3
  try clear hfz17_4
  try clear hfz17_5
  try clear hfz17_6
  try clear hfz19_0
  try clear hfz19_1
  try clear hfz19_2
  try clear hfz19_3
  try clear hfz19_4
  try clear hfz19_5
  try clear hfz19_6
  try clear hfz20_0
  try clear hfz20_1
  try clear hfz20_2
  try clear hfz20_3
  try clear hfz20_4
  try clear hfz20_5
  try clear hfz20_6
  try clear hfz22_0
  try clear hfz22_1
  try clear hfz22_2
  try clear hfz22_3
  try clear hfz22_4
  try clear hfz22_5
  try clear hfz22_6
  try clear hfz23_0
  try clear hfz23_1
  try clear hfz23_2
  try clear hfz23_3
  try clear hfz23_4
  try clear hfz23_5
  try clear hfz23_6
  try clear hfz25_0
  try clear hfz25_1
  try clear hfz25_2
  try clear hfz25_3
  try clear hfz25_4
  try clear hfz25_5
  try clear hfz25_6
  try clear hfz26_0
  try clear hfz26_1
  try clear hfz26_2
  try clear hfz26_3
  try clear hfz26_4
  try clear hfz26_5
  try clear hfz26_6
  obtain ⟨kq, x38_1, rfl, HA, HJ1, BK129, HB⟩ := hcut
  cases kq with
  | zero => exact absurd HA.out (by simp [spec_BoxOk.j0])
  | succ kj1 =>
   have H := HA.out
   clear HA
   simp only [spec_BoxOk.j0] at H
   by_cases c27 : x38_1 = true
   ·subst c27
    have H1 := wT H
    clear H
    have H := H1
    clear H1
    obtain rfl := Option.some.inj H
    go_wp2
    go_ret
    exact ⟨by first | rfl | (simp [errW_none, errW_some] <;> rfl) | (simp [*, errW_none, errW_some] <;> rfl), aH⟩
   ·replace c27 := Bool.eq_false_iff.mpr c27
    subst c27
    have H1 := wF H
    clear H
    have H := H1
    clear H1
    have H' := Aside0.mk H
    clear H
    go_wp2
    go_loopg [3] kj1 (fun kq v3 w' => ∃ (x3_2 : Int), v3 = .int .i64 x3_2 ∧ Aside0 (spec_BoxOk.l0 kq x3_2 a0_0 a0_1 a0_2 a0_3 a0_4 l0_5 l0_6 = some r) ∧ Aside0 (kq ≤ kj1) ∧ Aside0 (w'.heap[gb129]? = some (.cells #[.int .i64 a0_0, .string a0_1, .int .i64 a0_2, .int .i64 a0_3, .int .i64 a0_4, (.slice A0_5 l0_5.length c0_5), (.slice A0_6 l0_6.length c0_6)] 59 (0, 0))) ∧ Aside0 (Below w.heap.size w w'))
    case atStart => exact ⟨(0), aF, H', ⟨Nat.le_refl _⟩, ⟨aB BK129.out⟩, ⟨aH⟩⟩
    case round =>
     clear H'
     try clear c1
     try clear c2
     try clear p2
     try clear c3
     try clear c5
     try clear c7
     try clear c9
     try clear c11
     try clear c12
     try clear c12b0
     try clear c12b1
     try clear c27
     try clear hcz13_0
     try clear hcz13_1
     try clear hcz13_2
     try clear hcz13_3
     try clear hcz13_4
     try clear hcz13_5
     try clear hcz13_6
     try clear hcz15_0
     try clear hcz15_1
     try clear hcz15_2
     try clear hcz15_3
     try clear hcz15_4
     try clear hcz15_5
     try clear hcz15_6
     try clear hcz17_0
     try clear hcz17_1
     try clear hcz17_2
     try clear hcz17_3
     try clear hcz17_4
     try clear hcz17_5
     try clear hcz17_6
     try clear hcz19_0
     try clear hcz19_1
     try clear hcz19_2
     try clear hcz19_3
     try clear hcz19_4
     try clear hcz19_5
     try clear hcz19_6
     try clear hcz20_0
     try clear hcz20_1
     try clear hcz20_2
     try clear hcz20_3
     try clear hcz20_4
     try clear hcz20_5
     try clear hcz20_6
     try clear hcz22_0
     try clear hcz22_1
     try clear hcz22_2
     try clear hcz22_3
     try clear hcz22_4
     try clear hcz22_5
     try clear hcz22_6
     try clear hcz23_0
     try clear hcz23_1
     try clear hcz23_2
     try clear hcz23_3
     try clear hcz23_4
     try clear hcz23_5
     try clear hcz23_6
     try clear hcz25_0
     try clear hcz25_1
     try clear hcz25_2
     try clear hcz25_3
     try clear hcz25_4
     try clear hcz25_5
     try clear hcz25_6
     try clear hcz26_0
     try clear hcz26_1
     try clear hcz26_2
     try clear hcz26_3
     try clear hcz26_4
     try clear hcz26_5
     try clear hcz26_6
     try clear hfz13_0
     try clear hfz13_1
     try clear hfz13_2
     try clear hfz13_3
     try clear hfz13_4
     try clear hfz13_5
     try clear hfz13_6
     try clear hfz15_0
     try clear hfz15_1
     try clear hfz15_2
     try clear hfz15_3
     try clear hfz15_4
     try clear hfz15_5
     try clear hfz15_6
     try clear hfz17_0
     try clear hfz17_1
     try clear hfz17_2
     try clear hfz17_3
     try clear hfz17_4
     try clear hfz17_5
     try clear hfz17_6
     try clear hfz19_0
     try clear hfz19_1
     try clear hfz19_2
     try clear hfz19_3
     try clear hfz19_4
     try clear hfz19_5
     try clear hfz19_6
     try clear hfz20_0
     try clear hfz20_1
     try clear hfz20_2
     try clear hfz20_3
     try clear hfz20_4
     try clear hfz20_5
     try clear hfz20_6
     try clear hfz22_0
     try clear hfz22_1
     try clear hfz22_2
     try clear hfz22_3
     try clear hfz22_4
     try clear hfz22_5
     try clear hfz22_6
     try clear hfz23_0
     try clear hfz23_1
     try clear hfz23_2
     try clear hfz23_3
     try clear hfz23_4
     try clear hfz23_5
     try clear hfz23_6
     try clear hfz25_0
     try clear hfz25_1
     try clear hfz25_2
     try clear hfz25_3
     try clear hfz25_4
     try clear hfz25_5
     try clear hfz25_6
     try clear hfz26_0
     try clear hfz26_1
     try clear hfz26_2
     try clear hfz26_3
     try clear hfz26_4
     try clear hfz26_5
     try clear hfz26_6
     try clear p2
     obtain ⟨x3_2, rfl, HA, HK2, BK129, HB⟩ := hrel
     cases gk with
     | zero => exact absurd HA.out (by simp [spec_BoxOk.l0])
     | succ k2 =>
      have H := HA.out
      clear HA
      simp only [spec_BoxOk.l0] at H
      by_cases c28 : x3_2 < (l0_5.length : Int)
      ·rw [if_pos c28] at H
       have c28b0 : decide (x3_2 < (l0_5.length : Int)) = true := decide_eq_true c28
       clear c28
       by_cases c29 : 0 ≤ x3_2
       ·rw [if_pos c29] at H
        have c29b0 : decide (0 ≤ x3_2) = true := decide_eq_true c29
        clear c29
        have HC30 := Aside0.mk H
        clear H
        have hcz31_0 : wr.cell? ⟨gb129, 0, none⟩ = some (.int .i64 a0_0) := cR BK129.out 0
        have hcz31_1 : wr.cell? ⟨gb129, 1, none⟩ = some (.string a0_1) := cR BK129.out 1
        have hcz31_2 : wr.cell? ⟨gb129, 2, none⟩ = some (.int .i64 a0_2) := cR BK129.out 2
        have hcz31_3 : wr.cell? ⟨gb129, 3, none⟩ = some (.int .i64 a0_3) := cR BK129.out 3
        have hcz31_4 : wr.cell? ⟨gb129, 4, none⟩ = some (.int .i64 a0_4) := cR BK129.out 4
        have hcz31_5 : wr.cell? ⟨gb129, 5, none⟩ = some (.slice A0_5 l0_5.length c0_5) := cR BK129.out 5
        have hcz31_6 : wr.cell? ⟨gb129, 6, none⟩ = some (.slice A0_6 l0_6.length c0_6) := cR BK129.out 6
        have hfz31_0 := blk_frozen BK129.out 0
        have hfz31_1 := blk_frozen BK129.out 1
        have hfz31_2 := blk_frozen BK129.out 2
        have hfz31_3 := blk_frozen BK129.out 3
        have hfz31_4 := blk_frozen BK129.out 4
        have hfz31_5 := blk_frozen BK129.out 5
        have hfz31_6 := blk_frozen BK129.out 6
        have p135 : 0 ≤ (x3_2 : Int) := of_decide_eq_true (by first | (with_reducible assumption) | assumption)
        have q135 : x3_2 < (l0_5.length : Int) := of_decide_eq_true (by first | (with_reducible assumption) | assumption)
        obtain ⟨ad135, A135_2, c135_2, e135, hx135_0, hx135_1, hx135_2, hx135_3, hl135_2, hi135_2⟩ := at_T24 HR0_5.out x3_2 p135 q135
        cases e135
        replace hx135_0 := pw_cell_below HB.out hx135_0
        replace hx135_1 := pw_cell_below HB.out hx135_1
        replace hx135_2 := pw_cell_below HB.out hx135_2
        replace hx135_3 := pw_cell_below HB.out hx135_3
        have HR135_2 := Aside0.mk hi135_2
        have HC135_2 := Aside0.mk hl135_2
        clear hi135_2 hl135_2
        replace p135 := eq_true p135
        replace q135 := eq_true q135
        go_upto_region 7 with (first | ((with_reducible refine gate_dst (N := 4) rfl ?_); (try (refine gate_guard (by rfl) ?_; dsimp only)); refine box_event ?hg (N := 4) ?hd (cs := #[.int .i64 0, .int .i64 0, .slice none 0 0, .string (⟨#[]⟩ : ByteArray)]) (t := 24) ?hr ?_; (case hd => rfl); (case hg => rfl); (case hr => first | (go_simp; done) | (go_simp; rfl)); intro gb136 hg w32 hbox hb; have n0_ := Aside0.mk (kB BK129.out hb); have n1_ := Aside0.mk (below_step aH hb); have n2_ := Aside0.mk (hbox); have n3_ := Aside0.mk ((gS hg : w.heap.size ≤ gb136)); have n4_ := Aside0.mk ((gS hg : w.heap.size ≤ gb136)); have n5_ := Aside0.mk (gL hg BK129.out); have n6_ := Aside0.mk (gG hg BK129.out); clear BK129; clear HB; have BK129 := n0_; have HB := n1_; have BK136 := n2_; have GW136 := n3_; have GE136 := n4_; have NB129_136 := n5_; have NB136_129 := n6_; clear n0_ n1_ n2_ n3_ n4_ n5_ n6_; clear hb hbox hg; have hnb33 := NB136_129.out; have hnc33 := NB129_136.out; have hcz34_0 : w32.cell? ⟨gb136, 0, none⟩ = some (.int .i64 0) := cR BK136.out 0; have hcz34_1 : w32.cell? ⟨gb136, 1, none⟩ = some (.int .i64 0) := cR BK136.out 1; have hcz34_2 : w32.cell? ⟨gb136, 2, none⟩ = some (.slice none 0 0) := cR BK136.out 2; have hcz34_3 : w32.cell? ⟨gb136, 3, none⟩ = some (.string (⟨#[]⟩ : ByteArray)) := cR BK136.out 3; have hfz34_0 := blk_frozen BK136.out 0; have hfz34_1 := blk_frozen BK136.out 1; have hfz34_2 := blk_frozen BK136.out 2; have hfz34_3 := blk_frozen BK136.out 3))
        (try simp only [Act.put, List.setIfInBounds_toArray, List.set_cons_zero, List.set_cons_succ])
        go_cut [91] (fun v91 wc => ∃ (kq : Nat) (x91_29 : Bool), v91 = .bool x91_29 ∧ Aside0 (spec_BoxOk.j2 kq x3_2 x91_29 a0_0 a0_1 a0_2 a0_3 a0_4 l0_5 l0_6 = some r) ∧ Aside0 (kq ≤ k2) ∧ Aside0 (wc.heap[gb129]? = some (.cells #[.int .i64 a0_0, .string a0_1, .int .i64 a0_2, .int .i64 a0_3, .int .i64 a0_4, (.slice (some ad135) l0_5.length c0_5), (.slice A0_6 l0_6.length c0_6)] 59 (0, 0))) ∧ Aside0 (wc.heap[gb136]? = some (.cells #[.int .i64 ((rd_T24 l0_5 x3_2).f0), .int .i64 ((rd_T24 l0_5 x3_2).f1), (.slice A135_2 ((rd_T24 l0_5 x3_2).f2).length c135_2), .string ((rd_T24 l0_5 x3_2).f3)] 24 (0, 0))) ∧ Aside0 (Below w.heap.size w wc))
        case first =>
         have H := HC30.out
         clear HC30
         replace H := Option.bind_eq_some_iff.mp H
         obtain ⟨t137, A350, H⟩ := H
         try dsimp only at H
         have A35 := Aside0.mk A350
         clear A350
         by_cases c36 : t137 = true
         ·subst c36
          have H1 := wT H
          clear H
          have H := H1
          clear H1
          by_cases c37 : ((rd_T24 l0_5 x3_2).f1) ≥ a0_4
          ·rw [if_pos c37] at H
           have c37b0 : decide (a0_4 ≤ ((rd_T24 l0_5 x3_2).f1)) = true := decide_eq_true c37
           clear c37
           (first | rw [c37b0] | (simp only [i64_w, i32_w]; rw [c37b0]) | skip)
           have H' := Aside0.mk H
           clear H
           try go_wp2
           have n0_ : Aside0 (((((w32.setCell ⟨gb136, 0, none⟩ (.int .i64 ((rd_T24 l0_5 x3_2).f0))).setCell ⟨gb136, 1, none⟩ (.int .i64 ((rd_T24 l0_5 x3_2).f1))).setCell ⟨gb136, 2, none⟩ (.slice A135_2 ((rd_T24 l0_5 x3_2).f2).length c135_2)).setCell ⟨gb136, 3, none⟩ (.string ((rd_T24 l0_5 x3_2).f3))).heap[gb129]? = some (.cells #[.int .i64 a0_0, .string a0_1, .int .i64 a0_2, .int .i64 a0_3, .int .i64 a0_4, .slice (some ad135) l0_5.length c0_5, .slice A0_6 l0_6.length c0_6] 59 (0, 0))) := ⟨by (with_reducible repeat (first | refine blk_drewN ?_ _ | refine blk_drew ?_ | refine blk_alloc ?_ _)); refine blk_far ?_ NB129_136.out _; (with_reducible repeat (first | refine blk_drewN ?_ _ | refine blk_drew ?_ | refine blk_alloc ?_ _)); refine blk_far ?_ NB129_136.out _; (with_reducible repeat (first | refine blk_drewN ?_ _ | refine blk_drew ?_ | refine blk_alloc ?_ _)); refine blk_far ?_ NB129_136.out _; (with_reducible repeat (first | refine blk_drewN ?_ _ | refine blk_drew ?_ | refine blk_alloc ?_ _)); refine blk_far ?_ NB129_136.out _; (with_reducible repeat (first | refine blk_drewN ?_ _ | refine blk_drew ?_ | refine blk_alloc ?_ _)); exact BK129.out⟩
           have n1_ : Aside0 (((((w32.setCell ⟨gb136, 0, none⟩ (.int .i64 ((rd_T24 l0_5 x3_2).f0))).setCell ⟨gb136, 1, none⟩ (.int .i64 ((rd_T24 l0_5 x3_2).f1))).setCell ⟨gb136, 2, none⟩ (.slice A135_2 ((rd_T24 l0_5 x3_2).f2).length c135_2)).setCell ⟨gb136, 3, none⟩ (.string ((rd_T24 l0_5 x3_2).f3))).heap[gb136]? = some (.cells #[.int .i64 ((rd_T24 l0_5 x3_2).f0), .int .i64 ((rd_T24 l0_5 x3_2).f1), .slice A135_2 ((rd_T24 l0_5 x3_2).f2).length c135_2, .string ((rd_T24 l0_5 x3_2).f3)] 24 (0, 0))) := ⟨by (with_reducible repeat (first | refine blk_drewN ?_ _ | refine blk_drew ?_ | refine blk_alloc ?_ _)); refine blk_put (cs := #[.int .i64 ((rd_T24 l0_5 x3_2).f0), .int .i64 ((rd_T24 l0_5 x3_2).f1), .slice A135_2 ((rd_T24 l0_5 x3_2).f2).length c135_2, .string (⟨#[]⟩ : ByteArray)]) ?_ 3 _ rfl; (with_reducible repeat (first | refine blk_drewN ?_ _ | refine blk_drew ?_ | refine blk_alloc ?_ _)); refine blk_put (cs := #[.int .i64 ((rd_T24 l0_5 x3_2).f0), .int .i64 ((rd_T24 l0_5 x3_2).f1), .slice none 0 0, .string (⟨#[]⟩ : ByteArray)]) ?_ 2 _ rfl; (with_reducible repeat (first | refine blk_drewN ?_ _ | refine blk_drew ?_ | refine blk_alloc ?_ _)); refine blk_put (cs := #[.int .i64 ((rd_T24 l0_5 x3_2).f0), .int .i64 0, .slice none 0 0, .string (⟨#[]⟩ : ByteArray)]) ?_ 1 _ rfl; (with_reducible repeat (first | refine blk_drewN ?_ _ | refine blk_drew ?_ | refine blk_alloc ?_ _)); refine blk_put (cs := #[.int .i64 0, .int .i64 0, .slice none 0 0, .string (⟨#[]⟩ : ByteArray)]) ?_ 0 _ rfl; (with_reducible repeat (first | refine blk_drewN ?_ _ | refine blk_drew ?_ | refine blk_alloc ?_ _)); exact BK136.out⟩
           have n2_ : Aside0 (Below w.heap.size w ((((w32.setCell ⟨gb136, 0, none⟩ (.int .i64 ((rd_T24 l0_5 x3_2).f0))).setCell ⟨gb136, 1, none⟩ (.int .i64 ((rd_T24 l0_5 x3_2).f1))).setCell ⟨gb136, 2, none⟩ (.slice A135_2 ((rd_T24 l0_5 x3_2).f2).length c135_2)).setCell ⟨gb136, 3, none⟩ (.string ((rd_T24 l0_5 x3_2).f3)))) := ⟨aH⟩
           (try clear BK129)
           (try clear BK136)
           (try clear HB)
           generalize ((((w32.setCell ⟨gb136, 0, none⟩ (.int .i64 ((rd_T24 l0_5 x3_2).f0))).setCell ⟨gb136, 1, none⟩ (.int .i64 ((rd_T24 l0_5 x3_2).f1))).setCell ⟨gb136, 2, none⟩ (.slice A135_2 ((rd_T24 l0_5 x3_2).f2).length c135_2)).setCell ⟨gb136, 3, none⟩ (.string ((rd_T24 l0_5 x3_2).f3))) = w38 at n0_ n1_ n2_ ⊢
           have BK129 := n0_
           have BK136 := n1_
           have HB := n2_
           clear n0_ n1_ n2_
           have n0_ := Aside0.mk (blk_drew BK129.out)
           have n1_ := Aside0.mk (blk_drew BK136.out)
           have n2_ := Aside0.mk (below_drew1 HB.out)
           clear BK129
           clear BK136
           clear HB
           have BK129 := n0_
           have BK136 := n1_
           have HB := n2_
           clear n0_ n1_ n2_
           refine start_ (n := 41) (S := fun w' => w'.cell? ⟨gb136, 0, none⟩ = some (.int .i64 ((rd_T24 l0_5 x3_2).f0)) ∧ w'.cell? ⟨gb136, 1, none⟩ = some (.int .i64 ((rd_T24 l0_5 x3_2).f1)) ∧ w'.cell? ⟨gb136, 2, none⟩ = some (.slice A135_2 ((rd_T24 l0_5 x3_2).f2).length c135_2) ∧ w'.cell? ⟨gb136, 3, none⟩ = some (.string ((rd_T24 l0_5 x3_2).f3)) ∧ w'.cell? ⟨gb129, 0, none⟩ = some (.int .i64 a0_0) ∧ w'.cell? ⟨gb129, 1, none⟩ = some (.string a0_1) ∧ w'.cell? ⟨gb129, 2, none⟩ = some (.int .i64 a0_2) ∧ w'.cell? ⟨gb129, 3, none⟩ = some (.int .i64 a0_3) ∧ w'.cell? ⟨gb129, 4, none⟩ = some (.int .i64 a0_4) ∧ w'.cell? ⟨gb129, 5, none⟩ = some (.slice (some ad135) l0_5.length c0_5) ∧ w'.cell? ⟨gb129, 6, none⟩ = some (.slice A0_6 l0_6.length c0_6)) (ds := []) bb3_0 (by kernel_rfl) rfl rfl ⟨cR BK136.out 0, cR BK136.out 1, cR BK136.out 2, cR BK136.out 3, cR BK129.out 0, cR BK129.out 1, cR BK129.out 2, cR BK129.out 3, cR BK129.out 4, cR BK129.out 5, cR BK129.out 6⟩ (fun hHeld => ?_); refine with_tabW spec_BoxOk.tab7 spec_BoxOk.bits7 (fun HT_ HW_ => ?_)
           generalize w38.drew = w39 at BK129 BK136 HB hHeld ⊢
           refine tP 0 51 bb3_1 ?_
           refine one_ (i := 1) (N := some 52) bb3_2 rfl rfl (one_of HT_.out (by kernel_rfl)) (by decide) (fun K hK => ?_)
           refine goes_ Try.func45 (by kernel_rfl) rfl #[.agg #[.int .i64 ((rd_T24 l0_5 x3_2).f0), .int .i64 ((rd_T24 l0_5 x3_2).f1), .slice A135_2 ((rd_T24 l0_5 x3_2).f2).length c135_2, .string ((rd_T24 l0_5 x3_2).f3)]] (by rfl) rfl rfl (by (try simp only [List.map_toArray, List.map_cons, List.map_nil]); first | done | rfl | (simp only [List.length_drop, List.length_take]; rfl)) ?_
           with_reducible refine (spec_MailOk.calls k2 ((rd_T24 l0_5 x3_2).f0) ((rd_T24 l0_5 x3_2).f1) _ _ ((rd_T24 l0_5 x3_2).f2) ((rd_T24 l0_5 x3_2).f3) true _ ?side1 ?side2 A35.out).mono ?_
           (case side1 => repeat (first | exact (Kd.C_below HR135_2.out HB.out) | (with_reducible refine Kd.C_alloc ?_ _) | (with_reducible refine Kd.C_drewN ?_ _) | (with_reducible refine Kd.C_drew ?_)))
           (case side2 => exact HC135_2.out)
           rintro e w40 ⟨rfl, hb⟩
           refine ⟨_, rfl, ?_⟩
           have n0_ := Aside0.mk (kB BK129.out hb)
           have n1_ := Aside0.mk (kB BK136.out hb)
           have n2_ := Aside0.mk (below_step aH hb)
           clear BK129
           clear BK136
           clear HB
           have BK129 := n0_
           have BK136 := n1_
           have HB := n2_
           clear n0_ n1_ n2_
           (try clear hb)
           (try clear hb2)
           (try clear hk)
           (try clear hi)
           refine hK.out _ _ ⟨cR BK136.out 0, cR BK136.out 1, cR BK136.out 2, cR BK136.out 3, cR BK129.out 0, cR BK129.out 1, cR BK129.out 2, cR BK129.out 3, cR BK129.out 4, cR BK129.out 5, cR BK129.out 6⟩ (fun hHeld => ?_)
           clear hK K
           refine nP 52 ?_
           refine pP 2 53 bb3_3 ?_
           refine pP 3 54 bb3_4 ?_
           refine pP 4 55 bb3_5 ?_
           refine pP 6 57 bb3_6 ?_
           refine tP 5 56 bb3_7 ?_
           refine tP 7 58 bb3_8 ?_
           refine pP 8 59 bb3_9 ?_
           refine pP 9 60 bb3_10 ?_
           refine pP 10 61 bb3_11 ?_
           refine pU 11 62 bb3_12 ?_
           refine pU 12 63 bb3_13 ?_
           refine pU 13 64 bb3_14 ?_
           refine pU 14 65 bb3_15 ?_
           refine pU 15 66 bb3_16 ?_
           refine pU 16 67 bb3_17 ?_
           refine pU 17 68 bb3_18 ?_
           refine pU 18 69 bb3_19 ?_
           refine pU 19 70 bb3_20 ?_
           refine pU 20 71 bb3_21 ?_
           refine pU 21 72 bb3_22 ?_
           refine pU 22 73 bb3_23 ?_
           refine pU 23 74 bb3_24 ?_
           refine pU 24 75 bb3_25 ?_
           refine pP 25 76 bb3_26 ?_
           refine pP 26 77 bb3_27 ?_
           refine pU 27 78 bb3_28 ?_
           refine pU 28 79 bb3_29 ?_
           refine pU 29 80 bb3_30 ?_
           refine pU 30 81 bb3_31 ?_
           refine pU 31 82 bb3_32 ?_
           refine pP 32 83 bb3_33 ?_
           refine pP 33 84 bb3_34 ?_
           refine pU 34 85 bb3_35 ?_
           refine pU 35 86 bb3_36 ?_
           refine pU 36 87 bb3_37 ?_
           refine pU 37 88 bb3_38 ?_
           refine pU 38 89 bb3_39 ?_
           refine pU 39 90 bb3_40 ?_
           refine pP 40 91 bb3_41 ?_
           refine done_ (done_of HT_.out (by kernel_rfl)) ?_
           try go_wp2
           go_meet
           case rel => exact ⟨_, (true), aF, H', ⟨by have := HJ1.out; have := HK2.out; first | omega | exact Nat.le_refl _⟩, ⟨aB BK129.out⟩, ⟨aB BK136.out⟩, ⟨aH⟩⟩
          ·rw [if_neg c37] at H
           have c37b0 : decide (a0_4 ≤ ((rd_T24 l0_5 x3_2).f1)) = false := decide_eq_false c37
           clear c37
           (first | rw [c37b0] | (simp only [i64_w, i32_w]; rw [c37b0]) | skip)
           by_cases c41 : x3_2 > 0
           ·rw [if_pos c41] at H
            have c41b0 : decide (0 < x3_2) = true := decide_eq_true c41
            clear c41
            obtain ⟨ji42, hji42⟩ : ∃ j_ : Int, (wrap64 (x3_2 - 1)) = j_ := ⟨_, rfl⟩
            replace H : (if 0 ≤ (ji42) then (if (ji42) < (l0_5.length : Int) then (if ((rd_T24 l0_5 (ji42)).f1) ≥ ((rd_T24 l0_5 x3_2).f1) then (spec_BoxOk.j2 k2 x3_2 true a0_0 a0_1 a0_2 a0_3 a0_4 l0_5 l0_6) else ((spec_l06In.f k2 l0_6 ((rd_T24 l0_5 x3_2).f0)).bind fun t139 => (if t139 = true then (spec_BoxOk.j2 k2 x3_2 true a0_0 a0_1 a0_2 a0_3 a0_4 l0_5 l0_6) else ((spec_MailAt.f k2 a0_0 a0_1 a0_2 a0_3 a0_4 l0_5 l0_6 ((rd_T24 l0_5 x3_2).f0)).bind fun t140 => (spec_BoxOk.j2 k2 x3_2 (t140 != x3_2) a0_0 a0_1 a0_2 a0_3 a0_4 l0_5 l0_6))))) else (none)) else (none)) = some r := by first | (rw [hji42] at H; exact H) | (simp only [hji42] at H ⊢; exact H)
            (try rw [hji42] at A35)
            have hji42w : (IntKind.i64.wrap (x3_2 - 1)) = ji42 := (i64_w _).trans hji42
            by_cases c43 : 0 ≤ (ji42)
            ·rw [if_pos c43] at H
             have c43b0 : decide (0 ≤ (ji42)) = true := decide_eq_true c43
             clear c43
             by_cases c44 : (ji42) < (l0_5.length : Int)
             ·rw [if_pos c44] at H
              have c44b0 : decide ((ji42) < (l0_5.length : Int)) = true := decide_eq_true c44
              clear c44
              by_cases c45 : ((rd_T24 l0_5 (ji42)).f1) ≥ ((rd_T24 l0_5 x3_2).f1)
              ·rw [if_pos c45] at H
               have c45b0 : decide (((rd_T24 l0_5 x3_2).f1) ≤ ((rd_T24 l0_5 (ji42)).f1)) = true := decide_eq_true c45
               clear c45
               have H' := Aside0.mk H
               clear H
               try go_wp2
               have n0_ : Aside0 (((((w32.setCell ⟨gb136, 0, none⟩ (.int .i64 ((rd_T24 l0_5 x3_2).f0))).setCell ⟨gb136, 1, none⟩ (.int .i64 ((rd_T24 l0_5 x3_2).f1))).setCell ⟨gb136, 2, none⟩ (.slice A135_2 ((rd_T24 l0_5 x3_2).f2).length c135_2)).setCell ⟨gb136, 3, none⟩ (.string ((rd_T24 l0_5 x3_2).f3))).heap[gb129]? = some (.cells #[.int .i64 a0_0, .string a0_1, .int .i64 a0_2, .int .i64 a0_3, .int .i64 a0_4, .slice (some ad135) l0_5.length c0_5, .slice A0_6 l0_6.length c0_6] 59 (0, 0))) := ⟨by (with_reducible repeat (first | refine blk_drewN ?_ _ | refine blk_drew ?_ | refine blk_alloc ?_ _)); refine blk_far ?_ NB129_136.out _; (with_reducible repeat (first | refine blk_drewN ?_ _ | refine blk_drew ?_ | refine blk_alloc ?_ _)); refine blk_far ?_ NB129_136.out _; (with_reducible repeat (first | refine blk_drewN ?_ _ | refine blk_drew ?_ | refine blk_alloc ?_ _)); refine blk_far ?_ NB129_136.out _; (with_reducible repeat (first | refine blk_drewN ?_ _ | refine blk_drew ?_ | refine blk_alloc ?_ _)); refine blk_far ?_ NB129_136.out _; (with_reducible repeat (first | refine blk_drewN ?_ _ | refine blk_drew ?_ | refine blk_alloc ?_ _)); exact BK129.out⟩
               have n1_ : Aside0 (((((w32.setCell ⟨gb136, 0, none⟩ (.int .i64 ((rd_T24 l0_5 x3_2).f0))).setCell ⟨gb136, 1, none⟩ (.int .i64 ((rd_T24 l0_5 x3_2).f1))).setCell ⟨gb136, 2, none⟩ (.slice A135_2 ((rd_T24 l0_5 x3_2).f2).length c135_2)).setCell ⟨gb136, 3, none⟩ (.string ((rd_T24 l0_5 x3_2).f3))).heap[gb136]? = some (.cells #[.int .i64 ((rd_T24 l0_5 x3_2).f0), .int .i64 ((rd_T24 l0_5 x3_2).f1), .slice A135_2 ((rd_T24 l0_5 x3_2).f2).length c135_2, .string ((rd_T24 l0_5 x3_2).f3)] 24 (0, 0))) := ⟨by (with_reducible repeat (first | refine blk_drewN ?_ _ | refine blk_drew ?_ | refine blk_alloc ?_ _)); refine blk_put (cs := #[.int .i64 ((rd_T24 l0_5 x3_2).f0), .int .i64 ((rd_T24 l0_5 x3_2).f1), .slice A135_2 ((rd_T24 l0_5 x3_2).f2).length c135_2, .string (⟨#[]⟩ : ByteArray)]) ?_ 3 _ rfl; (with_reducible repeat (first | refine blk_drewN ?_ _ | refine blk_drew ?_ | refine blk_alloc ?_ _)); refine blk_put (cs := #[.int .i64 ((rd_T24 l0_5 x3_2).f0), .int .i64 ((rd_T24 l0_5 x3_2).f1), .slice none 0 0, .string (⟨#[]⟩ : ByteArray)]) ?_ 2 _ rfl; (with_reducible repeat (first | refine blk_drewN ?_ _ | refine blk_drew ?_ | refine blk_alloc ?_ _)); refine blk_put (cs := #[.int .i64 ((rd_T24 l0_5 x3_2).f0), .int .i64 0, .slice none 0 0, .string (⟨#[]⟩ : ByteArray)]) ?_ 1 _ rfl; (with_reducible repeat (first | refine blk_drewN ?_ _ | refine blk_drew ?_ | refine blk_alloc ?_ _)); refine blk_put (cs := #[.int .i64 0, .int .i64 0, .slice none 0 0, .string (⟨#[]⟩ : ByteArray)]) ?_ 0 _ rfl; (with_reducible repeat (first | refine blk_drewN ?_ _ | refine blk_drew ?_ | refine blk_alloc ?_ _)); exact BK136.out⟩
               have n2_ : Aside0 (Below w.heap.size w ((((w32.setCell ⟨gb136, 0, none⟩ (.int .i64 ((rd_T24 l0_5 x3_2).f0))).setCell ⟨gb136, 1, none⟩ (.int .i64 ((rd_T24 l0_5 x3_2).f1))).setCell ⟨gb136, 2, none⟩ (.slice A135_2 ((rd_T24 l0_5 x3_2).f2).length c135_2)).setCell ⟨gb136, 3, none⟩ (.string ((rd_T24 l0_5 x3_2).f3)))) := ⟨aH⟩
               (try clear BK129)
               (try clear BK136)
               (try clear HB)
               generalize ((((w32.setCell ⟨gb136, 0, none⟩ (.int .i64 ((rd_T24 l0_5 x3_2).f0))).setCell ⟨gb136, 1, none⟩ (.int .i64 ((rd_T24 l0_5 x3_2).f1))).setCell ⟨gb136, 2, none⟩ (.slice A135_2 ((rd_T24 l0_5 x3_2).f2).length c135_2)).setCell ⟨gb136, 3, none⟩ (.string ((rd_T24 l0_5 x3_2).f3))) = w46 at n0_ n1_ n2_ ⊢
               have BK129 := n0_
               have BK136 := n1_
               have HB := n2_
               clear n0_ n1_ n2_
               have n0_ := Aside0.mk (blk_drew BK129.out)
               have n1_ := Aside0.mk (blk_drew BK136.out)
               have n2_ := Aside0.mk (below_drew1 HB.out)
               clear BK129
               clear BK136
               clear HB
               have BK129 := n0_
               have BK136 := n1_
               have HB := n2_
               clear n0_ n1_ n2_
               have p138 : 0 ≤ ((ji42) : Int) := of_decide_eq_true (by first | (with_reducible assumption) | assumption)
               have q138 : (ji42) < (l0_5.length : Int) := of_decide_eq_true (by first | (with_reducible assumption) | assumption)
               obtain ⟨ad138, A138_2, c138_2, e138, hx138_0, hx138_1, hx138_2, hx138_3, hl138_2, hi138_2⟩ := at_T24 HR0_5.out (ji42) p138 q138
               have hw138_3 := hx138_3
               have hw138_2 := hx138_2
               have hw138_1 := hx138_1
               have hw138_0 := hx138_0
               obtain rfl : ad135 = ad138 := (by injection e138)
               replace hx138_0 := pw_cell_below HB.out hx138_0
               replace hx138_1 := pw_cell_below HB.out hx138_1
               replace hx138_2 := pw_cell_below HB.out hx138_2
               replace hx138_3 := pw_cell_below HB.out hx138_3
               have HR138_2 := Aside0.mk hi138_2
               have HC138_2 := Aside0.mk hl138_2
               clear hi138_2 hl138_2
               replace p138 := eq_true p138
               replace q138 := eq_true q138
               refine start_ (n := 41) (S := fun w' => w'.cell? ⟨gb136, 0, none⟩ = some (.int .i64 ((rd_T24 l0_5 x3_2).f0)) ∧ w'.cell? ⟨gb136, 1, none⟩ = some (.int .i64 ((rd_T24 l0_5 x3_2).f1)) ∧ w'.cell? ⟨gb136, 2, none⟩ = some (.slice A135_2 ((rd_T24 l0_5 x3_2).f2).length c135_2) ∧ w'.cell? ⟨gb136, 3, none⟩ = some (.string ((rd_T24 l0_5 x3_2).f3)) ∧ w'.cell? ⟨gb129, 0, none⟩ = some (.int .i64 a0_0) ∧ w'.cell? ⟨gb129, 1, none⟩ = some (.string a0_1) ∧ w'.cell? ⟨gb129, 2, none⟩ = some (.int .i64 a0_2) ∧ w'.cell? ⟨gb129, 3, none⟩ = some (.int .i64 a0_3) ∧ w'.cell? ⟨gb129, 4, none⟩ = some (.int .i64 a0_4) ∧ w'.cell? ⟨gb129, 5, none⟩ = some (.slice (some ad135) l0_5.length c0_5) ∧ w'.cell? ⟨gb129, 6, none⟩ = some (.slice A0_6 l0_6.length c0_6) ∧ w'.cell? (ad135.add (((ji42)).toNat * 4)) = some (.int .i64 ((rd_T24 l0_5 (ji42)).f0)) ∧ w'.cell? ⟨(ad135.add (((ji42)).toNat * 4)).block, (ad135.add (((ji42)).toNat * 4)).off + 1, none⟩ = some (.int .i64 ((rd_T24 l0_5 (ji42)).f1)) ∧ w'.cell? ⟨(ad135.add (((ji42)).toNat * 4)).block, (ad135.add (((ji42)).toNat * 4)).off + 2, none⟩ = some (.slice A138_2 ((rd_T24 l0_5 (ji42)).f2).length c138_2) ∧ w'.cell? ⟨(ad135.add (((ji42)).toNat * 4)).block, (ad135.add (((ji42)).toNat * 4)).off + 3, none⟩ = some (.string ((rd_T24 l0_5 (ji42)).f3))) (ds := []) bb3_0 (by kernel_rfl) rfl rfl ⟨cR BK136.out 0, cR BK136.out 1, cR BK136.out 2, cR BK136.out 3, cR BK129.out 0, cR BK129.out 1, cR BK129.out 2, cR BK129.out 3, cR BK129.out 4, cR BK129.out 5, cR BK129.out 6, (pw_cell_below HB.out hw138_0), (pw_cell_below HB.out hw138_1), (pw_cell_below HB.out hw138_2), (pw_cell_below HB.out hw138_3)⟩ (fun hHeld => ?_); refine with_tabW spec_BoxOk.tab7 spec_BoxOk.bits7 (fun HT_ HW_ => ?_)
               generalize w46.drew = w47 at BK129 BK136 HB HR138_2 hx138_0 hx138_1 hx138_2 hx138_3 hHeld ⊢
               refine tP 0 51 bb3_1 ?_
               refine one_ (i := 1) (N := some 52) bb3_2 rfl rfl (one_of HT_.out (by kernel_rfl)) (by decide) (fun K hK => ?_)
               refine goes_ Try.func45 (by kernel_rfl) rfl #[.agg #[.int .i64 ((rd_T24 l0_5 x3_2).f0), .int .i64 ((rd_T24 l0_5 x3_2).f1), .slice A135_2 ((rd_T24 l0_5 x3_2).f2).length c135_2, .string ((rd_T24 l0_5 x3_2).f3)]] (by rfl) rfl rfl (by (try simp only [List.map_toArray, List.map_cons, List.map_nil]); first | done | rfl | (simp only [List.length_drop, List.length_take]; rfl)) ?_
               with_reducible refine (spec_MailOk.calls k2 ((rd_T24 l0_5 x3_2).f0) ((rd_T24 l0_5 x3_2).f1) _ _ ((rd_T24 l0_5 x3_2).f2) ((rd_T24 l0_5 x3_2).f3) true _ ?side1 ?side2 A35.out).mono ?_
               (case side1 => repeat (first | exact (Kd.C_below HR135_2.out HB.out) | (with_reducible refine Kd.C_alloc ?_ _) | (with_reducible refine Kd.C_drewN ?_ _) | (with_reducible refine Kd.C_drew ?_)))
               (case side2 => exact HC135_2.out)
               rintro e w48 ⟨rfl, hb⟩
               refine ⟨_, rfl, ?_⟩
               have n0_ := Aside0.mk (kB BK129.out hb)
               have n1_ := Aside0.mk (kB BK136.out hb)
               have n2_ := Aside0.mk (below_step aH hb)
               clear BK129
               clear BK136
               clear HB
               have BK129 := n0_
               have BK136 := n1_
               have HB := n2_
               clear n0_ n1_ n2_
               (try clear hb)
               (try clear hb2)
               (try clear hk)
               (try clear hi)
               refine hK.out _ _ ⟨cR BK136.out 0, cR BK136.out 1, cR BK136.out 2, cR BK136.out 3, cR BK129.out 0, cR BK129.out 1, cR BK129.out 2, cR BK129.out 3, cR BK129.out 4, cR BK129.out 5, cR BK129.out 6, (pw_cell_below HB.out hw138_0), (pw_cell_below HB.out hw138_1), (pw_cell_below HB.out hw138_2), (pw_cell_below HB.out hw138_3)⟩ (fun hHeld => ?_)
               clear hK K
               refine nP 52 ?_
               refine pP 2 53 bb3_3 ?_
               refine pP 3 54 bb3_4 ?_
               refine pP 4 55 bb3_5 ?_
               refine pP 6 57 bb3_6 ?_
               refine tP 5 56 bb3_7 ?_
               refine tP 7 58 bb3_8 ?_
               refine pP 8 59 bb3_9 ?_
               refine pP 9 60 bb3_10 ?_
               refine pP 10 61 bb3_11 ?_
               refine pP 11 62 bb3_12 ?_
               refine pP 12 63 bb3_13 ?_
               refine pP 13 64 bb3_14 ?_
               refine pP 14 65 bb3_15 ?_
               refine pP 16 67 bb3_42 ?_
               refine pP 17 68 bb3_43 ?_
               refine pP 21 72 bb3_44 ?_
               refine tP 15 66 bb3_45 ?_
               refine pP 18 69 bb3_46 ?_
               refine pP 19 70 bb3_47 ?_
               refine tP 20 71 bb3_22 ?_
               refine tP 22 73 bb3_23 ?_
               refine pP 23 74 bb3_24 ?_
               refine pP 24 75 bb3_25 ?_
               refine pP 25 76 bb3_26 ?_
               refine pP 26 77 bb3_27 ?_
               refine pU 27 78 bb3_28 ?_
               refine pU 28 79 bb3_29 ?_
               refine pU 29 80 bb3_30 ?_
               refine pU 30 81 bb3_31 ?_
               refine pU 31 82 bb3_32 ?_
               refine pP 32 83 bb3_33 ?_
               refine pP 33 84 bb3_34 ?_
               refine pU 34 85 bb3_35 ?_
               refine pU 35 86 bb3_36 ?_
               refine pU 36 87 bb3_37 ?_
               refine pU 37 88 bb3_38 ?_
               refine pU 38 89 bb3_39 ?_
               refine pU 39 90 bb3_40 ?_
               refine pP 40 91 bb3_41 ?_
               refine done_ (done_of HT_.out (by kernel_rfl)) ?_
               try go_wp2
               go_meet
               case rel => exact ⟨_, (true), aF, H', ⟨by have := HJ1.out; have := HK2.out; first | omega | exact Nat.le_refl _⟩, ⟨aB BK129.out⟩, ⟨aB BK136.out⟩, ⟨aH⟩⟩
              ·rw [if_neg c45] at H
               have c45b0 : decide (((rd_T24 l0_5 x3_2).f1) ≤ ((rd_T24 l0_5 (ji42)).f1)) = false := decide_eq_false c45
               clear c45
               replace H := Option.bind_eq_some_iff.mp H
               obtain ⟨t139, A490, H⟩ := H
               try dsimp only at H
               have A49 := Aside0.mk A490
               clear A490
               by_cases c50 : t139 = true
               ·subst c50
                have H1 := wT H
                clear H
                have H := H1
                clear H1
                have H' := Aside0.mk H
                clear H
                try go_wp2
                have n0_ : Aside0 (((((w32.setCell ⟨gb136, 0, none⟩ (.int .i64 ((rd_T24 l0_5 x3_2).f0))).setCell ⟨gb136, 1, none⟩ (.int .i64 ((rd_T24 l0_5 x3_2).f1))).setCell ⟨gb136, 2, none⟩ (.slice A135_2 ((rd_T24 l0_5 x3_2).f2).length c135_2)).setCell ⟨gb136, 3, none⟩ (.string ((rd_T24 l0_5 x3_2).f3))).heap[gb129]? = some (.cells #[.int .i64 a0_0, .string a0_1, .int .i64 a0_2, .int .i64 a0_3, .int .i64 a0_4, .slice (some ad135) l0_5.length c0_5, .slice A0_6 l0_6.length c0_6] 59 (0, 0))) := ⟨by (with_reducible repeat (first | refine blk_drewN ?_ _ | refine blk_drew ?_ | refine blk_alloc ?_ _)); refine blk_far ?_ NB129_136.out _; (with_reducible repeat (first | refine blk_drewN ?_ _ | refine blk_drew ?_ | refine blk_alloc ?_ _)); refine blk_far ?_ NB129_136.out _; (with_reducible repeat (first | refine blk_drewN ?_ _ | refine blk_drew ?_ | refine blk_alloc ?_ _)); refine blk_far ?_ NB129_136.out _; (with_reducible repeat (first | refine blk_drewN ?_ _ | refine blk_drew ?_ | refine blk_alloc ?_ _)); refine blk_far ?_ NB129_136.out _; (with_reducible repeat (first | refine blk_drewN ?_ _ | refine blk_drew ?_ | refine blk_alloc ?_ _)); exact BK129.out⟩
                have n1_ : Aside0 (((((w32.setCell ⟨gb136, 0, none⟩ (.int .i64 ((rd_T24 l0_5 x3_2).f0))).setCell ⟨gb136, 1, none⟩ (.int .i64 ((rd_T24 l0_5 x3_2).f1))).setCell ⟨gb136, 2, none⟩ (.slice A135_2 ((rd_T24 l0_5 x3_2).f2).length c135_2)).setCell ⟨gb136, 3, none⟩ (.string ((rd_T24 l0_5 x3_2).f3))).heap[gb136]? = some (.cells #[.int .i64 ((rd_T24 l0_5 x3_2).f0), .int .i64 ((rd_T24 l0_5 x3_2).f1), .slice A135_2 ((rd_T24 l0_5 x3_2).f2).length c135_2, .string ((rd_T24 l0_5 x3_2).f3)] 24 (0, 0))) := ⟨by (with_reducible repeat (first | refine blk_drewN ?_ _ | refine blk_drew ?_ | refine blk_alloc ?_ _)); refine blk_put (cs := #[.int .i64 ((rd_T24 l0_5 x3_2).f0), .int .i64 ((rd_T24 l0_5 x3_2).f1), .slice A135_2 ((rd_T24 l0_5 x3_2).f2).length c135_2, .string (⟨#[]⟩ : ByteArray)]) ?_ 3 _ rfl; (with_reducible repeat (first | refine blk_drewN ?_ _ | refine blk_drew ?_ | refine blk_alloc ?_ _)); refine blk_put (cs := #[.int .i64 ((rd_T24 l0_5 x3_2).f0), .int .i64 ((rd_T24 l0_5 x3_2).f1), .slice none 0 0, .string (⟨#[]⟩ : ByteArray)]) ?_ 2 _ rfl; (with_reducible repeat (first | refine blk_drewN ?_ _ | refine blk_drew ?_ | refine blk_alloc ?_ _)); refine blk_put (cs := #[.int .i64 ((rd_T24 l0_5 x3_2).f0), .int .i64 0, .slice none 0 0, .string (⟨#[]⟩ : ByteArray)]) ?_ 1 _ rfl; (with_reducible repeat (first | refine blk_drewN ?_ _ | refine blk_drew ?_ | refine blk_alloc ?_ _)); refine blk_put (cs := #[.int .i64 0, .int .i64 0, .slice none 0 0, .string (⟨#[]⟩ : ByteArray)]) ?_ 0 _ rfl; (with_reducible repeat (first | refine blk_drewN ?_ _ | refine blk_drew ?_ | refine blk_alloc ?_ _)); exact BK136.out⟩
                have n2_ : Aside0 (Below w.heap.size w ((((w32.setCell ⟨gb136, 0, none⟩ (.int .i64 ((rd_T24 l0_5 x3_2).f0))).setCell ⟨gb136, 1, none⟩ (.int .i64 ((rd_T24 l0_5 x3_2).f1))).setCell ⟨gb136, 2, none⟩ (.slice A135_2 ((rd_T24 l0_5 x3_2).f2).length c135_2)).setCell ⟨gb136, 3, none⟩ (.string ((rd_T24 l0_5 x3_2).f3)))) := ⟨aH⟩
                (try clear BK129)
                (try clear BK136)
                (try clear HB)
                generalize ((((w32.setCell ⟨gb136, 0, none⟩ (.int .i64 ((rd_T24 l0_5 x3_2).f0))).setCell ⟨gb136, 1, none⟩ (.int .i64 ((rd_T24 l0_5 x3_2).f1))).setCell ⟨gb136, 2, none⟩ (.slice A135_2 ((rd_T24 l0_5 x3_2).f2).length c135_2)).setCell ⟨gb136, 3, none⟩ (.string ((rd_T24 l0_5 x3_2).f3))) = w51 at n0_ n1_ n2_ ⊢
                have BK129 := n0_
                have BK136 := n1_
                have HB := n2_
                clear n0_ n1_ n2_
                have n0_ := Aside0.mk (blk_drew BK129.out)
                have n1_ := Aside0.mk (blk_drew BK136.out)
                have n2_ := Aside0.mk (below_drew1 HB.out)
                clear BK129
                clear BK136
                clear HB
                have BK129 := n0_
                have BK136 := n1_
                have HB := n2_
                clear n0_ n1_ n2_
                have p138 : 0 ≤ ((ji42) : Int) := of_decide_eq_true (by first | (with_reducible assumption) | assumption)
                have q138 : (ji42) < (l0_5.length : Int) := of_decide_eq_true (by first | (with_reducible assumption) | assumption)
                obtain ⟨ad138, A138_2, c138_2, e138, hx138_0, hx138_1, hx138_2, hx138_3, hl138_2, hi138_2⟩ := at_T24 HR0_5.out (ji42) p138 q138
                have hw138_3 := hx138_3
                have hw138_2 := hx138_2
                have hw138_1 := hx138_1
                have hw138_0 := hx138_0
                obtain rfl : ad135 = ad138 := (by injection e138)
                replace hx138_0 := pw_cell_below HB.out hx138_0
                replace hx138_1 := pw_cell_below HB.out hx138_1
                replace hx138_2 := pw_cell_below HB.out hx138_2
                replace hx138_3 := pw_cell_below HB.out hx138_3
                have HR138_2 := Aside0.mk hi138_2
                have HC138_2 := Aside0.mk hl138_2
                clear hi138_2 hl138_2
                replace p138 := eq_true p138
                replace q138 := eq_true q138
                refine start_ (n := 41) (S := fun w' => w'.cell? ⟨gb136, 0, none⟩ = some (.int .i64 ((rd_T24 l0_5 x3_2).f0)) ∧ w'.cell? ⟨gb136, 1, none⟩ = some (.int .i64 ((rd_T24 l0_5 x3_2).f1)) ∧ w'.cell? ⟨gb136, 2, none⟩ = some (.slice A135_2 ((rd_T24 l0_5 x3_2).f2).length c135_2) ∧ w'.cell? ⟨gb136, 3, none⟩ = some (.string ((rd_T24 l0_5 x3_2).f3)) ∧ w'.cell? ⟨gb129, 0, none⟩ = some (.int .i64 a0_0) ∧ w'.cell? ⟨gb129, 1, none⟩ = some (.string a0_1) ∧ w'.cell? ⟨gb129, 2, none⟩ = some (.int .i64 a0_2) ∧ w'.cell? ⟨gb129, 3, none⟩ = some (.int .i64 a0_3) ∧ w'.cell? ⟨gb129, 4, none⟩ = some (.int .i64 a0_4) ∧ w'.cell? ⟨gb129, 5, none⟩ = some (.slice (some ad135) l0_5.length c0_5) ∧ w'.cell? ⟨gb129, 6, none⟩ = some (.slice A0_6 l0_6.length c0_6) ∧ w'.cell? (ad135.add (((ji42)).toNat * 4)) = some (.int .i64 ((rd_T24 l0_5 (ji42)).f0)) ∧ w'.cell? ⟨(ad135.add (((ji42)).toNat * 4)).block, (ad135.add (((ji42)).toNat * 4)).off + 1, none⟩ = some (.int .i64 ((rd_T24 l0_5 (ji42)).f1)) ∧ w'.cell? ⟨(ad135.add (((ji42)).toNat * 4)).block, (ad135.add (((ji42)).toNat * 4)).off + 2, none⟩ = some (.slice A138_2 ((rd_T24 l0_5 (ji42)).f2).length c138_2) ∧ w'.cell? ⟨(ad135.add (((ji42)).toNat * 4)).block, (ad135.add (((ji42)).toNat * 4)).off + 3, none⟩ = some (.string ((rd_T24 l0_5 (ji42)).f3))) (ds := []) bb3_0 (by kernel_rfl) rfl rfl ⟨cR BK136.out 0, cR BK136.out 1, cR BK136.out 2, cR BK136.out 3, cR BK129.out 0, cR BK129.out 1, cR BK129.out 2, cR BK129.out 3, cR BK129.out 4, cR BK129.out 5, cR BK129.out 6, (pw_cell_below HB.out hw138_0), (pw_cell_below HB.out hw138_1), (pw_cell_below HB.out hw138_2), (pw_cell_below HB.out hw138_3)⟩ (fun hHeld => ?_); refine with_tabW spec_BoxOk.tab7 spec_BoxOk.bits7 (fun HT_ HW_ => ?_)
                generalize w51.drew = w52 at BK129 BK136 HB HR138_2 hx138_0 hx138_1 hx138_2 hx138_3 hHeld ⊢
                refine tP 0 51 bb3_1 ?_
                refine one_ (i := 1) (N := some 52) bb3_2 rfl rfl (one_of HT_.out (by kernel_rfl)) (by decide) (fun K hK => ?_)
                refine goes_ Try.func45 (by kernel_rfl) rfl #[.agg #[.int .i64 ((rd_T24 l0_5 x3_2).f0), .int .i64 ((rd_T24 l0_5 x3_2).f1), .slice A135_2 ((rd_T24 l0_5 x3_2).f2).length c135_2, .string ((rd_T24 l0_5 x3_2).f3)]] (by rfl) rfl rfl (by (try simp only [List.map_toArray, List.map_cons, List.map_nil]); first | done | rfl | (simp only [List.length_drop, List.length_take]; rfl)) ?_
                with_reducible refine (spec_MailOk.calls k2 ((rd_T24 l0_5 x3_2).f0) ((rd_T24 l0_5 x3_2).f1) _ _ ((rd_T24 l0_5 x3_2).f2) ((rd_T24 l0_5 x3_2).f3) true _ ?side1 ?side2 A35.out).mono ?_
                (case side1 => repeat (first | exact (Kd.C_below HR135_2.out HB.out) | (with_reducible refine Kd.C_alloc ?_ _) | (with_reducible refine Kd.C_drewN ?_ _) | (with_reducible refine Kd.C_drew ?_)))
                (case side2 => exact HC135_2.out)
                rintro e w53 ⟨rfl, hb⟩
                refine ⟨_, rfl, ?_⟩
                have n0_ := Aside0.mk (kB BK129.out hb)
                have n1_ := Aside0.mk (kB BK136.out hb)
                have n2_ := Aside0.mk (below_step aH hb)
                clear BK129
                clear BK136
                clear HB
                have BK129 := n0_
                have BK136 := n1_
                have HB := n2_
                clear n0_ n1_ n2_
                (try clear hb)
                (try clear hb2)
                (try clear hk)
                (try clear hi)
                refine hK.out _ _ ⟨cR BK136.out 0, cR BK136.out 1, cR BK136.out 2, cR BK136.out 3, cR BK129.out 0, cR BK129.out 1, cR BK129.out 2, cR BK129.out 3, cR BK129.out 4, cR BK129.out 5, cR BK129.out 6, (pw_cell_below HB.out hw138_0), (pw_cell_below HB.out hw138_1), (pw_cell_below HB.out hw138_2), (pw_cell_below HB.out hw138_3)⟩ (fun hHeld => ?_)
                clear hK K
                refine nP 52 ?_
                refine pP 2 53 bb3_3 ?_
                refine pP 3 54 bb3_4 ?_
                refine pP 4 55 bb3_5 ?_
                refine pP 6 57 bb3_6 ?_
                refine tP 5 56 bb3_7 ?_
                refine tP 7 58 bb3_8 ?_
                refine pP 8 59 bb3_9 ?_
                refine pP 9 60 bb3_10 ?_
                refine pP 10 61 bb3_11 ?_
                refine pP 11 62 bb3_12 ?_
                refine pP 12 63 bb3_13 ?_
                refine pP 13 64 bb3_14 ?_
                refine pP 14 65 bb3_15 ?_
                refine pP 16 67 bb3_42 ?_
                refine pP 17 68 bb3_43 ?_
                refine pP 21 72 bb3_44 ?_
                refine tP 15 66 bb3_45 ?_
                refine pP 18 69 bb3_46 ?_
                refine pP 19 70 bb3_47 ?_
                refine tP 20 71 bb3_22 ?_
                refine tP 22 73 bb3_23 ?_
                refine pP 23 74 bb3_24 ?_
                refine pP 24 75 bb3_25 ?_
                refine pP 25 76 bb3_26 ?_
                refine pP 26 77 bb3_27 ?_
                refine pP 27 78 bb3_28 ?_
                refine pP 29 80 bb3_48 ?_
                refine tP 28 79 bb3_30 ?_
                refine tP 30 81 bb3_31 ?_
                refine one_ (i := 31) (N := some 82) bb3_32 rfl rfl (one_of HT_.out (by kernel_rfl)) (by decide) (fun K hK => ?_)
                refine goes_ Try.func76 (by kernel_rfl) rfl #[.slice A0_6 l0_6.length c0_6, .int .i64 ((rd_T24 l0_5 x3_2).f0)] (by rfl) rfl rfl (by (try simp only [List.map_toArray, List.map_cons, List.map_nil]); first | done | rfl | (simp only [List.length_drop, List.length_take]; rfl)) ?_
                with_reducible refine (spec_l06In.calls k2 _ _ l0_6 ((rd_T24 l0_5 x3_2).f0) true _ ?side1 ?side2 A49.out).mono ?_
                (case side1 => repeat (first | exact (Kd.C_below HR0_6.out HB.out) | (with_reducible refine Kd.C_alloc ?_ _) | (with_reducible refine Kd.C_drewN ?_ _) | (with_reducible refine Kd.C_drew ?_)))
                (case side2 => exact HC0_6.out)
                rintro e w' ⟨rfl, ⟨nd, rfl⟩⟩
                refine ⟨_, rfl, ?_⟩
                refine hK.out _ _ ⟨cR BK136.out 0, cR BK136.out 1, cR BK136.out 2, cR BK136.out 3, cR BK129.out 0, cR BK129.out 1, cR BK129.out 2, cR BK129.out 3, cR BK129.out 4, cR BK129.out 5, cR BK129.out 6, (pw_cell_below HB.out hw138_0), (pw_cell_below HB.out hw138_1), (pw_cell_below HB.out hw138_2), (pw_cell_below HB.out hw138_3)⟩ (fun hHeld => ?_)
                clear hK K
                refine nP 82 ?_
                refine pP 32 83 bb3_33 ?_
                refine pP 33 84 bb3_34 ?_
                refine pU 34 85 bb3_35 ?_
                refine pU 35 86 bb3_36 ?_
                refine pU 36 87 bb3_37 ?_
                refine pU 37 88 bb3_38 ?_
                refine pU 38 89 bb3_39 ?_
                refine pU 39 90 bb3_40 ?_
                refine pP 40 91 bb3_41 ?_
                refine done_ (done_of HT_.out (by kernel_rfl)) ?_
                try go_wp2
                go_meet
                case rel => exact ⟨_, (true), aF, H', ⟨by have := HJ1.out; have := HK2.out; first | omega | exact Nat.le_refl _⟩, ⟨aB BK129.out⟩, ⟨aB BK136.out⟩, ⟨aH⟩⟩
               ·replace c50 := Bool.eq_false_iff.mpr c50
                subst c50
                have H1 := wF H
                clear H
                have H := H1
                clear H1
                replace H := Option.bind_eq_some_iff.mp H
                obtain ⟨t140, A540, H⟩ := H
                replace H : (spec_BoxOk.j2 k2 x3_2 (t140 != x3_2) a0_0 a0_1 a0_2 a0_3 a0_4 l0_5 l0_6) = some r := H
                have A54 := Aside0.mk A540
                clear A540
                have H' := Aside0.mk H
                clear H
                try go_wp2
                have n0_ : Aside0 (((((w32.setCell ⟨gb136, 0, none⟩ (.int .i64 ((rd_T24 l0_5 x3_2).f0))).setCell ⟨gb136, 1, none⟩ (.int .i64 ((rd_T24 l0_5 x3_2).f1))).setCell ⟨gb136, 2, none⟩ (.slice A135_2 ((rd_T24 l0_5 x3_2).f2).length c135_2)).setCell ⟨gb136, 3, none⟩ (.string ((rd_T24 l0_5 x3_2).f3))).heap[gb129]? = some (.cells #[.int .i64 a0_0, .string a0_1, .int .i64 a0_2, .int .i64 a0_3, .int .i64 a0_4, .slice (some ad135) l0_5.length c0_5, .slice A0_6 l0_6.length c0_6] 59 (0, 0))) := ⟨by (with_reducible repeat (first | refine blk_drewN ?_ _ | refine blk_drew ?_ | refine blk_alloc ?_ _)); refine blk_far ?_ NB129_136.out _; (with_reducible repeat (first | refine blk_drewN ?_ _ | refine blk_drew ?_ | refine blk_alloc ?_ _)); refine blk_far ?_ NB129_136.out _; (with_reducible repeat (first | refine blk_drewN ?_ _ | refine blk_drew ?_ | refine blk_alloc ?_ _)); refine blk_far ?_ NB129_136.out _; (with_reducible repeat (first | refine blk_drewN ?_ _ | refine blk_drew ?_ | refine blk_alloc ?_ _)); refine blk_far ?_ NB129_136.out _; (with_reducible repeat (first | refine blk_drewN ?_ _ | refine blk_drew ?_ | refine blk_alloc ?_ _)); exact BK129.out⟩
                have n1_ : Aside0 (((((w32.setCell ⟨gb136, 0, none⟩ (.int .i64 ((rd_T24 l0_5 x3_2).f0))).setCell ⟨gb136, 1, none⟩ (.int .i64 ((rd_T24 l0_5 x3_2).f1))).setCell ⟨gb136, 2, none⟩ (.slice A135_2 ((rd_T24 l0_5 x3_2).f2).length c135_2)).setCell ⟨gb136, 3, none⟩ (.string ((rd_T24 l0_5 x3_2).f3))).heap[gb136]? = some (.cells #[.int .i64 ((rd_T24 l0_5 x3_2).f0), .int .i64 ((rd_T24 l0_5 x3_2).f1), .slice A135_2 ((rd_T24 l0_5 x3_2).f2).length c135_2, .string ((rd_T24 l0_5 x3_2).f3)] 24 (0, 0))) := ⟨by (with_reducible repeat (first | refine blk_drewN ?_ _ | refine blk_drew ?_ | refine blk_alloc ?_ _)); refine blk_put (cs := #[.int .i64 ((rd_T24 l0_5 x3_2).f0), .int .i64 ((rd_T24 l0_5 x3_2).f1), .slice A135_2 ((rd_T24 l0_5 x3_2).f2).length c135_2, .string (⟨#[]⟩ : ByteArray)]) ?_ 3 _ rfl; (with_reducible repeat (first | refine blk_drewN ?_ _ | refine blk_drew ?_ | refine blk_alloc ?_ _)); refine blk_put (cs := #[.int .i64 ((rd_T24 l0_5 x3_2).f0), .int .i64 ((rd_T24 l0_5 x3_2).f1), .slice none 0 0, .string (⟨#[]⟩ : ByteArray)]) ?_ 2 _ rfl; (with_reducible repeat (first | refine blk_drewN ?_ _ | refine blk_drew ?_ | refine blk_alloc ?_ _)); refine blk_put (cs := #[.int .i64 ((rd_T24 l0_5 x3_2).f0), .int .i64 0, .slice none 0 0, .string (⟨#[]⟩ : ByteArray)]) ?_ 1 _ rfl; (with_reducible repeat (first | refine blk_drewN ?_ _ | refine blk_drew ?_ | refine blk_alloc ?_ _)); refine blk_put (cs := #[.int .i64 0, .int .i64 0, .slice none 0 0, .string (⟨#[]⟩ : ByteArray)]) ?_ 0 _ rfl; (with_reducible repeat (first | refine blk_drewN ?_ _ | refine blk_drew ?_ | refine blk_alloc ?_ _)); exact BK136.out⟩
                have n2_ : Aside0 (Below w.heap.size w ((((w32.setCell ⟨gb136, 0, none⟩ (.int .i64 ((rd_T24 l0_5 x3_2).f0))).setCell ⟨gb136, 1, none⟩ (.int .i64 ((rd_T24 l0_5 x3_2).f1))).setCell ⟨gb136, 2, none⟩ (.slice A135_2 ((rd_T24 l0_5 x3_2).f2).length c135_2)).setCell ⟨gb136, 3, none⟩ (.string ((rd_T24 l0_5 x3_2).f3)))) := ⟨aH⟩
                (try clear BK129)
                (try clear BK136)
                (try clear HB)
                generalize ((((w32.setCell ⟨gb136, 0, none⟩ (.int .i64 ((rd_T24 l0_5 x3_2).f0))).setCell ⟨gb136, 1, none⟩ (.int .i64 ((rd_T24 l0_5 x3_2).f1))).setCell ⟨gb136, 2, none⟩ (.slice A135_2 ((rd_T24 l0_5 x3_2).f2).length c135_2)).setCell ⟨gb136, 3, none⟩ (.string ((rd_T24 l0_5 x3_2).f3))) = w55 at n0_ n1_ n2_ ⊢
                have BK129 := n0_
                have BK136 := n1_
                have HB := n2_
                clear n0_ n1_ n2_
                have n0_ := Aside0.mk (blk_drew BK129.out)
                have n1_ := Aside0.mk (blk_drew BK136.out)
                have n2_ := Aside0.mk (below_drew1 HB.out)
                clear BK129
                clear BK136
                clear HB
                have BK129 := n0_
                have BK136 := n1_
                have HB := n2_
                clear n0_ n1_ n2_
                have p138 : 0 ≤ ((ji42) : Int) := of_decide_eq_true (by first | (with_reducible assumption) | assumption)
                have q138 : (ji42) < (l0_5.length : Int) := of_decide_eq_true (by first | (with_reducible assumption) | assumption)
                obtain ⟨ad138, A138_2, c138_2, e138, hx138_0, hx138_1, hx138_2, hx138_3, hl138_2, hi138_2⟩ := at_T24 HR0_5.out (ji42) p138 q138
                have hw138_3 := hx138_3
                have hw138_2 := hx138_2
                have hw138_1 := hx138_1
                have hw138_0 := hx138_0
                obtain rfl : ad135 = ad138 := (by injection e138)
                replace hx138_0 := pw_cell_below HB.out hx138_0
                replace hx138_1 := pw_cell_below HB.out hx138_1
                replace hx138_2 := pw_cell_below HB.out hx138_2
                replace hx138_3 := pw_cell_below HB.out hx138_3
                have HR138_2 := Aside0.mk hi138_2
                have HC138_2 := Aside0.mk hl138_2
                clear hi138_2 hl138_2
                replace p138 := eq_true p138
                replace q138 := eq_true q138
                refine start_ (n := 41) (S := fun w' => w'.cell? ⟨gb136, 0, none⟩ = some (.int .i64 ((rd_T24 l0_5 x3_2).f0)) ∧ w'.cell? ⟨gb136, 1, none⟩ = some (.int .i64 ((rd_T24 l0_5 x3_2).f1)) ∧ w'.cell? ⟨gb136, 2, none⟩ = some (.slice A135_2 ((rd_T24 l0_5 x3_2).f2).length c135_2) ∧ w'.cell? ⟨gb136, 3, none⟩ = some (.string ((rd_T24 l0_5 x3_2).f3)) ∧ w'.cell? ⟨gb129, 0, none⟩ = some (.int .i64 a0_0) ∧ w'.cell? ⟨gb129, 1, none⟩ = some (.string a0_1) ∧ w'.cell? ⟨gb129, 2, none⟩ = some (.int .i64 a0_2) ∧ w'.cell? ⟨gb129, 3, none⟩ = some (.int .i64 a0_3) ∧ w'.cell? ⟨gb129, 4, none⟩ = some (.int .i64 a0_4) ∧ w'.cell? ⟨gb129, 5, none⟩ = some (.slice (some ad135) l0_5.length c0_5) ∧ w'.cell? ⟨gb129, 6, none⟩ = some (.slice A0_6 l0_6.length c0_6) ∧ w'.cell? (ad135.add (((ji42)).toNat * 4)) = some (.int .i64 ((rd_T24 l0_5 (ji42)).f0)) ∧ w'.cell? ⟨(ad135.add (((ji42)).toNat * 4)).block, (ad135.add (((ji42)).toNat * 4)).off + 1, none⟩ = some (.int .i64 ((rd_T24 l0_5 (ji42)).f1)) ∧ w'.cell? ⟨(ad135.add (((ji42)).toNat * 4)).block, (ad135.add (((ji42)).toNat * 4)).off + 2, none⟩ = some (.slice A138_2 ((rd_T24 l0_5 (ji42)).f2).length c138_2) ∧ w'.cell? ⟨(ad135.add (((ji42)).toNat * 4)).block, (ad135.add (((ji42)).toNat * 4)).off + 3, none⟩ = some (.string ((rd_T24 l0_5 (ji42)).f3))) (ds := []) bb3_0 (by kernel_rfl) rfl rfl ⟨cR BK136.out 0, cR BK136.out 1, cR BK136.out 2, cR BK136.out 3, cR BK129.out 0, cR BK129.out 1, cR BK129.out 2, cR BK129.out 3, cR BK129.out 4, cR BK129.out 5, cR BK129.out 6, (pw_cell_below HB.out hw138_0), (pw_cell_below HB.out hw138_1), (pw_cell_below HB.out hw138_2), (pw_cell_below HB.out hw138_3)⟩ (fun hHeld => ?_); refine with_tabW spec_BoxOk.tab7 spec_BoxOk.bits7 (fun HT_ HW_ => ?_)
                generalize w55.drew = w56 at BK129 BK136 HB HR138_2 hx138_0 hx138_1 hx138_2 hx138_3 hHeld ⊢
                refine tP 0 51 bb3_1 ?_
                refine one_ (i := 1) (N := some 52) bb3_2 rfl rfl (one_of HT_.out (by kernel_rfl)) (by decide) (fun K hK => ?_)
                refine goes_ Try.func45 (by kernel_rfl) rfl #[.agg #[.int .i64 ((rd_T24 l0_5 x3_2).f0), .int .i64 ((rd_T24 l0_5 x3_2).f1), .slice A135_2 ((rd_T24 l0_5 x3_2).f2).length c135_2, .string ((rd_T24 l0_5 x3_2).f3)]] (by rfl) rfl rfl (by (try simp only [List.map_toArray, List.map_cons, List.map_nil]); first | done | rfl | (simp only [List.length_drop, List.length_take]; rfl)) ?_
                with_reducible refine (spec_MailOk.calls k2 ((rd_T24 l0_5 x3_2).f0) ((rd_T24 l0_5 x3_2).f1) _ _ ((rd_T24 l0_5 x3_2).f2) ((rd_T24 l0_5 x3_2).f3) true _ ?side1 ?side2 A35.out).mono ?_
                (case side1 => repeat (first | exact (Kd.C_below HR135_2.out HB.out) | (with_reducible refine Kd.C_alloc ?_ _) | (with_reducible refine Kd.C_drewN ?_ _) | (with_reducible refine Kd.C_drew ?_)))
                (case side2 => exact HC135_2.out)
                rintro e w57 ⟨rfl, hb⟩
                refine ⟨_, rfl, ?_⟩
                have n0_ := Aside0.mk (kB BK129.out hb)
                have n1_ := Aside0.mk (kB BK136.out hb)
                have n2_ := Aside0.mk (below_step aH hb)
                clear BK129
                clear BK136
                clear HB
                have BK129 := n0_
                have BK136 := n1_
                have HB := n2_
                clear n0_ n1_ n2_
                (try clear hb)
                (try clear hb2)
                (try clear hk)
                (try clear hi)
                refine hK.out _ _ ⟨cR BK136.out 0, cR BK136.out 1, cR BK136.out 2, cR BK136.out 3, cR BK129.out 0, cR BK129.out 1, cR BK129.out 2, cR BK129.out 3, cR BK129.out 4, cR BK129.out 5, cR BK129.out 6, (pw_cell_below HB.out hw138_0), (pw_cell_below HB.out hw138_1), (pw_cell_below HB.out hw138_2), (pw_cell_below HB.out hw138_3)⟩ (fun hHeld => ?_)
                clear hK K
                refine nP 52 ?_
                refine pP 2 53 bb3_3 ?_
                refine pP 3 54 bb3_4 ?_
                refine pP 4 55 bb3_5 ?_
                refine pP 6 57 bb3_6 ?_
                refine tP 5 56 bb3_7 ?_
                refine tP 7 58 bb3_8 ?_
                refine pP 8 59 bb3_9 ?_
                refine pP 9 60 bb3_10 ?_
                refine pP 10 61 bb3_11 ?_
                refine pP 11 62 bb3_12 ?_
                refine pP 12 63 bb3_13 ?_
                refine pP 13 64 bb3_14 ?_
                refine pP 14 65 bb3_15 ?_
                refine pP 16 67 bb3_42 ?_
                refine pP 17 68 bb3_43 ?_
                refine pP 21 72 bb3_44 ?_
                refine tP 15 66 bb3_45 ?_
                refine pP 18 69 bb3_46 ?_
                refine pP 19 70 bb3_47 ?_
                refine tP 20 71 bb3_22 ?_
                refine tP 22 73 bb3_23 ?_
                refine pP 23 74 bb3_24 ?_
                refine pP 24 75 bb3_25 ?_
                refine pP 25 76 bb3_26 ?_
                refine pP 26 77 bb3_27 ?_
                refine pP 27 78 bb3_28 ?_
                refine pP 29 80 bb3_48 ?_
                refine tP 28 79 bb3_30 ?_
                refine tP 30 81 bb3_31 ?_
                refine one_ (i := 31) (N := some 82) bb3_32 rfl rfl (one_of HT_.out (by kernel_rfl)) (by decide) (fun K hK => ?_)
                refine goes_ Try.func76 (by kernel_rfl) rfl #[.slice A0_6 l0_6.length c0_6, .int .i64 ((rd_T24 l0_5 x3_2).f0)] (by rfl) rfl rfl (by (try simp only [List.map_toArray, List.map_cons, List.map_nil]); first | done | rfl | (simp only [List.length_drop, List.length_take]; rfl)) ?_
                with_reducible refine (spec_l06In.calls k2 _ _ l0_6 ((rd_T24 l0_5 x3_2).f0) false _ ?side1 ?side2 A49.out).mono ?_
                (case side1 => repeat (first | exact (Kd.C_below HR0_6.out HB.out) | (with_reducible refine Kd.C_alloc ?_ _) | (with_reducible refine Kd.C_drewN ?_ _) | (with_reducible refine Kd.C_drew ?_)))
                (case side2 => exact HC0_6.out)
                rintro e w' ⟨rfl, ⟨nd, rfl⟩⟩
                refine ⟨_, rfl, ?_⟩
                refine hK.out _ _ ⟨cR BK136.out 0, cR BK136.out 1, cR BK136.out 2, cR BK136.out 3, cR BK129.out 0, cR BK129.out 1, cR BK129.out 2, cR BK129.out 3, cR BK129.out 4, cR BK129.out 5, cR BK129.out 6, (pw_cell_below HB.out hw138_0), (pw_cell_below HB.out hw138_1), (pw_cell_below HB.out hw138_2), (pw_cell_below HB.out hw138_3)⟩ (fun hHeld => ?_)
                clear hK K
                refine nP 82 ?_
                refine pP 32 83 bb3_33 ?_
                refine pP 33 84 bb3_34 ?_
                refine pP 35 86 bb3_49 ?_
                refine pP 38 89 bb3_50 ?_
                refine tP 34 85 bb3_51 ?_
                refine tP 36 87 bb3_52 ?_
                refine one_ (i := 37) (N := some 88) bb3_39 rfl rfl (one_of HT_.out (by kernel_rfl)) (by decide) (fun K hK => ?_)
                refine goes_ Try.func77 (by kernel_rfl) rfl #[.agg #[.int .i64 a0_0, .string a0_1, .int .i64 a0_2, .int .i64 a0_3, .int .i64 a0_4, .slice (some ad135) l0_5.length c0_5, .slice A0_6 l0_6.length c0_6], .int .i64 ((rd_T24 l0_5 x3_2).f0)] (by rfl) rfl rfl (by (try simp only [List.map_toArray, List.map_cons, List.map_nil]); first | done | rfl | (simp only [List.length_drop, List.length_take]; rfl)) ?_
                with_reducible refine (spec_MailAt.calls k2 a0_0 a0_1 a0_2 a0_3 a0_4 _ _ l0_5 _ _ l0_6 ((rd_T24 l0_5 x3_2).f0) t140 _ ?side1 ?side2 ?side3 ?side4 A54.out).mono ?_
                (case side1 => repeat (first | exact (Kd.C_below HR0_5.out aH) | (with_reducible refine Kd.C_alloc ?_ _) | (with_reducible refine Kd.C_drewN ?_ _) | (with_reducible refine Kd.C_drew ?_)))
                (case side2 => exact HC0_5.out)
                (case side3 => repeat (first | exact (Kd.C_below HR0_6.out aH) | (with_reducible refine Kd.C_alloc ?_ _) | (with_reducible refine Kd.C_drewN ?_ _) | (with_reducible refine Kd.C_drew ?_)))
                (case side4 => exact HC0_6.out)
                rintro e w58 ⟨rfl, hb⟩
                refine ⟨_, rfl, ?_⟩
                have n0_ := Aside0.mk (kB BK129.out hb)
                have n1_ := Aside0.mk (kB BK136.out hb)
                have n2_ := Aside0.mk (below_step aH hb)
                clear BK129
                clear BK136
                clear HB
                have BK129 := n0_
                have BK136 := n1_
                have HB := n2_
                clear n0_ n1_ n2_
                (try clear hb)
                (try clear hb2)
                (try clear hk)
                (try clear hi)
                refine hK.out _ _ ⟨cR BK136.out 0, cR BK136.out 1, cR BK136.out 2, cR BK136.out 3, cR BK129.out 0, cR BK129.out 1, cR BK129.out 2, cR BK129.out 3, cR BK129.out 4, cR BK129.out 5, cR BK129.out 6, (pw_cell_below HB.out hw138_0), (pw_cell_below HB.out hw138_1), (pw_cell_below HB.out hw138_2), (pw_cell_below HB.out hw138_3)⟩ (fun hHeld => ?_)
                clear hK K
                refine nP 88 ?_
                refine pP 39 90 bb3_40 ?_
                refine pP 40 91 bb3_41 ?_
                refine done_ (done_of HT_.out (by kernel_rfl)) ?_
                try go_wp2
                go_meet
                case rel => exact ⟨_, ((t140 != x3_2)), aF, H', ⟨by have := HJ1.out; have := HK2.out; first | omega | exact Nat.le_refl _⟩, ⟨aB BK129.out⟩, ⟨aB BK136.out⟩, ⟨aH⟩⟩
             ·rw [if_neg c44] at H
              exact absurd H (by simp)
            ·rw [if_neg c43] at H
             exact absurd H (by simp)
           ·rw [if_neg c41] at H
            have c41b0 : decide (0 < x3_2) = false := decide_eq_false c41
            clear c41
            replace H := Option.bind_eq_some_iff.mp H
            obtain ⟨t141, A590, H⟩ := H
            try dsimp only at H
            have A59 := Aside0.mk A590
            clear A590
            by_cases c60 : t141 = true
            ·subst c60
             have H1 := wT H
             clear H
             have H := H1
             clear H1
             have H' := Aside0.mk H
             clear H
             try go_wp2
             have n0_ : Aside0 (((((w32.setCell ⟨gb136, 0, none⟩ (.int .i64 ((rd_T24 l0_5 x3_2).f0))).setCell ⟨gb136, 1, none⟩ (.int .i64 ((rd_T24 l0_5 x3_2).f1))).setCell ⟨gb136, 2, none⟩ (.slice A135_2 ((rd_T24 l0_5 x3_2).f2).length c135_2)).setCell ⟨gb136, 3, none⟩ (.string ((rd_T24 l0_5 x3_2).f3))).heap[gb129]? = some (.cells #[.int .i64 a0_0, .string a0_1, .int .i64 a0_2, .int .i64 a0_3, .int .i64 a0_4, .slice (some ad135) l0_5.length c0_5, .slice A0_6 l0_6.length c0_6] 59 (0, 0))) := ⟨by (with_reducible repeat (first | refine blk_drewN ?_ _ | refine blk_drew ?_ | refine blk_alloc ?_ _)); refine blk_far ?_ NB129_136.out _; (with_reducible repeat (first | refine blk_drewN ?_ _ | refine blk_drew ?_ | refine blk_alloc ?_ _)); refine blk_far ?_ NB129_136.out _; (with_reducible repeat (first | refine blk_drewN ?_ _ | refine blk_drew ?_ | refine blk_alloc ?_ _)); refine blk_far ?_ NB129_136.out _; (with_reducible repeat (first | refine blk_drewN ?_ _ | refine blk_drew ?_ | refine blk_alloc ?_ _)); refine blk_far ?_ NB129_136.out _; (with_reducible repeat (first | refine blk_drewN ?_ _ | refine blk_drew ?_ | refine blk_alloc ?_ _)); exact BK129.out⟩
             have n1_ : Aside0 (((((w32.setCell ⟨gb136, 0, none⟩ (.int .i64 ((rd_T24 l0_5 x3_2).f0))).setCell ⟨gb136, 1, none⟩ (.int .i64 ((rd_T24 l0_5 x3_2).f1))).setCell ⟨gb136, 2, none⟩ (.slice A135_2 ((rd_T24 l0_5 x3_2).f2).length c135_2)).setCell ⟨gb136, 3, none⟩ (.string ((rd_T24 l0_5 x3_2).f3))).heap[gb136]? = some (.cells #[.int .i64 ((rd_T24 l0_5 x3_2).f0), .int .i64 ((rd_T24 l0_5 x3_2).f1), .slice A135_2 ((rd_T24 l0_5 x3_2).f2).length c135_2, .string ((rd_T24 l0_5 x3_2).f3)] 24 (0, 0))) := ⟨by (with_reducible repeat (first | refine blk_drewN ?_ _ | refine blk_drew ?_ | refine blk_alloc ?_ _)); refine blk_put (cs := #[.int .i64 ((rd_T24 l0_5 x3_2).f0), .int .i64 ((rd_T24 l0_5 x3_2).f1), .slice A135_2 ((rd_T24 l0_5 x3_2).f2).length c135_2, .string (⟨#[]⟩ : ByteArray)]) ?_ 3 _ rfl; (with_reducible repeat (first | refine blk_drewN ?_ _ | refine blk_drew ?_ | refine blk_alloc ?_ _)); refine blk_put (cs := #[.int .i64 ((rd_T24 l0_5 x3_2).f0), .int .i64 ((rd_T24 l0_5 x3_2).f1), .slice none 0 0, .string (⟨#[]⟩ : ByteArray)]) ?_ 2 _ rfl; (with_reducible repeat (first | refine blk_drewN ?_ _ | refine blk_drew ?_ | refine blk_alloc ?_ _)); refine blk_put (cs := #[.int .i64 ((rd_T24 l0_5 x3_2).f0), .int .i64 0, .slice none 0 0, .string (⟨#[]⟩ : ByteArray)]) ?_ 1 _ rfl; (with_reducible repeat (first | refine blk_drewN ?_ _ | refine blk_drew ?_ | refine blk_alloc ?_ _)); refine blk_put (cs := #[.int .i64 0, .int .i64 0, .slice none 0 0, .string (⟨#[]⟩ : ByteArray)]) ?_ 0 _ rfl; (with_reducible repeat (first | refine blk_drewN ?_ _ | refine blk_drew ?_ | refine blk_alloc ?_ _)); exact BK136.out⟩
             have n2_ : Aside0 (Below w.heap.size w ((((w32.setCell ⟨gb136, 0, none⟩ (.int .i64 ((rd_T24 l0_5 x3_2).f0))).setCell ⟨gb136, 1, none⟩ (.int .i64 ((rd_T24 l0_5 x3_2).f1))).setCell ⟨gb136, 2, none⟩ (.slice A135_2 ((rd_T24 l0_5 x3_2).f2).length c135_2)).setCell ⟨gb136, 3, none⟩ (.string ((rd_T24 l0_5 x3_2).f3)))) := ⟨aH⟩
             (try clear BK129)
             (try clear BK136)
             (try clear HB)
             generalize ((((w32.setCell ⟨gb136, 0, none⟩ (.int .i64 ((rd_T24 l0_5 x3_2).f0))).setCell ⟨gb136, 1, none⟩ (.int .i64 ((rd_T24 l0_5 x3_2).f1))).setCell ⟨gb136, 2, none⟩ (.slice A135_2 ((rd_T24 l0_5 x3_2).f2).length c135_2)).setCell ⟨gb136, 3, none⟩ (.string ((rd_T24 l0_5 x3_2).f3))) = w61 at n0_ n1_ n2_ ⊢
             have BK129 := n0_
             have BK136 := n1_
             have HB := n2_
             clear n0_ n1_ n2_
             have n0_ := Aside0.mk (blk_drew BK129.out)
             have n1_ := Aside0.mk (blk_drew BK136.out)
             have n2_ := Aside0.mk (below_drew1 HB.out)
             clear BK129
             clear BK136
             clear HB
             have BK129 := n0_
             have BK136 := n1_
             have HB := n2_
             clear n0_ n1_ n2_
             refine start_ (n := 41) (S := fun w' => w'.cell? ⟨gb136, 0, none⟩ = some (.int .i64 ((rd_T24 l0_5 x3_2).f0)) ∧ w'.cell? ⟨gb136, 1, none⟩ = some (.int .i64 ((rd_T24 l0_5 x3_2).f1)) ∧ w'.cell? ⟨gb136, 2, none⟩ = some (.slice A135_2 ((rd_T24 l0_5 x3_2).f2).length c135_2) ∧ w'.cell? ⟨gb136, 3, none⟩ = some (.string ((rd_T24 l0_5 x3_2).f3)) ∧ w'.cell? ⟨gb129, 0, none⟩ = some (.int .i64 a0_0) ∧ w'.cell? ⟨gb129, 1, none⟩ = some (.string a0_1) ∧ w'.cell? ⟨gb129, 2, none⟩ = some (.int .i64 a0_2) ∧ w'.cell? ⟨gb129, 3, none⟩ = some (.int .i64 a0_3) ∧ w'.cell? ⟨gb129, 4, none⟩ = some (.int .i64 a0_4) ∧ w'.cell? ⟨gb129, 5, none⟩ = some (.slice (some ad135) l0_5.length c0_5) ∧ w'.cell? ⟨gb129, 6, none⟩ = some (.slice A0_6 l0_6.length c0_6)) (ds := []) bb3_0 (by kernel_rfl) rfl rfl ⟨cR BK136.out 0, cR BK136.out 1, cR BK136.out 2, cR BK136.out 3, cR BK129.out 0, cR BK129.out 1, cR BK129.out 2, cR BK129.out 3, cR BK129.out 4, cR BK129.out 5, cR BK129.out 6⟩ (fun hHeld => ?_); refine with_tabW spec_BoxOk.tab7 spec_BoxOk.bits7 (fun HT_ HW_ => ?_)
             generalize w61.drew = w62 at BK129 BK136 HB hHeld ⊢
             refine tP 0 51 bb3_1 ?_
             refine one_ (i := 1) (N := some 52) bb3_2 rfl rfl (one_of HT_.out (by kernel_rfl)) (by decide) (fun K hK => ?_)
             refine goes_ Try.func45 (by kernel_rfl) rfl #[.agg #[.int .i64 ((rd_T24 l0_5 x3_2).f0), .int .i64 ((rd_T24 l0_5 x3_2).f1), .slice A135_2 ((rd_T24 l0_5 x3_2).f2).length c135_2, .string ((rd_T24 l0_5 x3_2).f3)]] (by rfl) rfl rfl (by (try simp only [List.map_toArray, List.map_cons, List.map_nil]); first | done | rfl | (simp only [List.length_drop, List.length_take]; rfl)) ?_
             with_reducible refine (spec_MailOk.calls k2 ((rd_T24 l0_5 x3_2).f0) ((rd_T24 l0_5 x3_2).f1) _ _ ((rd_T24 l0_5 x3_2).f2) ((rd_T24 l0_5 x3_2).f3) true _ ?side1 ?side2 A35.out).mono ?_
             (case side1 => repeat (first | exact (Kd.C_below HR135_2.out HB.out) | (with_reducible refine Kd.C_alloc ?_ _) | (with_reducible refine Kd.C_drewN ?_ _) | (with_reducible refine Kd.C_drew ?_)))
             (case side2 => exact HC135_2.out)
             rintro e w63 ⟨rfl, hb⟩
             refine ⟨_, rfl, ?_⟩
             have n0_ := Aside0.mk (kB BK129.out hb)
             have n1_ := Aside0.mk (kB BK136.out hb)
             have n2_ := Aside0.mk (below_step aH hb)
             clear BK129
             clear BK136
             clear HB
             have BK129 := n0_
             have BK136 := n1_
             have HB := n2_
             clear n0_ n1_ n2_
             (try clear hb)
             (try clear hb2)
             (try clear hk)
             (try clear hi)
             refine hK.out _ _ ⟨cR BK136.out 0, cR BK136.out 1, cR BK136.out 2, cR BK136.out 3, cR BK129.out 0, cR BK129.out 1, cR BK129.out 2, cR BK129.out 3, cR BK129.out 4, cR BK129.out 5, cR BK129.out 6⟩ (fun hHeld => ?_)
             clear hK K
             refine nP 52 ?_
             refine pP 2 53 bb3_3 ?_
             refine pP 3 54 bb3_4 ?_
             refine pP 4 55 bb3_5 ?_
             refine pP 6 57 bb3_6 ?_
             refine tP 5 56 bb3_7 ?_
             refine tP 7 58 bb3_8 ?_
             refine pP 8 59 bb3_9 ?_
             refine pP 9 60 bb3_10 ?_
             refine pP 10 61 bb3_11 ?_
             refine pP 11 62 bb3_12 ?_
             refine pP 12 63 bb3_13 ?_
             refine pP 13 64 bb3_14 ?_
             refine pU 14 65 bb3_15 ?_
             refine pU 15 66 bb3_16 ?_
             refine pU 16 67 bb3_17 ?_
             refine pU 17 68 bb3_18 ?_
             refine pU 18 69 bb3_19 ?_
             refine pU 19 70 bb3_20 ?_
             refine pU 20 71 bb3_21 ?_
             refine pU 21 72 bb3_22 ?_
             refine pU 22 73 bb3_23 ?_
             refine pU 23 74 bb3_24 ?_
             refine pP 24 75 bb3_25 ?_
             refine pP 25 76 bb3_26 ?_
             refine pP 26 77 bb3_27 ?_
             refine pP 27 78 bb3_28 ?_
             refine pP 29 80 bb3_48 ?_
             refine tP 28 79 bb3_30 ?_
             refine tP 30 81 bb3_31 ?_
             refine one_ (i := 31) (N := some 82) bb3_32 rfl rfl (one_of HT_.out (by kernel_rfl)) (by decide) (fun K hK => ?_)
             refine goes_ Try.func76 (by kernel_rfl) rfl #[.slice A0_6 l0_6.length c0_6, .int .i64 ((rd_T24 l0_5 x3_2).f0)] (by rfl) rfl rfl (by (try simp only [List.map_toArray, List.map_cons, List.map_nil]); first | done | rfl | (simp only [List.length_drop, List.length_take]; rfl)) ?_
             with_reducible refine (spec_l06In.calls k2 _ _ l0_6 ((rd_T24 l0_5 x3_2).f0) true _ ?side1 ?side2 A59.out).mono ?_
             (case side1 => repeat (first | exact (Kd.C_below HR0_6.out HB.out) | (with_reducible refine Kd.C_alloc ?_ _) | (with_reducible refine Kd.C_drewN ?_ _) | (with_reducible refine Kd.C_drew ?_)))
             (case side2 => exact HC0_6.out)
             rintro e w' ⟨rfl, ⟨nd, rfl⟩⟩
             refine ⟨_, rfl, ?_⟩
             refine hK.out _ _ ⟨cR BK136.out 0, cR BK136.out 1, cR BK136.out 2, cR BK136.out 3, cR BK129.out 0, cR BK129.out 1, cR BK129.out 2, cR BK129.out 3, cR BK129.out 4, cR BK129.out 5, cR BK129.out 6⟩ (fun hHeld => ?_)
             clear hK K
             refine nP 82 ?_
             refine pP 32 83 bb3_33 ?_
             refine pP 33 84 bb3_34 ?_
             refine pU 34 85 bb3_35 ?_
             refine pU 35 86 bb3_36 ?_
             refine pU 36 87 bb3_37 ?_
             refine pU 37 88 bb3_38 ?_
             refine pU 38 89 bb3_39 ?_
             refine pU 39 90 bb3_40 ?_
             refine pP 40 91 bb3_41 ?_
             refine done_ (done_of HT_.out (by kernel_rfl)) ?_
             try go_wp2
             go_meet
             case rel => exact ⟨_, (true), aF, H', ⟨by have := HJ1.out; have := HK2.out; first | omega | exact Nat.le_refl _⟩, ⟨aB BK129.out⟩, ⟨aB BK136.out⟩, ⟨aH⟩⟩
            ·replace c60 := Bool.eq_false_iff.mpr c60
             subst c60
             have H1 := wF H
             clear H
             have H := H1
             clear H1
             replace H := Option.bind_eq_some_iff.mp H
             obtain ⟨t142, A640, H⟩ := H
             replace H : (spec_BoxOk.j2 k2 x3_2 (t142 != x3_2) a0_0 a0_1 a0_2 a0_3 a0_4 l0_5 l0_6) = some r := H
             have A64 := Aside0.mk A640
             clear A640
             have H' := Aside0.mk H
             clear H
             try go_wp2
             have n0_ : Aside0 (((((w32.setCell ⟨gb136, 0, none⟩ (.int .i64 ((rd_T24 l0_5 x3_2).f0))).setCell ⟨gb136, 1, none⟩ (.int .i64 ((rd_T24 l0_5 x3_2).f1))).setCell ⟨gb136, 2, none⟩ (.slice A135_2 ((rd_T24 l0_5 x3_2).f2).length c135_2)).setCell ⟨gb136, 3, none⟩ (.string ((rd_T24 l0_5 x3_2).f3))).heap[gb129]? = some (.cells #[.int .i64 a0_0, .string a0_1, .int .i64 a0_2, .int .i64 a0_3, .int .i64 a0_4, .slice (some ad135) l0_5.length c0_5, .slice A0_6 l0_6.length c0_6] 59 (0, 0))) := ⟨by (with_reducible repeat (first | refine blk_drewN ?_ _ | refine blk_drew ?_ | refine blk_alloc ?_ _)); refine blk_far ?_ NB129_136.out _; (with_reducible repeat (first | refine blk_drewN ?_ _ | refine blk_drew ?_ | refine blk_alloc ?_ _)); refine blk_far ?_ NB129_136.out _; (with_reducible repeat (first | refine blk_drewN ?_ _ | refine blk_drew ?_ | refine blk_alloc ?_ _)); refine blk_far ?_ NB129_136.out _; (with_reducible repeat (first | refine blk_drewN ?_ _ | refine blk_drew ?_ | refine blk_alloc ?_ _)); refine blk_far ?_ NB129_136.out _; (with_reducible repeat (first | refine blk_drewN ?_ _ | refine blk_drew ?_ | refine blk_alloc ?_ _)); exact BK129.out⟩
             have n1_ : Aside0 (((((w32.setCell ⟨gb136, 0, none⟩ (.int .i64 ((rd_T24 l0_5 x3_2).f0))).setCell ⟨gb136, 1, none⟩ (.int .i64 ((rd_T24 l0_5 x3_2).f1))).setCell ⟨gb136, 2, none⟩ (.slice A135_2 ((rd_T24 l0_5 x3_2).f2).length c135_2)).setCell ⟨gb136, 3, none⟩ (.string ((rd_T24 l0_5 x3_2).f3))).heap[gb136]? = some (.cells #[.int .i64 ((rd_T24 l0_5 x3_2).f0), .int .i64 ((rd_T24 l0_5 x3_2).f1), .slice A135_2 ((rd_T24 l0_5 x3_2).f2).length c135_2, .string ((rd_T24 l0_5 x3_2).f3)] 24 (0, 0))) := ⟨by (with_reducible repeat (first | refine blk_drewN ?_ _ | refine blk_drew ?_ | refine blk_alloc ?_ _)); refine blk_put (cs := #[.int .i64 ((rd_T24 l0_5 x3_2).f0), .int .i64 ((rd_T24 l0_5 x3_2).f1), .slice A135_2 ((rd_T24 l0_5 x3_2).f2).length c135_2, .string (⟨#[]⟩ : ByteArray)]) ?_ 3 _ rfl; (with_reducible repeat (first | refine blk_drewN ?_ _ | refine blk_drew ?_ | refine blk_alloc ?_ _)); refine blk_put (cs := #[.int .i64 ((rd_T24 l0_5 x3_2).f0), .int .i64 ((rd_T24 l0_5 x3_2).f1), .slice none 0 0, .string (⟨#[]⟩ : ByteArray)]) ?_ 2 _ rfl; (with_reducible repeat (first | refine blk_drewN ?_ _ | refine blk_drew ?_ | refine blk_alloc ?_ _)); refine blk_put (cs := #[.int .i64 ((rd_T24 l0_5 x3_2).f0), .int .i64 0, .slice none 0 0, .string (⟨#[]⟩ : ByteArray)]) ?_ 1 _ rfl; (with_reducible repeat (first | refine blk_drewN ?_ _ | refine blk_drew ?_ | refine blk_alloc ?_ _)); refine blk_put (cs := #[.int .i64 0, .int .i64 0, .slice none 0 0, .string (⟨#[]⟩ : ByteArray)]) ?_ 0 _ rfl; (with_reducible repeat (first | refine blk_drewN ?_ _ | refine blk_drew ?_ | refine blk_alloc ?_ _)); exact BK136.out⟩
             have n2_ : Aside0 (Below w.heap.size w ((((w32.setCell ⟨gb136, 0, none⟩ (.int .i64 ((rd_T24 l0_5 x3_2).f0))).setCell ⟨gb136, 1, none⟩ (.int .i64 ((rd_T24 l0_5 x3_2).f1))).setCell ⟨gb136, 2, none⟩ (.slice A135_2 ((rd_T24 l0_5 x3_2).f2).length c135_2)).setCell ⟨gb136, 3, none⟩ (.string ((rd_T24 l0_5 x3_2).f3)))) := ⟨aH⟩
             (try clear BK129)
             (try clear BK136)
             (try clear HB)
             generalize ((((w32.setCell ⟨gb136, 0, none⟩ (.int .i64 ((rd_T24 l0_5 x3_2).f0))).setCell ⟨gb136, 1, none⟩ (.int .i64 ((rd_T24 l0_5 x3_2).f1))).setCell ⟨gb136, 2, none⟩ (.slice A135_2 ((rd_T24 l0_5 x3_2).f2).length c135_2)).setCell ⟨gb136, 3, none⟩ (.string ((rd_T24 l0_5 x3_2).f3))) = w65 at n0_ n1_ n2_ ⊢
             have BK129 := n0_
             have BK136 := n1_
             have HB := n2_
             clear n0_ n1_ n2_
             have n0_ := Aside0.mk (blk_drew BK129.out)
             have n1_ := Aside0.mk (blk_drew BK136.out)
             have n2_ := Aside0.mk (below_drew1 HB.out)
             clear BK129
             clear BK136
             clear HB
             have BK129 := n0_
             have BK136 := n1_
             have HB := n2_
             clear n0_ n1_ n2_
             refine start_ (n := 41) (S := fun w' => w'.cell? ⟨gb136, 0, none⟩ = some (.int .i64 ((rd_T24 l0_5 x3_2).f0)) ∧ w'.cell? ⟨gb136, 1, none⟩ = some (.int .i64 ((rd_T24 l0_5 x3_2).f1)) ∧ w'.cell? ⟨gb136, 2, none⟩ = some (.slice A135_2 ((rd_T24 l0_5 x3_2).f2).length c135_2) ∧ w'.cell? ⟨gb136, 3, none⟩ = some (.string ((rd_T24 l0_5 x3_2).f3)) ∧ w'.cell? ⟨gb129, 0, none⟩ = some (.int .i64 a0_0) ∧ w'.cell? ⟨gb129, 1, none⟩ = some (.string a0_1) ∧ w'.cell? ⟨gb129, 2, none⟩ = some (.int .i64 a0_2) ∧ w'.cell? ⟨gb129, 3, none⟩ = some (.int .i64 a0_3) ∧ w'.cell? ⟨gb129, 4, none⟩ = some (.int .i64 a0_4) ∧ w'.cell? ⟨gb129, 5, none⟩ = some (.slice (some ad135) l0_5.length c0_5) ∧ w'.cell? ⟨gb129, 6, none⟩ = some (.slice A0_6 l0_6.length c0_6)) (ds := []) bb3_0 (by kernel_rfl) rfl rfl ⟨cR BK136.out 0, cR BK136.out 1, cR BK136.out 2, cR BK136.out 3, cR BK129.out 0, cR BK129.out 1, cR BK129.out 2, cR BK129.out 3, cR BK129.out 4, cR BK129.out 5, cR BK129.out 6⟩ (fun hHeld => ?_); refine with_tabW spec_BoxOk.tab7 spec_BoxOk.bits7 (fun HT_ HW_ => ?_)
             generalize w65.drew = w66 at BK129 BK136 HB hHeld ⊢
             refine tP 0 51 bb3_1 ?_
             refine one_ (i := 1) (N := some 52) bb3_2 rfl rfl (one_of HT_.out (by kernel_rfl)) (by decide) (fun K hK => ?_)
             refine goes_ Try.func45 (by kernel_rfl) rfl #[.agg #[.int .i64 ((rd_T24 l0_5 x3_2).f0), .int .i64 ((rd_T24 l0_5 x3_2).f1), .slice A135_2 ((rd_T24 l0_5 x3_2).f2).length c135_2, .string ((rd_T24 l0_5 x3_2).f3)]] (by rfl) rfl rfl (by (try simp only [List.map_toArray, List.map_cons, List.map_nil]); first | done | rfl | (simp only [List.length_drop, List.length_take]; rfl)) ?_
             with_reducible refine (spec_MailOk.calls k2 ((rd_T24 l0_5 x3_2).f0) ((rd_T24 l0_5 x3_2).f1) _ _ ((rd_T24 l0_5 x3_2).f2) ((rd_T24 l0_5 x3_2).f3) true _ ?side1 ?side2 A35.out).mono ?_
             (case side1 => repeat (first | exact (Kd.C_below HR135_2.out HB.out) | (with_reducible refine Kd.C_alloc ?_ _) | (with_reducible refine Kd.C_drewN ?_ _) | (with_reducible refine Kd.C_drew ?_)))
             (case side2 => exact HC135_2.out)
             rintro e w67 ⟨rfl, hb⟩
             refine ⟨_, rfl, ?_⟩
             have n0_ := Aside0.mk (kB BK129.out hb)
             have n1_ := Aside0.mk (kB BK136.out hb)
             have n2_ := Aside0.mk (below_step aH hb)
             clear BK129
             clear BK136
             clear HB
             have BK129 := n0_
             have BK136 := n1_
             have HB := n2_
             clear n0_ n1_ n2_
             (try clear hb)
             (try clear hb2)
             (try clear hk)
             (try clear hi)
             refine hK.out _ _ ⟨cR BK136.out 0, cR BK136.out 1, cR BK136.out 2, cR BK136.out 3, cR BK129.out 0, cR BK129.out 1, cR BK129.out 2, cR BK129.out 3, cR BK129.out 4, cR BK129.out 5, cR BK129.out 6⟩ (fun hHeld => ?_)
             clear hK K
             refine nP 52 ?_
             refine pP 2 53 bb3_3 ?_
             refine pP 3 54 bb3_4 ?_
             refine pP 4 55 bb3_5 ?_
             refine pP 6 57 bb3_6 ?_
             refine tP 5 56 bb3_7 ?_
             refine tP 7 58 bb3_8 ?_
             refine pP 8 59 bb3_9 ?_
             refine pP 9 60 bb3_10 ?_
             refine pP 10 61 bb3_11 ?_
             refine pP 11 62 bb3_12 ?_
             refine pP 12 63 bb3_13 ?_
             refine pP 13 64 bb3_14 ?_
             refine pU 14 65 bb3_15 ?_
             refine pU 15 66 bb3_16 ?_
             refine pU 16 67 bb3_17 ?_
             refine pU 17 68 bb3_18 ?_
             refine pU 18 69 bb3_19 ?_
             refine pU 19 70 bb3_20 ?_
             refine pU 20 71 bb3_21 ?_
             refine pU 21 72 bb3_22 ?_
             refine pU 22 73 bb3_23 ?_
             refine pU 23 74 bb3_24 ?_
             refine pP 24 75 bb3_25 ?_
             refine pP 25 76 bb3_26 ?_
             refine pP 26 77 bb3_27 ?_
             refine pP 27 78 bb3_28 ?_
             refine pP 29 80 bb3_48 ?_
             refine tP 28 79 bb3_30 ?_
             refine tP 30 81 bb3_31 ?_
             refine one_ (i := 31) (N := some 82) bb3_32 rfl rfl (one_of HT_.out (by kernel_rfl)) (by decide) (fun K hK => ?_)
             refine goes_ Try.func76 (by kernel_rfl) rfl #[.slice A0_6 l0_6.length c0_6, .int .i64 ((rd_T24 l0_5 x3_2).f0)] (by rfl) rfl rfl (by (try simp only [List.map_toArray, List.map_cons, List.map_nil]); first | done | rfl | (simp only [List.length_drop, List.length_take]; rfl)) ?_
             with_reducible refine (spec_l06In.calls k2 _ _ l0_6 ((rd_T24 l0_5 x3_2).f0) false _ ?side1 ?side2 A59.out).mono ?_
             (case side1 => repeat (first | exact (Kd.C_below HR0_6.out HB.out) | (with_reducible refine Kd.C_alloc ?_ _) | (with_reducible refine Kd.C_drewN ?_ _) | (with_reducible refine Kd.C_drew ?_)))
             (case side2 => exact HC0_6.out)
             rintro e w' ⟨rfl, ⟨nd, rfl⟩⟩
             refine ⟨_, rfl, ?_⟩
             refine hK.out _ _ ⟨cR BK136.out 0, cR BK136.out 1, cR BK136.out 2, cR BK136.out 3, cR BK129.out 0, cR BK129.out 1, cR BK129.out 2, cR BK129.out 3, cR BK129.out 4, cR BK129.out 5, cR BK129.out 6⟩ (fun hHeld => ?_)
             clear hK K
             refine nP 82 ?_
             refine pP 32 83 bb3_33 ?_
             refine pP 33 84 bb3_34 ?_
             refine pP 35 86 bb3_49 ?_
             refine pP 38 89 bb3_50 ?_
             refine tP 34 85 bb3_51 ?_
             refine tP 36 87 bb3_52 ?_
             refine one_ (i := 37) (N := some 88) bb3_39 rfl rfl (one_of HT_.out (by kernel_rfl)) (by decide) (fun K hK => ?_)
             refine goes_ Try.func77 (by kernel_rfl) rfl #[.agg #[.int .i64 a0_0, .string a0_1, .int .i64 a0_2, .int .i64 a0_3, .int .i64 a0_4, .slice (some ad135) l0_5.length c0_5, .slice A0_6 l0_6.length c0_6], .int .i64 ((rd_T24 l0_5 x3_2).f0)] (by rfl) rfl rfl (by (try simp only [List.map_toArray, List.map_cons, List.map_nil]); first | done | rfl | (simp only [List.length_drop, List.length_take]; rfl)) ?_
             with_reducible refine (spec_MailAt.calls k2 a0_0 a0_1 a0_2 a0_3 a0_4 _ _ l0_5 _ _ l0_6 ((rd_T24 l0_5 x3_2).f0) t142 _ ?side1 ?side2 ?side3 ?side4 A64.out).mono ?_
             (case side1 => repeat (first | exact (Kd.C_below HR0_5.out aH) | (with_reducible refine Kd.C_alloc ?_ _) | (with_reducible refine Kd.C_drewN ?_ _) | (with_reducible refine Kd.C_drew ?_)))
             (case side2 => exact HC0_5.out)
             (case side3 => repeat (first | exact (Kd.C_below HR0_6.out aH) | (with_reducible refine Kd.C_alloc ?_ _) | (with_reducible refine Kd.C_drewN ?_ _) | (with_reducible refine Kd.C_drew ?_)))
             (case side4 => exact HC0_6.out)
             rintro e w68 ⟨rfl, hb⟩
             refine ⟨_, rfl, ?_⟩
             have n0_ := Aside0.mk (kB BK129.out hb)
             have n1_ := Aside0.mk (kB BK136.out hb)
             have n2_ := Aside0.mk (below_step aH hb)
             clear BK129
             clear BK136
             clear HB
             have BK129 := n0_
             have BK136 := n1_
             have HB := n2_
             clear n0_ n1_ n2_
             (try clear hb)
             (try clear hb2)
             (try clear hk)
             (try clear hi)
             refine hK.out _ _ ⟨cR BK136.out 0, cR BK136.out 1, cR BK136.out 2, cR BK136.out 3, cR BK129.out 0, cR BK129.out 1, cR BK129.out 2, cR BK129.out 3, cR BK129.out 4, cR BK129.out 5, cR BK129.out 6⟩ (fun hHeld => ?_)
             clear hK K
             refine nP 88 ?_
             refine pP 39 90 bb3_40 ?_
             refine pP 40 91 bb3_41 ?_
             refine done_ (done_of HT_.out (by kernel_rfl)) ?_
             try go_wp2
             go_meet
             case rel => exact ⟨_, ((t142 != x3_2)), aF, H', ⟨by have := HJ1.out; have := HK2.out; first | omega | exact Nat.le_refl _⟩, ⟨aB BK129.out⟩, ⟨aB BK136.out⟩, ⟨aH⟩⟩
         ·replace c36 := Bool.eq_false_iff.mpr c36
          subst c36
          have H1 := wF H
          clear H
          have H := H1
          clear H1
          have H' := Aside0.mk H
          clear H
          try go_wp2
          have n0_ : Aside0 (((((w32.setCell ⟨gb136, 0, none⟩ (.int .i64 ((rd_T24 l0_5 x3_2).f0))).setCell ⟨gb136, 1, none⟩ (.int .i64 ((rd_T24 l0_5 x3_2).f1))).setCell ⟨gb136, 2, none⟩ (.slice A135_2 ((rd_T24 l0_5 x3_2).f2).length c135_2)).setCell ⟨gb136, 3, none⟩ (.string ((rd_T24 l0_5 x3_2).f3))).heap[gb129]? = some (.cells #[.int .i64 a0_0, .string a0_1, .int .i64 a0_2, .int .i64 a0_3, .int .i64 a0_4, .slice (some ad135) l0_5.length c0_5, .slice A0_6 l0_6.length c0_6] 59 (0, 0))) := ⟨by (with_reducible repeat (first | refine blk_drewN ?_ _ | refine blk_drew ?_ | refine blk_alloc ?_ _)); refine blk_far ?_ NB129_136.out _; (with_reducible repeat (first | refine blk_drewN ?_ _ | refine blk_drew ?_ | refine blk_alloc ?_ _)); refine blk_far ?_ NB129_136.out _; (with_reducible repeat (first | refine blk_drewN ?_ _ | refine blk_drew ?_ | refine blk_alloc ?_ _)); refine blk_far ?_ NB129_136.out _; (with_reducible repeat (first | refine blk_drewN ?_ _ | refine blk_drew ?_ | refine blk_alloc ?_ _)); refine blk_far ?_ NB129_136.out _; (with_reducible repeat (first | refine blk_drewN ?_ _ | refine blk_drew ?_ | refine blk_alloc ?_ _)); exact BK129.out⟩
          have n1_ : Aside0 (((((w32.setCell ⟨gb136, 0, none⟩ (.int .i64 ((rd_T24 l0_5 x3_2).f0))).setCell ⟨gb136, 1, none⟩ (.int .i64 ((rd_T24 l0_5 x3_2).f1))).setCell ⟨gb136, 2, none⟩ (.slice A135_2 ((rd_T24 l0_5 x3_2).f2).length c135_2)).setCell ⟨gb136, 3, none⟩ (.string ((rd_T24 l0_5 x3_2).f3))).heap[gb136]? = some (.cells #[.int .i64 ((rd_T24 l0_5 x3_2).f0), .int .i64 ((rd_T24 l0_5 x3_2).f1), .slice A135_2 ((rd_T24 l0_5 x3_2).f2).length c135_2, .string ((rd_T24 l0_5 x3_2).f3)] 24 (0, 0))) := ⟨by (with_reducible repeat (first | refine blk_drewN ?_ _ | refine blk_drew ?_ | refine blk_alloc ?_ _)); refine blk_put (cs := #[.int .i64 ((rd_T24 l0_5 x3_2).f0), .int .i64 ((rd_T24 l0_5 x3_2).f1), .slice A135_2 ((rd_T24 l0_5 x3_2).f2).length c135_2, .string (⟨#[]⟩ : ByteArray)]) ?_ 3 _ rfl; (with_reducible repeat (first | refine blk_drewN ?_ _ | refine blk_drew ?_ | refine blk_alloc ?_ _)); refine blk_put (cs := #[.int .i64 ((rd_T24 l0_5 x3_2).f0), .int .i64 ((rd_T24 l0_5 x3_2).f1), .slice none 0 0, .string (⟨#[]⟩ : ByteArray)]) ?_ 2 _ rfl; (with_reducible repeat (first | refine blk_drewN ?_ _ | refine blk_drew ?_ | refine blk_alloc ?_ _)); refine blk_put (cs := #[.int .i64 ((rd_T24 l0_5 x3_2).f0), .int .i64 0, .slice none 0 0, .string (⟨#[]⟩ : ByteArray)]) ?_ 1 _ rfl; (with_reducible repeat (first | refine blk_drewN ?_ _ | refine blk_drew ?_ | refine blk_alloc ?_ _)); refine blk_put (cs := #[.int .i64 0, .int .i64 0, .slice none 0 0, .string (⟨#[]⟩ : ByteArray)]) ?_ 0 _ rfl; (with_reducible repeat (first | refine blk_drewN ?_ _ | refine blk_drew ?_ | refine blk_alloc ?_ _)); exact BK136.out⟩
          have n2_ : Aside0 (Below w.heap.size w ((((w32.setCell ⟨gb136, 0, none⟩ (.int .i64 ((rd_T24 l0_5 x3_2).f0))).setCell ⟨gb136, 1, none⟩ (.int .i64 ((rd_T24 l0_5 x3_2).f1))).setCell ⟨gb136, 2, none⟩ (.slice A135_2 ((rd_T24 l0_5 x3_2).f2).length c135_2)).setCell ⟨gb136, 3, none⟩ (.string ((rd_T24 l0_5 x3_2).f3)))) := ⟨aH⟩
          (try clear BK129)
          (try clear BK136)
          (try clear HB)
          generalize ((((w32.setCell ⟨gb136, 0, none⟩ (.int .i64 ((rd_T24 l0_5 x3_2).f0))).setCell ⟨gb136, 1, none⟩ (.int .i64 ((rd_T24 l0_5 x3_2).f1))).setCell ⟨gb136, 2, none⟩ (.slice A135_2 ((rd_T24 l0_5 x3_2).f2).length c135_2)).setCell ⟨gb136, 3, none⟩ (.string ((rd_T24 l0_5 x3_2).f3))) = w69 at n0_ n1_ n2_ ⊢
          have BK129 := n0_
          have BK136 := n1_
          have HB := n2_
          clear n0_ n1_ n2_
          have n0_ := Aside0.mk (blk_drew BK129.out)
          have n1_ := Aside0.mk (blk_drew BK136.out)
          have n2_ := Aside0.mk (below_drew1 HB.out)
          clear BK129
          clear BK136
          clear HB
          have BK129 := n0_
          have BK136 := n1_
          have HB := n2_
          clear n0_ n1_ n2_
          refine start_ (n := 41) (S := fun w' => w'.cell? ⟨gb136, 0, none⟩ = some (.int .i64 ((rd_T24 l0_5 x3_2).f0)) ∧ w'.cell? ⟨gb136, 1, none⟩ = some (.int .i64 ((rd_T24 l0_5 x3_2).f1)) ∧ w'.cell? ⟨gb136, 2, none⟩ = some (.slice A135_2 ((rd_T24 l0_5 x3_2).f2).length c135_2) ∧ w'.cell? ⟨gb136, 3, none⟩ = some (.string ((rd_T24 l0_5 x3_2).f3))) (ds := []) bb3_0 (by kernel_rfl) rfl rfl ⟨cR BK136.out 0, cR BK136.out 1, cR BK136.out 2, cR BK136.out 3⟩ (fun hHeld => ?_); refine with_tabW spec_BoxOk.tab7 spec_BoxOk.bits7 (fun HT_ HW_ => ?_)
          generalize w69.drew = w70 at BK129 BK136 HB hHeld ⊢
          refine tP 0 51 bb3_1 ?_
          refine one_ (i := 1) (N := some 52) bb3_2 rfl rfl (one_of HT_.out (by kernel_rfl)) (by decide) (fun K hK => ?_)
          refine goes_ Try.func45 (by kernel_rfl) rfl #[.agg #[.int .i64 ((rd_T24 l0_5 x3_2).f0), .int .i64 ((rd_T24 l0_5 x3_2).f1), .slice A135_2 ((rd_T24 l0_5 x3_2).f2).length c135_2, .string ((rd_T24 l0_5 x3_2).f3)]] (by rfl) rfl rfl (by (try simp only [List.map_toArray, List.map_cons, List.map_nil]); first | done | rfl | (simp only [List.length_drop, List.length_take]; rfl)) ?_
          with_reducible refine (spec_MailOk.calls k2 ((rd_T24 l0_5 x3_2).f0) ((rd_T24 l0_5 x3_2).f1) _ _ ((rd_T24 l0_5 x3_2).f2) ((rd_T24 l0_5 x3_2).f3) false _ ?side1 ?side2 A35.out).mono ?_
          (case side1 => repeat (first | exact (Kd.C_below HR135_2.out HB.out) | (with_reducible refine Kd.C_alloc ?_ _) | (with_reducible refine Kd.C_drewN ?_ _) | (with_reducible refine Kd.C_drew ?_)))
          (case side2 => exact HC135_2.out)
          rintro e w71 ⟨rfl, hb⟩
          refine ⟨_, rfl, ?_⟩
          have n0_ := Aside0.mk (kB BK129.out hb)
          have n1_ := Aside0.mk (kB BK136.out hb)
          have n2_ := Aside0.mk (below_step aH hb)
          clear BK129
          clear BK136
          clear HB
          have BK129 := n0_
          have BK136 := n1_
          have HB := n2_
          clear n0_ n1_ n2_
          (try clear hb)
          (try clear hb2)
          (try clear hk)
          (try clear hi)
          refine hK.out _ _ ⟨cR BK136.out 0, cR BK136.out 1, cR BK136.out 2, cR BK136.out 3⟩ (fun hHeld => ?_)
          clear hK K
          refine nP 52 ?_
          refine pP 2 53 bb3_3 ?_
          refine pP 3 54 bb3_4 ?_
          refine pU 4 55 bb3_5 ?_
          refine pU 5 56 (bA 41 63) ?_
          refine pU 6 57 bb3_7 ?_
          refine pU 7 58 bb3_8 ?_
          refine pU 8 59 bb3_9 ?_
          refine pP 9 60 bb3_10 ?_
          refine pP 10 61 bb3_11 ?_
          refine pU 11 62 bb3_12 ?_
          refine pU 12 63 bb3_13 ?_
          refine pU 13 64 bb3_14 ?_
          refine pU 14 65 bb3_15 ?_
          refine pU 15 66 bb3_16 ?_
          refine pU 16 67 bb3_17 ?_
          refine pU 17 68 bb3_18 ?_
          refine pU 18 69 bb3_19 ?_
          refine pU 19 70 bb3_20 ?_
          refine pU 20 71 bb3_21 ?_
          refine pU 21 72 bb3_22 ?_
          refine pU 22 73 bb3_23 ?_
          refine pU 23 74 bb3_24 ?_
          refine pU 24 75 bb3_25 ?_
          refine pP 25 76 bb3_26 ?_
          refine pP 26 77 bb3_27 ?_
          refine pU 27 78 bb3_28 ?_
          refine pU 28 79 bb3_29 ?_
          refine pU 29 80 bb3_30 ?_
          refine pU 30 81 bb3_31 ?_
          refine pU 31 82 bb3_32 ?_
          refine pP 32 83 bb3_33 ?_
          refine pP 33 84 bb3_34 ?_
          refine pU 34 85 bb3_35 ?_
          refine pU 35 86 bb3_36 ?_
          refine pU 36 87 bb3_37 ?_
          refine pU 37 88 bb3_38 ?_
          refine pU 38 89 bb3_39 ?_
          refine pU 39 90 bb3_40 ?_
          refine pP 40 91 bb3_41 ?_
          refine done_ (done_of HT_.out (by kernel_rfl)) ?_
          try go_wp2
          go_meet
          case rel => exact ⟨_, (true), aF, H', ⟨by have := HJ1.out; have := HK2.out; first | omega | exact Nat.le_refl _⟩, ⟨aB BK129.out⟩, ⟨aB BK136.out⟩, ⟨aH⟩⟩
        case rest =>
         clear HC30
         try clear c1
         try clear p2
         try clear c3
         try clear c4
         try clear c7
         try clear c13
         try clear c36
         try clear c45
         obtain ⟨kq, x91_29, rfl, HA, HJ29, BK129, BK136, HB⟩ := hcut
         cases kq with
         | zero => exact absurd HA.out (by simp [spec_BoxOk.j2])
         | succ kj29 =>
          have H := HA.out
          clear HA
          simp only [spec_BoxOk.j2] at H
          by_cases c72 : x91_29 = true
          ·subst c72
           have H1 := wT H
           clear H
           have H := H1
           clear H1
           obtain rfl := Option.some.inj H
           go_wp2
           go_ret
           exact ⟨by first | rfl | (simp [errW_none, errW_some] <;> rfl) | (simp [*, errW_none, errW_some] <;> rfl), aH⟩
          ·replace c72 := Bool.eq_false_iff.mpr c72
           subst c72
           have H1 := wF H
           clear H
           have H := H1
           clear H1
           have H' := Aside0.mk H
           clear H
           go_wp2
           go_roundg kj29
           case measure => have := HJ1.out; have := HK2.out; have := HJ29.out; omega
           case rel => exact ⟨(wrap64 (x3_2 + 1)), aF, H', ⟨by have := HJ1.out; have := HK2.out; have := HJ29.out; omega⟩, ⟨aB BK129.out⟩, ⟨aH⟩⟩
       ·rw [if_neg c29] at H
        exact absurd H (by simp)
      ·rw [if_neg c28] at H
       have c28b0 : decide (x3_2 < (l0_5.length : Int)) = false := decide_eq_false c28
       clear c28
       obtain rfl := Option.some.inj H
       have hcz73_0 : wr.cell? ⟨gb129, 0, none⟩ = some (.int .i64 a0_0) := cR BK129.out 0
       have hcz73_1 : wr.cell? ⟨gb129, 1, none⟩ = some (.string a0_1) := cR BK129.out 1
       have hcz73_2 : wr.cell? ⟨gb129, 2, none⟩ = some (.int .i64 a0_2) := cR BK129.out 2
       have hcz73_3 : wr.cell? ⟨gb129, 3, none⟩ = some (.int .i64 a0_3) := cR BK129.out 3
       have hcz73_4 : wr.cell? ⟨gb129, 4, none⟩ = some (.int .i64 a0_4) := cR BK129.out 4
       have hcz73_5 : wr.cell? ⟨gb129, 5, none⟩ = some (.slice A0_5 l0_5.length c0_5) := cR BK129.out 5
       have hcz73_6 : wr.cell? ⟨gb129, 6, none⟩ = some (.slice A0_6 l0_6.length c0_6) := cR BK129.out 6
       have hfz73_0 := blk_frozen BK129.out 0
       have hfz73_1 := blk_frozen BK129.out 1
       have hfz73_2 := blk_frozen BK129.out 2
       have hfz73_3 := blk_frozen BK129.out 3
       have hfz73_4 := blk_frozen BK129.out 4
       have hfz73_5 := blk_frozen BK129.out 5
       have hfz73_6 := blk_frozen BK129.out 6
       go_wp2
       go_ret
       exact ⟨by first | rfl | (simp [errW_none, errW_some] <;> rfl) | (simp [*, errW_none, errW_some] <;> rfl), aH⟩

end Go.Proofs.Ytjlffencbaifeaa.PFnExactBoxOk
