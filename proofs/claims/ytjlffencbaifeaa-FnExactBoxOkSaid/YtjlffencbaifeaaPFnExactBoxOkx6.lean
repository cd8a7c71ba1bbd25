-- Written for this claim by the session's own wip/myprint.py (a patched run of the kit's printer). Not trusted: Lean checks it.
import Derived.Test.YtjlffencbaifeaaPFnExactBoxOkx0
import Derived.Test.YtjlffencbaifeaaPFnExactBoxOkx4
import Derived.Test.YtjlffencbaifeaaPFnExactBoxOkx5
namespace Go.Proofs.Ytjlffencbaifeaa.PFnExactBoxOk
open Go.RowKit Go.Proofs.YtjlffencbaifeaaW.PrintWords Go.Proofs.YtjlffencbaifeaaW.PrintLast Go.Proofs.YtjlffencbaifeaaW.PrintMore
abbrev bb6_0 : Array Bool := (bA 41 0)
abbrev bb6_1 : Array Bool := (bA 41 1)
abbrev bb6_2 : Array Bool := (bA 41 3)
abbrev bb6_3 : Array Bool := (bA 41 7)
abbrev bb6_4 : Array Bool := (bA 41 15)
abbrev bb6_5 : Array Bool := (bA 41 31)
abbrev bb6_6 : Array Bool := (bA 41 95)
abbrev bb6_7 : Array Bool := (bA 41 127)
abbrev bb6_8 : Array Bool := (bA 41 255)
abbrev bb6_9 : Array Bool := (bA 41 511)
abbrev bb6_10 : Array Bool := (bA 41 1023)
abbrev bb6_11 : Array Bool := (bA 41 2047)
abbrev bb6_12 : Array Bool := (bA 41 4095)
abbrev bb6_13 : Array Bool := (bA 41 8191)
abbrev bb6_14 : Array Bool := (bA 41 16383)
abbrev bb6_15 : Array Bool := (bA 41 32767)
abbrev bb6_16 : Array Bool := (bA 41 65535)
abbrev bb6_17 : Array Bool := (bA 41 131071)
abbrev bb6_18 : Array Bool := (bA 41 262143)
abbrev bb6_19 : Array Bool := (bA 41 524287)
abbrev bb6_20 : Array Bool := (bA 41 1048575)
abbrev bb6_21 : Array Bool := (bA 41 2097151)
abbrev bb6_22 : Array Bool := (bA 41 4194303)
abbrev bb6_23 : Array Bool := (bA 41 8388607)
abbrev bb6_24 : Array Bool := (bA 41 16777215)
abbrev bb6_25 : Array Bool := (bA 41 33554431)
abbrev bb6_26 : Array Bool := (bA 41 67108863)
abbrev bb6_27 : Array Bool := (bA 41 134217727)
abbrev bb6_28 : Array Bool := (bA 41 268435455)
abbrev bb6_29 : Array Bool := (bA 41 536870911)
abbrev bb6_30 : Array Bool := (bA 41 1073741823)
abbrev bb6_31 : Array Bool := (bA 41 2147483647)
abbrev bb6_32 : Array Bool := (bA 41 4294967295)
abbrev bb6_33 : Array Bool := (bA 41 8589934591)
abbrev bb6_34 : Array Bool := (bA 41 17179869183)
abbrev bb6_35 : Array Bool := (bA 41 34359738367)
abbrev bb6_36 : Array Bool := (bA 41 68719476735)
abbrev bb6_37 : Array Bool := (bA 41 137438953471)
abbrev bb6_38 : Array Bool := (bA 41 274877906943)
abbrev bb6_39 : Array Bool := (bA 41 549755813887)
abbrev bb6_40 : Array Bool := (bA 41 1099511627775)
abbrev bb6_41 : Array Bool := (bA 41 2199023255551)
abbrev bb6_42 : Array Bool := (bA 41 98303)
abbrev bb6_43 : Array Bool := (bA 41 229375)
abbrev bb6_44 : Array Bool := (bA 41 2326527)
abbrev bb6_45 : Array Bool := (bA 41 2359295)
abbrev bb6_46 : Array Bool := (bA 41 2621439)
abbrev bb6_47 : Array Bool := (bA 41 3145727)
abbrev bb6_48 : Array Bool := (bA 41 402653183)
abbrev bb6_49 : Array Bool := (bA 41 2550136831)
abbrev bb6_50 : Array Bool := (bA 41 2684354559)
abbrev bb6_51 : Array Bool := (bA 41 3221225471)
abbrev bb6_52 : Array Bool := (bA 41 206158430207)
attribute [local go_sem] gtr_str max2_str max2_int min2_int max_two min_two max_three min_three max_four min_four   -- for this text's walks alone
set_option linter.unusedVariables false
set_option linter.unusedSimpArgs false

/-! ### impl_BoxOk: function 34 -/
mutual
def impl_BoxOk.j0 : Nat → Bool → Int → ByteArray → Int → Int → Int → List (S24) → List Int → Option (Bool)
 | 0, _, _, _, _, _, _, _, _ => none
 | k + 1, x38, x213000, x213001, x213002, x213003, x213004, x213005, x213006 => if x38 = true then (some false) else (impl_BoxOk.l0 k x213005 (x213005.length : Int) 0 x213000 x213001 x213002 x213003 x213004 x213005 x213006)
def impl_BoxOk.l0 : Nat → List (S24) → Int → Int → Int → ByteArray → Int → Int → Int → List (S24) → List Int → Option (Bool)
 | 0, _, _, _, _, _, _, _, _, _, _ => none
 | k + 1, x40, x41, x42, x213000, x213001, x213002, x213003, x213004, x213005, x213006 => if x42 < x41 then (if 0 ≤ x42 then (if x42 < (x40.length : Int) then ((impl_MailOk.f k ((rd_T24 x40 x42).f0) ((rd_T24 x40 x42).f1) ((rd_T24 x40 x42).f2) ((rd_T24 x40 x42).f3)).bind fun t220 => (if t220 = true then (if ((rd_T24 x40 x42).f1) ≥ x213004 then (impl_BoxOk.j2 k x40 x41 x42 true x213000 x213001 x213002 x213003 x213004 x213005 x213006) else (if x42 > 0 then (if 0 ≤ (wrap64 (x42 - 1)) then (if (wrap64 (x42 - 1)) < (x213005.length : Int) then (if ((rd_T24 x213005 (wrap64 (x42 - 1))).f1) ≥ ((rd_T24 x40 x42).f1) then (impl_BoxOk.j2 k x40 x41 x42 true x213000 x213001 x213002 x213003 x213004 x213005 x213006) else ((impl_MailAt.f x213000 x213001 x213002 x213003 x213004 x213005 x213006 ((rd_T24 x40 x42).f0)).bind fun t222 => (if t222 = x42 then ((slices_Contains_int_int.f k x213006 ((rd_T24 x40 x42).f0)).bind fun t223 => (impl_BoxOk.j2 k x40 x41 x42 t223 x213000 x213001 x213002 x213003 x213004 x213005 x213006)) else (impl_BoxOk.j2 k x40 x41 x42 true x213000 x213001 x213002 x213003 x213004 x213005 x213006)))) else (none)) else (none)) else ((impl_MailAt.f x213000 x213001 x213002 x213003 x213004 x213005 x213006 ((rd_T24 x40 x42).f0)).bind fun t224 => (if t224 = x42 then ((slices_Contains_int_int.f k x213006 ((rd_T24 x40 x42).f0)).bind fun t225 => (impl_BoxOk.j2 k x40 x41 x42 t225 x213000 x213001 x213002 x213003 x213004 x213005 x213006)) else (impl_BoxOk.j2 k x40 x41 x42 true x213000 x213001 x213002 x213003 x213004 x213005 x213006))))) else (impl_BoxOk.j2 k x40 x41 x42 true x213000 x213001 x213002 x213003 x213004 x213005 x213006))) else (none)) else (none)) else (some true)
def impl_BoxOk.j2 : Nat → List (S24) → Int → Int → Bool → Int → ByteArray → Int → Int → Int → List (S24) → List Int → Option (Bool)
 | 0, _, _, _, _, _, _, _, _, _, _, _ => none
 | k + 1, x40, x41, x42, x87, x213000, x213001, x213002, x213003, x213004, x213005, x213006 => if x87 = true then (some false) else (impl_BoxOk.l0 k x40 x41 (wrap64 (x42 + 1)) x213000 x213001 x213002 x213003 x213004 x213005 x213006)
end
def impl_BoxOk.f (k : Nat) (a0_0 : Int) (a0_1 : ByteArray) (a0_2 : Int) (a0_3 : Int) (a0_4 : Int) (l0_5 : List (S24)) (l0_6 : List Int) : Option (Bool) := (impl_isGid.f a0_0).bind fun t213 => (if t213 = true then ((impl_NameOk.f k a0_1).bind fun t214 => (if t214 = true then ((impl_StampOk.f a0_2 a0_3).bind fun t215 => (if t215 = true then ((impl_within.f a0_4 1 10000).bind fun t216 => (if t216 = true then (if (l0_5.length : Int) > 10 then (impl_BoxOk.j0 k true a0_0 a0_1 a0_2 a0_3 a0_4 l0_5 l0_6) else ((impl_areGids.f k l0_6 40).bind fun t217 => (impl_BoxOk.j0 k (!t217) a0_0 a0_1 a0_2 a0_3 a0_4 l0_5 l0_6))) else (impl_BoxOk.j0 k true a0_0 a0_1 a0_2 a0_3 a0_4 l0_5 l0_6))) else (impl_BoxOk.j0 k true a0_0 a0_1 a0_2 a0_3 a0_4 l0_5 l0_6))) else (impl_BoxOk.j0 k true a0_0 a0_1 a0_2 a0_3 a0_4 l0_5 l0_6))) else (impl_BoxOk.j0 k true a0_0 a0_1 a0_2 a0_3 a0_4 l0_5 l0_6))
theorem impl_BoxOk.mono_l : ∀ k, (∀ y0 y1 y2 y3 y4 y5 y6 y7, LeO (impl_BoxOk.j0 k y0 y1 y2 y3 y4 y5 y6 y7) (impl_BoxOk.j0 (k + 1) y0 y1 y2 y3 y4 y5 y6 y7)) ∧ (∀ y0 y1 y2 y3 y4 y5 y6 y7 y8 y9, LeO (impl_BoxOk.l0 k y0 y1 y2 y3 y4 y5 y6 y7 y8 y9) (impl_BoxOk.l0 (k + 1) y0 y1 y2 y3 y4 y5 y6 y7 y8 y9)) ∧ (∀ y0 y1 y2 y3 y4 y5 y6 y7 y8 y9 y10, LeO (impl_BoxOk.j2 k y0 y1 y2 y3 y4 y5 y6 y7 y8 y9 y10) (impl_BoxOk.j2 (k + 1) y0 y1 y2 y3 y4 y5 y6 y7 y8 y9 y10))
 | 0 => ⟨fun _ _ _ _ _ _ _ _ r h => by simp [impl_BoxOk.j0] at h, fun _ _ _ _ _ _ _ _ _ _ r h => by simp [impl_BoxOk.l0] at h, fun _ _ _ _ _ _ _ _ _ _ _ r h => by simp [impl_BoxOk.j2] at h⟩
 | k + 1 => by
  obtain ⟨ih0, ih1, ih2⟩ := impl_BoxOk.mono_l k
  refine ⟨?_, ?_, ?_⟩
  ·intro y0 y1 y2 y3 y4 y5 y6 y7
   unfold impl_BoxOk.j0
   repeat' first
   | (with_reducible exact ih0 _ _ _ _ _ _ _ _)
   | (with_reducible exact ih1 _ _ _ _ _ _ _ _ _ _)
   | (with_reducible exact ih2 _ _ _ _ _ _ _ _ _ _ _)
   | (with_reducible exact impl_MailOk.mono _ _ _ _ _)
   | (with_reducible exact impl_NameOk.mono _ _)
   | (with_reducible exact impl_areGids.mono _ _ _)
   | (with_reducible exact slices_Contains_int_int.mono _ _ _)
   | (with_reducible exact LeO.refl _)
   | (with_reducible exact LeO.none _)
   | (with_reducible refine LeO.ite ?_ ?_)
   | (with_reducible refine LeO.bind ?_ (fun _ => ?_))
   | exact ih0 _ _ _ _ _ _ _ _
   | exact ih1 _ _ _ _ _ _ _ _ _ _
   | exact ih2 _ _ _ _ _ _ _ _ _ _ _
   | exact impl_MailOk.mono _ _ _ _ _
   | exact impl_NameOk.mono _ _
   | exact impl_areGids.mono _ _ _
   | exact slices_Contains_int_int.mono _ _ _
   | exact LeO.none _
   | refine LeO.ite ?_ ?_
   | refine LeO.bind ?_ (fun _ => ?_)
  ·intro y0 y1 y2 y3 y4 y5 y6 y7 y8 y9
   unfold impl_BoxOk.l0
   repeat' first
   | (with_reducible exact ih0 _ _ _ _ _ _ _ _)
   | (with_reducible exact ih1 _ _ _ _ _ _ _ _ _ _)
   | (with_reducible exact ih2 _ _ _ _ _ _ _ _ _ _ _)
   | (with_reducible exact impl_MailOk.mono _ _ _ _ _)
   | (with_reducible exact impl_NameOk.mono _ _)
   | (with_reducible exact impl_areGids.mono _ _ _)
   | (with_reducible exact slices_Contains_int_int.mono _ _ _)
   | (with_reducible exact LeO.refl _)
   | (with_reducible exact LeO.none _)
   | (with_reducible refine LeO.ite ?_ ?_)
   | (with_reducible refine LeO.bind ?_ (fun _ => ?_))
   | exact ih0 _ _ _ _ _ _ _ _
   | exact ih1 _ _ _ _ _ _ _ _ _ _
   | exact ih2 _ _ _ _ _ _ _ _ _ _ _
   | exact impl_MailOk.mono _ _ _ _ _
   | exact impl_NameOk.mono _ _
   | exact impl_areGids.mono _ _ _
   | exact slices_Contains_int_int.mono _ _ _
   | exact LeO.none _
   | refine LeO.ite ?_ ?_
   | refine LeO.bind ?_ (fun _ => ?_)
  ·intro y0 y1 y2 y3 y4 y5 y6 y7 y8 y9 y10
   unfold impl_BoxOk.j2
   repeat' first
   | (with_reducible exact ih0 _ _ _ _ _ _ _ _)
   | (with_reducible exact ih1 _ _ _ _ _ _ _ _ _ _)
   | (with_reducible exact ih2 _ _ _ _ _ _ _ _ _ _ _)
   | (with_reducible exact impl_MailOk.mono _ _ _ _ _)
   | (with_reducible exact impl_NameOk.mono _ _)
   | (with_reducible exact impl_areGids.mono _ _ _)
   | (with_reducible exact slices_Contains_int_int.mono _ _ _)
   | (with_reducible exact LeO.refl _)
   | (with_reducible exact LeO.none _)
   | (with_reducible refine LeO.ite ?_ ?_)
   | (with_reducible refine LeO.bind ?_ (fun _ => ?_))
   | exact ih0 _ _ _ _ _ _ _ _
   | exact ih1 _ _ _ _ _ _ _ _ _ _
   | exact ih2 _ _ _ _ _ _ _ _ _ _ _
   | exact impl_MailOk.mono _ _ _ _ _
   | exact impl_NameOk.mono _ _
   | exact impl_areGids.mono _ _ _
   | exact slices_Contains_int_int.mono _ _ _
   | exact LeO.none _
   | refine LeO.ite ?_ ?_
   | refine LeO.bind ?_ (fun _ => ?_)
theorem impl_BoxOk.mono : ∀ a0 a1 a2 a3 a4 a5 a6 k, LeO (impl_BoxOk.f k a0 a1 a2 a3 a4 a5 a6) (impl_BoxOk.f (k + 1) a0 a1 a2 a3 a4 a5 a6) := by
 intro a0 a1 a2 a3 a4 a5 a6 k
 obtain ⟨ih0, ih1, ih2⟩ := impl_BoxOk.mono_l k
 unfold impl_BoxOk.f
 repeat' first
   | (with_reducible exact ih0 _ _ _ _ _ _ _ _)
   | (with_reducible exact ih1 _ _ _ _ _ _ _ _ _ _)
   | (with_reducible exact ih2 _ _ _ _ _ _ _ _ _ _ _)
   | (with_reducible exact impl_MailOk.mono _ _ _ _ _)
   | (with_reducible exact impl_NameOk.mono _ _)
   | (with_reducible exact impl_areGids.mono _ _ _)
   | (with_reducible exact slices_Contains_int_int.mono _ _ _)
   | (with_reducible exact LeO.refl _)
   | (with_reducible exact LeO.none _)
   | (with_reducible refine LeO.ite ?_ ?_)
   | (with_reducible refine LeO.bind ?_ (fun _ => ?_))
   | exact ih0 _ _ _ _ _ _ _ _
   | exact ih1 _ _ _ _ _ _ _ _ _ _
   | exact ih2 _ _ _ _ _ _ _ _ _ _ _
   | exact impl_MailOk.mono _ _ _ _ _
   | exact impl_NameOk.mono _ _
   | exact impl_areGids.mono _ _ _
   | exact slices_Contains_int_int.mono _ _ _
   | exact LeO.none _
   | refine LeO.ite ?_ ?_
   | refine LeO.bind ?_ (fun _ => ?_)
def impl_BoxOk.T6 : Bool × List (List Nat × List Nat) := (true, [([], []), ([0], [0]), ([1], [1]), ([2, 1], [2]), ([3], [3]), ([4, 3], [3, 4]), ([3], [3]), ([6, 3], [3, 6]), ([5, 7, 3], [3, 5, 7]), ([3, 8], [3, 8]), ([9, 3], [9]), ([10], [10]), ([11, 10], [10, 11]), ([12, 10, 10], [10, 12]), ([13], [13]), ([14, 13], [13, 14]), ([13], [13]), ([16, 13], [13, 16]), ([15, 17, 13], [13, 15, 17]), ([18, 13], [13, 18]), ([19, 13], [13, 19]), ([13], [13]), ([21, 13], [13, 21]), ([20, 22, 13], [13, 20, 22]), ([13, 23, 10], [10, 13, 23]), ([10, 24], [10, 24]), ([25, 13], [25]), ([26], [26]), ([26], [26]), ([28, 26], [26, 28]), ([27, 29, 26, 26], [26, 27, 29]), ([26], [26]), ([30, 31, 26], [26, 30, 31]), ([26, 32], [26, 32]), ([33, 30], [33]), ([34], [34]), ([35, 34], [34, 35]), ([34], [34]), ([37, 34], [34, 37]), ([36, 38, 34, 34], [34, 36, 38]), ([34, 39], [34, 39])])
def impl_BoxOk.B6 : List Nat := [0, 1, 3, 7, 15, 31, 15, 79, 255, 511, 1023, 2047, 4095, 8191, 16383, 32767, 16383, 81919, 262143, 524287, 1048575, 16383, 2113535, 8388607, 16777215, 33554431, 67108863, 134217727, 134217727, 402653183, 1073741823, 134217727, 4294967295, 8589934591, 17179869183, 34359738367, 68719476735, 34359738367, 171798691839, 549755813887, 1099511627775]
theorem impl_BoxOk.tab6 : rtab .any (opsOf Try.f34 6) = impl_BoxOk.T6 := by kernel_rfl
theorem impl_BoxOk.bits6 : waitsOk impl_BoxOk.T6.2 impl_BoxOk.B6 = true := by kernel_rfl
set_option maxHeartbeats 8000000 in
set_option maxRecDepth 100000 in
theorem impl_BoxOk.calls (k : Nat) (a0_0 : Int) (a0_1 : ByteArray) (a0_2 : Int) (a0_3 : Int) (a0_4 : Int) (A0_5 : Option Addr) (c0_5 : Nat) (l0_5 : List (S24)) (A0_6 : Option Addr) (c0_6 : Nat) (l0_6 : List Int) (r : Bool) (w : World) (hr0_5 : Kd.C k24 w A0_5 l0_5.length l0_5) (hc0_5 : l0_5.length ≤ c0_5) (hr0_6 : Kd.C (Kd.int .i64) w A0_6 l0_6.length l0_6) (hc0_6 : l0_6.length ≤ c0_6) (h : impl_BoxOk.f k a0_0 a0_1 a0_2 a0_3 a0_4 l0_5 l0_6 = some r) :
  Calls Try.prog 34 #[.agg #[.int .i64 a0_0, .string a0_1, .int .i64 a0_2, .int .i64 a0_3, .int .i64 a0_4, .slice A0_5 l0_5.length c0_5, .slice A0_6 l0_6.length c0_6]] w fun e w' => e = .returned (.bool r) ∧ Below w.heap.size w w' := by
 have hu59 := Try.underlying59
 have hu36 := Try.underlying36
 have hu24 := Try.underlying24
 have HR0_5 := Aside0.mk hr0_5
 have HC0_5 := Aside0.mk hc0_5
 clear hr0_5 hc0_5
 have HR0_6 := Aside0.mk hr0_6
 have HC0_6 := Aside0.mk hc0_6
 clear hr0_6 hc0_6
 have HB := Aside0.mk (Below.refl w.heap.size w)
 have H := h
 unfold impl_BoxOk.f at H
 clear h
 have HC2 := Aside0.mk H
 clear H
 go_enter Try.func34, Try.ntmps34
 go_upto_region 1 with (first | ((with_reducible refine gate_dst (N := 1) rfl ?_); (try (refine gate_guard (by rfl) ?_; dsimp only)); refine bE 1 #[.int .i64 a0_0, .string a0_1, .int .i64 a0_2, .int .i64 a0_3, .int .i64 a0_4, .slice A0_5 l0_5.length c0_5, .slice A0_6 l0_6.length c0_6] 59 ?_; intro gb212 hg w3 hbox hb; have n0_ := Aside0.mk (below_step aH hb); have n1_ := Aside0.mk (hbox); have n2_ := Aside0.mk ((gS hg : w.heap.size ≤ gb212)); have n3_ := Aside0.mk ((gS hg : w.heap.size ≤ gb212)); clear HB; have HB := n0_; have BK212 := n1_; have GW212 := n2_; have GE212 := n3_; clear n0_ n1_ n2_ n3_; clear hb hbox hg))
 (try simp only [Act.put, List.setIfInBounds_toArray, List.set_cons_zero, List.set_cons_succ])
 go_cut [38] (fun v38 wc => ∃ (kq : Nat) (x38_1 : Bool), v38 = .bool x38_1 ∧ Aside0 (impl_BoxOk.j0 kq x38_1 a0_0 a0_1 a0_2 a0_3 a0_4 l0_5 l0_6 = some r) ∧ Aside0 (kq ≤ k) ∧ Aside0 (wc.heap[gb212]? = some (.cells #[.int .i64 a0_0, .string a0_1, .int .i64 a0_2, .int .i64 a0_3, .int .i64 a0_4, (.slice A0_5 l0_5.length c0_5), (.slice A0_6 l0_6.length c0_6)] 59 (0, 0))) ∧ Aside0 (Below w.heap.size w wc))
 case first =>
  have H := HC2.out
  clear HC2
  replace H := Option.bind_eq_some_iff.mp H
  obtain ⟨t213, A40, H⟩ := H
  try dsimp only at H
  have A4 := Aside0.mk A40
  clear A40
  by_cases c5 : t213 = true
  ·subst c5
   have H1 := wT H
   clear H
   have H := H1
   clear H1
   replace H := Option.bind_eq_some_iff.mp H
   obtain ⟨t214, A60, H⟩ := H
   try dsimp only at H
   have A6 := Aside0.mk A60
   clear A60
   by_cases c7 : t214 = true
   ·subst c7
    have H1 := wT H
    clear H
    have H := H1
    clear H1
    replace H := Option.bind_eq_some_iff.mp H
    obtain ⟨t215, A80, H⟩ := H
    try dsimp only at H
    have A8 := Aside0.mk A80
    clear A80
    by_cases c9 : t215 = true
    ·subst c9
     have H1 := wT H
     clear H
     have H := H1
     clear H1
     replace H := Option.bind_eq_some_iff.mp H
     obtain ⟨t216, A100, H⟩ := H
     try dsimp only at H
     have A10 := Aside0.mk A100
     clear A100
     by_cases c11 : t216 = true
     ·subst c11
      have H1 := wT H
      clear H
      have H := H1
      clear H1
      by_cases c12 : (l0_5.length : Int) > 10
      ·rw [if_pos c12] at H
       have c12b0 : decide (10 < (l0_5.length : Int)) = true := decide_eq_true c12
       have c12b1 : decide (10 < l0_5.length) = true := decide_eq_true (by omega)
       clear c12
       (first | rw [c12b0] | (simp only [i64_w, i32_w]; rw [c12b0]) | skip)
       have H' := Aside0.mk H
       clear H
       have hcz13_0 : w3.cell? ⟨gb212, 0, none⟩ = some (.int .i64 a0_0) := cR BK212.out 0
       have hcz13_1 : w3.cell? ⟨gb212, 1, none⟩ = some (.string a0_1) := cR BK212.out 1
       have hcz13_2 : w3.cell? ⟨gb212, 2, none⟩ = some (.int .i64 a0_2) := cR BK212.out 2
       have hcz13_3 : w3.cell? ⟨gb212, 3, none⟩ = some (.int .i64 a0_3) := cR BK212.out 3
       have hcz13_4 : w3.cell? ⟨gb212, 4, none⟩ = some (.int .i64 a0_4) := cR BK212.out 4
       have hcz13_5 : w3.cell? ⟨gb212, 5, none⟩ = some (.slice A0_5 l0_5.length c0_5) := cR BK212.out 5
       have hcz13_6 : w3.cell? ⟨gb212, 6, none⟩ = some (.slice A0_6 l0_6.length c0_6) := cR BK212.out 6
       have hfz13_0 := blk_frozen BK212.out 0
       have hfz13_1 := blk_frozen BK212.out 1
       have hfz13_2 := blk_frozen BK212.out 2
       have hfz13_3 := blk_frozen BK212.out 3
       have hfz13_4 := blk_frozen BK212.out 4
       have hfz13_5 := blk_frozen BK212.out 5
       have hfz13_6 := blk_frozen BK212.out 6
       go_wp2_with (first | ((with_reducible refine gate_callee (f := 80) rfl ?_); refine gL_ (some 7) Try.func80 #[.int .i64 a0_0] ?_; (with_reducible refine (impl_isGid.calls a0_0 true _ A4.out).mono ?_); rintro e w' ⟨rfl, ⟨nd, rfl⟩⟩; refine ⟨_, rfl, ?_⟩) | (go_at_call 81; (with_reducible refine (impl_NameOk.calls k a0_1 true _ A6.out).mono ?_); rintro e w' ⟨rfl, ⟨nd, rfl⟩⟩) | (go_at_call 82; (with_reducible refine (impl_StampOk.calls a0_2 a0_3 true _ A8.out).mono ?_); rintro e w14 ⟨rfl, hb⟩; have n0_ := Aside0.mk (kB BK212.out hb); have n1_ := Aside0.mk (below_step aH hb); clear BK212; clear HB; have BK212 := n0_; have HB := n1_; clear n0_ n1_; (try clear hb); (try clear hb2); (try clear hk); (try clear hi); have hcz15_0 : w14.cell? ⟨gb212, 0, none⟩ = some (.int .i64 a0_0) := cR BK212.out 0; have hcz15_1 : w14.cell? ⟨gb212, 1, none⟩ = some (.string a0_1) := cR BK212.out 1; have hcz15_2 : w14.cell? ⟨gb212, 2, none⟩ = some (.int .i64 a0_2) := cR BK212.out 2; have hcz15_3 : w14.cell? ⟨gb212, 3, none⟩ = some (.int .i64 a0_3) := cR BK212.out 3; have hcz15_4 : w14.cell? ⟨gb212, 4, none⟩ = some (.int .i64 a0_4) := cR BK212.out 4; have hcz15_5 : w14.cell? ⟨gb212, 5, none⟩ = some (.slice A0_5 l0_5.length c0_5) := cR BK212.out 5; have hcz15_6 : w14.cell? ⟨gb212, 6, none⟩ = some (.slice A0_6 l0_6.length c0_6) := cR BK212.out 6; have hfz15_0 := blk_frozen BK212.out 0; have hfz15_1 := blk_frozen BK212.out 1; have hfz15_2 := blk_frozen BK212.out 2; have hfz15_3 := blk_frozen BK212.out 3; have hfz15_4 := blk_frozen BK212.out 4; have hfz15_5 := blk_frozen BK212.out 5; have hfz15_6 := blk_frozen BK212.out 6) | (go_at_call 83; (with_reducible refine (impl_within.calls a0_4 1 10000 true _ A10.out).mono ?_); rintro e w' ⟨rfl, ⟨nd, rfl⟩⟩))
       go_meet
       case rel => exact ⟨_, (true), aF, H', ⟨aO⟩, ⟨aB BK212.out⟩, ⟨aH⟩⟩
      ·rw [if_neg c12] at H
       have c12b0 : decide (10 < (l0_5.length : Int)) = false := decide_eq_false c12
       have c12b1 : decide (10 < l0_5.length) = false := decide_eq_false (by omega)
       clear c12
       (first | rw [c12b0] | (simp only [i64_w, i32_w]; rw [c12b0]) | skip)
       replace H := Option.bind_eq_some_iff.mp H
       obtain ⟨t217, A160, H⟩ := H
       replace H : (impl_BoxOk.j0 k (!t217) a0_0 a0_1 a0_2 a0_3 a0_4 l0_5 l0_6) = some r := H
       have A16 := Aside0.mk A160
       clear A160
       have H' := Aside0.mk H
       clear H
       have hcz17_0 : w3.cell? ⟨gb212, 0, none⟩ = some (.int .i64 a0_0) := cR BK212.out 0
       have hcz17_1 : w3.cell? ⟨gb212, 1, none⟩ = some (.string a0_1) := cR BK212.out 1
       have hcz17_2 : w3.cell? ⟨gb212, 2, none⟩ = some (.int .i64 a0_2) := cR BK212.out 2
       have hcz17_3 : w3.cell? ⟨gb212, 3, none⟩ = some (.int .i64 a0_3) := cR BK212.out 3
       have hcz17_4 : w3.cell? ⟨gb212, 4, none⟩ = some (.int .i64 a0_4) := cR BK212.out 4
       have hcz17_5 : w3.cell? ⟨gb212, 5, none⟩ = some (.slice A0_5 l0_5.length c0_5) := cR BK212.out 5
       have hcz17_6 : w3.cell? ⟨gb212, 6, none⟩ = some (.slice A0_6 l0_6.length c0_6) := cR BK212.out 6
       have hfz17_0 := blk_frozen BK212.out 0
       have hfz17_1 := blk_frozen BK212.out 1
       have hfz17_2 := blk_frozen BK212.out 2
       have hfz17_3 := blk_frozen BK212.out 3
       have hfz17_4 := blk_frozen BK212.out 4
       have hfz17_5 := blk_frozen BK212.out 5
       have hfz17_6 := blk_frozen BK212.out 6
       go_wp2_with (first | ((with_reducible refine gate_callee (f := 80) rfl ?_); refine gL_ (some 7) Try.func80 #[.int .i64 a0_0] ?_; (with_reducible refine (impl_isGid.calls a0_0 true _ A4.out).mono ?_); rintro e w' ⟨rfl, ⟨nd, rfl⟩⟩; refine ⟨_, rfl, ?_⟩) | (go_at_call 81; (with_reducible refine (impl_NameOk.calls k a0_1 true _ A6.out).mono ?_); rintro e w' ⟨rfl, ⟨nd, rfl⟩⟩) | (go_at_call 82; (with_reducible refine (impl_StampOk.calls a0_2 a0_3 true _ A8.out).mono ?_); rintro e w18 ⟨rfl, hb⟩; have n0_ := Aside0.mk (kB BK212.out hb); have n1_ := Aside0.mk (below_step aH hb); clear BK212; clear HB; have BK212 := n0_; have HB := n1_; clear n0_ n1_; (try clear hb); (try clear hb2); (try clear hk); (try clear hi); have hcz19_0 : w18.cell? ⟨gb212, 0, none⟩ = some (.int .i64 a0_0) := cR BK212.out 0; have hcz19_1 : w18.cell? ⟨gb212, 1, none⟩ = some (.string a0_1) := cR BK212.out 1; have hcz19_2 : w18.cell? ⟨gb212, 2, none⟩ = some (.int .i64 a0_2) := cR BK212.out 2; have hcz19_3 : w18.cell? ⟨gb212, 3, none⟩ = some (.int .i64 a0_3) := cR BK212.out 3; have hcz19_4 : w18.cell? ⟨gb212, 4, none⟩ = some (.int .i64 a0_4) := cR BK212.out 4; have hcz19_5 : w18.cell? ⟨gb212, 5, none⟩ = some (.slice A0_5 l0_5.length c0_5) := cR BK212.out 5; have hcz19_6 : w18.cell? ⟨gb212, 6, none⟩ = some (.slice A0_6 l0_6.length c0_6) := cR BK212.out 6; have hfz19_0 := blk_frozen BK212.out 0; have hfz19_1 := blk_frozen BK212.out 1; have hfz19_2 := blk_frozen BK212.out 2; have hfz19_3 := blk_frozen BK212.out 3; have hfz19_4 := blk_frozen BK212.out 4; have hfz19_5 := blk_frozen BK212.out 5; have hfz19_6 := blk_frozen BK212.out 6) | (go_at_call 83; (with_reducible refine (impl_within.calls a0_4 1 10000 true _ A10.out).mono ?_); rintro e w' ⟨rfl, ⟨nd, rfl⟩⟩) | (go_at_call 84; (with_reducible refine (impl_areGids.calls k _ _ l0_6 40 t217 _ ?side1 ?side2 A16.out).mono ?_); (case side1 => repeat (first | exact (Kd.C_below HR0_6.out aH) | (with_reducible refine Kd.C_alloc ?_ _) | (with_reducible refine Kd.C_drewN ?_ _) | (with_reducible refine Kd.C_drew ?_))); (case side2 => exact HC0_6.out); rintro e w' ⟨rfl, ⟨nd, rfl⟩⟩))
       go_meet
       case rel => exact ⟨_, (!t217), aF, H', ⟨aO⟩, ⟨aB BK212.out⟩, ⟨aH⟩⟩
     ·replace c11 := Bool.eq_false_iff.mpr c11
      subst c11
      have H1 := wF H
      clear H
      have H := H1
      clear H1
      have H' := Aside0.mk H
      clear H
      have hcz20_0 : w3.cell? ⟨gb212, 0, none⟩ = some (.int .i64 a0_0) := cR BK212.out 0
      have hcz20_1 : w3.cell? ⟨gb212, 1, none⟩ = some (.string a0_1) := cR BK212.out 1
      have hcz20_2 : w3.cell? ⟨gb212, 2, none⟩ = some (.int .i64 a0_2) := cR BK212.out 2
      have hcz20_3 : w3.cell? ⟨gb212, 3, none⟩ = some (.int .i64 a0_3) := cR BK212.out 3
      have hcz20_4 : w3.cell? ⟨gb212, 4, none⟩ = some (.int .i64 a0_4) := cR BK212.out 4
      have hcz20_5 : w3.cell? ⟨gb212, 5, none⟩ = some (.slice A0_5 l0_5.length c0_5) := cR BK212.out 5
      have hcz20_6 : w3.cell? ⟨gb212, 6, none⟩ = some (.slice A0_6 l0_6.length c0_6) := cR BK212.out 6
      have hfz20_0 := blk_frozen BK212.out 0
      have hfz20_1 := blk_frozen BK212.out 1
      have hfz20_2 := blk_frozen BK212.out 2
      have hfz20_3 := blk_frozen BK212.out 3
      have hfz20_4 := blk_frozen BK212.out 4
      have hfz20_5 := blk_frozen BK212.out 5
      have hfz20_6 := blk_frozen BK212.out 6
      go_wp2_with (first | ((with_reducible refine gate_callee (f := 80) rfl ?_); refine gL_ (some 7) Try.func80 #[.int .i64 a0_0] ?_; (with_reducible refine (impl_isGid.calls a0_0 true _ A4.out).mono ?_); rintro e w' ⟨rfl, ⟨nd, rfl⟩⟩; refine ⟨_, rfl, ?_⟩) | (go_at_call 81; (with_reducible refine (impl_NameOk.calls k a0_1 true _ A6.out).mono ?_); rintro e w' ⟨rfl, ⟨nd, rfl⟩⟩) | (go_at_call 82; (with_reducible refine (impl_StampOk.calls a0_2 a0_3 true _ A8.out).mono ?_); rintro e w21 ⟨rfl, hb⟩; have n0_ := Aside0.mk (kB BK212.out hb); have n1_ := Aside0.mk (below_step aH hb); clear BK212; clear HB; have BK212 := n0_; have HB := n1_; clear n0_ n1_; (try clear hb); (try clear hb2); (try clear hk); (try clear hi); have hcz22_0 : w21.cell? ⟨gb212, 0, none⟩ = some (.int .i64 a0_0) := cR BK212.out 0; have hcz22_1 : w21.cell? ⟨gb212, 1, none⟩ = some (.string a0_1) := cR BK212.out 1; have hcz22_2 : w21.cell? ⟨gb212, 2, none⟩ = some (.int .i64 a0_2) := cR BK212.out 2; have hcz22_3 : w21.cell? ⟨gb212, 3, none⟩ = some (.int .i64 a0_3) := cR BK212.out 3; have hcz22_4 : w21.cell? ⟨gb212, 4, none⟩ = some (.int .i64 a0_4) := cR BK212.out 4; have hcz22_5 : w21.cell? ⟨gb212, 5, none⟩ = some (.slice A0_5 l0_5.length c0_5) := cR BK212.out 5; have hcz22_6 : w21.cell? ⟨gb212, 6, none⟩ = some (.slice A0_6 l0_6.length c0_6) := cR BK212.out 6; have hfz22_0 := blk_frozen BK212.out 0; have hfz22_1 := blk_frozen BK212.out 1; have hfz22_2 := blk_frozen BK212.out 2; have hfz22_3 := blk_frozen BK212.out 3; have hfz22_4 := blk_frozen BK212.out 4; have hfz22_5 := blk_frozen BK212.out 5; have hfz22_6 := blk_frozen BK212.out 6) | (go_at_call 83; (with_reducible refine (impl_within.calls a0_4 1 10000 false _ A10.out).mono ?_); rintro e w' ⟨rfl, ⟨nd, rfl⟩⟩))
      go_meet
      case rel => exact ⟨_, (true), aF, H', ⟨aO⟩, ⟨aB BK212.out⟩, ⟨aH⟩⟩
    ·replace c9 := Bool.eq_false_iff.mpr c9
     subst c9
     have H1 := wF H
     clear H
     have H := H1
     clear H1
     have H' := Aside0.mk H
     clear H
     have hcz23_0 : w3.cell? ⟨gb212, 0, none⟩ = some (.int .i64 a0_0) := cR BK212.out 0
     have hcz23_1 : w3.cell? ⟨gb212, 1, none⟩ = some (.string a0_1) := cR BK212.out 1
     have hcz23_2 : w3.cell? ⟨gb212, 2, none⟩ = some (.int .i64 a0_2) := cR BK212.out 2
     have hcz23_3 : w3.cell? ⟨gb212, 3, none⟩ = some (.int .i64 a0_3) := cR BK212.out 3
     have hcz23_4 : w3.cell? ⟨gb212, 4, none⟩ = some (.int .i64 a0_4) := cR BK212.out 4
     have hcz23_5 : w3.cell? ⟨gb212, 5, none⟩ = some (.slice A0_5 l0_5.length c0_5) := cR BK212.out 5
     have hcz23_6 : w3.cell? ⟨gb212, 6, none⟩ = some (.slice A0_6 l0_6.length c0_6) := cR BK212.out 6
     have hfz23_0 := blk_frozen BK212.out 0
     have hfz23_1 := blk_frozen BK212.out 1
     have hfz23_2 := blk_frozen BK212.out 2
     have hfz23_3 := blk_frozen BK212.out 3
     have hfz23_4 := blk_frozen BK212.out 4
     have hfz23_5 := blk_frozen BK212.out 5
     have hfz23_6 := blk_frozen BK212.out 6
     go_wp2_with (first | ((with_reducible refine gate_callee (f := 80) rfl ?_); refine gL_ (some 7) Try.func80 #[.int .i64 a0_0] ?_; (with_reducible refine (impl_isGid.calls a0_0 true _ A4.out).mono ?_); rintro e w' ⟨rfl, ⟨nd, rfl⟩⟩; refine ⟨_, rfl, ?_⟩) | (go_at_call 81; (with_reducible refine (impl_NameOk.calls k a0_1 true _ A6.out).mono ?_); rintro e w' ⟨rfl, ⟨nd, rfl⟩⟩) | (go_at_call 82; (with_reducible refine (impl_StampOk.calls a0_2 a0_3 false _ A8.out).mono ?_); rintro e w24 ⟨rfl, hb⟩; have n0_ := Aside0.mk (kB BK212.out hb); have n1_ := Aside0.mk (below_step aH hb); clear BK212; clear HB; have BK212 := n0_; have HB := n1_; clear n0_ n1_; (try clear hb); (try clear hb2); (try clear hk); (try clear hi)))
     go_meet
     case rel => exact ⟨_, (true), aF, H', ⟨aO⟩, ⟨aB BK212.out⟩, ⟨aH⟩⟩
   ·replace c7 := Bool.eq_false_iff.mpr c7
    subst c7
    have H1 := wF H
    clear H
    have H := H1
    clear H1
    have H' := Aside0.mk H
    clear H
    have hcz25_0 : w3.cell? ⟨gb212, 0, none⟩ = some (.int .i64 a0_0) := cR BK212.out 0
    have hcz25_1 : w3.cell? ⟨gb212, 1, none⟩ = some (.string a0_1) := cR BK212.out 1
    have hcz25_2 : w3.cell? ⟨gb212, 2, none⟩ = some (.int .i64 a0_2) := cR BK212.out 2
    have hcz25_3 : w3.cell? ⟨gb212, 3, none⟩ = some (.int .i64 a0_3) := cR BK212.out 3
    have hcz25_4 : w3.cell? ⟨gb212, 4, none⟩ = some (.int .i64 a0_4) := cR BK212.out 4
    have hcz25_5 : w3.cell? ⟨gb212, 5, none⟩ = some (.slice A0_5 l0_5.length c0_5) := cR BK212.out 5
    have hcz25_6 : w3.cell? ⟨gb212, 6, none⟩ = some (.slice A0_6 l0_6.length c0_6) := cR BK212.out 6
    have hfz25_0 := blk_frozen BK212.out 0
    have hfz25_1 := blk_frozen BK212.out 1
    have hfz25_2 := blk_frozen BK212.out 2
    have hfz25_3 := blk_frozen BK212.out 3
    have hfz25_4 := blk_frozen BK212.out 4
    have hfz25_5 := blk_frozen BK212.out 5
    have hfz25_6 := blk_frozen BK212.out 6
    go_wp2_with (first | ((with_reducible refine gate_callee (f := 80) rfl ?_); refine gL_ (some 7) Try.func80 #[.int .i64 a0_0] ?_; (with_reducible refine (impl_isGid.calls a0_0 true _ A4.out).mono ?_); rintro e w' ⟨rfl, ⟨nd, rfl⟩⟩; refine ⟨_, rfl, ?_⟩) | (go_at_call 81; (with_reducible refine (impl_NameOk.calls k a0_1 false _ A6.out).mono ?_); rintro e w' ⟨rfl, ⟨nd, rfl⟩⟩))
    go_meet
    case rel => exact ⟨_, (true), aF, H', ⟨aO⟩, ⟨aB BK212.out⟩, ⟨aH⟩⟩
  ·replace c5 := Bool.eq_false_iff.mpr c5
   subst c5
   have H1 := wF H
   clear H
   have H := H1
   clear H1
   have H' := Aside0.mk H
   clear H
   have hcz26_0 : w3.cell? ⟨gb212, 0, none⟩ = some (.int .i64 a0_0) := cR BK212.out 0
   have hcz26_1 : w3.cell? ⟨gb212, 1, none⟩ = some (.string a0_1) := cR BK212.out 1
   have hcz26_2 : w3.cell? ⟨gb212, 2, none⟩ = some (.int .i64 a0_2) := cR BK212.out 2
   have hcz26_3 : w3.cell? ⟨gb212, 3, none⟩ = some (.int .i64 a0_3) := cR BK212.out 3
   have hcz26_4 : w3.cell? ⟨gb212, 4, none⟩ = some (.int .i64 a0_4) := cR BK212.out 4
   have hcz26_5 : w3.cell? ⟨gb212, 5, none⟩ = some (.slice A0_5 l0_5.length c0_5) := cR BK212.out 5
   have hcz26_6 : w3.cell? ⟨gb212, 6, none⟩ = some (.slice A0_6 l0_6.length c0_6) := cR BK212.out 6
   have hfz26_0 := blk_frozen BK212.out 0
   have hfz26_1 := blk_frozen BK212.out 1
   have hfz26_2 := blk_frozen BK212.out 2
   have hfz26_3 := blk_frozen BK212.out 3
   have hfz26_4 := blk_frozen BK212.out 4
   have hfz26_5 := blk_frozen BK212.out 5
   have hfz26_6 := blk_frozen BK212.out 6
   go_wp2_with (first | ((with_reducible refine gate_callee (f := 80) rfl ?_); refine gL_ (some 7) Try.func80 #[.int .i64 a0_0] ?_; (with_reducible refine (impl_isGid.calls a0_0 false _ A4.out).mono ?_); rintro e w' ⟨rfl, ⟨nd, rfl⟩⟩; refine ⟨_, rfl, ?_⟩))
   go_meet
   case rel => exact ⟨_, (true), aF, H', ⟨aO⟩, ⟨aB BK212.out⟩, ⟨aH⟩⟩
 case rest =>
  clear HC2
  try clear c1
  try clear p2
  try clear c3
  try clear c5
  try clear c7
  try clear c8
  try clear c9
  try clear c11
  try clear c12
  try clear c12b0
  try clear c12b1
  try clear hcz13_0
  try clear hcz13_1
  try clear hcz13_2
  try clear hcz13_3
  try clear hcz13_4
  try clear hcz13_5
  try clear hcz13_6
  try clear hcz15_0
  try clear hcz15_1
  try clear hcz15_2
  try clear hcz15_3
  try clear hcz15_4
  try clear hcz15_5
  try clear hcz15_6
  try clear hcz17_0
  try clear hcz17_1
  try clear hcz17_2
  try clear hcz17_3
  try clear hcz17_4
  try clear hcz17_5
  try clear hcz17_6
  try clear hcz19_0
  try clear hcz19_1
  try clear hcz19_2
  try clear hcz19_3
  try clear hcz19_4
  try clear hcz19_5
  try clear hcz19_6
  try clear hcz20_0
  try clear hcz20_1
  try clear hcz20_2
  try clear hcz20_3
  try clear hcz20_4
  try clear hcz20_5
  try clear hcz20_6
  try clear hcz22_0
  try clear hcz22_1
  try clear hcz22_2
  try clear hcz22_3
  try clear hcz22_4
  try clear hcz22_5
  try clear hcz22_6
  try clear hcz23_0
  try clear hcz23_1
  try clear hcz23_2
  try clear hcz23_3
  try clear hcz23_4
  try clear hcz23_5
  try clear hcz23_6
  try clear hcz25_0
  try clear hcz25_1
  try clear hcz25_2
  try clear hcz25_3
  try clear hcz25_4
  try clear hcz25_5
  try clear hcz25_6
  try clear hcz26_0
  try clear hcz26_1
  try clear hcz26_2
  try clear hcz26_3
  try clear hcz26_4
  try clear hcz26_5
  try clear hcz26_6
  try clear hfz13_0
  try clear hfz13_1
  try clear hfz13_2
  try clear hfz13_3
  try clear hfz13_4
  try clear hfz13_5
  try clear hfz13_6
  try clear hfz15_0
  try clear hfz15_1
  try clear hfz15_2
  try clear hfz15_3
  try clear hfz15_4
  try clear hfz15_5
  try clear hfz15_6
  try clear hfz17_0
  try clear hfz17_1
  try clear hfz17_2
  try clear hfz17_3
  try clear hfz17_4
  try clear hfz17_5
  try clear hfz17_6
  try clear hfz19_0
  try clear hfz19_1
  try clear hfz19_2
  try clear hfz19_3
  try clear hfz19_4
  try clear hfz19_5
  try clear hfz19_6
  try clear hfz20_0
  try clear hfz20_1
  try clear hfz20_2
  try clear hfz20_3
  try clear hfz20_4
  try clear hfz20_5
  try clear hfz20_6
  try clear hfz22_0
  try clear hfz22_1
  try clear hfz22_2
  try clear hfz22_3
  try clear hfz22_4
  try clear hfz22_5
  try clear hfz22_6
  try clear hfz23_0
  try clear hfz23_1
  try clear hfz23_2
  try clear hfz23_3
  try clear hfz23_4
  try clear hfz23_5
  try clear hfz23_6
  try clear hfz25_0
  try clear hfz25_1
  try clear hfz25_2
  try clear hfz25_3
  try clear hfz25_4
  try clear hfz25_5
  try clear hfz25_6
  try clear hfz26_0
  try clear hfz26_1
  try clear hfz26_2
  try clear hfz26_3
  try clear hfz26_4
  try clear hfz26_5
  try clear hfz26_6
  obtain ⟨kq, x38_1, rfl, HA, HJ1, BK212, HB⟩ := hcut
  cases kq with
  | zero => exact absurd HA.out (by simp [impl_BoxOk.j0])
  | succ kj1 =>
   have H := HA.out
   clear HA
   simp only [impl_BoxOk.j0] at H
   by_cases c27 : x38_1 = true
   ·subst c27
    have H1 := wT H
    clear H
    have H := H1
    clear H1
    obtain rfl := Option.some.inj H
    go_wp2
    go_ret
    exact ⟨by first | rfl | (simp [errW_none, errW_some] <;> rfl) | (simp [*, errW_none, errW_some] <;> rfl), aH⟩
   ·replace c27 := Bool.eq_false_iff.mpr c27
    subst c27
    have H1 := wF H
    clear H
    have H := H1
    clear H1
    have H' := Aside0.mk H
    clear H
    have hcz28_0 : wc.cell? ⟨gb212, 0, none⟩ = some (.int .i64 a0_0) := cR BK212.out 0
    have hcz28_1 : wc.cell? ⟨gb212, 1, none⟩ = some (.string a0_1) := cR BK212.out 1
    have hcz28_2 : wc.cell? ⟨gb212, 2, none⟩ = some (.int .i64 a0_2) := cR BK212.out 2
    have hcz28_3 : wc.cell? ⟨gb212, 3, none⟩ = some (.int .i64 a0_3) := cR BK212.out 3
    have hcz28_4 : wc.cell? ⟨gb212, 4, none⟩ = some (.int .i64 a0_4) := cR BK212.out 4
    have hcz28_5 : wc.cell? ⟨gb212, 5, none⟩ = some (.slice A0_5 l0_5.length c0_5) := cR BK212.out 5
    have hcz28_6 : wc.cell? ⟨gb212, 6, none⟩ = some (.slice A0_6 l0_6.length c0_6) := cR BK212.out 6
    have hfz28_0 := blk_frozen BK212.out 0
    have hfz28_1 := blk_frozen BK212.out 1
    have hfz28_2 := blk_frozen BK212.out 2
    have hfz28_3 := blk_frozen BK212.out 3
    have hfz28_4 := blk_frozen BK212.out 4
    have hfz28_5 := blk_frozen BK212.out 5
    have hfz28_6 := blk_frozen BK212.out 6
    go_wp2
    go_loopg [42] kj1 (fun kq v42 w' => ∃ (x42_2 : Int), v42 = .int .i64 x42_2 ∧ Aside0 (impl_BoxOk.l0 kq l0_5 (l0_5.length : Int) x42_2 a0_0 a0_1 a0_2 a0_3 a0_4 l0_5 l0_6 = some r) ∧ Aside0 (kq ≤ kj1) ∧ Aside0 (w'.heap[gb212]? = some (.cells #[.int .i64 a0_0, .string a0_1, .int .i64 a0_2, .int .i64 a0_3, .int .i64 a0_4, (.slice A0_5 l0_5.length c0_5), (.slice A0_6 l0_6.length c0_6)] 59 (0, 0))) ∧ Aside0 (Below w.heap.size w w'))
    case atStart => exact ⟨(0), aF, H', ⟨Nat.le_refl _⟩, ⟨aB BK212.out⟩, ⟨aH⟩⟩
    case round =>
     clear H'
     try clear c1
     try clear c2
     try clear p2
     try clear c3
     try clear c5
     try clear c7
     try clear c8
     try clear c9
     try clear c11
     try clear c12
     try clear c12b0
     try clear c12b1
     try clear c27
     try clear hcz13_0
     try clear hcz13_1
     try clear hcz13_2
     try clear hcz13_3
     try clear hcz13_4
     try clear hcz13_5
     try clear hcz13_6
     try clear hcz15_0
     try clear hcz15_1
     try clear hcz15_2
     try clear hcz15_3
     try clear hcz15_4
     try clear hcz15_5
     try clear hcz15_6
     try clear hcz17_0
     try clear hcz17_1
     try clear hcz17_2
     try clear hcz17_3
     try clear hcz17_4
     try clear hcz17_5
     try clear hcz17_6
     try clear hcz19_0
     try clear hcz19_1
     try clear hcz19_2
     try clear hcz19_3
     try clear hcz19_4
     try clear hcz19_5
     try clear hcz19_6
     try clear hcz20_0
     try clear hcz20_1
     try clear hcz20_2
     try clear hcz20_3
     try clear hcz20_4
     try clear hcz20_5
     try clear hcz20_6
     try clear hcz22_0
     try clear hcz22_1
     try clear hcz22_2
     try clear hcz22_3
     try clear hcz22_4
     try clear hcz22_5
     try clear hcz22_6
     try clear hcz23_0
     try clear hcz23_1
     try clear hcz23_2
     try clear hcz23_3
     try clear hcz23_4
     try clear hcz23_5
     try clear hcz23_6
     try clear hcz25_0
     try clear hcz25_1
     try clear hcz25_2
     try clear hcz25_3
     try clear hcz25_4
     try clear hcz25_5
     try clear hcz25_6
     try clear hcz26_0
     try clear hcz26_1
     try clear hcz26_2
     try clear hcz26_3
     try clear hcz26_4
     try clear hcz26_5
     try clear hcz26_6
     try clear hcz28_0
     try clear hcz28_1
     try clear hcz28_2
     try clear hcz28_3
     try clear hcz28_4
     try clear hcz28_5
     try clear hcz28_6
     try clear hfz13_0
     try clear hfz13_1
     try clear hfz13_2
     try clear hfz13_3
     try clear hfz13_4
     try clear hfz13_5
     try clear hfz13_6
     try clear hfz15_0
     try clear hfz15_1
     try clear hfz15_2
     try clear hfz15_3
     try clear hfz15_4
     try clear hfz15_5
     try clear hfz15_6
     try clear hfz17_0
     try clear hfz17_1
     try clear hfz17_2
     try clear hfz17_3
     try clear hfz17_4
     try clear hfz17_5
     try clear hfz17_6
     try clear hfz19_0
     try clear hfz19_1
     try clear hfz19_2
     try clear hfz19_3
     try clear hfz19_4
     try clear hfz19_5
     try clear hfz19_6
     try clear hfz20_0
     try clear hfz20_1
     try clear hfz20_2
     try clear hfz20_3
     try clear hfz20_4
     try clear hfz20_5
     try clear hfz20_6
     try clear hfz22_0
     try clear hfz22_1
     try clear hfz22_2
     try clear hfz22_3
     try clear hfz22_4
     try clear hfz22_5
     try clear hfz22_6
     try clear hfz23_0
     try clear hfz23_1
     try clear hfz23_2
     try clear hfz23_3
     try clear hfz23_4
     try clear hfz23_5
     try clear hfz23_6
     try clear hfz25_0
     try clear hfz25_1
     try clear hfz25_2
     try clear hfz25_3
     try clear hfz25_4
     try clear hfz25_5
     try clear hfz25_6
     try clear hfz26_0
     try clear hfz26_1
     try clear hfz26_2
     try clear hfz26_3
     try clear hfz26_4
     try clear hfz26_5
     try clear hfz26_6
     try clear hfz28_0
     try clear hfz28_1
     try clear hfz28_2
     try clear hfz28_3
     try clear hfz28_4
     try clear hfz28_5
     try clear hfz28_6
     try clear p2
     obtain ⟨x42_2, rfl, HA, HK2, BK212, HB⟩ := hrel
     cases gk with
     | zero => exact absurd HA.out (by simp [impl_BoxOk.l0])
     | succ k2 =>
      have H := HA.out
      clear HA
      simp only [impl_BoxOk.l0] at H
      by_cases c29 : x42_2 < (l0_5.length : Int)
      ·rw [if_pos c29] at H
       have c29b0 : decide (x42_2 < (l0_5.length : Int)) = true := decide_eq_true c29
       clear c29
       by_cases c30 : 0 ≤ x42_2
       ·rw [if_pos c30] at H
        have c30b0 : decide (0 ≤ x42_2) = true := decide_eq_true c30
        clear c30
        by_cases c31 : x42_2 < (l0_5.length : Int)
        ·rw [if_pos c31] at H
         have c31b0 : decide (x42_2 < (l0_5.length : Int)) = true := decide_eq_true c31
         clear c31
         have HC32 := Aside0.mk H
         clear H
         have p218 : 0 ≤ (x42_2 : Int) := of_decide_eq_true (by first | (with_reducible assumption) | assumption)
         have q218 : x42_2 < (l0_5.length : Int) := of_decide_eq_true (by first | (with_reducible assumption) | assumption)
         obtain ⟨ad218, A218_2, c218_2, e218, hx218_0, hx218_1, hx218_2, hx218_3, hl218_2, hi218_2⟩ := at_T24 HR0_5.out x42_2 p218 q218
         cases e218
         replace hx218_0 := pw_cell_below HB.out hx218_0
         replace hx218_1 := pw_cell_below HB.out hx218_1
         replace hx218_2 := pw_cell_below HB.out hx218_2
         replace hx218_3 := pw_cell_below HB.out hx218_3
         have HR218_2 := Aside0.mk hi218_2
         have HC218_2 := Aside0.mk hl218_2
         clear hi218_2 hl218_2
         replace p218 := eq_true p218
         replace q218 := eq_true q218
         go_upto_region 6 with (first | ((with_reducible refine gate_dst (N := 4) rfl ?_); (try (refine gate_guard (by rfl) ?_; dsimp only)); refine box_event ?hg (N := 4) ?hd (cs := #[.int .i64 0, .int .i64 0, .slice none 0 0, .string (⟨#[]⟩ : ByteArray)]) (t := 24) ?hr ?_; (case hd => rfl); (case hg => rfl); (case hr => first | (go_simp; done) | (go_simp; rfl)); intro gb219 hg w33 hbox hb; have n0_ := Aside0.mk (kB BK212.out hb); have n1_ := Aside0.mk (below_step aH hb); have n2_ := Aside0.mk (hbox); have n3_ := Aside0.mk ((gS hg : w.heap.size ≤ gb219)); have n4_ := Aside0.mk ((gS hg : w.heap.size ≤ gb219)); have n5_ := Aside0.mk (gL hg BK212.out); have n6_ := Aside0.mk (gG hg BK212.out); clear BK212; clear HB; have BK212 := n0_; have HB := n1_; have BK219 := n2_; have GW219 := n3_; have GE219 := n4_; have NB212_219 := n5_; have NB219_212 := n6_; clear n0_ n1_ n2_ n3_ n4_ n5_ n6_; clear hb hbox hg; have hnb34 := NB219_212.out; have hnc34 := NB212_219.out; have hcz35_0 : w33.cell? ⟨gb219, 0, none⟩ = some (.int .i64 0) := cR BK219.out 0; have hcz35_1 : w33.cell? ⟨gb219, 1, none⟩ = some (.int .i64 0) := cR BK219.out 1; have hcz35_2 : w33.cell? ⟨gb219, 2, none⟩ = some (.slice none 0 0) := cR BK219.out 2; have hcz35_3 : w33.cell? ⟨gb219, 3, none⟩ = some (.string (⟨#[]⟩ : ByteArray)) := cR BK219.out 3; have hfz35_0 := blk_frozen BK219.out 0; have hfz35_1 := blk_frozen BK219.out 1; have hfz35_2 := blk_frozen BK219.out 2; have hfz35_3 := blk_frozen BK219.out 3))
         (try simp only [Act.put, List.setIfInBounds_toArray, List.set_cons_zero, List.set_cons_succ])
         go_cut [87] (fun v87 wc => ∃ (kq : Nat) (x87_31 : Bool), v87 = .bool x87_31 ∧ Aside0 (impl_BoxOk.j2 kq l0_5 (l0_5.length : Int) x42_2 x87_31 a0_0 a0_1 a0_2 a0_3 a0_4 l0_5 l0_6 = some r) ∧ Aside0 (kq ≤ k2) ∧ Aside0 (wc.heap[gb212]? = some (.cells #[.int .i64 a0_0, .string a0_1, .int .i64 a0_2, .int .i64 a0_3, .int .i64 a0_4, (.slice (some ad218) l0_5.length c0_5), (.slice A0_6 l0_6.length c0_6)] 59 (0, 0))) ∧ Aside0 (wc.heap[gb219]? = some (.cells #[.int .i64 ((rd_T24 l0_5 x42_2).f0), .int .i64 ((rd_T24 l0_5 x42_2).f1), (.slice A218_2 ((rd_T24 l0_5 x42_2).f2).length c218_2), .string ((rd_T24 l0_5 x42_2).f3)] 24 (0, 0))) ∧ Aside0 (Below w.heap.size w wc))
         case first =>
          have H := HC32.out
          clear HC32
          replace H := Option.bind_eq_some_iff.mp H
          obtain ⟨t220, A360, H⟩ := H
          try dsimp only at H
          have A36 := Aside0.mk A360
          clear A360
          by_cases c37 : t220 = true
          ·subst c37
           have H1 := wT H
           clear H
           have H := H1
           clear H1
           by_cases c38 : ((rd_T24 l0_5 x42_2).f1) ≥ a0_4
           ·rw [if_pos c38] at H
            have c38b0 : decide (a0_4 ≤ ((rd_T24 l0_5 x42_2).f1)) = true := decide_eq_true c38
            clear c38
            (first | rw [c38b0] | (simp only [i64_w, i32_w]; rw [c38b0]) | skip)
            have H' := Aside0.mk H
            clear H
            try go_wp2
            have n0_ : Aside0 (((((w33.setCell ⟨gb219, 0, none⟩ (.int .i64 ((rd_T24 l0_5 x42_2).f0))).setCell ⟨gb219, 1, none⟩ (.int .i64 ((rd_T24 l0_5 x42_2).f1))).setCell ⟨gb219, 2, none⟩ (.slice A218_2 ((rd_T24 l0_5 x42_2).f2).length c218_2)).setCell ⟨gb219, 3, none⟩ (.string ((rd_T24 l0_5 x42_2).f3))).heap[gb212]? = some (.cells #[.int .i64 a0_0, .string a0_1, .int .i64 a0_2, .int .i64 a0_3, .int .i64 a0_4, .slice (some ad218) l0_5.length c0_5, .slice A0_6 l0_6.length c0_6] 59 (0, 0))) := ⟨by (with_reducible repeat (first | refine blk_drewN ?_ _ | refine blk_drew ?_ | refine blk_alloc ?_ _)); refine blk_far ?_ NB212_219.out _; (with_reducible repeat (first | refine blk_drewN ?_ _ | refine blk_drew ?_ | refine blk_alloc ?_ _)); refine blk_far ?_ NB212_219.out _; (with_reducible repeat (first | refine blk_drewN ?_ _ | refine blk_drew ?_ | refine blk_alloc ?_ _)); refine blk_far ?_ NB212_219.out _; (with_reducible repeat (first | refine blk_drewN ?_ _ | refine blk_drew ?_ | refine blk_alloc ?_ _)); refine blk_far ?_ NB212_219.out _; (with_reducible repeat (first | refine blk_drewN ?_ _ | refine blk_drew ?_ | refine blk_alloc ?_ _)); exact BK212.out⟩
            have n1_ : Aside0 (((((w33.setCell ⟨gb219, 0, none⟩ (.int .i64 ((rd_T24 l0_5 x42_2).f0))).setCell ⟨gb219, 1, none⟩ (.int .i64 ((rd_T24 l0_5 x42_2).f1))).setCell ⟨gb219, 2, none⟩ (.slice A218_2 ((rd_T24 l0_5 x42_2).f2).length c218_2)).setCell ⟨gb219, 3, none⟩ (.string ((rd_T24 l0_5 x42_2).f3))).heap[gb219]? = some (.cells #[.int .i64 ((rd_T24 l0_5 x42_2).f0), .int .i64 ((rd_T24 l0_5 x42_2).f1), .slice A218_2 ((rd_T24 l0_5 x42_2).f2).length c218_2, .string ((rd_T24 l0_5 x42_2).f3)] 24 (0, 0))) := ⟨by (with_reducible repeat (first | refine blk_drewN ?_ _ | refine blk_drew ?_ | refine blk_alloc ?_ _)); refine blk_put (cs := #[.int .i64 ((rd_T24 l0_5 x42_2).f0), .int .i64 ((rd_T24 l0_5 x42_2).f1), .slice A218_2 ((rd_T24 l0_5 x42_2).f2).length c218_2, .string (⟨#[]⟩ : ByteArray)]) ?_ 3 _ rfl; (with_reducible repeat (first | refine blk_drewN ?_ _ | refine blk_drew ?_ | refine blk_alloc ?_ _)); refine blk_put (cs := #[.int .i64 ((rd_T24 l0_5 x42_2).f0), .int .i64 ((rd_T24 l0_5 x42_2).f1), .slice none 0 0, .string (⟨#[]⟩ : ByteArray)]) ?_ 2 _ rfl; (with_reducible repeat (first | refine blk_drewN ?_ _ | refine blk_drew ?_ | refine blk_alloc ?_ _)); refine blk_put (cs := #[.int .i64 ((rd_T24 l0_5 x42_2).f0), .int .i64 0, .slice none 0 0, .string (⟨#[]⟩ : ByteArray)]) ?_ 1 _ rfl; (with_reducible repeat (first | refine blk_drewN ?_ _ | refine blk_drew ?_ | refine blk_alloc ?_ _)); refine blk_put (cs := #[.int .i64 0, .int .i64 0, .slice none 0 0, .string (⟨#[]⟩ : ByteArray)]) ?_ 0 _ rfl; (with_reducible repeat (first | refine blk_drewN ?_ _ | refine blk_drew ?_ | refine blk_alloc ?_ _)); exact BK219.out⟩
            have n2_ : Aside0 (Below w.heap.size w ((((w33.setCell ⟨gb219, 0, none⟩ (.int .i64 ((rd_T24 l0_5 x42_2).f0))).setCell ⟨gb219, 1, none⟩ (.int .i64 ((rd_T24 l0_5 x42_2).f1))).setCell ⟨gb219, 2, none⟩ (.slice A218_2 ((rd_T24 l0_5 x42_2).f2).length c218_2)).setCell ⟨gb219, 3, none⟩ (.string ((rd_T24 l0_5 x42_2).f3)))) := ⟨aH⟩
            (try clear BK212)
            (try clear BK219)
            (try clear HB)
            generalize ((((w33.setCell ⟨gb219, 0, none⟩ (.int .i64 ((rd_T24 l0_5 x42_2).f0))).setCell ⟨gb219, 1, none⟩ (.int .i64 ((rd_T24 l0_5 x42_2).f1))).setCell ⟨gb219, 2, none⟩ (.slice A218_2 ((rd_T24 l0_5 x42_2).f2).length c218_2)).setCell ⟨gb219, 3, none⟩ (.string ((rd_T24 l0_5 x42_2).f3))) = w39 at n0_ n1_ n2_ ⊢
            have BK212 := n0_
            have BK219 := n1_
            have HB := n2_
            clear n0_ n1_ n2_
            have n0_ := Aside0.mk (blk_drew BK212.out)
            have n1_ := Aside0.mk (blk_drew BK219.out)
            have n2_ := Aside0.mk (below_drew1 HB.out)
            clear BK212
            clear BK219
            clear HB
            have BK212 := n0_
            have BK219 := n1_
            have HB := n2_
            clear n0_ n1_ n2_
            refine start_ (n := 41) (S := fun w' => w'.cell? ⟨gb219, 0, none⟩ = some (.int .i64 ((rd_T24 l0_5 x42_2).f0)) ∧ w'.cell? ⟨gb219, 1, none⟩ = some (.int .i64 ((rd_T24 l0_5 x42_2).f1)) ∧ w'.cell? ⟨gb219, 2, none⟩ = some (.slice A218_2 ((rd_T24 l0_5 x42_2).f2).length c218_2) ∧ w'.cell? ⟨gb219, 3, none⟩ = some (.string ((rd_T24 l0_5 x42_2).f3)) ∧ w'.cell? ⟨gb212, 0, none⟩ = some (.int .i64 a0_0) ∧ w'.cell? ⟨gb212, 1, none⟩ = some (.string a0_1) ∧ w'.cell? ⟨gb212, 2, none⟩ = some (.int .i64 a0_2) ∧ w'.cell? ⟨gb212, 3, none⟩ = some (.int .i64 a0_3) ∧ w'.cell? ⟨gb212, 4, none⟩ = some (.int .i64 a0_4) ∧ w'.cell? ⟨gb212, 5, none⟩ = some (.slice (some ad218) l0_5.length c0_5) ∧ w'.cell? ⟨gb212, 6, none⟩ = some (.slice A0_6 l0_6.length c0_6)) (ds := []) bb6_0 (by kernel_rfl) rfl rfl ⟨cR BK219.out 0, cR BK219.out 1, cR BK219.out 2, cR BK219.out 3, cR BK212.out 0, cR BK212.out 1, cR BK212.out 2, cR BK212.out 3, cR BK212.out 4, cR BK212.out 5, cR BK212.out 6⟩ (fun hHeld => ?_); refine with_tabW impl_BoxOk.tab6 impl_BoxOk.bits6 (fun HT_ HW_ => ?_)
            generalize w39.drew = w40 at BK212 BK219 HB hHeld ⊢
            refine tP 0 47 bb6_1 ?_
            refine one_ (i := 1) (N := some 48) bb6_2 rfl rfl (one_of HT_.out (by kernel_rfl)) (by decide) (fun K hK => ?_)
            refine goes_ Try.func46 (by kernel_rfl) rfl #[.agg #[.int .i64 ((rd_T24 l0_5 x42_2).f0), .int .i64 ((rd_T24 l0_5 x42_2).f1), .slice A218_2 ((rd_T24 l0_5 x42_2).f2).length c218_2, .string ((rd_T24 l0_5 x42_2).f3)]] (by rfl) rfl rfl (by (try simp only [List.map_toArray, List.map_cons, List.map_nil]); first | done | rfl | (simp only [List.length_drop, List.length_take]; rfl)) ?_
            with_reducible refine (impl_MailOk.calls k2 ((rd_T24 l0_5 x42_2).f0) ((rd_T24 l0_5 x42_2).f1) _ _ ((rd_T24 l0_5 x42_2).f2) ((rd_T24 l0_5 x42_2).f3) true _ ?side1 ?side2 A36.out).mono ?_
            (case side1 => repeat (first | exact (Kd.C_below HR218_2.out HB.out) | (with_reducible refine Kd.C_alloc ?_ _) | (with_reducible refine Kd.C_drewN ?_ _) | (with_reducible refine Kd.C_drew ?_)))
            (case side2 => exact HC218_2.out)
            rintro e w41 ⟨rfl, hb⟩
            refine ⟨_, rfl, ?_⟩
            have n0_ := Aside0.mk (kB BK212.out hb)
            have n1_ := Aside0.mk (kB BK219.out hb)
            have n2_ := Aside0.mk (below_step aH hb)
            clear BK212
            clear BK219
            clear HB
            have BK212 := n0_
            have BK219 := n1_
            have HB := n2_
            clear n0_ n1_ n2_
            (try clear hb)
            (try clear hb2)
            (try clear hk)
            (try clear hi)
            refine hK.out _ _ ⟨cR BK219.out 0, cR BK219.out 1, cR BK219.out 2, cR BK219.out 3, cR BK212.out 0, cR BK212.out 1, cR BK212.out 2, cR BK212.out 3, cR BK212.out 4, cR BK212.out 5, cR BK212.out 6⟩ (fun hHeld => ?_)
            clear hK K
            refine nP 48 ?_
            refine pP 2 49 bb6_3 ?_
            refine pP 3 50 bb6_4 ?_
            refine pP 4 51 bb6_5 ?_
            refine pP 6 53 bb6_6 ?_
            refine tP 5 52 bb6_7 ?_
            refine tP 7 54 bb6_8 ?_
            refine pP 8 55 bb6_9 ?_
            refine pP 9 56 bb6_10 ?_
            refine pP 10 57 bb6_11 ?_
            refine pU 11 58 bb6_12 ?_
            refine pU 12 59 bb6_13 ?_
            refine pU 13 60 bb6_14 ?_
            refine pU 14 61 bb6_15 ?_
            refine pU 15 62 bb6_16 ?_
            refine pU 16 63 bb6_17 ?_
            refine pU 17 64 bb6_18 ?_
            refine pU 18 65 bb6_19 ?_
            refine pU 19 66 bb6_20 ?_
            refine pU 20 67 bb6_21 ?_
            refine pU 21 68 bb6_22 ?_
            refine pU 22 69 bb6_23 ?_
            refine pU 23 70 bb6_24 ?_
            refine pU 24 71 bb6_25 ?_
            refine pP 25 72 bb6_26 ?_
            refine pP 26 73 bb6_27 ?_
            refine pU 27 74 bb6_28 ?_
            refine pU 28 75 bb6_29 ?_
            refine pU 29 76 bb6_30 ?_
            refine pU 30 77 bb6_31 ?_
            refine pU 31 78 bb6_32 ?_
            refine pU 32 79 bb6_33 ?_
            refine pP 33 80 bb6_34 ?_
            refine pP 34 81 bb6_35 ?_
            refine pU 35 82 bb6_36 ?_
            refine pU 36 83 bb6_37 ?_
            refine pU 37 84 bb6_38 ?_
            refine pU 38 85 bb6_39 ?_
            refine pU 39 86 bb6_40 ?_
            refine pP 40 87 bb6_41 ?_
            refine done_ (done_of HT_.out (by kernel_rfl)) ?_
            try go_wp2
            go_meet
            case rel => exact ⟨_, (true), aF, H', ⟨by have := HJ1.out; have := HK2.out; first | omega | exact Nat.le_refl _⟩, ⟨aB BK212.out⟩, ⟨aB BK219.out⟩, ⟨aH⟩⟩
           ·rw [if_neg c38] at H
            have c38b0 : decide (a0_4 ≤ ((rd_T24 l0_5 x42_2).f1)) = false := decide_eq_false c38
            clear c38
            (first | rw [c38b0] | (simp only [i64_w, i32_w]; rw [c38b0]) | skip)
            by_cases c42 : x42_2 > 0
            ·rw [if_pos c42] at H
             have c42b0 : decide (0 < x42_2) = true := decide_eq_true c42
             clear c42
             obtain ⟨ji43, hji43⟩ : ∃ j_ : Int, (wrap64 (x42_2 - 1)) = j_ := ⟨_, rfl⟩
             replace H : (if 0 ≤ (ji43) then (if (ji43) < (l0_5.length : Int) then (if ((rd_T24 l0_5 (ji43)).f1) ≥ ((rd_T24 l0_5 x42_2).f1) then (impl_BoxOk.j2 k2 l0_5 (l0_5.length : Int) x42_2 true a0_0 a0_1 a0_2 a0_3 a0_4 l0_5 l0_6) else ((impl_MailAt.f a0_0 a0_1 a0_2 a0_3 a0_4 l0_5 l0_6 ((rd_T24 l0_5 x42_2).f0)).bind fun t222 => (if t222 = x42_2 then ((slices_Contains_int_int.f k2 l0_6 ((rd_T24 l0_5 x42_2).f0)).bind fun t223 => (impl_BoxOk.j2 k2 l0_5 (l0_5.length : Int) x42_2 t223 a0_0 a0_1 a0_2 a0_3 a0_4 l0_5 l0_6)) else (impl_BoxOk.j2 k2 l0_5 (l0_5.length : Int) x42_2 true a0_0 a0_1 a0_2 a0_3 a0_4 l0_5 l0_6)))) else (none)) else (none)) = some r := by first | (rw [hji43] at H; exact H) | (simp only [hji43] at H ⊢; exact H)
             (try rw [hji43] at A36)
             have hji43w : (IntKind.i64.wrap (x42_2 - 1)) = ji43 := (i64_w _).trans hji43
             by_cases c44 : 0 ≤ (ji43)
             ·rw [if_pos c44] at H
              have c44b0 : decide (0 ≤ (ji43)) = true := decide_eq_true c44
              clear c44
              by_cases c45 : (ji43) < (l0_5.length : Int)
              ·rw [if_pos c45] at H
               have c45b0 : decide ((ji43) < (l0_5.length : Int)) = true := decide_eq_true c45
               clear c45
               by_cases c46 : ((rd_T24 l0_5 (ji43)).f1) ≥ ((rd_T24 l0_5 x42_2).f1)
               ·rw [if_pos c46] at H
                have c46b0 : decide (((rd_T24 l0_5 x42_2).f1) ≤ ((rd_T24 l0_5 (ji43)).f1)) = true := decide_eq_true c46
                clear c46
                have H' := Aside0.mk H
                clear H
                try go_wp2
                have n0_ : Aside0 (((((w33.setCell ⟨gb219, 0, none⟩ (.int .i64 ((rd_T24 l0_5 x42_2).f0))).setCell ⟨gb219, 1, none⟩ (.int .i64 ((rd_T24 l0_5 x42_2).f1))).setCell ⟨gb219, 2, none⟩ (.slice A218_2 ((rd_T24 l0_5 x42_2).f2).length c218_2)).setCell ⟨gb219, 3, none⟩ (.string ((rd_T24 l0_5 x42_2).f3))).heap[gb212]? = some (.cells #[.int .i64 a0_0, .string a0_1, .int .i64 a0_2, .int .i64 a0_3, .int .i64 a0_4, .slice (some ad218) l0_5.length c0_5, .slice A0_6 l0_6.length c0_6] 59 (0, 0))) := ⟨by (with_reducible repeat (first | refine blk_drewN ?_ _ | refine blk_drew ?_ | refine blk_alloc ?_ _)); refine blk_far ?_ NB212_219.out _; (with_reducible repeat (first | refine blk_drewN ?_ _ | refine blk_drew ?_ | refine blk_alloc ?_ _)); refine blk_far ?_ NB212_219.out _; (with_reducible repeat (first | refine blk_drewN ?_ _ | refine blk_drew ?_ | refine blk_alloc ?_ _)); refine blk_far ?_ NB212_219.out _; (with_reducible repeat (first | refine blk_drewN ?_ _ | refine blk_drew ?_ | refine blk_alloc ?_ _)); refine blk_far ?_ NB212_219.out _; (with_reducible repeat (first | refine blk_drewN ?_ _ | refine blk_drew ?_ | refine blk_alloc ?_ _)); exact BK212.out⟩
                have n1_ : Aside0 (((((w33.setCell ⟨gb219, 0, none⟩ (.int .i64 ((rd_T24 l0_5 x42_2).f0))).setCell ⟨gb219, 1, none⟩ (.int .i64 ((rd_T24 l0_5 x42_2).f1))).setCell ⟨gb219, 2, none⟩ (.slice A218_2 ((rd_T24 l0_5 x42_2).f2).length c218_2)).setCell ⟨gb219, 3, none⟩ (.string ((rd_T24 l0_5 x42_2).f3))).heap[gb219]? = some (.cells #[.int .i64 ((rd_T24 l0_5 x42_2).f0), .int .i64 ((rd_T24 l0_5 x42_2).f1), .slice A218_2 ((rd_T24 l0_5 x42_2).f2).length c218_2, .string ((rd_T24 l0_5 x42_2).f3)] 24 (0, 0))) := ⟨by (with_reducible repeat (first | refine blk_drewN ?_ _ | refine blk_drew ?_ | refine blk_alloc ?_ _)); refine blk_put (cs := #[.int .i64 ((rd_T24 l0_5 x42_2).f0), .int .i64 ((rd_T24 l0_5 x42_2).f1), .slice A218_2 ((rd_T24 l0_5 x42_2).f2).length c218_2, .string (⟨#[]⟩ : ByteArray)]) ?_ 3 _ rfl; (with_reducible repeat (first | refine blk_drewN ?_ _ | refine blk_drew ?_ | refine blk_alloc ?_ _)); refine blk_put (cs := #[.int .i64 ((rd_T24 l0_5 x42_2).f0), .int .i64 ((rd_T24 l0_5 x42_2).f1), .slice none 0 0, .string (⟨#[]⟩ : ByteArray)]) ?_ 2 _ rfl; (with_reducible repeat (first | refine blk_drewN ?_ _ | refine blk_drew ?_ | refine blk_alloc ?_ _)); refine blk_put (cs := #[.int .i64 ((rd_T24 l0_5 x42_2).f0), .int .i64 0, .slice none 0 0, .string (⟨#[]⟩ : ByteArray)]) ?_ 1 _ rfl; (with_reducible repeat (first | refine blk_drewN ?_ _ | refine blk_drew ?_ | refine blk_alloc ?_ _)); refine blk_put (cs := #[.int .i64 0, .int .i64 0, .slice none 0 0, .string (⟨#[]⟩ : ByteArray)]) ?_ 0 _ rfl; (with_reducible repeat (first | refine blk_drewN ?_ _ | refine blk_drew ?_ | refine blk_alloc ?_ _)); exact BK219.out⟩
                have n2_ : Aside0 (Below w.heap.size w ((((w33.setCell ⟨gb219, 0, none⟩ (.int .i64 ((rd_T24 l0_5 x42_2).f0))).setCell ⟨gb219, 1, none⟩ (.int .i64 ((rd_T24 l0_5 x42_2).f1))).setCell ⟨gb219, 2, none⟩ (.slice A218_2 ((rd_T24 l0_5 x42_2).f2).length c218_2)).setCell ⟨gb219, 3, none⟩ (.string ((rd_T24 l0_5 x42_2).f3)))) := ⟨aH⟩
                (try clear BK212)
                (try clear BK219)
                (try clear HB)
                generalize ((((w33.setCell ⟨gb219, 0, none⟩ (.int .i64 ((rd_T24 l0_5 x42_2).f0))).setCell ⟨gb219, 1, none⟩ (.int .i64 ((rd_T24 l0_5 x42_2).f1))).setCell ⟨gb219, 2, none⟩ (.slice A218_2 ((rd_T24 l0_5 x42_2).f2).length c218_2)).setCell ⟨gb219, 3, none⟩ (.string ((rd_T24 l0_5 x42_2).f3))) = w47 at n0_ n1_ n2_ ⊢
                have BK212 := n0_
                have BK219 := n1_
                have HB := n2_
                clear n0_ n1_ n2_
                have n0_ := Aside0.mk (blk_drew BK212.out)
                have n1_ := Aside0.mk (blk_drew BK219.out)
                have n2_ := Aside0.mk (below_drew1 HB.out)
                clear BK212
                clear BK219
                clear HB
                have BK212 := n0_
                have BK219 := n1_
                have HB := n2_
                clear n0_ n1_ n2_
                have p221 : 0 ≤ ((ji43) : Int) := of_decide_eq_true (by first | (with_reducible assumption) | assumption)
                have q221 : (ji43) < (l0_5.length : Int) := of_decide_eq_true (by first | (with_reducible assumption) | assumption)
                obtain ⟨ad221, A221_2, c221_2, e221, hx221_0, hx221_1, hx221_2, hx221_3, hl221_2, hi221_2⟩ := at_T24 HR0_5.out (ji43) p221 q221
                have hw221_3 := hx221_3
                have hw221_2 := hx221_2
                have hw221_1 := hx221_1
                have hw221_0 := hx221_0
                obtain rfl : ad218 = ad221 := (by injection e221)
                replace hx221_0 := pw_cell_below HB.out hx221_0
                replace hx221_1 := pw_cell_below HB.out hx221_1
                replace hx221_2 := pw_cell_below HB.out hx221_2
                replace hx221_3 := pw_cell_below HB.out hx221_3
                have HR221_2 := Aside0.mk hi221_2
                have HC221_2 := Aside0.mk hl221_2
                clear hi221_2 hl221_2
                replace p221 := eq_true p221
                replace q221 := eq_true q221
                refine start_ (n := 41) (S := fun w' => w'.cell? ⟨gb219, 0, none⟩ = some (.int .i64 ((rd_T24 l0_5 x42_2).f0)) ∧ w'.cell? ⟨gb219, 1, none⟩ = some (.int .i64 ((rd_T24 l0_5 x42_2).f1)) ∧ w'.cell? ⟨gb219, 2, none⟩ = some (.slice A218_2 ((rd_T24 l0_5 x42_2).f2).length c218_2) ∧ w'.cell? ⟨gb219, 3, none⟩ = some (.string ((rd_T24 l0_5 x42_2).f3)) ∧ w'.cell? ⟨gb212, 0, none⟩ = some (.int .i64 a0_0) ∧ w'.cell? ⟨gb212, 1, none⟩ = some (.string a0_1) ∧ w'.cell? ⟨gb212, 2, none⟩ = some (.int .i64 a0_2) ∧ w'.cell? ⟨gb212, 3, none⟩ = some (.int .i64 a0_3) ∧ w'.cell? ⟨gb212, 4, none⟩ = some (.int .i64 a0_4) ∧ w'.cell? ⟨gb212, 5, none⟩ = some (.slice (some ad218) l0_5.length c0_5) ∧ w'.cell? ⟨gb212, 6, none⟩ = some (.slice A0_6 l0_6.length c0_6) ∧ w'.cell? (ad218.add (((ji43)).toNat * 4)) = some (.int .i64 ((rd_T24 l0_5 (ji43)).f0)) ∧ w'.cell? ⟨(ad218.add (((ji43)).toNat * 4)).block, (ad218.add (((ji43)).toNat * 4)).off + 1, none⟩ = some (.int .i64 ((rd_T24 l0_5 (ji43)).f1)) ∧ w'.cell? ⟨(ad218.add (((ji43)).toNat * 4)).block, (ad218.add (((ji43)).toNat * 4)).off + 2, none⟩ = some (.slice A221_2 ((rd_T24 l0_5 (ji43)).f2).length c221_2) ∧ w'.cell? ⟨(ad218.add (((ji43)).toNat * 4)).block, (ad218.add (((ji43)).toNat * 4)).off + 3, none⟩ = some (.string ((rd_T24 l0_5 (ji43)).f3))) (ds := []) bb6_0 (by kernel_rfl) rfl rfl ⟨cR BK219.out 0, cR BK219.out 1, cR BK219.out 2, cR BK219.out 3, cR BK212.out 0, cR BK212.out 1, cR BK212.out 2, cR BK212.out 3, cR BK212.out 4, cR BK212.out 5, cR BK212.out 6, (pw_cell_below HB.out hw221_0), (pw_cell_below HB.out hw221_1), (pw_cell_below HB.out hw221_2), (pw_cell_below HB.out hw221_3)⟩ (fun hHeld => ?_); refine with_tabW impl_BoxOk.tab6 impl_BoxOk.bits6 (fun HT_ HW_ => ?_)
                generalize w47.drew = w48 at BK212 BK219 HB HR221_2 hx221_0 hx221_1 hx221_2 hx221_3 hHeld ⊢
                refine tP 0 47 bb6_1 ?_
                refine one_ (i := 1) (N := some 48) bb6_2 rfl rfl (one_of HT_.out (by kernel_rfl)) (by decide) (fun K hK => ?_)
                refine goes_ Try.func46 (by kernel_rfl) rfl #[.agg #[.int .i64 ((rd_T24 l0_5 x42_2).f0), .int .i64 ((rd_T24 l0_5 x42_2).f1), .slice A218_2 ((rd_T24 l0_5 x42_2).f2).length c218_2, .string ((rd_T24 l0_5 x42_2).f3)]] (by rfl) rfl rfl (by (try simp only [List.map_toArray, List.map_cons, List.map_nil]); first | done | rfl | (simp only [List.length_drop, List.length_take]; rfl)) ?_
                with_reducible refine (impl_MailOk.calls k2 ((rd_T24 l0_5 x42_2).f0) ((rd_T24 l0_5 x42_2).f1) _ _ ((rd_T24 l0_5 x42_2).f2) ((rd_T24 l0_5 x42_2).f3) true _ ?side1 ?side2 A36.out).mono ?_
                (case side1 => repeat (first | exact (Kd.C_below HR218_2.out HB.out) | (with_reducible refine Kd.C_alloc ?_ _) | (with_reducible refine Kd.C_drewN ?_ _) | (with_reducible refine Kd.C_drew ?_)))
                (case side2 => exact HC218_2.out)
                rintro e w49 ⟨rfl, hb⟩
                refine ⟨_, rfl, ?_⟩
                have n0_ := Aside0.mk (kB BK212.out hb)
                have n1_ := Aside0.mk (kB BK219.out hb)
                have n2_ := Aside0.mk (below_step aH hb)
                clear BK212
                clear BK219
                clear HB
                have BK212 := n0_
                have BK219 := n1_
                have HB := n2_
                clear n0_ n1_ n2_
                (try clear hb)
                (try clear hb2)
                (try clear hk)
                (try clear hi)
                refine hK.out _ _ ⟨cR BK219.out 0, cR BK219.out 1, cR BK219.out 2, cR BK219.out 3, cR BK212.out 0, cR BK212.out 1, cR BK212.out 2, cR BK212.out 3, cR BK212.out 4, cR BK212.out 5, cR BK212.out 6, (pw_cell_below HB.out hw221_0), (pw_cell_below HB.out hw221_1), (pw_cell_below HB.out hw221_2), (pw_cell_below HB.out hw221_3)⟩ (fun hHeld => ?_)
                clear hK K
                refine nP 48 ?_
                refine pP 2 49 bb6_3 ?_
                refine pP 3 50 bb6_4 ?_
                refine pP 4 51 bb6_5 ?_
                refine pP 6 53 bb6_6 ?_
                refine tP 5 52 bb6_7 ?_
                refine tP 7 54 bb6_8 ?_
                refine pP 8 55 bb6_9 ?_
                refine pP 9 56 bb6_10 ?_
                refine pP 10 57 bb6_11 ?_
                refine pP 11 58 bb6_12 ?_
                refine pP 12 59 bb6_13 ?_
                refine pP 13 60 bb6_14 ?_
                refine pP 14 61 bb6_15 ?_
                refine pP 16 63 bb6_42 ?_
                refine pP 17 64 bb6_43 ?_
                refine pP 21 68 bb6_44 ?_
                refine tP 15 62 bb6_45 ?_
                refine pP 18 65 bb6_46 ?_
                refine pP 19 66 bb6_47 ?_
                refine tP 20 67 bb6_22 ?_
                refine tP 22 69 bb6_23 ?_
                refine pP 23 70 bb6_24 ?_
                refine pP 24 71 bb6_25 ?_
                refine pP 25 72 bb6_26 ?_
                refine pP 26 73 bb6_27 ?_
                refine pU 27 74 bb6_28 ?_
                refine pU 28 75 bb6_29 ?_
                refine pU 29 76 bb6_30 ?_
                refine pU 30 77 bb6_31 ?_
                refine pU 31 78 bb6_32 ?_
                refine pU 32 79 bb6_33 ?_
                refine pP 33 80 bb6_34 ?_
                refine pP 34 81 bb6_35 ?_
                refine pU 35 82 bb6_36 ?_
                refine pU 36 83 bb6_37 ?_
                refine pU 37 84 bb6_38 ?_
                refine pU 38 85 bb6_39 ?_
                refine pU 39 86 bb6_40 ?_
                refine pP 40 87 bb6_41 ?_
                refine done_ (done_of HT_.out (by kernel_rfl)) ?_
                try go_wp2
                go_meet
                case rel => exact ⟨_, (true), aF, H', ⟨by have := HJ1.out; have := HK2.out; first | omega | exact Nat.le_refl _⟩, ⟨aB BK212.out⟩, ⟨aB BK219.out⟩, ⟨aH⟩⟩
               ·rw [if_neg c46] at H
                have c46b0 : decide (((rd_T24 l0_5 x42_2).f1) ≤ ((rd_T24 l0_5 (ji43)).f1)) = false := decide_eq_false c46
                clear c46
                replace H := Option.bind_eq_some_iff.mp H
                obtain ⟨t222, A500, H⟩ := H
                try dsimp only at H
                have A50 := Aside0.mk A500
                clear A500
                by_cases c51 : t222 = x42_2
                ·rw [if_pos c51] at H
                 have c51b0 : (t222 == x42_2) = true := beq_iff_eq.mpr c51
                 have c51b1 : (t222 != x42_2) = false := bne_eq_false_iff_eq.mpr c51
                 clear c51
                 replace H := Option.bind_eq_some_iff.mp H
                 obtain ⟨t223, A520, H⟩ := H
                 replace H : (impl_BoxOk.j2 k2 l0_5 (l0_5.length : Int) x42_2 t223 a0_0 a0_1 a0_2 a0_3 a0_4 l0_5 l0_6) = some r := H
                 have A52 := Aside0.mk A520
                 clear A520
                 have H' := Aside0.mk H
                 clear H
                 try go_wp2
                 have n0_ : Aside0 (((((w33.setCell ⟨gb219, 0, none⟩ (.int .i64 ((rd_T24 l0_5 x42_2).f0))).setCell ⟨gb219, 1, none⟩ (.int .i64 ((rd_T24 l0_5 x42_2).f1))).setCell ⟨gb219, 2, none⟩ (.slice A218_2 ((rd_T24 l0_5 x42_2).f2).length c218_2)).setCell ⟨gb219, 3, none⟩ (.string ((rd_T24 l0_5 x42_2).f3))).heap[gb212]? = some (.cells #[.int .i64 a0_0, .string a0_1, .int .i64 a0_2, .int .i64 a0_3, .int .i64 a0_4, .slice (some ad218) l0_5.length c0_5, .slice A0_6 l0_6.length c0_6] 59 (0, 0))) := ⟨by (with_reducible repeat (first | refine blk_drewN ?_ _ | refine blk_drew ?_ | refine blk_alloc ?_ _)); refine blk_far ?_ NB212_219.out _; (with_reducible repeat (first | refine blk_drewN ?_ _ | refine blk_drew ?_ | refine blk_alloc ?_ _)); refine blk_far ?_ NB212_219.out _; (with_reducible repeat (first | refine blk_drewN ?_ _ | refine blk_drew ?_ | refine blk_alloc ?_ _)); refine blk_far ?_ NB212_219.out _; (with_reducible repeat (first | refine blk_drewN ?_ _ | refine blk_drew ?_ | refine blk_alloc ?_ _)); refine blk_far ?_ NB212_219.out _; (with_reducible repeat (first | refine blk_drewN ?_ _ | refine blk_drew ?_ | refine blk_alloc ?_ _)); exact BK212.out⟩
                 have n1_ : Aside0 (((((w33.setCell ⟨gb219, 0, none⟩ (.int .i64 ((rd_T24 l0_5 x42_2).f0))).setCell ⟨gb219, 1, none⟩ (.int .i64 ((rd_T24 l0_5 x42_2).f1))).setCell ⟨gb219, 2, none⟩ (.slice A218_2 ((rd_T24 l0_5 x42_2).f2).length c218_2)).setCell ⟨gb219, 3, none⟩ (.string ((rd_T24 l0_5 x42_2).f3))).heap[gb219]? = some (.cells #[.int .i64 ((rd_T24 l0_5 x42_2).f0), .int .i64 ((rd_T24 l0_5 x42_2).f1), .slice A218_2 ((rd_T24 l0_5 x42_2).f2).length c218_2, .string ((rd_T24 l0_5 x42_2).f3)] 24 (0, 0))) := ⟨by (with_reducible repeat (first | refine blk_drewN ?_ _ | refine blk_drew ?_ | refine blk_alloc ?_ _)); refine blk_put (cs := #[.int .i64 ((rd_T24 l0_5 x42_2).f0), .int .i64 ((rd_T24 l0_5 x42_2).f1), .slice A218_2 ((rd_T24 l0_5 x42_2).f2).length c218_2, .string (⟨#[]⟩ : ByteArray)]) ?_ 3 _ rfl; (with_reducible repeat (first | refine blk_drewN ?_ _ | refine blk_drew ?_ | refine blk_alloc ?_ _)); refine blk_put (cs := #[.int .i64 ((rd_T24 l0_5 x42_2).f0), .int .i64 ((rd_T24 l0_5 x42_2).f1), .slice none 0 0, .string (⟨#[]⟩ : ByteArray)]) ?_ 2 _ rfl; (with_reducible repeat (first | refine blk_drewN ?_ _ | refine blk_drew ?_ | refine blk_alloc ?_ _)); refine blk_put (cs := #[.int .i64 ((rd_T24 l0_5 x42_2).f0), .int .i64 0, .slice none 0 0, .string (⟨#[]⟩ : ByteArray)]) ?_ 1 _ rfl; (with_reducible repeat (first | refine blk_drewN ?_ _ | refine blk_drew ?_ | refine blk_alloc ?_ _)); refine blk_put (cs := #[.int .i64 0, .int .i64 0, .slice none 0 0, .string (⟨#[]⟩ : ByteArray)]) ?_ 0 _ rfl; (with_reducible repeat (first | refine blk_drewN ?_ _ | refine blk_drew ?_ | refine blk_alloc ?_ _)); exact BK219.out⟩
                 have n2_ : Aside0 (Below w.heap.size w ((((w33.setCell ⟨gb219, 0, none⟩ (.int .i64 ((rd_T24 l0_5 x42_2).f0))).setCell ⟨gb219, 1, none⟩ (.int .i64 ((rd_T24 l0_5 x42_2).f1))).setCell ⟨gb219, 2, none⟩ (.slice A218_2 ((rd_T24 l0_5 x42_2).f2).length c218_2)).setCell ⟨gb219, 3, none⟩ (.string ((rd_T24 l0_5 x42_2).f3)))) := ⟨aH⟩
                 (try clear BK212)
                 (try clear BK219)
                 (try clear HB)
                 generalize ((((w33.setCell ⟨gb219, 0, none⟩ (.int .i64 ((rd_T24 l0_5 x42_2).f0))).setCell ⟨gb219, 1, none⟩ (.int .i64 ((rd_T24 l0_5 x42_2).f1))).setCell ⟨gb219, 2, none⟩ (.slice A218_2 ((rd_T24 l0_5 x42_2).f2).length c218_2)).setCell ⟨gb219, 3, none⟩ (.string ((rd_T24 l0_5 x42_2).f3))) = w53 at n0_ n1_ n2_ ⊢
                 have BK212 := n0_
                 have BK219 := n1_
                 have HB := n2_
                 clear n0_ n1_ n2_
                 have n0_ := Aside0.mk (blk_drew BK212.out)
                 have n1_ := Aside0.mk (blk_drew BK219.out)
                 have n2_ := Aside0.mk (below_drew1 HB.out)
                 clear BK212
                 clear BK219
                 clear HB
                 have BK212 := n0_
                 have BK219 := n1_
                 have HB := n2_
                 clear n0_ n1_ n2_
                 have p221 : 0 ≤ ((ji43) : Int) := of_decide_eq_true (by first | (with_reducible assumption) | assumption)
                 have q221 : (ji43) < (l0_5.length : Int) := of_decide_eq_true (by first | (with_reducible assumption) | assumption)
                 obtain ⟨ad221, A221_2, c221_2, e221, hx221_0, hx221_1, hx221_2, hx221_3, hl221_2, hi221_2⟩ := at_T24 HR0_5.out (ji43) p221 q221
                 have hw221_3 := hx221_3
                 have hw221_2 := hx221_2
                 have hw221_1 := hx221_1
                 have hw221_0 := hx221_0
                 obtain rfl : ad218 = ad221 := (by injection e221)
                 replace hx221_0 := pw_cell_below HB.out hx221_0
                 replace hx221_1 := pw_cell_below HB.out hx221_1
                 replace hx221_2 := pw_cell_below HB.out hx221_2
                 replace hx221_3 := pw_cell_below HB.out hx221_3
                 have HR221_2 := Aside0.mk hi221_2
                 have HC221_2 := Aside0.mk hl221_2
                 clear hi221_2 hl221_2
                 replace p221 := eq_true p221
                 replace q221 := eq_true q221
                 refine start_ (n := 41) (S := fun w' => w'.cell? ⟨gb219, 0, none⟩ = some (.int .i64 ((rd_T24 l0_5 x42_2).f0)) ∧ w'.cell? ⟨gb219, 1, none⟩ = some (.int .i64 ((rd_T24 l0_5 x42_2).f1)) ∧ w'.cell? ⟨gb219, 2, none⟩ = some (.slice A218_2 ((rd_T24 l0_5 x42_2).f2).length c218_2) ∧ w'.cell? ⟨gb219, 3, none⟩ = some (.string ((rd_T24 l0_5 x42_2).f3)) ∧ w'.cell? ⟨gb212, 0, none⟩ = some (.int .i64 a0_0) ∧ w'.cell? ⟨gb212, 1, none⟩ = some (.string a0_1) ∧ w'.cell? ⟨gb212, 2, none⟩ = some (.int .i64 a0_2) ∧ w'.cell? ⟨gb212, 3, none⟩ = some (.int .i64 a0_3) ∧ w'.cell? ⟨gb212, 4, none⟩ = some (.int .i64 a0_4) ∧ w'.cell? ⟨gb212, 5, none⟩ = some (.slice (some ad218) l0_5.length c0_5) ∧ w'.cell? ⟨gb212, 6, none⟩ = some (.slice A0_6 l0_6.length c0_6) ∧ w'.cell? (ad218.add (((ji43)).toNat * 4)) = some (.int .i64 ((rd_T24 l0_5 (ji43)).f0)) ∧ w'.cell? ⟨(ad218.add (((ji43)).toNat * 4)).block, (ad218.add (((ji43)).toNat * 4)).off + 1, none⟩ = some (.int .i64 ((rd_T24 l0_5 (ji43)).f1)) ∧ w'.cell? ⟨(ad218.add (((ji43)).toNat * 4)).block, (ad218.add (((ji43)).toNat * 4)).off + 2, none⟩ = some (.slice A221_2 ((rd_T24 l0_5 (ji43)).f2).length c221_2) ∧ w'.cell? ⟨(ad218.add (((ji43)).toNat * 4)).block, (ad218.add (((ji43)).toNat * 4)).off + 3, none⟩ = some (.string ((rd_T24 l0_5 (ji43)).f3))) (ds := []) bb6_0 (by kernel_rfl) rfl rfl ⟨cR BK219.out 0, cR BK219.out 1, cR BK219.out 2, cR BK219.out 3, cR BK212.out 0, cR BK212.out 1, cR BK212.out 2, cR BK212.out 3, cR BK212.out 4, cR BK212.out 5, cR BK212.out 6, (pw_cell_below HB.out hw221_0), (pw_cell_below HB.out hw221_1), (pw_cell_below HB.out hw221_2), (pw_cell_below HB.out hw221_3)⟩ (fun hHeld => ?_); refine with_tabW impl_BoxOk.tab6 impl_BoxOk.bits6 (fun HT_ HW_ => ?_)
                 generalize w53.drew = w54 at BK212 BK219 HB HR221_2 hx221_0 hx221_1 hx221_2 hx221_3 hHeld ⊢
                 refine tP 0 47 bb6_1 ?_
                 refine one_ (i := 1) (N := some 48) bb6_2 rfl rfl (one_of HT_.out (by kernel_rfl)) (by decide) (fun K hK => ?_)
                 refine goes_ Try.func46 (by kernel_rfl) rfl #[.agg #[.int .i64 ((rd_T24 l0_5 x42_2).f0), .int .i64 ((rd_T24 l0_5 x42_2).f1), .slice A218_2 ((rd_T24 l0_5 x42_2).f2).length c218_2, .string ((rd_T24 l0_5 x42_2).f3)]] (by rfl) rfl rfl (by (try simp only [List.map_toArray, List.map_cons, List.map_nil]); first | done | rfl | (simp only [List.length_drop, List.length_take]; rfl)) ?_
                 with_reducible refine (impl_MailOk.calls k2 ((rd_T24 l0_5 x42_2).f0) ((rd_T24 l0_5 x42_2).f1) _ _ ((rd_T24 l0_5 x42_2).f2) ((rd_T24 l0_5 x42_2).f3) true _ ?side1 ?side2 A36.out).mono ?_
                 (case side1 => repeat (first | exact (Kd.C_below HR218_2.out HB.out) | (with_reducible refine Kd.C_alloc ?_ _) | (with_reducible refine Kd.C_drewN ?_ _) | (with_reducible refine Kd.C_drew ?_)))
                 (case side2 => exact HC218_2.out)
                 rintro e w55 ⟨rfl, hb⟩
                 refine ⟨_, rfl, ?_⟩
                 have n0_ := Aside0.mk (kB BK212.out hb)
                 have n1_ := Aside0.mk (kB BK219.out hb)
                 have n2_ := Aside0.mk (below_step aH hb)
                 clear BK212
                 clear BK219
                 clear HB
                 have BK212 := n0_
                 have BK219 := n1_
                 have HB := n2_
                 clear n0_ n1_ n2_
                 (try clear hb)
                 (try clear hb2)
                 (try clear hk)
                 (try clear hi)
                 refine hK.out _ _ ⟨cR BK219.out 0, cR BK219.out 1, cR BK219.out 2, cR BK219.out 3, cR BK212.out 0, cR BK212.out 1, cR BK212.out 2, cR BK212.out 3, cR BK212.out 4, cR BK212.out 5, cR BK212.out 6, (pw_cell_below HB.out hw221_0), (pw_cell_below HB.out hw221_1), (pw_cell_below HB.out hw221_2), (pw_cell_below HB.out hw221_3)⟩ (fun hHeld => ?_)
                 clear hK K
                 refine nP 48 ?_
                 refine pP 2 49 bb6_3 ?_
                 refine pP 3 50 bb6_4 ?_
                 refine pP 4 51 bb6_5 ?_
                 refine pP 6 53 bb6_6 ?_
                 refine tP 5 52 bb6_7 ?_
                 refine tP 7 54 bb6_8 ?_
                 refine pP 8 55 bb6_9 ?_
                 refine pP 9 56 bb6_10 ?_
                 refine pP 10 57 bb6_11 ?_
                 refine pP 11 58 bb6_12 ?_
                 refine pP 12 59 bb6_13 ?_
                 refine pP 13 60 bb6_14 ?_
                 refine pP 14 61 bb6_15 ?_
                 refine pP 16 63 bb6_42 ?_
                 refine pP 17 64 bb6_43 ?_
                 refine pP 21 68 bb6_44 ?_
                 refine tP 15 62 bb6_45 ?_
                 refine pP 18 65 bb6_46 ?_
                 refine pP 19 66 bb6_47 ?_
                 refine tP 20 67 bb6_22 ?_
                 refine tP 22 69 bb6_23 ?_
                 refine pP 23 70 bb6_24 ?_
                 refine pP 24 71 bb6_25 ?_
                 refine pP 25 72 bb6_26 ?_
                 refine pP 26 73 bb6_27 ?_
                 refine pP 28 75 bb6_48 ?_
                 refine pP 31 78 bb6_49 ?_
                 refine tP 27 74 bb6_50 ?_
                 refine tP 29 76 bb6_51 ?_
                 refine one_ (i := 30) (N := some 77) bb6_32 rfl rfl (one_of HT_.out (by kernel_rfl)) (by decide) (fun K hK => ?_)
                 refine goes_ Try.func85 (by kernel_rfl) rfl #[.agg #[.int .i64 a0_0, .string a0_1, .int .i64 a0_2, .int .i64 a0_3, .int .i64 a0_4, .slice (some ad218) l0_5.length c0_5, .slice A0_6 l0_6.length c0_6], .int .i64 ((rd_T24 l0_5 x42_2).f0)] (by rfl) rfl rfl (by (try simp only [List.map_toArray, List.map_cons, List.map_nil]); first | done | rfl | (simp only [List.length_drop, List.length_take]; rfl)) ?_
                 with_reducible refine (impl_MailAt.calls a0_0 a0_1 a0_2 a0_3 a0_4 _ _ l0_5 _ _ l0_6 ((rd_T24 l0_5 x42_2).f0) t222 _ ?side1 ?side2 ?side3 ?side4 A50.out).mono ?_
                 (case side1 => repeat (first | exact (Kd.C_below HR0_5.out HB.out) | (with_reducible refine Kd.C_alloc ?_ _) | (with_reducible refine Kd.C_drewN ?_ _) | (with_reducible refine Kd.C_drew ?_)))
                 (case side2 => exact HC0_5.out)
                 (case side3 => repeat (first | exact (Kd.C_below HR0_6.out HB.out) | (with_reducible refine Kd.C_alloc ?_ _) | (with_reducible refine Kd.C_drewN ?_ _) | (with_reducible refine Kd.C_drew ?_)))
                 (case side4 => exact HC0_6.out)
                 rintro e w56 ⟨rfl, hb⟩
                 refine ⟨_, rfl, ?_⟩
                 have n0_ := Aside0.mk (kB BK212.out hb)
                 have n1_ := Aside0.mk (kB BK219.out hb)
                 have n2_ := Aside0.mk (below_step aH hb)
                 clear BK212
                 clear BK219
                 clear HB
                 have BK212 := n0_
                 have BK219 := n1_
                 have HB := n2_
                 clear n0_ n1_ n2_
                 (try clear hb)
                 (try clear hb2)
                 (try clear hk)
                 (try clear hi)
                 refine hK.out _ _ ⟨cR BK219.out 0, cR BK219.out 1, cR BK219.out 2, cR BK219.out 3, cR BK212.out 0, cR BK212.out 1, cR BK212.out 2, cR BK212.out 3, cR BK212.out 4, cR BK212.out 5, cR BK212.out 6, (pw_cell_below HB.out hw221_0), (pw_cell_below HB.out hw221_1), (pw_cell_below HB.out hw221_2), (pw_cell_below HB.out hw221_3)⟩ (fun hHeld => ?_)
                 clear hK K
                 refine nP 77 ?_
                 refine pP 32 79 bb6_33 ?_
                 refine pP 33 80 bb6_34 ?_
                 refine pP 34 81 bb6_35 ?_
                 refine pP 35 82 bb6_36 ?_
                 refine pP 37 84 bb6_52 ?_
                 refine tP 36 83 bb6_38 ?_
                 refine tP 38 85 bb6_39 ?_
                 refine one_ (i := 39) (N := some 86) bb6_40 rfl rfl (one_of HT_.out (by kernel_rfl)) (by decide) (fun K hK => ?_)
                 refine goes_ Try.func86 (by kernel_rfl) rfl #[.slice A0_6 l0_6.length c0_6, .int .i64 ((rd_T24 l0_5 x42_2).f0)] (by rfl) rfl rfl (by (try simp only [List.map_toArray, List.map_cons, List.map_nil]); first | done | rfl | (simp only [List.length_drop, List.length_take]; rfl)) ?_
                 with_reducible refine (slices_Contains_int_int.calls k2 _ _ l0_6 ((rd_T24 l0_5 x42_2).f0) t223 _ ?side1 ?side2 A52.out).mono ?_
                 (case side1 => repeat (first | exact (Kd.C_below HR0_6.out HB.out) | (with_reducible refine Kd.C_alloc ?_ _) | (with_reducible refine Kd.C_drewN ?_ _) | (with_reducible refine Kd.C_drew ?_)))
                 (case side2 => exact HC0_6.out)
                 rintro e w' ⟨rfl, ⟨nd, rfl⟩⟩
                 refine ⟨_, rfl, ?_⟩
                 refine hK.out _ _ ⟨cR BK219.out 0, cR BK219.out 1, cR BK219.out 2, cR BK219.out 3, cR BK212.out 0, cR BK212.out 1, cR BK212.out 2, cR BK212.out 3, cR BK212.out 4, cR BK212.out 5, cR BK212.out 6, (pw_cell_below HB.out hw221_0), (pw_cell_below HB.out hw221_1), (pw_cell_below HB.out hw221_2), (pw_cell_below HB.out hw221_3)⟩ (fun hHeld => ?_)
                 clear hK K
                 refine nP 86 ?_
                 refine pP 40 87 bb6_41 ?_
                 refine done_ (done_of HT_.out (by kernel_rfl)) ?_
                 try go_wp2
                 go_meet
                 case rel => exact ⟨_, (t223), aF, H', ⟨by have := HJ1.out; have := HK2.out; first | omega | exact Nat.le_refl _⟩, ⟨aB BK212.out⟩, ⟨aB BK219.out⟩, ⟨aH⟩⟩
                ·rw [if_neg c51] at H
                 have c51b0 : (t222 == x42_2) = false := beq_eq_false_iff_ne.mpr c51
                 have c51b1 : (t222 != x42_2) = true := bne_iff_ne.mpr c51
                 have H' := Aside0.mk H
                 clear H
                 try go_wp2
                 have n0_ : Aside0 (((((w33.setCell ⟨gb219, 0, none⟩ (.int .i64 ((rd_T24 l0_5 x42_2).f0))).setCell ⟨gb219, 1, none⟩ (.int .i64 ((rd_T24 l0_5 x42_2).f1))).setCell ⟨gb219, 2, none⟩ (.slice A218_2 ((rd_T24 l0_5 x42_2).f2).length c218_2)).setCell ⟨gb219, 3, none⟩ (.string ((rd_T24 l0_5 x42_2).f3))).heap[gb212]? = some (.cells #[.int .i64 a0_0, .string a0_1, .int .i64 a0_2, .int .i64 a0_3, .int .i64 a0_4, .slice (some ad218) l0_5.length c0_5, .slice A0_6 l0_6.length c0_6] 59 (0, 0))) := ⟨by (with_reducible repeat (first | refine blk_drewN ?_ _ | refine blk_drew ?_ | refine blk_alloc ?_ _)); refine blk_far ?_ NB212_219.out _; (with_reducible repeat (first | refine blk_drewN ?_ _ | refine blk_drew ?_ | refine blk_alloc ?_ _)); refine blk_far ?_ NB212_219.out _; (with_reducible repeat (first | refine blk_drewN ?_ _ | refine blk_drew ?_ | refine blk_alloc ?_ _)); refine blk_far ?_ NB212_219.out _; (with_reducible repeat (first | refine blk_drewN ?_ _ | refine blk_drew ?_ | refine blk_alloc ?_ _)); refine blk_far ?_ NB212_219.out _; (with_reducible repeat (first | refine blk_drewN ?_ _ | refine blk_drew ?_ | refine blk_alloc ?_ _)); exact BK212.out⟩
                 have n1_ : Aside0 (((((w33.setCell ⟨gb219, 0, none⟩ (.int .i64 ((rd_T24 l0_5 x42_2).f0))).setCell ⟨gb219, 1, none⟩ (.int .i64 ((rd_T24 l0_5 x42_2).f1))).setCell ⟨gb219, 2, none⟩ (.slice A218_2 ((rd_T24 l0_5 x42_2).f2).length c218_2)).setCell ⟨gb219, 3, none⟩ (.string ((rd_T24 l0_5 x42_2).f3))).heap[gb219]? = some (.cells #[.int .i64 ((rd_T24 l0_5 x42_2).f0), .int .i64 ((rd_T24 l0_5 x42_2).f1), .slice A218_2 ((rd_T24 l0_5 x42_2).f2).length c218_2, .string ((rd_T24 l0_5 x42_2).f3)] 24 (0, 0))) := ⟨by (with_reducible repeat (first | refine blk_drewN ?_ _ | refine blk_drew ?_ | refine blk_alloc ?_ _)); refine blk_put (cs := #[.int .i64 ((rd_T24 l0_5 x42_2).f0), .int .i64 ((rd_T24 l0_5 x42_2).f1), .slice A218_2 ((rd_T24 l0_5 x42_2).f2).length c218_2, .string (⟨#[]⟩ : ByteArray)]) ?_ 3 _ rfl; (with_reducible repeat (first | refine blk_drewN ?_ _ | refine blk_drew ?_ | refine blk_alloc ?_ _)); refine blk_put (cs := #[.int .i64 ((rd_T24 l0_5 x42_2).f0), .int .i64 ((rd_T24 l0_5 x42_2).f1), .slice none 0 0, .string (⟨#[]⟩ : ByteArray)]) ?_ 2 _ rfl; (with_reducible repeat (first | refine blk_drewN ?_ _ | refine blk_drew ?_ | refine blk_alloc ?_ _)); refine blk_put (cs := #[.int .i64 ((rd_T24 l0_5 x42_2).f0), .int .i64 0, .slice none 0 0, .string (⟨#[]⟩ : ByteArray)]) ?_ 1 _ rfl; (with_reducible repeat (first | refine blk_drewN ?_ _ | refine blk_drew ?_ | refine blk_alloc ?_ _)); refine blk_put (cs := #[.int .i64 0, .int .i64 0, .slice none 0 0, .string (⟨#[]⟩ : ByteArray)]) ?_ 0 _ rfl; (with_reducible repeat (first | refine blk_drewN ?_ _ | refine blk_drew ?_ | refine blk_alloc ?_ _)); exact BK219.out⟩
                 have n2_ : Aside0 (Below w.heap.size w ((((w33.setCell ⟨gb219, 0, none⟩ (.int .i64 ((rd_T24 l0_5 x42_2).f0))).setCell ⟨gb219, 1, none⟩ (.int .i64 ((rd_T24 l0_5 x42_2).f1))).setCell ⟨gb219, 2, none⟩ (.slice A218_2 ((rd_T24 l0_5 x42_2).f2).length c218_2)).setCell ⟨gb219, 3, none⟩ (.string ((rd_T24 l0_5 x42_2).f3)))) := ⟨aH⟩
                 (try clear BK212)
                 (try clear BK219)
                 (try clear HB)
                 generalize ((((w33.setCell ⟨gb219, 0, none⟩ (.int .i64 ((rd_T24 l0_5 x42_2).f0))).setCell ⟨gb219, 1, none⟩ (.int .i64 ((rd_T24 l0_5 x42_2).f1))).setCell ⟨gb219, 2, none⟩ (.slice A218_2 ((rd_T24 l0_5 x42_2).f2).length c218_2)).setCell ⟨gb219, 3, none⟩ (.string ((rd_T24 l0_5 x42_2).f3))) = w57 at n0_ n1_ n2_ ⊢
                 have BK212 := n0_
                 have BK219 := n1_
                 have HB := n2_
                 clear n0_ n1_ n2_
                 have n0_ := Aside0.mk (blk_drew BK212.out)
                 have n1_ := Aside0.mk (blk_drew BK219.out)
                 have n2_ := Aside0.mk (below_drew1 HB.out)
                 clear BK212
                 clear BK219
                 clear HB
                 have BK212 := n0_
                 have BK219 := n1_
                 have HB := n2_
                 clear n0_ n1_ n2_
                 have p221 : 0 ≤ ((ji43) : Int) := of_decide_eq_true (by first | (with_reducible assumption) | assumption)
                 have q221 : (ji43) < (l0_5.length : Int) := of_decide_eq_true (by first | (with_reducible assumption) | assumption)
                 obtain ⟨ad221, A221_2, c221_2, e221, hx221_0, hx221_1, hx221_2, hx221_3, hl221_2, hi221_2⟩ := at_T24 HR0_5.out (ji43) p221 q221
                 have hw221_3 := hx221_3
                 have hw221_2 := hx221_2
                 have hw221_1 := hx221_1
                 have hw221_0 := hx221_0
                 obtain rfl : ad218 = ad221 := (by injection e221)
                 replace hx221_0 := pw_cell_below HB.out hx221_0
                 replace hx221_1 := pw_cell_below HB.out hx221_1
                 replace hx221_2 := pw_cell_below HB.out hx221_2
                 replace hx221_3 := pw_cell_below HB.out hx221_3
                 have HR221_2 := Aside0.mk hi221_2
                 have HC221_2 := Aside0.mk hl221_2
                 clear hi221_2 hl221_2
                 replace p221 := eq_true p221
                 replace q221 := eq_true q221
                 refine start_ (n := 41) (S := fun w' => w'.cell? ⟨gb219, 0, none⟩ = some (.int .i64 ((rd_T24 l0_5 x42_2).f0)) ∧ w'.cell? ⟨gb219, 1, none⟩ = some (.int .i64 ((rd_T24 l0_5 x42_2).f1)) ∧ w'.cell? ⟨gb219, 2, none⟩ = some (.slice A218_2 ((rd_T24 l0_5 x42_2).f2).length c218_2) ∧ w'.cell? ⟨gb219, 3, none⟩ = some (.string ((rd_T24 l0_5 x42_2).f3)) ∧ w'.cell? ⟨gb212, 0, none⟩ = some (.int .i64 a0_0) ∧ w'.cell? ⟨gb212, 1, none⟩ = some (.string a0_1) ∧ w'.cell? ⟨gb212, 2, none⟩ = some (.int .i64 a0_2) ∧ w'.cell? ⟨gb212, 3, none⟩ = some (.int .i64 a0_3) ∧ w'.cell? ⟨gb212, 4, none⟩ = some (.int .i64 a0_4) ∧ w'.cell? ⟨gb212, 5, none⟩ = some (.slice (some ad218) l0_5.length c0_5) ∧ w'.cell? ⟨gb212, 6, none⟩ = some (.slice A0_6 l0_6.length c0_6) ∧ w'.cell? (ad218.add (((ji43)).toNat * 4)) = some (.int .i64 ((rd_T24 l0_5 (ji43)).f0)) ∧ w'.cell? ⟨(ad218.add (((ji43)).toNat * 4)).block, (ad218.add (((ji43)).toNat * 4)).off + 1, none⟩ = some (.int .i64 ((rd_T24 l0_5 (ji43)).f1)) ∧ w'.cell? ⟨(ad218.add (((ji43)).toNat * 4)).block, (ad218.add (((ji43)).toNat * 4)).off + 2, none⟩ = some (.slice A221_2 ((rd_T24 l0_5 (ji43)).f2).length c221_2) ∧ w'.cell? ⟨(ad218.add (((ji43)).toNat * 4)).block, (ad218.add (((ji43)).toNat * 4)).off + 3, none⟩ = some (.string ((rd_T24 l0_5 (ji43)).f3))) (ds := []) bb6_0 (by kernel_rfl) rfl rfl ⟨cR BK219.out 0, cR BK219.out 1, cR BK219.out 2, cR BK219.out 3, cR BK212.out 0, cR BK212.out 1, cR BK212.out 2, cR BK212.out 3, cR BK212.out 4, cR BK212.out 5, cR BK212.out 6, (pw_cell_below HB.out hw221_0), (pw_cell_below HB.out hw221_1), (pw_cell_below HB.out hw221_2), (pw_cell_below HB.out hw221_3)⟩ (fun hHeld => ?_); refine with_tabW impl_BoxOk.tab6 impl_BoxOk.bits6 (fun HT_ HW_ => ?_)
                 generalize w57.drew = w58 at BK212 BK219 HB HR221_2 hx221_0 hx221_1 hx221_2 hx221_3 hHeld ⊢
                 refine tP 0 47 bb6_1 ?_
                 refine one_ (i := 1) (N := some 48) bb6_2 rfl rfl (one_of HT_.out (by kernel_rfl)) (by decide) (fun K hK => ?_)
                 refine goes_ Try.func46 (by kernel_rfl) rfl #[.agg #[.int .i64 ((rd_T24 l0_5 x42_2).f0), .int .i64 ((rd_T24 l0_5 x42_2).f1), .slice A218_2 ((rd_T24 l0_5 x42_2).f2).length c218_2, .string ((rd_T24 l0_5 x42_2).f3)]] (by rfl) rfl rfl (by (try simp only [List.map_toArray, List.map_cons, List.map_nil]); first | done | rfl | (simp only [List.length_drop, List.length_take]; rfl)) ?_
                 with_reducible refine (impl_MailOk.calls k2 ((rd_T24 l0_5 x42_2).f0) ((rd_T24 l0_5 x42_2).f1) _ _ ((rd_T24 l0_5 x42_2).f2) ((rd_T24 l0_5 x42_2).f3) true _ ?side1 ?side2 A36.out).mono ?_
                 (case side1 => repeat (first | exact (Kd.C_below HR218_2.out HB.out) | (with_reducible refine Kd.C_alloc ?_ _) | (with_reducible refine Kd.C_drewN ?_ _) | (with_reducible refine Kd.C_drew ?_)))
                 (case side2 => exact HC218_2.out)
                 rintro e w59 ⟨rfl, hb⟩
                 refine ⟨_, rfl, ?_⟩
                 have n0_ := Aside0.mk (kB BK212.out hb)
                 have n1_ := Aside0.mk (kB BK219.out hb)
                 have n2_ := Aside0.mk (below_step aH hb)
                 clear BK212
                 clear BK219
                 clear HB
                 have BK212 := n0_
                 have BK219 := n1_
                 have HB := n2_
                 clear n0_ n1_ n2_
                 (try clear hb)
                 (try clear hb2)
                 (try clear hk)
                 (try clear hi)
                 refine hK.out _ _ ⟨cR BK219.out 0, cR BK219.out 1, cR BK219.out 2, cR BK219.out 3, cR BK212.out 0, cR BK212.out 1, cR BK212.out 2, cR BK212.out 3, cR BK212.out 4, cR BK212.out 5, cR BK212.out 6, (pw_cell_below HB.out hw221_0), (pw_cell_below HB.out hw221_1), (pw_cell_below HB.out hw221_2), (pw_cell_below HB.out hw221_3)⟩ (fun hHeld => ?_)
                 clear hK K
                 refine nP 48 ?_
                 refine pP 2 49 bb6_3 ?_
                 refine pP 3 50 bb6_4 ?_
                 refine pP 4 51 bb6_5 ?_
                 refine pP 6 53 bb6_6 ?_
                 refine tP 5 52 bb6_7 ?_
                 refine tP 7 54 bb6_8 ?_
                 refine pP 8 55 bb6_9 ?_
                 refine pP 9 56 bb6_10 ?_
                 refine pP 10 57 bb6_11 ?_
                 refine pP 11 58 bb6_12 ?_
                 refine pP 12 59 bb6_13 ?_
                 refine pP 13 60 bb6_14 ?_
                 refine pP 14 61 bb6_15 ?_
                 refine pP 16 63 bb6_42 ?_
                 refine pP 17 64 bb6_43 ?_
                 refine pP 21 68 bb6_44 ?_
                 refine tP 15 62 bb6_45 ?_
                 refine pP 18 65 bb6_46 ?_
                 refine pP 19 66 bb6_47 ?_
                 refine tP 20 67 bb6_22 ?_
                 refine tP 22 69 bb6_23 ?_
                 refine pP 23 70 bb6_24 ?_
                 refine pP 24 71 bb6_25 ?_
                 refine pP 25 72 bb6_26 ?_
                 refine pP 26 73 bb6_27 ?_
                 refine pP 28 75 bb6_48 ?_
                 refine pP 31 78 bb6_49 ?_
                 refine tP 27 74 bb6_50 ?_
                 refine tP 29 76 bb6_51 ?_
                 refine one_ (i := 30) (N := some 77) bb6_32 rfl rfl (one_of HT_.out (by kernel_rfl)) (by decide) (fun K hK => ?_)
                 refine goes_ Try.func85 (by kernel_rfl) rfl #[.agg #[.int .i64 a0_0, .string a0_1, .int .i64 a0_2, .int .i64 a0_3, .int .i64 a0_4, .slice (some ad218) l0_5.length c0_5, .slice A0_6 l0_6.length c0_6], .int .i64 ((rd_T24 l0_5 x42_2).f0)] (by rfl) rfl rfl (by (try simp only [List.map_toArray, List.map_cons, List.map_nil]); first | done | rfl | (simp only [List.length_drop, List.length_take]; rfl)) ?_
                 with_reducible refine (impl_MailAt.calls a0_0 a0_1 a0_2 a0_3 a0_4 _ _ l0_5 _ _ l0_6 ((rd_T24 l0_5 x42_2).f0) t222 _ ?side1 ?side2 ?side3 ?side4 A50.out).mono ?_
                 (case side1 => repeat (first | exact (Kd.C_below HR0_5.out HB.out) | (with_reducible refine Kd.C_alloc ?_ _) | (with_reducible refine Kd.C_drewN ?_ _) | (with_reducible refine Kd.C_drew ?_)))
                 (case side2 => exact HC0_5.out)
                 (case side3 => repeat (first | exact (Kd.C_below HR0_6.out HB.out) | (with_reducible refine Kd.C_alloc ?_ _) | (with_reducible refine Kd.C_drewN ?_ _) | (with_reducible refine Kd.C_drew ?_)))
                 (case side4 => exact HC0_6.out)
                 rintro e w60 ⟨rfl, hb⟩
                 refine ⟨_, rfl, ?_⟩
                 have n0_ := Aside0.mk (kB BK212.out hb)
                 have n1_ := Aside0.mk (kB BK219.out hb)
                 have n2_ := Aside0.mk (below_step aH hb)
                 clear BK212
                 clear BK219
                 clear HB
                 have BK212 := n0_
                 have BK219 := n1_
                 have HB := n2_
                 clear n0_ n1_ n2_
                 (try clear hb)
                 (try clear hb2)
                 (try clear hk)
                 (try clear hi)
                 refine hK.out _ _ ⟨cR BK219.out 0, cR BK219.out 1, cR BK219.out 2, cR BK219.out 3, cR BK212.out 0, cR BK212.out 1, cR BK212.out 2, cR BK212.out 3, cR BK212.out 4, cR BK212.out 5, cR BK212.out 6, (pw_cell_below HB.out hw221_0), (pw_cell_below HB.out hw221_1), (pw_cell_below HB.out hw221_2), (pw_cell_below HB.out hw221_3)⟩ (fun hHeld => ?_)
                 clear hK K
                 refine nP 77 ?_
                 refine pP 32 79 bb6_33 ?_
                 refine pP 33 80 bb6_34 ?_
                 refine pP 34 81 bb6_35 ?_
                 refine pU 35 82 bb6_36 ?_
                 refine pU 36 83 bb6_37 ?_
                 refine pU 37 84 bb6_38 ?_
                 refine pU 38 85 bb6_39 ?_
                 refine pU 39 86 bb6_40 ?_
                 refine pP 40 87 bb6_41 ?_
                 refine done_ (done_of HT_.out (by kernel_rfl)) ?_
                 try go_wp2
                 go_meet
                 case rel => exact ⟨_, (true), aF, H', ⟨by have := HJ1.out; have := HK2.out; first | omega | exact Nat.le_refl _⟩, ⟨aB BK212.out⟩, ⟨aB BK219.out⟩, ⟨aH⟩⟩
              ·rw [if_neg c45] at H
               exact absurd H (by simp)
             ·rw [if_neg c44] at H
              exact absurd H (by simp)
            ·rw [if_neg c42] at H
             have c42b0 : decide (0 < x42_2) = false := decide_eq_false c42
             clear c42
             replace H := Option.bind_eq_some_iff.mp H
             obtain ⟨t224, A610, H⟩ := H
             try dsimp only at H
             have A61 := Aside0.mk A610
             clear A610
             by_cases c62 : t224 = x42_2
             ·rw [if_pos c62] at H
              have c62b0 : (t224 == x42_2) = true := beq_iff_eq.mpr c62
              have c62b1 : (t224 != x42_2) = false := bne_eq_false_iff_eq.mpr c62
              clear c62
              replace H := Option.bind_eq_some_iff.mp H
              obtain ⟨t225, A630, H⟩ := H
              replace H : (impl_BoxOk.j2 k2 l0_5 (l0_5.length : Int) x42_2 t225 a0_0 a0_1 a0_2 a0_3 a0_4 l0_5 l0_6) = some r := H
              have A63 := Aside0.mk A630
              clear A630
              have H' := Aside0.mk H
              clear H
              try go_wp2
              have n0_ : Aside0 (((((w33.setCell ⟨gb219, 0, none⟩ (.int .i64 ((rd_T24 l0_5 x42_2).f0))).setCell ⟨gb219, 1, none⟩ (.int .i64 ((rd_T24 l0_5 x42_2).f1))).setCell ⟨gb219, 2, none⟩ (.slice A218_2 ((rd_T24 l0_5 x42_2).f2).length c218_2)).setCell ⟨gb219, 3, none⟩ (.string ((rd_T24 l0_5 x42_2).f3))).heap[gb212]? = some (.cells #[.int .i64 a0_0, .string a0_1, .int .i64 a0_2, .int .i64 a0_3, .int .i64 a0_4, .slice (some ad218) l0_5.length c0_5, .slice A0_6 l0_6.length c0_6] 59 (0, 0))) := ⟨by (with_reducible repeat (first | refine blk_drewN ?_ _ | refine blk_drew ?_ | refine blk_alloc ?_ _)); refine blk_far ?_ NB212_219.out _; (with_reducible repeat (first | refine blk_drewN ?_ _ | refine blk_drew ?_ | refine blk_alloc ?_ _)); refine blk_far ?_ NB212_219.out _; (with_reducible repeat (first | refine blk_drewN ?_ _ | refine blk_drew ?_ | refine blk_alloc ?_ _)); refine blk_far ?_ NB212_219.out _; (with_reducible repeat (first | refine blk_drewN ?_ _ | refine blk_drew ?_ | refine blk_alloc ?_ _)); refine blk_far ?_ NB212_219.out _; (with_reducible repeat (first | refine blk_drewN ?_ _ | refine blk_drew ?_ | refine blk_alloc ?_ _)); exact BK212.out⟩
              have n1_ : Aside0 (((((w33.setCell ⟨gb219, 0, none⟩ (.int .i64 ((rd_T24 l0_5 x42_2).f0))).setCell ⟨gb219, 1, none⟩ (.int .i64 ((rd_T24 l0_5 x42_2).f1))).setCell ⟨gb219, 2, none⟩ (.slice A218_2 ((rd_T24 l0_5 x42_2).f2).length c218_2)).setCell ⟨gb219, 3, none⟩ (.string ((rd_T24 l0_5 x42_2).f3))).heap[gb219]? = some (.cells #[.int .i64 ((rd_T24 l0_5 x42_2).f0), .int .i64 ((rd_T24 l0_5 x42_2).f1), .slice A218_2 ((rd_T24 l0_5 x42_2).f2).length c218_2, .string ((rd_T24 l0_5 x42_2).f3)] 24 (0, 0))) := ⟨by (with_reducible repeat (first | refine blk_drewN ?_ _ | refine blk_drew ?_ | refine blk_alloc ?_ _)); refine blk_put (cs := #[.int .i64 ((rd_T24 l0_5 x42_2).f0), .int .i64 ((rd_T24 l0_5 x42_2).f1), .slice A218_2 ((rd_T24 l0_5 x42_2).f2).length c218_2, .string (⟨#[]⟩ : ByteArray)]) ?_ 3 _ rfl; (with_reducible repeat (first | refine blk_drewN ?_ _ | refine blk_drew ?_ | refine blk_alloc ?_ _)); refine blk_put (cs := #[.int .i64 ((rd_T24 l0_5 x42_2).f0), .int .i64 ((rd_T24 l0_5 x42_2).f1), .slice none 0 0, .string (⟨#[]⟩ : ByteArray)]) ?_ 2 _ rfl; (with_reducible repeat (first | refine blk_drewN ?_ _ | refine blk_drew ?_ | refine blk_alloc ?_ _)); refine blk_put (cs := #[.int .i64 ((rd_T24 l0_5 x42_2).f0), .int .i64 0, .slice none 0 0, .string (⟨#[]⟩ : ByteArray)]) ?_ 1 _ rfl; (with_reducible repeat (first | refine blk_drewN ?_ _ | refine blk_drew ?_ | refine blk_alloc ?_ _)); refine blk_put (cs := #[.int .i64 0, .int .i64 0, .slice none 0 0, .string (⟨#[]⟩ : ByteArray)]) ?_ 0 _ rfl; (with_reducible repeat (first | refine blk_drewN ?_ _ | refine blk_drew ?_ | refine blk_alloc ?_ _)); exact BK219.out⟩
              have n2_ : Aside0 (Below w.heap.size w ((((w33.setCell ⟨gb219, 0, none⟩ (.int .i64 ((rd_T24 l0_5 x42_2).f0))).setCell ⟨gb219, 1, none⟩ (.int .i64 ((rd_T24 l0_5 x42_2).f1))).setCell ⟨gb219, 2, none⟩ (.slice A218_2 ((rd_T24 l0_5 x42_2).f2).length c218_2)).setCell ⟨gb219, 3, none⟩ (.string ((rd_T24 l0_5 x42_2).f3)))) := ⟨aH⟩
              (try clear BK212)
              (try clear BK219)
              (try clear HB)
              generalize ((((w33.setCell ⟨gb219, 0, none⟩ (.int .i64 ((rd_T24 l0_5 x42_2).f0))).setCell ⟨gb219, 1, none⟩ (.int .i64 ((rd_T24 l0_5 x42_2).f1))).setCell ⟨gb219, 2, none⟩ (.slice A218_2 ((rd_T24 l0_5 x42_2).f2).length c218_2)).setCell ⟨gb219, 3, none⟩ (.string ((rd_T24 l0_5 x42_2).f3))) = w64 at n0_ n1_ n2_ ⊢
              have BK212 := n0_
              have BK219 := n1_
              have HB := n2_
              clear n0_ n1_ n2_
              have n0_ := Aside0.mk (blk_drew BK212.out)
              have n1_ := Aside0.mk (blk_drew BK219.out)
              have n2_ := Aside0.mk (below_drew1 HB.out)
              clear BK212
              clear BK219
              clear HB
              have BK212 := n0_
              have BK219 := n1_
              have HB := n2_
              clear n0_ n1_ n2_
              refine start_ (n := 41) (S := fun w' => w'.cell? ⟨gb219, 0, none⟩ = some (.int .i64 ((rd_T24 l0_5 x42_2).f0)) ∧ w'.cell? ⟨gb219, 1, none⟩ = some (.int .i64 ((rd_T24 l0_5 x42_2).f1)) ∧ w'.cell? ⟨gb219, 2, none⟩ = some (.slice A218_2 ((rd_T24 l0_5 x42_2).f2).length c218_2) ∧ w'.cell? ⟨gb219, 3, none⟩ = some (.string ((rd_T24 l0_5 x42_2).f3)) ∧ w'.cell? ⟨gb212, 0, none⟩ = some (.int .i64 a0_0) ∧ w'.cell? ⟨gb212, 1, none⟩ = some (.string a0_1) ∧ w'.cell? ⟨gb212, 2, none⟩ = some (.int .i64 a0_2) ∧ w'.cell? ⟨gb212, 3, none⟩ = some (.int .i64 a0_3) ∧ w'.cell? ⟨gb212, 4, none⟩ = some (.int .i64 a0_4) ∧ w'.cell? ⟨gb212, 5, none⟩ = some (.slice (some ad218) l0_5.length c0_5) ∧ w'.cell? ⟨gb212, 6, none⟩ = some (.slice A0_6 l0_6.length c0_6)) (ds := []) bb6_0 (by kernel_rfl) rfl rfl ⟨cR BK219.out 0, cR BK219.out 1, cR BK219.out 2, cR BK219.out 3, cR BK212.out 0, cR BK212.out 1, cR BK212.out 2, cR BK212.out 3, cR BK212.out 4, cR BK212.out 5, cR BK212.out 6⟩ (fun hHeld => ?_); refine with_tabW impl_BoxOk.tab6 impl_BoxOk.bits6 (fun HT_ HW_ => ?_)
              generalize w64.drew = w65 at BK212 BK219 HB hHeld ⊢
              refine tP 0 47 bb6_1 ?_
              refine one_ (i := 1) (N := some 48) bb6_2 rfl rfl (one_of HT_.out (by kernel_rfl)) (by decide) (fun K hK => ?_)
              refine goes_ Try.func46 (by kernel_rfl) rfl #[.agg #[.int .i64 ((rd_T24 l0_5 x42_2).f0), .int .i64 ((rd_T24 l0_5 x42_2).f1), .slice A218_2 ((rd_T24 l0_5 x42_2).f2).length c218_2, .string ((rd_T24 l0_5 x42_2).f3)]] (by rfl) rfl rfl (by (try simp only [List.map_toArray, List.map_cons, List.map_nil]); first | done | rfl | (simp only [List.length_drop, List.length_take]; rfl)) ?_
              with_reducible refine (impl_MailOk.calls k2 ((rd_T24 l0_5 x42_2).f0) ((rd_T24 l0_5 x42_2).f1) _ _ ((rd_T24 l0_5 x42_2).f2) ((rd_T24 l0_5 x42_2).f3) true _ ?side1 ?side2 A36.out).mono ?_
              (case side1 => repeat (first | exact (Kd.C_below HR218_2.out HB.out) | (with_reducible refine Kd.C_alloc ?_ _) | (with_reducible refine Kd.C_drewN ?_ _) | (with_reducible refine Kd.C_drew ?_)))
              (case side2 => exact HC218_2.out)
              rintro e w66 ⟨rfl, hb⟩
              refine ⟨_, rfl, ?_⟩
              have n0_ := Aside0.mk (kB BK212.out hb)
              have n1_ := Aside0.mk (kB BK219.out hb)
              have n2_ := Aside0.mk (below_step aH hb)
              clear BK212
              clear BK219
              clear HB
              have BK212 := n0_
              have BK219 := n1_
              have HB := n2_
              clear n0_ n1_ n2_
              (try clear hb)
              (try clear hb2)
              (try clear hk)
              (try clear hi)
              refine hK.out _ _ ⟨cR BK219.out 0, cR BK219.out 1, cR BK219.out 2, cR BK219.out 3, cR BK212.out 0, cR BK212.out 1, cR BK212.out 2, cR BK212.out 3, cR BK212.out 4, cR BK212.out 5, cR BK212.out 6⟩ (fun hHeld => ?_)
              clear hK K
              refine nP 48 ?_
              refine pP 2 49 bb6_3 ?_
              refine pP 3 50 bb6_4 ?_
              refine pP 4 51 bb6_5 ?_
              refine pP 6 53 bb6_6 ?_
              refine tP 5 52 bb6_7 ?_
              refine tP 7 54 bb6_8 ?_
              refine pP 8 55 bb6_9 ?_
              refine pP 9 56 bb6_10 ?_
              refine pP 10 57 bb6_11 ?_
              refine pP 11 58 bb6_12 ?_
              refine pP 12 59 bb6_13 ?_
              refine pP 13 60 bb6_14 ?_
              refine pU 14 61 bb6_15 ?_
              refine pU 15 62 bb6_16 ?_
              refine pU 16 63 bb6_17 ?_
              refine pU 17 64 bb6_18 ?_
              refine pU 18 65 bb6_19 ?_
              refine pU 19 66 bb6_20 ?_
              refine pU 20 67 bb6_21 ?_
              refine pU 21 68 bb6_22 ?_
              refine pU 22 69 bb6_23 ?_
              refine pU 23 70 bb6_24 ?_
              refine pP 24 71 bb6_25 ?_
              refine pP 25 72 bb6_26 ?_
              refine pP 26 73 bb6_27 ?_
              refine pP 28 75 bb6_48 ?_
              refine pP 31 78 bb6_49 ?_
              refine tP 27 74 bb6_50 ?_
              refine tP 29 76 bb6_51 ?_
              refine one_ (i := 30) (N := some 77) bb6_32 rfl rfl (one_of HT_.out (by kernel_rfl)) (by decide) (fun K hK => ?_)
              refine goes_ Try.func85 (by kernel_rfl) rfl #[.agg #[.int .i64 a0_0, .string a0_1, .int .i64 a0_2, .int .i64 a0_3, .int .i64 a0_4, .slice (some ad218) l0_5.length c0_5, .slice A0_6 l0_6.length c0_6], .int .i64 ((rd_T24 l0_5 x42_2).f0)] (by rfl) rfl rfl (by (try simp only [List.map_toArray, List.map_cons, List.map_nil]); first | done | rfl | (simp only [List.length_drop, List.length_take]; rfl)) ?_
              with_reducible refine (impl_MailAt.calls a0_0 a0_1 a0_2 a0_3 a0_4 _ _ l0_5 _ _ l0_6 ((rd_T24 l0_5 x42_2).f0) t224 _ ?side1 ?side2 ?side3 ?side4 A61.out).mono ?_
              (case side1 => repeat (first | exact (Kd.C_below HR0_5.out HB.out) | (with_reducible refine Kd.C_alloc ?_ _) | (with_reducible refine Kd.C_drewN ?_ _) | (with_reducible refine Kd.C_drew ?_)))
              (case side2 => exact HC0_5.out)
              (case side3 => repeat (first | exact (Kd.C_below HR0_6.out HB.out) | (with_reducible refine Kd.C_alloc ?_ _) | (with_reducible refine Kd.C_drewN ?_ _) | (with_reducible refine Kd.C_drew ?_)))
              (case side4 => exact HC0_6.out)
              rintro e w67 ⟨rfl, hb⟩
              refine ⟨_, rfl, ?_⟩
              have n0_ := Aside0.mk (kB BK212.out hb)
              have n1_ := Aside0.mk (kB BK219.out hb)
              have n2_ := Aside0.mk (below_step aH hb)
              clear BK212
              clear BK219
              clear HB
              have BK212 := n0_
              have BK219 := n1_
              have HB := n2_
              clear n0_ n1_ n2_
              (try clear hb)
              (try clear hb2)
              (try clear hk)
              (try clear hi)
              refine hK.out _ _ ⟨cR BK219.out 0, cR BK219.out 1, cR BK219.out 2, cR BK219.out 3, cR BK212.out 0, cR BK212.out 1, cR BK212.out 2, cR BK212.out 3, cR BK212.out 4, cR BK212.out 5, cR BK212.out 6⟩ (fun hHeld => ?_)
              clear hK K
              refine nP 77 ?_
              refine pP 32 79 bb6_33 ?_
              refine pP 33 80 bb6_34 ?_
              refine pP 34 81 bb6_35 ?_
              refine pP 35 82 bb6_36 ?_
              refine pP 37 84 bb6_52 ?_
              refine tP 36 83 bb6_38 ?_
              refine tP 38 85 bb6_39 ?_
              refine one_ (i := 39) (N := some 86) bb6_40 rfl rfl (one_of HT_.out (by kernel_rfl)) (by decide) (fun K hK => ?_)
              refine goes_ Try.func86 (by kernel_rfl) rfl #[.slice A0_6 l0_6.length c0_6, .int .i64 ((rd_T24 l0_5 x42_2).f0)] (by rfl) rfl rfl (by (try simp only [List.map_toArray, List.map_cons, List.map_nil]); first | done | rfl | (simp only [List.length_drop, List.length_take]; rfl)) ?_
              with_reducible refine (slices_Contains_int_int.calls k2 _ _ l0_6 ((rd_T24 l0_5 x42_2).f0) t225 _ ?side1 ?side2 A63.out).mono ?_
              (case side1 => repeat (first | exact (Kd.C_below HR0_6.out HB.out) | (with_reducible refine Kd.C_alloc ?_ _) | (with_reducible refine Kd.C_drewN ?_ _) | (with_reducible refine Kd.C_drew ?_)))
              (case side2 => exact HC0_6.out)
              rintro e w' ⟨rfl, ⟨nd, rfl⟩⟩
              refine ⟨_, rfl, ?_⟩
              refine hK.out _ _ ⟨cR BK219.out 0, cR BK219.out 1, cR BK219.out 2, cR BK219.out 3, cR BK212.out 0, cR BK212.out 1, cR BK212.out 2, cR BK212.out 3, cR BK212.out 4, cR BK212.out 5, cR BK212.out 6⟩ (fun hHeld => ?_)
              clear hK K
              refine nP 86 ?_
              refine pP 40 87 bb6_41 ?_
              refine done_ (done_of HT_.out (by kernel_rfl)) ?_
              try go_wp2
              go_meet
              case rel => exact ⟨_, (t225), aF, H', ⟨by have := HJ1.out; have := HK2.out; first | omega | exact Nat.le_refl _⟩, ⟨aB BK212.out⟩, ⟨aB BK219.out⟩, ⟨aH⟩⟩
             ·rw [if_neg c62] at H
              have c62b0 : (t224 == x42_2) = false := beq_eq_false_iff_ne.mpr c62
              have c62b1 : (t224 != x42_2) = true := bne_iff_ne.mpr c62
              have H' := Aside0.mk H
              clear H
              try go_wp2
              have n0_ : Aside0 (((((w33.setCell ⟨gb219, 0, none⟩ (.int .i64 ((rd_T24 l0_5 x42_2).f0))).setCell ⟨gb219, 1, none⟩ (.int .i64 ((rd_T24 l0_5 x42_2).f1))).setCell ⟨gb219, 2, none⟩ (.slice A218_2 ((rd_T24 l0_5 x42_2).f2).length c218_2)).setCell ⟨gb219, 3, none⟩ (.string ((rd_T24 l0_5 x42_2).f3))).heap[gb212]? = some (.cells #[.int .i64 a0_0, .string a0_1, .int .i64 a0_2, .int .i64 a0_3, .int .i64 a0_4, .slice (some ad218) l0_5.length c0_5, .slice A0_6 l0_6.length c0_6] 59 (0, 0))) := ⟨by (with_reducible repeat (first | refine blk_drewN ?_ _ | refine blk_drew ?_ | refine blk_alloc ?_ _)); refine blk_far ?_ NB212_219.out _; (with_reducible repeat (first | refine blk_drewN ?_ _ | refine blk_drew ?_ | refine blk_alloc ?_ _)); refine blk_far ?_ NB212_219.out _; (with_reducible repeat (first | refine blk_drewN ?_ _ | refine blk_drew ?_ | refine blk_alloc ?_ _)); refine blk_far ?_ NB212_219.out _; (with_reducible repeat (first | refine blk_drewN ?_ _ | refine blk_drew ?_ | refine blk_alloc ?_ _)); refine blk_far ?_ NB212_219.out _; (with_reducible repeat (first | refine blk_drewN ?_ _ | refine blk_drew ?_ | refine blk_alloc ?_ _)); exact BK212.out⟩
              have n1_ : Aside0 (((((w33.setCell ⟨gb219, 0, none⟩ (.int .i64 ((rd_T24 l0_5 x42_2).f0))).setCell ⟨gb219, 1, none⟩ (.int .i64 ((rd_T24 l0_5 x42_2).f1))).setCell ⟨gb219, 2, none⟩ (.slice A218_2 ((rd_T24 l0_5 x42_2).f2).length c218_2)).setCell ⟨gb219, 3, none⟩ (.string ((rd_T24 l0_5 x42_2).f3))).heap[gb219]? = some (.cells #[.int .i64 ((rd_T24 l0_5 x42_2).f0), .int .i64 ((rd_T24 l0_5 x42_2).f1), .slice A218_2 ((rd_T24 l0_5 x42_2).f2).length c218_2, .string ((rd_T24 l0_5 x42_2).f3)] 24 (0, 0))) := ⟨by (with_reducible repeat (first | refine blk_drewN ?_ _ | refine blk_drew ?_ | refine blk_alloc ?_ _)); refine blk_put (cs := #[.int .i64 ((rd_T24 l0_5 x42_2).f0), .int .i64 ((rd_T24 l0_5 x42_2).f1), .slice A218_2 ((rd_T24 l0_5 x42_2).f2).length c218_2, .string (⟨#[]⟩ : ByteArray)]) ?_ 3 _ rfl; (with_reducible repeat (first | refine blk_drewN ?_ _ | refine blk_drew ?_ | refine blk_alloc ?_ _)); refine blk_put (cs := #[.int .i64 ((rd_T24 l0_5 x42_2).f0), .int .i64 ((rd_T24 l0_5 x42_2).f1), .slice none 0 0, .string (⟨#[]⟩ : ByteArray)]) ?_ 2 _ rfl; (with_reducible repeat (first | refine blk_drewN ?_ _ | refine blk_drew ?_ | refine blk_alloc ?_ _)); refine blk_put (cs := #[.int .i64 ((rd_T24 l0_5 x42_2).f0), .int .i64 0, .slice none 0 0, .string (⟨#[]⟩ : ByteArray)]) ?_ 1 _ rfl; (with_reducible repeat (first | refine blk_drewN ?_ _ | refine blk_drew ?_ | refine blk_alloc ?_ _)); refine blk_put (cs := #[.int .i64 0, .int .i64 0, .slice none 0 0, .string (⟨#[]⟩ : ByteArray)]) ?_ 0 _ rfl; (with_reducible repeat (first | refine blk_drewN ?_ _ | refine blk_drew ?_ | refine blk_alloc ?_ _)); exact BK219.out⟩
              have n2_ : Aside0 (Below w.heap.size w ((((w33.setCell ⟨gb219, 0, none⟩ (.int .i64 ((rd_T24 l0_5 x42_2).f0))).setCell ⟨gb219, 1, none⟩ (.int .i64 ((rd_T24 l0_5 x42_2).f1))).setCell ⟨gb219, 2, none⟩ (.slice A218_2 ((rd_T24 l0_5 x42_2).f2).length c218_2)).setCell ⟨gb219, 3, none⟩ (.string ((rd_T24 l0_5 x42_2).f3)))) := ⟨aH⟩
              (try clear BK212)
              (try clear BK219)
              (try clear HB)
              generalize ((((w33.setCell ⟨gb219, 0, none⟩ (.int .i64 ((rd_T24 l0_5 x42_2).f0))).setCell ⟨gb219, 1, none⟩ (.int .i64 ((rd_T24 l0_5 x42_2).f1))).setCell ⟨gb219, 2, none⟩ (.slice A218_2 ((rd_T24 l0_5 x42_2).f2).length c218_2)).setCell ⟨gb219, 3, none⟩ (.string ((rd_T24 l0_5 x42_2).f3))) = w68 at n0_ n1_ n2_ ⊢
              have BK212 := n0_
              have BK219 := n1_
              have HB := n2_
              clear n0_ n1_ n2_
              have n0_ := Aside0.mk (blk_drew BK212.out)
              have n1_ := Aside0.mk (blk_drew BK219.out)
              have n2_ := Aside0.mk (below_drew1 HB.out)
              clear BK212
              clear BK219
              clear HB
              have BK212 := n0_
              have BK219 := n1_
              have HB := n2_
              clear n0_ n1_ n2_
              refine start_ (n := 41) (S := fun w' => w'.cell? ⟨gb219, 0, none⟩ = some (.int .i64 ((rd_T24 l0_5 x42_2).f0)) ∧ w'.cell? ⟨gb219, 1, none⟩ = some (.int .i64 ((rd_T24 l0_5 x42_2).f1)) ∧ w'.cell? ⟨gb219, 2, none⟩ = some (.slice A218_2 ((rd_T24 l0_5 x42_2).f2).length c218_2) ∧ w'.cell? ⟨gb219, 3, none⟩ = some (.string ((rd_T24 l0_5 x42_2).f3)) ∧ w'.cell? ⟨gb212, 0, none⟩ = some (.int .i64 a0_0) ∧ w'.cell? ⟨gb212, 1, none⟩ = some (.string a0_1) ∧ w'.cell? ⟨gb212, 2, none⟩ = some (.int .i64 a0_2) ∧ w'.cell? ⟨gb212, 3, none⟩ = some (.int .i64 a0_3) ∧ w'.cell? ⟨gb212, 4, none⟩ = some (.int .i64 a0_4) ∧ w'.cell? ⟨gb212, 5, none⟩ = some (.slice (some ad218) l0_5.length c0_5) ∧ w'.cell? ⟨gb212, 6, none⟩ = some (.slice A0_6 l0_6.length c0_6)) (ds := []) bb6_0 (by kernel_rfl) rfl rfl ⟨cR BK219.out 0, cR BK219.out 1, cR BK219.out 2, cR BK219.out 3, cR BK212.out 0, cR BK212.out 1, cR BK212.out 2, cR BK212.out 3, cR BK212.out 4, cR BK212.out 5, cR BK212.out 6⟩ (fun hHeld => ?_); refine with_tabW impl_BoxOk.tab6 impl_BoxOk.bits6 (fun HT_ HW_ => ?_)
              generalize w68.drew = w69 at BK212 BK219 HB hHeld ⊢
              refine tP 0 47 bb6_1 ?_
              refine one_ (i := 1) (N := some 48) bb6_2 rfl rfl (one_of HT_.out (by kernel_rfl)) (by decide) (fun K hK => ?_)
              refine goes_ Try.func46 (by kernel_rfl) rfl #[.agg #[.int .i64 ((rd_T24 l0_5 x42_2).f0), .int .i64 ((rd_T24 l0_5 x42_2).f1), .slice A218_2 ((rd_T24 l0_5 x42_2).f2).length c218_2, .string ((rd_T24 l0_5 x42_2).f3)]] (by rfl) rfl rfl (by (try simp only [List.map_toArray, List.map_cons, List.map_nil]); first | done | rfl | (simp only [List.length_drop, List.length_take]; rfl)) ?_
              with_reducible refine (impl_MailOk.calls k2 ((rd_T24 l0_5 x42_2).f0) ((rd_T24 l0_5 x42_2).f1) _ _ ((rd_T24 l0_5 x42_2).f2) ((rd_T24 l0_5 x42_2).f3) true _ ?side1 ?side2 A36.out).mono ?_
              (case side1 => repeat (first | exact (Kd.C_below HR218_2.out HB.out) | (with_reducible refine Kd.C_alloc ?_ _) | (with_reducible refine Kd.C_drewN ?_ _) | (with_reducible refine Kd.C_drew ?_)))
              (case side2 => exact HC218_2.out)
              rintro e w70 ⟨rfl, hb⟩
              refine ⟨_, rfl, ?_⟩
              have n0_ := Aside0.mk (kB BK212.out hb)
              have n1_ := Aside0.mk (kB BK219.out hb)
              have n2_ := Aside0.mk (below_step aH hb)
              clear BK212
              clear BK219
              clear HB
              have BK212 := n0_
              have BK219 := n1_
              have HB := n2_
              clear n0_ n1_ n2_
              (try clear hb)
              (try clear hb2)
              (try clear hk)
              (try clear hi)
              refine hK.out _ _ ⟨cR BK219.out 0, cR BK219.out 1, cR BK219.out 2, cR BK219.out 3, cR BK212.out 0, cR BK212.out 1, cR BK212.out 2, cR BK212.out 3, cR BK212.out 4, cR BK212.out 5, cR BK212.out 6⟩ (fun hHeld => ?_)
              clear hK K
              refine nP 48 ?_
              refine pP 2 49 bb6_3 ?_
              refine pP 3 50 bb6_4 ?_
              refine pP 4 51 bb6_5 ?_
              refine pP 6 53 bb6_6 ?_
              refine tP 5 52 bb6_7 ?_
              refine tP 7 54 bb6_8 ?_
              refine pP 8 55 bb6_9 ?_
              refine pP 9 56 bb6_10 ?_
              refine pP 10 57 bb6_11 ?_
              refine pP 11 58 bb6_12 ?_
              refine pP 12 59 bb6_13 ?_
              refine pP 13 60 bb6_14 ?_
              refine pU 14 61 bb6_15 ?_
              refine pU 15 62 bb6_16 ?_
              refine pU 16 63 bb6_17 ?_
              refine pU 17 64 bb6_18 ?_
              refine pU 18 65 bb6_19 ?_
              refine pU 19 66 bb6_20 ?_
              refine pU 20 67 bb6_21 ?_
              refine pU 21 68 bb6_22 ?_
              refine pU 22 69 bb6_23 ?_
              refine pU 23 70 bb6_24 ?_
              refine pP 24 71 bb6_25 ?_
              refine pP 25 72 bb6_26 ?_
              refine pP 26 73 bb6_27 ?_
              refine pP 28 75 bb6_48 ?_
              refine pP 31 78 bb6_49 ?_
              refine tP 27 74 bb6_50 ?_
              refine tP 29 76 bb6_51 ?_
              refine one_ (i := 30) (N := some 77) bb6_32 rfl rfl (one_of HT_.out (by kernel_rfl)) (by decide) (fun K hK => ?_)
              refine goes_ Try.func85 (by kernel_rfl) rfl #[.agg #[.int .i64 a0_0, .string a0_1, .int .i64 a0_2, .int .i64 a0_3, .int .i64 a0_4, .slice (some ad218) l0_5.length c0_5, .slice A0_6 l0_6.length c0_6], .int .i64 ((rd_T24 l0_5 x42_2).f0)] (by rfl) rfl rfl (by (try simp only [List.map_toArray, List.map_cons, List.map_nil]); first | done | rfl | (simp only [List.length_drop, List.length_take]; rfl)) ?_
              with_reducible refine (impl_MailAt.calls a0_0 a0_1 a0_2 a0_3 a0_4 _ _ l0_5 _ _ l0_6 ((rd_T24 l0_5 x42_2).f0) t224 _ ?side1 ?side2 ?side3 ?side4 A61.out).mono ?_
              (case side1 => repeat (first | exact (Kd.C_below HR0_5.out HB.out) | (with_reducible refine Kd.C_alloc ?_ _) | (with_reducible refine Kd.C_drewN ?_ _) | (with_reducible refine Kd.C_drew ?_)))
              (case side2 => exact HC0_5.out)
              (case side3 => repeat (first | exact (Kd.C_below HR0_6.out HB.out) | (with_reducible refine Kd.C_alloc ?_ _) | (with_reducible refine Kd.C_drewN ?_ _) | (with_reducible refine Kd.C_drew ?_)))
              (case side4 => exact HC0_6.out)
              rintro e w71 ⟨rfl, hb⟩
              refine ⟨_, rfl, ?_⟩
              have n0_ := Aside0.mk (kB BK212.out hb)
              have n1_ := Aside0.mk (kB BK219.out hb)
              have n2_ := Aside0.mk (below_step aH hb)
              clear BK212
              clear BK219
              clear HB
              have BK212 := n0_
              have BK219 := n1_
              have HB := n2_
              clear n0_ n1_ n2_
              (try clear hb)
              (try clear hb2)
              (try clear hk)
              (try clear hi)
              refine hK.out _ _ ⟨cR BK219.out 0, cR BK219.out 1, cR BK219.out 2, cR BK219.out 3, cR BK212.out 0, cR BK212.out 1, cR BK212.out 2, cR BK212.out 3, cR BK212.out 4, cR BK212.out 5, cR BK212.out 6⟩ (fun hHeld => ?_)
              clear hK K
              refine nP 77 ?_
              refine pP 32 79 bb6_33 ?_
              refine pP 33 80 bb6_34 ?_
              refine pP 34 81 bb6_35 ?_
              refine pU 35 82 bb6_36 ?_
              refine pU 36 83 bb6_37 ?_
              refine pU 37 84 bb6_38 ?_
              refine pU 38 85 bb6_39 ?_
              refine pU 39 86 bb6_40 ?_
              refine pP 40 87 bb6_41 ?_
              refine done_ (done_of HT_.out (by kernel_rfl)) ?_
              try go_wp2
              go_meet
              case rel => exact ⟨_, (true), aF, H', ⟨by have := HJ1.out; have := HK2.out; first | omega | exact Nat.le_refl _⟩, ⟨aB BK212.out⟩, ⟨aB BK219.out⟩, ⟨aH⟩⟩
          ·replace c37 := Bool.eq_false_iff.mpr c37
           subst c37
           have H1 := wF H
           clear H
           have H := H1
           clear H1
           have H' := Aside0.mk H
           clear H
           try go_wp2
           have n0_ : Aside0 (((((w33.setCell ⟨gb219, 0, none⟩ (.int .i64 ((rd_T24 l0_5 x42_2).f0))).setCell ⟨gb219, 1, none⟩ (.int .i64 ((rd_T24 l0_5 x42_2).f1))).setCell ⟨gb219, 2, none⟩ (.slice A218_2 ((rd_T24 l0_5 x42_2).f2).length c218_2)).setCell ⟨gb219, 3, none⟩ (.string ((rd_T24 l0_5 x42_2).f3))).heap[gb212]? = some (.cells #[.int .i64 a0_0, .string a0_1, .int .i64 a0_2, .int .i64 a0_3, .int .i64 a0_4, .slice (some ad218) l0_5.length c0_5, .slice A0_6 l0_6.length c0_6] 59 (0, 0))) := ⟨by (with_reducible repeat (first | refine blk_drewN ?_ _ | refine blk_drew ?_ | refine blk_alloc ?_ _)); refine blk_far ?_ NB212_219.out _; (with_reducible repeat (first | refine blk_drewN ?_ _ | refine blk_drew ?_ | refine blk_alloc ?_ _)); refine blk_far ?_ NB212_219.out _; (with_reducible repeat (first | refine blk_drewN ?_ _ | refine blk_drew ?_ | refine blk_alloc ?_ _)); refine blk_far ?_ NB212_219.out _; (with_reducible repeat (first | refine blk_drewN ?_ _ | refine blk_drew ?_ | refine blk_alloc ?_ _)); refine blk_far ?_ NB212_219.out _; (with_reducible repeat (first | refine blk_drewN ?_ _ | refine blk_drew ?_ | refine blk_alloc ?_ _)); exact BK212.out⟩
           have n1_ : Aside0 (((((w33.setCell ⟨gb219, 0, none⟩ (.int .i64 ((rd_T24 l0_5 x42_2).f0))).setCell ⟨gb219, 1, none⟩ (.int .i64 ((rd_T24 l0_5 x42_2).f1))).setCell ⟨gb219, 2, none⟩ (.slice A218_2 ((rd_T24 l0_5 x42_2).f2).length c218_2)).setCell ⟨gb219, 3, none⟩ (.string ((rd_T24 l0_5 x42_2).f3))).heap[gb219]? = some (.cells #[.int .i64 ((rd_T24 l0_5 x42_2).f0), .int .i64 ((rd_T24 l0_5 x42_2).f1), .slice A218_2 ((rd_T24 l0_5 x42_2).f2).length c218_2, .string ((rd_T24 l0_5 x42_2).f3)] 24 (0, 0))) := ⟨by (with_reducible repeat (first | refine blk_drewN ?_ _ | refine blk_drew ?_ | refine blk_alloc ?_ _)); refine blk_put (cs := #[.int .i64 ((rd_T24 l0_5 x42_2).f0), .int .i64 ((rd_T24 l0_5 x42_2).f1), .slice A218_2 ((rd_T24 l0_5 x42_2).f2).length c218_2, .string (⟨#[]⟩ : ByteArray)]) ?_ 3 _ rfl; (with_reducible repeat (first | refine blk_drewN ?_ _ | refine blk_drew ?_ | refine blk_alloc ?_ _)); refine blk_put (cs := #[.int .i64 ((rd_T24 l0_5 x42_2).f0), .int .i64 ((rd_T24 l0_5 x42_2).f1), .slice none 0 0, .string (⟨#[]⟩ : ByteArray)]) ?_ 2 _ rfl; (with_reducible repeat (first | refine blk_drewN ?_ _ | refine blk_drew ?_ | refine blk_alloc ?_ _)); refine blk_put (cs := #[.int .i64 ((rd_T24 l0_5 x42_2).f0), .int .i64 0, .slice none 0 0, .string (⟨#[]⟩ : ByteArray)]) ?_ 1 _ rfl; (with_reducible repeat (first | refine blk_drewN ?_ _ | refine blk_drew ?_ | refine blk_alloc ?_ _)); refine blk_put (cs := #[.int .i64 0, .int .i64 0, .slice none 0 0, .string (⟨#[]⟩ : ByteArray)]) ?_ 0 _ rfl; (with_reducible repeat (first | refine blk_drewN ?_ _ | refine blk_drew ?_ | refine blk_alloc ?_ _)); exact BK219.out⟩
           have n2_ : Aside0 (Below w.heap.size w ((((w33.setCell ⟨gb219, 0, none⟩ (.int .i64 ((rd_T24 l0_5 x42_2).f0))).setCell ⟨gb219, 1, none⟩ (.int .i64 ((rd_T24 l0_5 x42_2).f1))).setCell ⟨gb219, 2, none⟩ (.slice A218_2 ((rd_T24 l0_5 x42_2).f2).length c218_2)).setCell ⟨gb219, 3, none⟩ (.string ((rd_T24 l0_5 x42_2).f3)))) := ⟨aH⟩
           (try clear BK212)
           (try clear BK219)
           (try clear HB)
           generalize ((((w33.setCell ⟨gb219, 0, none⟩ (.int .i64 ((rd_T24 l0_5 x42_2).f0))).setCell ⟨gb219, 1, none⟩ (.int .i64 ((rd_T24 l0_5 x42_2).f1))).setCell ⟨gb219, 2, none⟩ (.slice A218_2 ((rd_T24 l0_5 x42_2).f2).length c218_2)).setCell ⟨gb219, 3, none⟩ (.string ((rd_T24 l0_5 x42_2).f3))) = w72 at n0_ n1_ n2_ ⊢
           have BK212 := n0_
           have BK219 := n1_
           have HB := n2_
           clear n0_ n1_ n2_
           have n0_ := Aside0.mk (blk_drew BK212.out)
           have n1_ := Aside0.mk (blk_drew BK219.out)
           have n2_ := Aside0.mk (below_drew1 HB.out)
           clear BK212
           clear BK219
           clear HB
           have BK212 := n0_
           have BK219 := n1_
           have HB := n2_
           clear n0_ n1_ n2_
           refine start_ (n := 41) (S := fun w' => w'.cell? ⟨gb219, 0, none⟩ = some (.int .i64 ((rd_T24 l0_5 x42_2).f0)) ∧ w'.cell? ⟨gb219, 1, none⟩ = some (.int .i64 ((rd_T24 l0_5 x42_2).f1)) ∧ w'.cell? ⟨gb219, 2, none⟩ = some (.slice A218_2 ((rd_T24 l0_5 x42_2).f2).length c218_2) ∧ w'.cell? ⟨gb219, 3, none⟩ = some (.string ((rd_T24 l0_5 x42_2).f3))) (ds := []) bb6_0 (by kernel_rfl) rfl rfl ⟨cR BK219.out 0, cR BK219.out 1, cR BK219.out 2, cR BK219.out 3⟩ (fun hHeld => ?_); refine with_tabW impl_BoxOk.tab6 impl_BoxOk.bits6 (fun HT_ HW_ => ?_)
           generalize w72.drew = w73 at BK212 BK219 HB hHeld ⊢
           refine tP 0 47 bb6_1 ?_
           refine one_ (i := 1) (N := some 48) bb6_2 rfl rfl (one_of HT_.out (by kernel_rfl)) (by decide) (fun K hK => ?_)
           refine goes_ Try.func46 (by kernel_rfl) rfl #[.agg #[.int .i64 ((rd_T24 l0_5 x42_2).f0), .int .i64 ((rd_T24 l0_5 x42_2).f1), .slice A218_2 ((rd_T24 l0_5 x42_2).f2).length c218_2, .string ((rd_T24 l0_5 x42_2).f3)]] (by rfl) rfl rfl (by (try simp only [List.map_toArray, List.map_cons, List.map_nil]); first | done | rfl | (simp only [List.length_drop, List.length_take]; rfl)) ?_
           with_reducible refine (impl_MailOk.calls k2 ((rd_T24 l0_5 x42_2).f0) ((rd_T24 l0_5 x42_2).f1) _ _ ((rd_T24 l0_5 x42_2).f2) ((rd_T24 l0_5 x42_2).f3) false _ ?side1 ?side2 A36.out).mono ?_
           (case side1 => repeat (first | exact (Kd.C_below HR218_2.out HB.out) | (with_reducible refine Kd.C_alloc ?_ _) | (with_reducible refine Kd.C_drewN ?_ _) | (with_reducible refine Kd.C_drew ?_)))
           (case side2 => exact HC218_2.out)
           rintro e w74 ⟨rfl, hb⟩
           refine ⟨_, rfl, ?_⟩
           have n0_ := Aside0.mk (kB BK212.out hb)
           have n1_ := Aside0.mk (kB BK219.out hb)
           have n2_ := Aside0.mk (below_step aH hb)
           clear BK212
           clear BK219
           clear HB
           have BK212 := n0_
           have BK219 := n1_
           have HB := n2_
           clear n0_ n1_ n2_
           (try clear hb)
           (try clear hb2)
           (try clear hk)
           (try clear hi)
           refine hK.out _ _ ⟨cR BK219.out 0, cR BK219.out 1, cR BK219.out 2, cR BK219.out 3⟩ (fun hHeld => ?_)
           clear hK K
           refine nP 48 ?_
           refine pP 2 49 bb6_3 ?_
           refine pP 3 50 bb6_4 ?_
           refine pU 4 51 bb6_5 ?_
           refine pU 5 52 (bA 41 63) ?_
           refine pU 6 53 bb6_7 ?_
           refine pU 7 54 bb6_8 ?_
           refine pU 8 55 bb6_9 ?_
           refine pP 9 56 bb6_10 ?_
           refine pP 10 57 bb6_11 ?_
           refine pU 11 58 bb6_12 ?_
           refine pU 12 59 bb6_13 ?_
           refine pU 13 60 bb6_14 ?_
           refine pU 14 61 bb6_15 ?_
           refine pU 15 62 bb6_16 ?_
           refine pU 16 63 bb6_17 ?_
           refine pU 17 64 bb6_18 ?_
           refine pU 18 65 bb6_19 ?_
           refine pU 19 66 bb6_20 ?_
           refine pU 20 67 bb6_21 ?_
           refine pU 21 68 bb6_22 ?_
           refine pU 22 69 bb6_23 ?_
           refine pU 23 70 bb6_24 ?_
           refine pU 24 71 bb6_25 ?_
           refine pP 25 72 bb6_26 ?_
           refine pP 26 73 bb6_27 ?_
           refine pU 27 74 bb6_28 ?_
           refine pU 28 75 bb6_29 ?_
           refine pU 29 76 bb6_30 ?_
           refine pU 30 77 bb6_31 ?_
           refine pU 31 78 bb6_32 ?_
           refine pU 32 79 bb6_33 ?_
           refine pP 33 80 bb6_34 ?_
           refine pP 34 81 bb6_35 ?_
           refine pU 35 82 bb6_36 ?_
           refine pU 36 83 bb6_37 ?_
           refine pU 37 84 bb6_38 ?_
           refine pU 38 85 bb6_39 ?_
           refine pU 39 86 bb6_40 ?_
           refine pP 40 87 bb6_41 ?_
           refine done_ (done_of HT_.out (by kernel_rfl)) ?_
           try go_wp2
           go_meet
           case rel => exact ⟨_, (true), aF, H', ⟨by have := HJ1.out; have := HK2.out; first | omega | exact Nat.le_refl _⟩, ⟨aB BK212.out⟩, ⟨aB BK219.out⟩, ⟨aH⟩⟩
         case rest =>
          clear HC32
          try clear c2
          try clear p2
          try clear c3
          try clear c4
          try clear c8
          try clear c21
          try clear c37
          try clear c46
          obtain ⟨kq, x87_31, rfl, HA, HJ31, BK212, BK219, HB⟩ := hcut
          cases kq with
          | zero => exact absurd HA.out (by simp [impl_BoxOk.j2])
          | succ kj31 =>
           have H := HA.out
           clear HA
           simp only [impl_BoxOk.j2] at H
           by_cases c75 : x87_31 = true
           ·subst c75
            have H1 := wT H
            clear H
            have H := H1
            clear H1
            obtain rfl := Option.some.inj H
            go_wp2
            go_ret
            exact ⟨by first | rfl | (simp [errW_none, errW_some] <;> rfl) | (simp [*, errW_none, errW_some] <;> rfl), aH⟩
           ·replace c75 := Bool.eq_false_iff.mpr c75
            subst c75
            have H1 := wF H
            clear H
            have H := H1
            clear H1
            have H' := Aside0.mk H
            clear H
            go_wp2
            go_roundg kj31
            case measure => have := HJ1.out; have := HK2.out; have := HJ31.out; omega
            case rel => exact ⟨(wrap64 (x42_2 + 1)), aF, H', ⟨by have := HJ1.out; have := HK2.out; have := HJ31.out; omega⟩, ⟨aB BK212.out⟩, ⟨aH⟩⟩
        ·rw [if_neg c31] at H
         exact absurd H (by simp)
       ·rw [if_neg c30] at H
        exact absurd H (by simp)
      ·rw [if_neg c29] at H
       have c29b0 : decide (x42_2 < (l0_5.length : Int)) = false := decide_eq_false c29
       clear c29
       obtain rfl := Option.some.inj H
       go_wp2
       go_ret
       exact ⟨by first | rfl | (simp [errW_none, errW_some] <;> rfl) | (simp [*, errW_none, errW_some] <;> rfl), aH⟩

end Go.Proofs.Ytjlffencbaifeaa.PFnExactBoxOk
