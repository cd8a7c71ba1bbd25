-- Written for this claim by the session's own wip/myprint.py (a patched run of the kit's printer). Not trusted: Lean checks it.
import Derived.Test.YtdabhhlfnfjojaaPFnRegsx0
import Derived.Test.YtdabhhlfnfjojaaPFnRegsx2
namespace Go.Proofs.Ytdabhhlfnfjojaa.PFnRegs
open Go.RowKit Go.Proofs.YtdabhhlfnfjojaaW.PrintWords Go.Proofs.YtdabhhlfnfjojaaW.PrintLast Go.Proofs.YtdabhhlfnfjojaaW.PrintMore
attribute [local go_sem] max2_str max2_int min2_int max_two min_two max_three min_three max_four min_four   -- for this text's walks alone
set_option linter.unusedVariables false
set_option linter.unusedSimpArgs false

/-! ### spec_DrawRegs: function 27 -/
def spec_DrawRegs.f (k : Nat) (l0 : List Int) : Option (Int × Int × Int × Int × Int × Int × Int × Int × Int) := (spec_l01New.f k l0).bind fun bt130 => ((spec_l03Stamp.f bt130.1 bt130.2.1 bt130.2.2).bind fun bt134 => ((spec_l03Stamp.f bt130.1 bt134.2.2.1 bt134.2.2.2).bind fun bt139 => ((spec_l03Stamp.f bt130.1 bt139.2.2.1 bt139.2.2.2).bind fun bt144 => ((spec_l01Below.f bt130.1 bt144.2.2.1 bt144.2.2.2 3).bind fun bt149 => ((spec_l01Below.f bt130.1 bt149.2.1 bt149.2.2 3).bind fun bt153 => ((spec_l01Below.f bt130.1 bt153.2.1 bt153.2.2 3).bind fun bt157 => (some (bt149.1, bt134.1, bt134.2.1, bt153.1, bt139.1, bt139.2.1, bt157.1, bt144.1, bt144.2.1))))))))
theorem spec_DrawRegs.mono : ∀ a0 k, LeO (spec_DrawRegs.f k a0) (spec_DrawRegs.f (k + 1) a0) := by
 intro a0 k
 unfold spec_DrawRegs.f
 repeat' first
   | (with_reducible exact spec_l01New.mono _ _)
   | (with_reducible exact LeO.refl _)
   | (with_reducible exact LeO.none _)
   | (with_reducible refine LeO.ite ?_ ?_)
   | (with_reducible refine LeO.bind ?_ (fun _ => ?_))
   | exact spec_l01New.mono _ _
   | exact LeO.none _
   | refine LeO.ite ?_ ?_
   | refine LeO.bind ?_ (fun _ => ?_)
def spec_DrawRegs.T7 : Bool × List (List Nat × List Nat) := (true, [([], []), ([], []), ([], []), ([2], [2]), ([], []), ([3, 4], [3, 4]), ([0, 3, 0], [0]), ([1, 6, 0, 1, 6], [1]), ([5, 7, 0, 1, 2, 3, 4, 5, 6, 7], [5])])
def spec_DrawRegs.B7 : List Nat := [0, 0, 0, 4, 0, 28, 13, 79, 255]
theorem spec_DrawRegs.tab7 : rtab .any (opsOf Try.f27 7) = spec_DrawRegs.T7 := by kernel_rfl
theorem spec_DrawRegs.bits7 : waitsOk spec_DrawRegs.T7.2 spec_DrawRegs.B7 = true := by kernel_rfl
set_option maxHeartbeats 8000000 in
set_option maxRecDepth 100000 in
theorem spec_DrawRegs.calls (k : Nat) (A0 : Option Addr) (c0 : Nat) (l0 : List Int) (r1 : Int) (r2 : Int) (r3 : Int) (r4 : Int) (r5 : Int) (r6 : Int) (r7 : Int) (r8 : Int) (r9 : Int) (w : World) (hr0 : Kd.C (Kd.int .u8) w A0 l0.length l0) (hc0 : l0.length ≤ c0) (h : spec_DrawRegs.f k l0 = some (r1, r2, r3, r4, r5, r6, r7, r8, r9)) :
  Calls Try.prog 27 #[.slice A0 l0.length c0] w fun e w' => e = .returned (.tuple #[.agg #[.int .i64 r1, .int .i64 r2, .int .i64 r3], .agg #[.int .i64 r4, .int .i64 r5, .int .i64 r6], .agg #[.int .i64 r7, .int .i64 r8, .int .i64 r9]]) ∧ Below w.heap.size w w' := by
 have hu41 := Try.underlying41
 have hu39 := Try.underlying39
 have HR0 := Aside0.mk hr0
 have HC0 := Aside0.mk hc0
 clear hr0 hc0
 have HB := Aside0.mk (Below.refl w.heap.size w)
 have H := h
 unfold spec_DrawRegs.f at H
 clear h
 replace H := Option.bind_eq_some_iff.mp H
 obtain ⟨⟨t130, t131, t132⟩, A20, H⟩ := H
 try dsimp only at H
 have A2 := Aside0.mk A20
 clear A20
 replace H := Option.bind_eq_some_iff.mp H
 obtain ⟨⟨t134, t135, t136, t137⟩, A30, H⟩ := H
 try dsimp only at H
 have A3 := Aside0.mk A30
 clear A30
 replace H := Option.bind_eq_some_iff.mp H
 obtain ⟨⟨t139, t140, t141, t142⟩, A40, H⟩ := H
 try dsimp only at H
 have A4 := Aside0.mk A40
 clear A40
 replace H := Option.bind_eq_some_iff.mp H
 obtain ⟨⟨t144, t145, t146, t147⟩, A50, H⟩ := H
 try dsimp only at H
 have A5 := Aside0.mk A50
 clear A50
 replace H := Option.bind_eq_some_iff.mp H
 obtain ⟨⟨t149, t150, t151⟩, A60, H⟩ := H
 try dsimp only at H
 have A6 := Aside0.mk A60
 clear A60
 replace H := Option.bind_eq_some_iff.mp H
 obtain ⟨⟨t153, t154, t155⟩, A70, H⟩ := H
 replace H : ((spec_l01Below.f t130 t154 t155 3).bind fun bt157 => (some (t149, t134, t135, t153, t139, t140, bt157.1, t144, t145))) = some (r1, r2, r3, r4, r5, r6, r7, r8, r9) := H
 have A7 := Aside0.mk A70
 clear A70
 replace H := Option.bind_eq_some_iff.mp H
 obtain ⟨⟨t157, t158, t159⟩, A80, H⟩ := H
 replace H : (some (t149, t134, t135, t153, t139, t140, t157, t144, t145)) = some (r1, r2, r3, r4, r5, r6, r7, r8, r9) := H
 have A8 := Aside0.mk A80
 clear A80
 simp only [Option.some.injEq, Prod.mk.injEq] at H
 obtain ⟨rfl, rfl, rfl, rfl, rfl, rfl, rfl, rfl, rfl⟩ := H
 go_enter Try.func27, Try.ntmps27
 try go_wp2_with (first | ((with_reducible refine gate_dst (N := 2) rfl ?_); refine bE 2 #[.int .i64 0, .int .i64 0, .int .i64 0] 41 ?_; intro gb127 hg w9 hbox hb; have n0_ := Aside0.mk (below_step aH hb); have n1_ := Aside0.mk (hbox); have n2_ := Aside0.mk ((gS hg : w.heap.size ≤ gb127)); have n3_ := Aside0.mk ((gS hg : w.heap.size ≤ gb127)); clear HB; have HB := n0_; have BK127 := n1_; have GW127 := n2_; have GE127 := n3_; clear n0_ n1_ n2_ n3_; clear hb hbox hg) | ((with_reducible refine gate_dst (N := 3) rfl ?_); refine bE 3 #[.int .i64 0, .int .i64 0, .int .i64 0] 41 ?_; intro gb128 hg w10 hbox hb; have n0_ := Aside0.mk (kB BK127.out hb); have n1_ := Aside0.mk (below_step aH hb); have n2_ := Aside0.mk (hbox); have n3_ := Aside0.mk ((gS hg : w.heap.size ≤ gb128)); have n4_ := Aside0.mk ((gS hg : w.heap.size ≤ gb128)); have n5_ := Aside0.mk (gL hg BK127.out); have n6_ := Aside0.mk (gG hg BK127.out); clear BK127; clear HB; have BK127 := n0_; have HB := n1_; have BK128 := n2_; have GW128 := n3_; have GE128 := n4_; have NB127_128 := n5_; have NB128_127 := n6_; clear n0_ n1_ n2_ n3_ n4_ n5_ n6_; clear hb hbox hg) | ((with_reducible refine gate_dst (N := 4) rfl ?_); refine bE 4 #[.int .i64 0, .int .i64 0, .int .i64 0] 41 ?_; intro gb129 hg w11 hbox hb; have n0_ := Aside0.mk (kB BK127.out hb); have n1_ := Aside0.mk (kB BK128.out hb); have n2_ := Aside0.mk (below_step aH hb); have n3_ := Aside0.mk (hbox); have n4_ := Aside0.mk ((gS hg : w.heap.size ≤ gb129)); have n5_ := Aside0.mk ((gS hg : w.heap.size ≤ gb129)); have n6_ := Aside0.mk (gL hg BK127.out); have n7_ := Aside0.mk (gG hg BK127.out); have n8_ := Aside0.mk (gL hg BK128.out); have n9_ := Aside0.mk (gG hg BK128.out); clear BK127; clear BK128; clear HB; have BK127 := n0_; have BK128 := n1_; have HB := n2_; have BK129 := n3_; have GW129 := n4_; have GE129 := n5_; have NB127_129 := n6_; have NB129_127 := n7_; have NB128_129 := n8_; have NB129_128 := n9_; clear n0_ n1_ n2_ n3_ n4_ n5_ n6_ n7_ n8_ n9_; clear hb hbox hg) | ((with_reducible refine gate_callee (f := 81) rfl ?_); refine gL_ (some 12) Try.func81 #[.slice A0 l0.length c0] ?_; (with_reducible refine (spec_l01New.calls k _ _ l0 t130 t131 t132 w _ ?side1 ?side2 ?side3 A2.out).mono ?_); (case side1 => repeat (first | (with_reducible first | exact HB.out | apply below_alloc | apply pw_below_drewN | apply below_drew1 | refine below_set ?_ GE127.out | refine below_set ?_ GE128.out | refine below_set ?_ GE129.out) | exact HB.out)); (case side2 => exact HR0.out); (case side3 => exact HC0.out); rintro e w12 ⟨g133, rfl, hi, hb, hb2⟩; refine ⟨_, rfl, ?_⟩; have n0_ := Aside0.mk (blk_below (g := gb127) (o := .cells #[.int .i64 0, .int .i64 0, .int .i64 0] 41 (0, 0)) (aB BK127.out) hb2); have n1_ := Aside0.mk (blk_below (g := gb128) (o := .cells #[.int .i64 0, .int .i64 0, .int .i64 0] 41 (0, 0)) (aB BK128.out) hb2); have n2_ := Aside0.mk (blk_below (g := gb129) (o := .cells #[.int .i64 0, .int .i64 0, .int .i64 0] 41 (0, 0)) (aB BK129.out) hb2); have n3_ := Aside0.mk (hb); have n4_ := Aside0.mk (hi); have n5_ := Aside0.mk (IsS135.ne_blk hi (blk_below (g := gb127) (o := .cells #[.int .i64 0, .int .i64 0, .int .i64 0] 41 (0, 0)) (aB BK127.out) hb2) (by decide)); have n6_ := Aside0.mk (Ne.symm (IsS135.ne_blk hi (blk_below (g := gb127) (o := .cells #[.int .i64 0, .int .i64 0, .int .i64 0] 41 (0, 0)) (aB BK127.out) hb2) (by decide))); have n7_ := Aside0.mk (IsS135.ne_blk hi (blk_below (g := gb128) (o := .cells #[.int .i64 0, .int .i64 0, .int .i64 0] 41 (0, 0)) (aB BK128.out) hb2) (by decide)); have n8_ := Aside0.mk (Ne.symm (IsS135.ne_blk hi (blk_below (g := gb128) (o := .cells #[.int .i64 0, .int .i64 0, .int .i64 0] 41 (0, 0)) (aB BK128.out) hb2) (by decide))); have n9_ := Aside0.mk (IsS135.ne_blk hi (blk_below (g := gb129) (o := .cells #[.int .i64 0, .int .i64 0, .int .i64 0] 41 (0, 0)) (aB BK129.out) hb2) (by decide)); have n10_ := Aside0.mk (Ne.symm (IsS135.ne_blk hi (blk_below (g := gb129) (o := .cells #[.int .i64 0, .int .i64 0, .int .i64 0] 41 (0, 0)) (aB BK129.out) hb2) (by decide))); clear BK127; clear BK128; clear BK129; clear HB; have BK127 := n0_; have BK128 := n1_; have BK129 := n2_; have HB := n3_; have HI133 := n4_; have NB133_127 := n5_; have NB127_133 := n6_; have NB133_128 := n7_; have NB128_133 := n8_; have NB133_129 := n9_; have NB129_133 := n10_; clear n0_ n1_ n2_ n3_ n4_ n5_ n6_ n7_ n8_ n9_ n10_; (try clear hb); (try clear hb2); (try clear hk); (try clear hi)) | ((with_reducible refine gate_callee (f := 87) rfl ?_); refine gL_ (some 14) Try.func87 #[.pointer (some ⟨g133, 0, none⟩)] ?_; (with_reducible refine (spec_l03Stamp.calls g133 t130 t131 t132 t134 t135 t136 t137 w _ ?side1 ?side2 A3.out).mono ?_); (case side1 => repeat (first | (with_reducible first | exact HI133.out | apply IsS135.alloc | apply IsS135.drewN | apply IsS135.drew | apply IsS135.set_1 | apply IsS135.set_2 | refine IsS135.far ?_ NB133_127.out _ | refine IsS135.far ?_ NB133_128.out _ | refine IsS135.far ?_ NB133_129.out _) | exact HI133.out)); (case side2 => repeat (first | (with_reducible first | exact HB.out | apply below_alloc | apply pw_below_drewN | apply below_drew1 | refine below_set ?_ (IsS135.ge HI133.out) | refine below_set ?_ GE127.out | refine below_set ?_ GE128.out | refine below_set ?_ GE129.out) | exact HB.out)); rintro e w13 ⟨rfl, hi, hb, hk⟩; refine ⟨_, rfl, ?_⟩; have n0_ := Aside0.mk (KeepBut.blk hk (g' := gb127) (o := .cells #[.int .i64 0, .int .i64 0, .int .i64 0] 41 (0, 0)) (aB BK127.out) NB127_133.out (by simp)); have n1_ := Aside0.mk (KeepBut.blk hk (g' := gb128) (o := .cells #[.int .i64 0, .int .i64 0, .int .i64 0] 41 (0, 0)) (aB BK128.out) NB128_133.out (by simp)); have n2_ := Aside0.mk (KeepBut.blk hk (g' := gb129) (o := .cells #[.int .i64 0, .int .i64 0, .int .i64 0] 41 (0, 0)) (aB BK129.out) NB129_133.out (by simp)); have n3_ := Aside0.mk (hb); have n4_ := Aside0.mk (hi); clear BK127; clear BK128; clear BK129; clear HB; clear HI133; have BK127 := n0_; have BK128 := n1_; have BK129 := n2_; have HB := n3_; have HI133 := n4_; clear n0_ n1_ n2_ n3_ n4_; (try clear hb); (try clear hb2); (try clear hk); (try clear hi)) | ((with_reducible refine gate_dst (N := 6) rfl ?_); refine bE 6 #[.int .i64 0, .int .i64 0] 39 ?_; intro gb138 hg w14 hbox hb; have n0_ := Aside0.mk (kB BK127.out hb); have n1_ := Aside0.mk (kB BK128.out hb); have n2_ := Aside0.mk (kB BK129.out hb); have n3_ := Aside0.mk (IsS135.below (by repeat (first | (with_reducible first | exact HI133.out | apply IsS135.alloc | apply IsS135.drewN | apply IsS135.drew | apply IsS135.set_1 | apply IsS135.set_2 | refine IsS135.far ?_ NB133_127.out _ | refine IsS135.far ?_ NB133_128.out _ | refine IsS135.far ?_ NB133_129.out _) | exact HI133.out)) hb); have n4_ := Aside0.mk (below_step (by repeat (first | (with_reducible first | exact HB.out | apply below_alloc | apply pw_below_drewN | apply below_drew1 | refine below_set ?_ (IsS135.ge HI133.out) | refine below_set ?_ GE127.out | refine below_set ?_ GE128.out | refine below_set ?_ GE129.out) | exact HB.out)) hb); have n5_ := Aside0.mk (hbox); have n6_ := Aside0.mk ((by rw [hg]; exact (below_size (by repeat (first | (with_reducible first | exact HB.out | apply below_alloc | apply pw_below_drewN | apply below_drew1 | refine below_set ?_ (IsS135.ge HI133.out) | refine below_set ?_ GE127.out | refine below_set ?_ GE128.out | refine below_set ?_ GE129.out) | exact HB.out))) : w.heap.size ≤ gb138)); have n7_ := Aside0.mk ((by rw [hg]; exact (below_size (by repeat (first | (with_reducible first | exact HB.out | apply below_alloc | apply pw_below_drewN | apply below_drew1 | refine below_set ?_ (IsS135.ge HI133.out) | refine below_set ?_ GE127.out | refine below_set ?_ GE128.out | refine below_set ?_ GE129.out) | exact HB.out))) : w.heap.size ≤ gb138)); have n8_ := Aside0.mk (gL hg BK127.out); have n9_ := Aside0.mk (gG hg BK127.out); have n10_ := Aside0.mk (gL hg BK128.out); have n11_ := Aside0.mk (gG hg BK128.out); have n12_ := Aside0.mk (gL hg BK129.out); have n13_ := Aside0.mk (gG hg BK129.out); have n14_ := Aside0.mk ((by rw [hg]; exact Nat.ne_of_lt (IsS135.lt (show IsS135 w _ g133 t130 t136 t137 from by repeat (first | (with_reducible first | exact HI133.out | apply IsS135.alloc | apply IsS135.drewN | apply IsS135.drew | apply IsS135.set_1 | apply IsS135.set_2 | refine IsS135.far ?_ NB133_127.out _ | refine IsS135.far ?_ NB133_128.out _ | refine IsS135.far ?_ NB133_129.out _) | exact HI133.out))) : g133 ≠ gb138)); have n15_ := Aside0.mk ((by rw [hg]; exact Nat.ne_of_gt (IsS135.lt (show IsS135 w _ g133 t130 t136 t137 from by repeat (first | (with_reducible first | exact HI133.out | apply IsS135.alloc | apply IsS135.drewN | apply IsS135.drew | apply IsS135.set_1 | apply IsS135.set_2 | refine IsS135.far ?_ NB133_127.out _ | refine IsS135.far ?_ NB133_128.out _ | refine IsS135.far ?_ NB133_129.out _) | exact HI133.out))) : gb138 ≠ g133)); clear BK127; clear BK128; clear BK129; clear HI133; clear HB; have BK127 := n0_; have BK128 := n1_; have BK129 := n2_; have HI133 := n3_; have HB := n4_; have BK138 := n5_; have GW138 := n6_; have GE138 := n7_; have NB127_138 := n8_; have NB138_127 := n9_; have NB128_138 := n10_; have NB138_128 := n11_; have NB129_138 := n12_; have NB138_129 := n13_; have NB133_138 := n14_; have NB138_133 := n15_; clear n0_ n1_ n2_ n3_ n4_ n5_ n6_ n7_ n8_ n9_ n10_ n11_ n12_ n13_ n14_ n15_; clear hb hbox hg; have hnb15 := NB138_127.out; have hnc15 := NB127_138.out; have hnb16 := NB138_128.out; have hnc16 := NB128_138.out; have hnb17 := NB138_129.out; have hnc17 := NB129_138.out; have hnb18 := NB138_133.out; have hnc18 := NB133_138.out; have hcz19_0 : w14.cell? ⟨gb138, 0, none⟩ = some (.int .i64 0) := cR BK138.out 0; have hcz19_1 : w14.cell? ⟨gb138, 1, none⟩ = some (.int .i64 0) := cR BK138.out 1; have hfz19_0 := blk_frozen BK138.out 0; have hfz19_1 := blk_frozen BK138.out 1) | ((with_reducible refine gate_callee (f := 87) rfl ?_); refine gL_ (some 16) Try.func87 #[.pointer (some ⟨g133, 0, none⟩)] ?_; (with_reducible refine (spec_l03Stamp.calls g133 t130 t136 t137 t139 t140 t141 t142 w _ ?side1 ?side2 A4.out).mono ?_); (case side1 => repeat (first | (with_reducible first | exact HI133.out | apply IsS135.alloc | apply IsS135.drewN | apply IsS135.drew | apply IsS135.set_1 | apply IsS135.set_2 | refine IsS135.far ?_ NB133_127.out _ | refine IsS135.far ?_ NB133_128.out _ | refine IsS135.far ?_ NB133_129.out _ | refine IsS135.far ?_ NB133_138.out _) | exact HI133.out)); (case side2 => repeat (first | (with_reducible first | exact HB.out | apply below_alloc | apply pw_below_drewN | apply below_drew1 | refine below_set ?_ (IsS135.ge HI133.out) | refine below_set ?_ GE127.out | refine below_set ?_ GE128.out | refine below_set ?_ GE129.out | refine below_set ?_ GE138.out) | exact HB.out)); rintro e w20 ⟨rfl, hi, hb, hk⟩; refine ⟨_, rfl, ?_⟩; have n0_ := Aside0.mk (KeepBut.blk hk (g' := gb127) (o := .cells #[.int .i64 0, .int .i64 0, .int .i64 0] 41 (0, 0)) (by (with_reducible repeat (first | refine blk_drewN ?_ _ | refine blk_drew ?_ | refine blk_alloc ?_ _)); refine blk_far ?_ NB127_138.out _; (with_reducible repeat (first | refine blk_drewN ?_ _ | refine blk_drew ?_ | refine blk_alloc ?_ _)); refine blk_far ?_ NB127_138.out _; (with_reducible repeat (first | refine blk_drewN ?_ _ | refine blk_drew ?_ | refine blk_alloc ?_ _)); exact BK127.out) NB127_133.out (by simp)); have n1_ := Aside0.mk (KeepBut.blk hk (g' := gb128) (o := .cells #[.int .i64 0, .int .i64 0, .int .i64 0] 41 (0, 0)) (by (with_reducible repeat (first | refine blk_drewN ?_ _ | refine blk_drew ?_ | refine blk_alloc ?_ _)); refine blk_far ?_ NB128_138.out _; (with_reducible repeat (first | refine blk_drewN ?_ _ | refine blk_drew ?_ | refine blk_alloc ?_ _)); refine blk_far ?_ NB128_138.out _; (with_reducible repeat (first | refine blk_drewN ?_ _ | refine blk_drew ?_ | refine blk_alloc ?_ _)); exact BK128.out) NB128_133.out (by simp)); have n2_ := Aside0.mk (KeepBut.blk hk (g' := gb129) (o := .cells #[.int .i64 0, .int .i64 0, .int .i64 0] 41 (0, 0)) (by (with_reducible repeat (first | refine blk_drewN ?_ _ | refine blk_drew ?_ | refine blk_alloc ?_ _)); refine blk_far ?_ NB129_138.out _; (with_reducible repeat (first | refine blk_drewN ?_ _ | refine blk_drew ?_ | refine blk_alloc ?_ _)); refine blk_far ?_ NB129_138.out _; (with_reducible repeat (first | refine blk_drewN ?_ _ | refine blk_drew ?_ | refine blk_alloc ?_ _)); exact BK129.out) NB129_133.out (by simp)); have n3_ := Aside0.mk (KeepBut.blk hk (g' := gb138) (o := .cells #[.int .i64 t134, .int .i64 t135] 39 (0, 0)) (by (with_reducible repeat (first | refine blk_drewN ?_ _ | refine blk_drew ?_ | refine blk_alloc ?_ _)); refine blk_put (cs := #[.int .i64 t134, .int .i64 0]) ?_ 1 _ rfl; (with_reducible repeat (first | refine blk_drewN ?_ _ | refine blk_drew ?_ | refine blk_alloc ?_ _)); refine blk_put (cs := #[.int .i64 0, .int .i64 0]) ?_ 0 _ rfl; (with_reducible repeat (first | refine blk_drewN ?_ _ | refine blk_drew ?_ | refine blk_alloc ?_ _)); exact BK138.out) NB138_133.out (by simp)); have n4_ := Aside0.mk (hb); have n5_ := Aside0.mk (hi); clear BK127; clear BK128; clear BK129; clear BK138; clear HB; clear HI133; have BK127 := n0_; have BK128 := n1_; have BK129 := n2_; have BK138 := n3_; have HB := n4_; have HI133 := n5_; clear n0_ n1_ n2_ n3_ n4_ n5_; (try clear hb); (try clear hb2); (try clear hk); (try clear hi)) | ((with_reducible refine gate_dst (N := 7) rfl ?_); refine bE 7 #[.int .i64 0, .int .i64 0] 39 ?_; intro gb143 hg w21 hbox hb; have n0_ := Aside0.mk (kB BK127.out hb); have n1_ := Aside0.mk (kB BK128.out hb); have n2_ := Aside0.mk (kB BK129.out hb); have n3_ := Aside0.mk (IsS135.below (by repeat (first | (with_reducible first | exact HI133.out | apply IsS135.alloc | apply IsS135.drewN | apply IsS135.drew | apply IsS135.set_1 | apply IsS135.set_2 | refine IsS135.far ?_ NB133_127.out _ | refine IsS135.far ?_ NB133_128.out _ | refine IsS135.far ?_ NB133_129.out _ | refine IsS135.far ?_ NB133_138.out _) | exact HI133.out)) hb); have n4_ := Aside0.mk (kB BK138.out hb); have n5_ := Aside0.mk (below_step (by repeat (first | (with_reducible first | exact HB.out | apply below_alloc | apply pw_below_drewN | apply below_drew1 | refine below_set ?_ (IsS135.ge HI133.out) | refine below_set ?_ GE127.out | refine below_set ?_ GE128.out | refine below_set ?_ GE129.out | refine below_set ?_ GE138.out) | exact HB.out)) hb); have n6_ := Aside0.mk (hbox); have n7_ := Aside0.mk ((by rw [hg]; exact (below_size (by repeat (first | (with_reducible first | exact HB.out | apply below_alloc | apply pw_below_drewN | apply below_drew1 | refine below_set ?_ (IsS135.ge HI133.out) | refine below_set ?_ GE127.out | refine below_set ?_ GE128.out | refine below_set ?_ GE129.out | refine below_set ?_ GE138.out) | exact HB.out))) : w.heap.size ≤ gb143)); have n8_ := Aside0.mk ((by rw [hg]; exact (below_size (by repeat (first | (with_reducible first | exact HB.out | apply below_alloc | apply pw_below_drewN | apply below_drew1 | refine below_set ?_ (IsS135.ge HI133.out) | refine below_set ?_ GE127.out | refine below_set ?_ GE128.out | refine below_set ?_ GE129.out | refine below_set ?_ GE138.out) | exact HB.out))) : w.heap.size ≤ gb143)); have n9_ := Aside0.mk (gL hg BK127.out); have n10_ := Aside0.mk (gG hg BK127.out); have n11_ := Aside0.mk (gL hg BK128.out); have n12_ := Aside0.mk (gG hg BK128.out); have n13_ := Aside0.mk (gL hg BK129.out); have n14_ := Aside0.mk (gG hg BK129.out); have n15_ := Aside0.mk (gL hg BK138.out); have n16_ := Aside0.mk (gG hg BK138.out); have n17_ := Aside0.mk ((by rw [hg]; exact Nat.ne_of_lt (IsS135.lt (show IsS135 w _ g133 t130 t141 t142 from by repeat (first | (with_reducible first | exact HI133.out | apply IsS135.alloc | apply IsS135.drewN | apply IsS135.drew | apply IsS135.set_1 | apply IsS135.set_2 | refine IsS135.far ?_ NB133_127.out _ | refine IsS135.far ?_ NB133_128.out _ | refine IsS135.far ?_ NB133_129.out _ | refine IsS135.far ?_ NB133_138.out _) | exact HI133.out))) : g133 ≠ gb143)); have n18_ := Aside0.mk ((by rw [hg]; exact Nat.ne_of_gt (IsS135.lt (show IsS135 w _ g133 t130 t141 t142 from by repeat (first | (with_reducible first | exact HI133.out | apply IsS135.alloc | apply IsS135.drewN | apply IsS135.drew | apply IsS135.set_1 | apply IsS135.set_2 | refine IsS135.far ?_ NB133_127.out _ | refine IsS135.far ?_ NB133_128.out _ | refine IsS135.far ?_ NB133_129.out _ | refine IsS135.far ?_ NB133_138.out _) | exact HI133.out))) : gb143 ≠ g133)); clear BK127; clear BK128; clear BK129; clear HI133; clear BK138; clear HB; have BK127 := n0_; have BK128 := n1_; have BK129 := n2_; have HI133 := n3_; have BK138 := n4_; have HB := n5_; have BK143 := n6_; have GW143 := n7_; have GE143 := n8_; have NB127_143 := n9_; have NB143_127 := n10_; have NB128_143 := n11_; have NB143_128 := n12_; have NB129_143 := n13_; have NB143_129 := n14_; have NB138_143 := n15_; have NB143_138 := n16_; have NB133_143 := n17_; have NB143_133 := n18_; clear n0_ n1_ n2_ n3_ n4_ n5_ n6_ n7_ n8_ n9_ n10_ n11_ n12_ n13_ n14_ n15_ n16_ n17_ n18_; clear hb hbox hg; have hnb22 := NB143_127.out; have hnc22 := NB127_143.out; have hnb23 := NB143_128.out; have hnc23 := NB128_143.out; have hnb24 := NB143_129.out; have hnc24 := NB129_143.out; have hnb25 := NB143_138.out; have hnc25 := NB138_143.out; have hnb26 := NB143_133.out; have hnc26 := NB133_143.out; have hcz27_0 : w21.cell? ⟨gb143, 0, none⟩ = some (.int .i64 0) := cR BK143.out 0; have hcz27_1 : w21.cell? ⟨gb143, 1, none⟩ = some (.int .i64 0) := cR BK143.out 1; have hfz27_0 := blk_frozen BK143.out 0; have hfz27_1 := blk_frozen BK143.out 1) | ((with_reducible refine gate_callee (f := 87) rfl ?_); refine gL_ (some 18) Try.func87 #[.pointer (some ⟨g133, 0, none⟩)] ?_; (with_reducible refine (spec_l03Stamp.calls g133 t130 t141 t142 t144 t145 t146 t147 w _ ?side1 ?side2 A5.out).mono ?_); (case side1 => repeat (first | (with_reducible first | exact HI133.out | apply IsS135.alloc | apply IsS135.drewN | apply IsS135.drew | apply IsS135.set_1 | apply IsS135.set_2 | refine IsS135.far ?_ NB133_127.out _ | refine IsS135.far ?_ NB133_128.out _ | refine IsS135.far ?_ NB133_129.out _ | refine IsS135.far ?_ NB133_138.out _ | refine IsS135.far ?_ NB133_143.out _) | exact HI133.out)); (case side2 => repeat (first | (with_reducible first | exact HB.out | apply below_alloc | apply pw_below_drewN | apply below_drew1 | refine below_set ?_ (IsS135.ge HI133.out) | refine below_set ?_ GE127.out | refine below_set ?_ GE128.out | refine below_set ?_ GE129.out | refine below_set ?_ GE138.out | refine below_set ?_ GE143.out) | exact HB.out)); rintro e w28 ⟨rfl, hi, hb, hk⟩; refine ⟨_, rfl, ?_⟩; have n0_ := Aside0.mk (KeepBut.blk hk (g' := gb127) (o := .cells #[.int .i64 0, .int .i64 0, .int .i64 0] 41 (0, 0)) (by (with_reducible repeat (first | refine blk_drewN ?_ _ | refine blk_drew ?_ | refine blk_alloc ?_ _)); refine blk_far ?_ NB127_143.out _; (with_reducible repeat (first | refine blk_drewN ?_ _ | refine blk_drew ?_ | refine blk_alloc ?_ _)); refine blk_far ?_ NB127_143.out _; (with_reducible repeat (first | refine blk_drewN ?_ _ | refine blk_drew ?_ | refine blk_alloc ?_ _)); exact BK127.out) NB127_133.out (by simp)); have n1_ := Aside0.mk (KeepBut.blk hk (g' := gb128) (o := .cells #[.int .i64 0, .int .i64 0, .int .i64 0] 41 (0, 0)) (by (with_reducible repeat (first | refine blk_drewN ?_ _ | refine blk_drew ?_ | refine blk_alloc ?_ _)); refine blk_far ?_ NB128_143.out _; (with_reducible repeat (first | refine blk_drewN ?_ _ | refine blk_drew ?_ | refine blk_alloc ?_ _)); refine blk_far ?_ NB128_143.out _; (with_reducible repeat (first | refine blk_drewN ?_ _ | refine blk_drew ?_ | refine blk_alloc ?_ _)); exact BK128.out) NB128_133.out (by simp)); have n2_ := Aside0.mk (KeepBut.blk hk (g' := gb129) (o := .cells #[.int .i64 0, .int .i64 0, .int .i64 0] 41 (0, 0)) (by (with_reducible repeat (first | refine blk_drewN ?_ _ | refine blk_drew ?_ | refine blk_alloc ?_ _)); refine blk_far ?_ NB129_143.out _; (with_reducible repeat (first | refine blk_drewN ?_ _ | refine blk_drew ?_ | refine blk_alloc ?_ _)); refine blk_far ?_ NB129_143.out _; (with_reducible repeat (first | refine blk_drewN ?_ _ | refine blk_drew ?_ | refine blk_alloc ?_ _)); exact BK129.out) NB129_133.out (by simp)); have n3_ := Aside0.mk (KeepBut.blk hk (g' := gb138) (o := .cells #[.int .i64 t134, .int .i64 t135] 39 (0, 0)) (by (with_reducible repeat (first | refine blk_drewN ?_ _ | refine blk_drew ?_ | refine blk_alloc ?_ _)); refine blk_far ?_ NB138_143.out _; (with_reducible repeat (first | refine blk_drewN ?_ _ | refine blk_drew ?_ | refine blk_alloc ?_ _)); refine blk_far ?_ NB138_143.out _; (with_reducible repeat (first | refine blk_drewN ?_ _ | refine blk_drew ?_ | refine blk_alloc ?_ _)); exact BK138.out) NB138_133.out (by simp)); have n4_ := Aside0.mk (KeepBut.blk hk (g' := gb143) (o := .cells #[.int .i64 t139, .int .i64 t140] 39 (0, 0)) (by (with_reducible repeat (first | refine blk_drewN ?_ _ | refine blk_drew ?_ | refine blk_alloc ?_ _)); refine blk_put (cs := #[.int .i64 t139, .int .i64 0]) ?_ 1 _ rfl; (with_reducible repeat (first | refine blk_drewN ?_ _ | refine blk_drew ?_ | refine blk_alloc ?_ _)); refine blk_put (cs := #[.int .i64 0, .int .i64 0]) ?_ 0 _ rfl; (with_reducible repeat (first | refine blk_drewN ?_ _ | refine blk_drew ?_ | refine blk_alloc ?_ _)); exact BK143.out) NB143_133.out (by simp)); have n5_ := Aside0.mk (hb); have n6_ := Aside0.mk (hi); clear BK127; clear BK128; clear BK129; clear BK138; clear BK143; clear HB; clear HI133; have BK127 := n0_; have BK128 := n1_; have BK129 := n2_; have BK138 := n3_; have BK143 := n4_; have HB := n5_; have HI133 := n6_; clear n0_ n1_ n2_ n3_ n4_ n5_ n6_; (try clear hb); (try clear hb2); (try clear hk); (try clear hi)) | ((with_reducible refine gate_dst (N := 8) rfl ?_); refine bE 8 #[.int .i64 0, .int .i64 0] 39 ?_; intro gb148 hg w29 hbox hb; have n0_ := Aside0.mk (kB BK127.out hb); have n1_ := Aside0.mk (kB BK128.out hb); have n2_ := Aside0.mk (kB BK129.out hb); have n3_ := Aside0.mk (IsS135.below (by repeat (first | (with_reducible first | exact HI133.out | apply IsS135.alloc | apply IsS135.drewN | apply IsS135.drew | apply IsS135.set_1 | apply IsS135.set_2 | refine IsS135.far ?_ NB133_127.out _ | refine IsS135.far ?_ NB133_128.out _ | refine IsS135.far ?_ NB133_129.out _ | refine IsS135.far ?_ NB133_138.out _ | refine IsS135.far ?_ NB133_143.out _) | exact HI133.out)) hb); have n4_ := Aside0.mk (kB BK138.out hb); have n5_ := Aside0.mk (kB BK143.out hb); have n6_ := Aside0.mk (below_step (by repeat (first | (with_reducible first | exact HB.out | apply below_alloc | apply pw_below_drewN | apply below_drew1 | refine below_set ?_ (IsS135.ge HI133.out) | refine below_set ?_ GE127.out | refine below_set ?_ GE128.out | refine below_set ?_ GE129.out | refine below_set ?_ GE138.out | refine below_set ?_ GE143.out) | exact HB.out)) hb); have n7_ := Aside0.mk (hbox); have n8_ := Aside0.mk ((by rw [hg]; exact (below_size (by repeat (first | (with_reducible first | exact HB.out | apply below_alloc | apply pw_below_drewN | apply below_drew1 | refine below_set ?_ (IsS135.ge HI133.out) | refine below_set ?_ GE127.out | refine below_set ?_ GE128.out | refine below_set ?_ GE129.out | refine below_set ?_ GE138.out | refine below_set ?_ GE143.out) | exact HB.out))) : w.heap.size ≤ gb148)); have n9_ := Aside0.mk ((by rw [hg]; exact (below_size (by repeat (first | (with_reducible first | exact HB.out | apply below_alloc | apply pw_below_drewN | apply below_drew1 | refine below_set ?_ (IsS135.ge HI133.out) | refine below_set ?_ GE127.out | refine below_set ?_ GE128.out | refine below_set ?_ GE129.out | refine below_set ?_ GE138.out | refine below_set ?_ GE143.out) | exact HB.out))) : w.heap.size ≤ gb148)); have n10_ := Aside0.mk (gL hg BK127.out); have n11_ := Aside0.mk (gG hg BK127.out); have n12_ := Aside0.mk (gL hg BK128.out); have n13_ := Aside0.mk (gG hg BK128.out); have n14_ := Aside0.mk (gL hg BK129.out); have n15_ := Aside0.mk (gG hg BK129.out); have n16_ := Aside0.mk (gL hg BK138.out); have n17_ := Aside0.mk (gG hg BK138.out); have n18_ := Aside0.mk (gL hg BK143.out); have n19_ := Aside0.mk (gG hg BK143.out); have n20_ := Aside0.mk ((by rw [hg]; exact Nat.ne_of_lt (IsS135.lt (show IsS135 w _ g133 t130 t146 t147 from by repeat (first | (with_reducible first | exact HI133.out | apply IsS135.alloc | apply IsS135.drewN | apply IsS135.drew | apply IsS135.set_1 | apply IsS135.set_2 | refine IsS135.far ?_ NB133_127.out _ | refine IsS135.far ?_ NB133_128.out _ | refine IsS135.far ?_ NB133_129.out _ | refine IsS135.far ?_ NB133_138.out _ | refine IsS135.far ?_ NB133_143.out _) | exact HI133.out))) : g133 ≠ gb148)); have n21_ := Aside0.mk ((by rw [hg]; exact Nat.ne_of_gt (IsS135.lt (show IsS135 w _ g133 t130 t146 t147 from by repeat (first | (with_reducible first | exact HI133.out | apply IsS135.alloc | apply IsS135.drewN | apply IsS135.drew | apply IsS135.set_1 | apply IsS135.set_2 | refine IsS135.far ?_ NB133_127.out _ | refine IsS135.far ?_ NB133_128.out _ | refine IsS135.far ?_ NB133_129.out _ | refine IsS135.far ?_ NB133_138.out _ | refine IsS135.far ?_ NB133_143.out _) | exact HI133.out))) : gb148 ≠ g133)); clear BK127; clear BK128; clear BK129; clear HI133; clear BK138; clear BK143; clear HB; have BK127 := n0_; have BK128 := n1_; have BK129 := n2_; have HI133 := n3_; have BK138 := n4_; have BK143 := n5_; have HB := n6_; have BK148 := n7_; have GW148 := n8_; have GE148 := n9_; have NB127_148 := n10_; have NB148_127 := n11_; have NB128_148 := n12_; have NB148_128 := n13_; have NB129_148 := n14_; have NB148_129 := n15_; have NB138_148 := n16_; have NB148_138 := n17_; have NB143_148 := n18_; have NB148_143 := n19_; have NB133_148 := n20_; have NB148_133 := n21_; clear n0_ n1_ n2_ n3_ n4_ n5_ n6_ n7_ n8_ n9_ n10_ n11_ n12_ n13_ n14_ n15_ n16_ n17_ n18_ n19_ n20_ n21_; clear hb hbox hg; have hnb30 := NB148_127.out; have hnc30 := NB127_148.out; have hnb31 := NB148_128.out; have hnc31 := NB128_148.out; have hnb32 := NB148_129.out; have hnc32 := NB129_148.out; have hnb33 := NB148_138.out; have hnc33 := NB138_148.out; have hnb34 := NB148_143.out; have hnc34 := NB143_148.out; have hnb35 := NB148_133.out; have hnc35 := NB133_148.out; have hcz36_0 : w29.cell? ⟨gb148, 0, none⟩ = some (.int .i64 0) := cR BK148.out 0; have hcz36_1 : w29.cell? ⟨gb148, 1, none⟩ = some (.int .i64 0) := cR BK148.out 1; have hfz36_0 := blk_frozen BK148.out 0; have hfz36_1 := blk_frozen BK148.out 1))
 have n0_ : Aside0 (((w29.setCell ⟨gb148, 0, none⟩ (.int .i64 t144)).setCell ⟨gb148, 1, none⟩ (.int .i64 t145)).heap[gb127]? = some (.cells #[.int .i64 0, .int .i64 0, .int .i64 0] 41 (0, 0))) := ⟨by (with_reducible repeat (first | refine blk_drewN ?_ _ | refine blk_drew ?_ | refine blk_alloc ?_ _)); refine blk_far ?_ NB127_148.out _; (with_reducible repeat (first | refine blk_drewN ?_ _ | refine blk_drew ?_ | refine blk_alloc ?_ _)); refine blk_far ?_ NB127_148.out _; (with_reducible repeat (first | refine blk_drewN ?_ _ | refine blk_drew ?_ | refine blk_alloc ?_ _)); exact BK127.out⟩
 have n1_ : Aside0 (((w29.setCell ⟨gb148, 0, none⟩ (.int .i64 t144)).setCell ⟨gb148, 1, none⟩ (.int .i64 t145)).heap[gb128]? = some (.cells #[.int .i64 0, .int .i64 0, .int .i64 0] 41 (0, 0))) := ⟨by (with_reducible repeat (first | refine blk_drewN ?_ _ | refine blk_drew ?_ | refine blk_alloc ?_ _)); refine blk_far ?_ NB128_148.out _; (with_reducible repeat (first | refine blk_drewN ?_ _ | refine blk_drew ?_ | refine blk_alloc ?_ _)); refine blk_far ?_ NB128_148.out _; (with_reducible repeat (first | refine blk_drewN ?_ _ | refine blk_drew ?_ | refine blk_alloc ?_ _)); exact BK128.out⟩
 have n2_ : Aside0 (((w29.setCell ⟨gb148, 0, none⟩ (.int .i64 t144)).setCell ⟨gb148, 1, none⟩ (.int .i64 t145)).heap[gb129]? = some (.cells #[.int .i64 0, .int .i64 0, .int .i64 0] 41 (0, 0))) := ⟨by (with_reducible repeat (first | refine blk_drewN ?_ _ | refine blk_drew ?_ | refine blk_alloc ?_ _)); refine blk_far ?_ NB129_148.out _; (with_reducible repeat (first | refine blk_drewN ?_ _ | refine blk_drew ?_ | refine blk_alloc ?_ _)); refine blk_far ?_ NB129_148.out _; (with_reducible repeat (first | refine blk_drewN ?_ _ | refine blk_drew ?_ | refine blk_alloc ?_ _)); exact BK129.out⟩
 have n3_ : Aside0 (((w29.setCell ⟨gb148, 0, none⟩ (.int .i64 t144)).setCell ⟨gb148, 1, none⟩ (.int .i64 t145)).heap[gb138]? = some (.cells #[.int .i64 t134, .int .i64 t135] 39 (0, 0))) := ⟨by (with_reducible repeat (first | refine blk_drewN ?_ _ | refine blk_drew ?_ | refine blk_alloc ?_ _)); refine blk_far ?_ NB138_148.out _; (with_reducible repeat (first | refine blk_drewN ?_ _ | refine blk_drew ?_ | refine blk_alloc ?_ _)); refine blk_far ?_ NB138_148.out _; (with_reducible repeat (first | refine blk_drewN ?_ _ | refine blk_drew ?_ | refine blk_alloc ?_ _)); exact BK138.out⟩
 have n4_ : Aside0 (((w29.setCell ⟨gb148, 0, none⟩ (.int .i64 t144)).setCell ⟨gb148, 1, none⟩ (.int .i64 t145)).heap[gb143]? = some (.cells #[.int .i64 t139, .int .i64 t140] 39 (0, 0))) := ⟨by (with_reducible repeat (first | refine blk_drewN ?_ _ | refine blk_drew ?_ | refine blk_alloc ?_ _)); refine blk_far ?_ NB143_148.out _; (with_reducible repeat (first | refine blk_drewN ?_ _ | refine blk_drew ?_ | refine blk_alloc ?_ _)); refine blk_far ?_ NB143_148.out _; (with_reducible repeat (first | refine blk_drewN ?_ _ | refine blk_drew ?_ | refine blk_alloc ?_ _)); exact BK143.out⟩
 have n5_ : Aside0 (((w29.setCell ⟨gb148, 0, none⟩ (.int .i64 t144)).setCell ⟨gb148, 1, none⟩ (.int .i64 t145)).heap[gb148]? = some (.cells #[.int .i64 t144, .int .i64 t145] 39 (0, 0))) := ⟨by (with_reducible repeat (first | refine blk_drewN ?_ _ | refine blk_drew ?_ | refine blk_alloc ?_ _)); refine blk_put (cs := #[.int .i64 t144, .int .i64 0]) ?_ 1 _ rfl; (with_reducible repeat (first | refine blk_drewN ?_ _ | refine blk_drew ?_ | refine blk_alloc ?_ _)); refine blk_put (cs := #[.int .i64 0, .int .i64 0]) ?_ 0 _ rfl; (with_reducible repeat (first | refine blk_drewN ?_ _ | refine blk_drew ?_ | refine blk_alloc ?_ _)); exact BK148.out⟩
 have n6_ : Aside0 (IsS135 w ((w29.setCell ⟨gb148, 0, none⟩ (.int .i64 t144)).setCell ⟨gb148, 1, none⟩ (.int .i64 t145)) g133 t130 t146 t147) := ⟨by repeat (first | (with_reducible first | exact HI133.out | apply IsS135.alloc | apply IsS135.drewN | apply IsS135.drew | apply IsS135.set_1 | apply IsS135.set_2 | refine IsS135.far ?_ NB133_127.out _ | refine IsS135.far ?_ NB133_128.out _ | refine IsS135.far ?_ NB133_129.out _ | refine IsS135.far ?_ NB133_138.out _ | refine IsS135.far ?_ NB133_143.out _ | refine IsS135.far ?_ NB133_148.out _) | exact HI133.out)⟩
 have n7_ : Aside0 (Below w.heap.size w ((w29.setCell ⟨gb148, 0, none⟩ (.int .i64 t144)).setCell ⟨gb148, 1, none⟩ (.int .i64 t145))) := ⟨by repeat (first | (with_reducible first | exact HB.out | apply below_alloc | apply pw_below_drewN | apply below_drew1 | refine below_set ?_ (IsS135.ge HI133.out) | refine below_set ?_ GE127.out | refine below_set ?_ GE128.out | refine below_set ?_ GE129.out | refine below_set ?_ GE138.out | refine below_set ?_ GE143.out | refine below_set ?_ GE148.out) | exact HB.out)⟩
 (try clear BK127)
 (try clear BK128)
 (try clear BK129)
 (try clear BK138)
 (try clear BK143)
 (try clear BK148)
 (try clear HI133)
 (try clear HB)
 generalize ((w29.setCell ⟨gb148, 0, none⟩ (.int .i64 t144)).setCell ⟨gb148, 1, none⟩ (.int .i64 t145)) = w37 at n0_ n1_ n2_ n3_ n4_ n5_ n6_ n7_ ⊢
 have BK127 := n0_
 have BK128 := n1_
 have BK129 := n2_
 have BK138 := n3_
 have BK143 := n4_
 have BK148 := n5_
 have HI133 := n6_
 have HB := n7_
 clear n0_ n1_ n2_ n3_ n4_ n5_ n6_ n7_
 have n0_ := Aside0.mk (blk_drew BK127.out)
 have n1_ := Aside0.mk (blk_drew BK128.out)
 have n2_ := Aside0.mk (blk_drew BK129.out)
 have n3_ := Aside0.mk (blk_drew BK138.out)
 have n4_ := Aside0.mk (blk_drew BK143.out)
 have n5_ := Aside0.mk (blk_drew BK148.out)
 have n6_ := Aside0.mk (IsS135.drew HI133.out)
 have n7_ := Aside0.mk (below_drew1 HB.out)
 clear BK127
 clear BK128
 clear BK129
 clear BK138
 clear BK143
 clear BK148
 clear HI133
 clear HB
 have BK127 := n0_
 have BK128 := n1_
 have BK129 := n2_
 have BK138 := n3_
 have BK143 := n4_
 have BK148 := n5_
 have HI133 := n6_
 have HB := n7_
 clear n0_ n1_ n2_ n3_ n4_ n5_ n6_ n7_
 refine start_ (n := 6) (S := fun w' => w'.cell? ⟨gb138, 0, none⟩ = some (.int .i64 t134) ∧ w'.cell? ⟨gb138, 1, none⟩ = some (.int .i64 t135)) (ds := []) #[false, false, false, false, false, false] (by kernel_rfl) rfl rfl ⟨cR BK138.out 0, cR BK138.out 1⟩ (fun hHeld => ?_)
 generalize w37.drew = w38 at BK127 BK128 BK129 BK138 BK143 BK148 HI133 HB hHeld ⊢
 refine pure_ (i := 0) (N := some 19) (v := ?_) (a' := ?_) #[true, false, false, false, false, false] rfl rfl (by kernel_rfl) (fun _ _ _ h => h) (Or.inl ⟨by rfl, ?_⟩) ?_ ?_
 rotate_left
 ·intro w'
  go_simp
  with_reducible rfl
 rotate_left
 ·simp only [Act.put, List.setIfInBounds_toArray, List.set_cons_zero, List.set_cons_succ, i64_w, i32_w]
  rfl
 refine take_ (i := 2) (N := some 21) (v := ?_) (a' := ?_) #[true, false, true, false, false, false] rfl rfl (by kernel_rfl) (fun _ _ _ h => h) (Or.inl ⟨by rfl, ?_⟩) hHeld ?_ ?_
 rotate_left
 ·rintro w' ⟨s0, s1⟩
  go_simp
  with_reducible rfl
 rotate_left
 ·simp only [Act.put, List.setIfInBounds_toArray, List.set_cons_zero, List.set_cons_succ, i64_w, i32_w]
  rfl
 refine join_ (σ := Nat) 1 #[true, true, true, true, true, false] (fun s_ => [(20, .int .i64 t149), (9, .pointer (some ⟨s_, 0, none⟩)), (22, .agg #[.int .i64 t149, .int .i64 t134, .int .i64 t135])]) (fun s_ w' => (w'.cell? ⟨gb138, 0, none⟩ = some (.int .i64 t134) ∧ w'.cell? ⟨gb138, 1, none⟩ = some (.int .i64 t135)) ∧ (w'.heap[gb127]? = some (.cells #[.int .i64 0, .int .i64 0, .int .i64 0] 41 (0, 0))) ∧ (w'.heap[gb128]? = some (.cells #[.int .i64 0, .int .i64 0, .int .i64 0] 41 (0, 0))) ∧ (w'.heap[gb129]? = some (.cells #[.int .i64 0, .int .i64 0, .int .i64 0] 41 (0, 0))) ∧ (w'.heap[gb138]? = some (.cells #[.int .i64 t134, .int .i64 t135] 39 (0, 0))) ∧ (w'.heap[gb143]? = some (.cells #[.int .i64 t139, .int .i64 t140] 39 (0, 0))) ∧ (w'.heap[gb148]? = some (.cells #[.int .i64 t144, .int .i64 t145] 39 (0, 0))) ∧ (w'.heap[s_]? = some (.cells #[.int .i64 0, .int .i64 0, .int .i64 0] 41 (0, 0))) ∧ (w.heap.size ≤ s_) ∧ (w.heap.size ≤ s_) ∧ (g133 ≠ s_) ∧ (s_ ≠ g133) ∧ (gb127 ≠ s_) ∧ (s_ ≠ gb127) ∧ (gb128 ≠ s_) ∧ (s_ ≠ gb128) ∧ (gb129 ≠ s_) ∧ (s_ ≠ gb129) ∧ (gb138 ≠ s_) ∧ (s_ ≠ gb138) ∧ (gb143 ≠ s_) ∧ (s_ ≠ gb143) ∧ (gb148 ≠ s_) ∧ (s_ ≠ gb148) ∧ (IsS135 w w' g133 t130 t150 t151) ∧ (Below w.heap.size w w')) ?_ ?_
 rotate_left
 ·intro hCont
  refine two_ (i := 1) (j := 4) (Ni := some 20) (Nj := some 9) #[true, true, true, false, false, false] #[true, false, true, false, true, false] rfl rfl rfl rfl (by kernel_rfl) (by decide) (by decide) (fun K hK => ?_) (fun K hK => ?_)
  ·skip
   refine goes_ Try.func83 (by kernel_rfl) rfl #[.pointer (some ⟨g133, 0, none⟩), .int .i64 3] (by rfl) rfl rfl (by (try simp only [List.map_toArray, List.map_cons, List.map_nil]); first | done | rfl | (simp only [List.length_drop, List.length_take]; rfl)) ?_
   with_reducible refine (spec_l01Below.calls g133 t130 t146 t147 3 t149 t150 t151 w _ ?side1 ?side2 A6.out).mono ?_
   (case side1 => repeat (first | (with_reducible first | exact HI133.out | apply IsS135.alloc | apply IsS135.drewN | apply IsS135.drew | apply IsS135.set_1 | apply IsS135.set_2 | refine IsS135.far ?_ NB133_127.out _ | refine IsS135.far ?_ NB133_128.out _ | refine IsS135.far ?_ NB133_129.out _ | refine IsS135.far ?_ NB133_138.out _ | refine IsS135.far ?_ NB133_143.out _ | refine IsS135.far ?_ NB133_148.out _) | exact HI133.out))
   (case side2 => repeat (first | (with_reducible first | exact HB.out | apply below_alloc | apply pw_below_drewN | apply below_drew1 | refine below_set ?_ (IsS135.ge HI133.out) | refine below_set ?_ GE127.out | refine below_set ?_ GE128.out | refine below_set ?_ GE129.out | refine below_set ?_ GE138.out | refine below_set ?_ GE143.out | refine below_set ?_ GE148.out) | exact HB.out))
   rintro e w39 ⟨rfl, hi, hb, hk⟩
   refine ⟨_, rfl, ?_⟩
   have n0_ := Aside0.mk (KeepBut.blk hk (g' := gb127) (o := .cells #[.int .i64 0, .int .i64 0, .int .i64 0] 41 (0, 0)) (aB BK127.out) NB127_133.out (by simp))
   have n1_ := Aside0.mk (KeepBut.blk hk (g' := gb128) (o := .cells #[.int .i64 0, .int .i64 0, .int .i64 0] 41 (0, 0)) (aB BK128.out) NB128_133.out (by simp))
   have n2_ := Aside0.mk (KeepBut.blk hk (g' := gb129) (o := .cells #[.int .i64 0, .int .i64 0, .int .i64 0] 41 (0, 0)) (aB BK129.out) NB129_133.out (by simp))
   have n3_ := Aside0.mk (KeepBut.blk hk (g' := gb138) (o := .cells #[.int .i64 t134, .int .i64 t135] 39 (0, 0)) (aB BK138.out) NB138_133.out (by simp))
   have n4_ := Aside0.mk (KeepBut.blk hk (g' := gb143) (o := .cells #[.int .i64 t139, .int .i64 t140] 39 (0, 0)) (aB BK143.out) NB143_133.out (by simp))
   have n5_ := Aside0.mk (KeepBut.blk hk (g' := gb148) (o := .cells #[.int .i64 t144, .int .i64 t145] 39 (0, 0)) (aB BK148.out) NB148_133.out (by simp))
   have n6_ := Aside0.mk (hb)
   have n7_ := Aside0.mk (hi)
   clear BK127
   clear BK128
   clear BK129
   clear BK138
   clear BK143
   clear BK148
   clear HB
   clear HI133
   have BK127 := n0_
   have BK128 := n1_
   have BK129 := n2_
   have BK138 := n3_
   have BK143 := n4_
   have BK148 := n5_
   have HB := n6_
   have HI133 := n7_
   clear n0_ n1_ n2_ n3_ n4_ n5_ n6_ n7_
   (try clear hb)
   (try clear hb2)
   (try clear hk)
   (try clear hi)
   refine hK.out _ _ ⟨cR BK138.out 0, cR BK138.out 1⟩ (fun hHeld => ?_)
   clear hK K
   refine nP 20 ?_
   refine pure_ (i := 3) (N := some 22) (v := ?_) (a' := ?_) #[true, true, true, true, false, false] rfl rfl (by kernel_rfl) (fun _ _ _ h => h) (Or.inl ⟨by rfl, ?_⟩) ?_ ?_
   rotate_left
   ·intro w'
    go_simp
    with_reducible rfl
   rotate_left
   ·simp only [Act.put, List.setIfInBounds_toArray, List.set_cons_zero, List.set_cons_succ, i64_w, i32_w]
    rfl
   refine one_ (i := 4) (N := some 9) #[true, true, true, true, true, false] rfl rfl (by kernel_rfl) (by decide) (fun K hK => ?_)
   refine box_step ?hg (N := 9) ?hd (cs := #[.int .i64 0, .int .i64 0, .int .i64 0]) (t := 41) ?hr ?_; (case hd => rfl); (case hg => rfl); (case hr => first | (go_simp; done) | (go_simp; rfl))
   intro gb152 hg w40 hbox hb
   have n0_ := Aside0.mk (kB BK127.out hb)
   have n1_ := Aside0.mk (kB BK128.out hb)
   have n2_ := Aside0.mk (kB BK129.out hb)
   have n3_ := Aside0.mk (IsS135.below (by repeat (first | (with_reducible first | exact HI133.out | apply IsS135.alloc | apply IsS135.drewN | apply IsS135.drew | apply IsS135.set_1 | apply IsS135.set_2 | refine IsS135.far ?_ NB133_127.out _ | refine IsS135.far ?_ NB133_128.out _ | refine IsS135.far ?_ NB133_129.out _ | refine IsS135.far ?_ NB133_138.out _ | refine IsS135.far ?_ NB133_143.out _ | refine IsS135.far ?_ NB133_148.out _) | exact HI133.out)) hb)
   have n4_ := Aside0.mk (kB BK138.out hb)
   have n5_ := Aside0.mk (kB BK143.out hb)
   have n6_ := Aside0.mk (kB BK148.out hb)
   have n7_ := Aside0.mk (below_step (by repeat (first | (with_reducible first | exact HB.out | apply below_alloc | apply pw_below_drewN | apply below_drew1 | refine below_set ?_ (IsS135.ge HI133.out) | refine below_set ?_ GE127.out | refine below_set ?_ GE128.out | refine below_set ?_ GE129.out | refine below_set ?_ GE138.out | refine below_set ?_ GE143.out | refine below_set ?_ GE148.out) | exact HB.out)) hb)
   have n8_ := Aside0.mk (hbox)
   have n9_ := Aside0.mk ((by rw [hg]; exact (below_size (by repeat (first | (with_reducible first | exact HB.out | apply below_alloc | apply pw_below_drewN | apply below_drew1 | refine below_set ?_ (IsS135.ge HI133.out) | refine below_set ?_ GE127.out | refine below_set ?_ GE128.out | refine below_set ?_ GE129.out | refine below_set ?_ GE138.out | refine below_set ?_ GE143.out | refine below_set ?_ GE148.out) | exact HB.out))) : w.heap.size ≤ gb152))
   have n10_ := Aside0.mk ((by rw [hg]; exact (below_size (by repeat (first | (with_reducible first | exact HB.out | apply below_alloc | apply pw_below_drewN | apply below_drew1 | refine below_set ?_ (IsS135.ge HI133.out) | refine below_set ?_ GE127.out | refine below_set ?_ GE128.out | refine below_set ?_ GE129.out | refine below_set ?_ GE138.out | refine below_set ?_ GE143.out | refine below_set ?_ GE148.out) | exact HB.out))) : w.heap.size ≤ gb152))
   have n11_ := Aside0.mk (gL hg BK127.out)
   have n12_ := Aside0.mk (gG hg BK127.out)
   have n13_ := Aside0.mk (gL hg BK128.out)
   have n14_ := Aside0.mk (gG hg BK128.out)
   have n15_ := Aside0.mk (gL hg BK129.out)
   have n16_ := Aside0.mk (gG hg BK129.out)
   have n17_ := Aside0.mk (gL hg BK138.out)
   have n18_ := Aside0.mk (gG hg BK138.out)
   have n19_ := Aside0.mk (gL hg BK143.out)
   have n20_ := Aside0.mk (gG hg BK143.out)
   have n21_ := Aside0.mk (gL hg BK148.out)
   have n22_ := Aside0.mk (gG hg BK148.out)
   have n23_ := Aside0.mk ((by rw [hg]; exact Nat.ne_of_lt (IsS135.lt (show IsS135 w _ g133 t130 t150 t151 from by repeat (first | (with_reducible first | exact HI133.out | apply IsS135.alloc | apply IsS135.drewN | apply IsS135.drew | apply IsS135.set_1 | apply IsS135.set_2 | refine IsS135.far ?_ NB133_127.out _ | refine IsS135.far ?_ NB133_128.out _ | refine IsS135.far ?_ NB133_129.out _ | refine IsS135.far ?_ NB133_138.out _ | refine IsS135.far ?_ NB133_143.out _ | refine IsS135.far ?_ NB133_148.out _) | exact HI133.out))) : g133 ≠ gb152))
   have n24_ := Aside0.mk ((by rw [hg]; exact Nat.ne_of_gt (IsS135.lt (show IsS135 w _ g133 t130 t150 t151 from by repeat (first | (with_reducible first | exact HI133.out | apply IsS135.alloc | apply IsS135.drewN | apply IsS135.drew | apply IsS135.set_1 | apply IsS135.set_2 | refine IsS135.far ?_ NB133_127.out _ | refine IsS135.far ?_ NB133_128.out _ | refine IsS135.far ?_ NB133_129.out _ | refine IsS135.far ?_ NB133_138.out _ | refine IsS135.far ?_ NB133_143.out _ | refine IsS135.far ?_ NB133_148.out _) | exact HI133.out))) : gb152 ≠ g133))
   clear BK127
   clear BK128
   clear BK129
   clear HI133
   clear BK138
   clear BK143
   clear BK148
   clear HB
   have BK127 := n0_
   have BK128 := n1_
   have BK129 := n2_
   have HI133 := n3_
   have BK138 := n4_
   have BK143 := n5_
   have BK148 := n6_
   have HB := n7_
   have BK152 := n8_
   have GW152 := n9_
   have GE152 := n10_
   have NB127_152 := n11_
   have NB152_127 := n12_
   have NB128_152 := n13_
   have NB152_128 := n14_
   have NB129_152 := n15_
   have NB152_129 := n16_
   have NB138_152 := n17_
   have NB152_138 := n18_
   have NB143_152 := n19_
   have NB152_143 := n20_
   have NB148_152 := n21_
   have NB152_148 := n22_
   have NB133_152 := n23_
   have NB152_133 := n24_
   clear n0_ n1_ n2_ n3_ n4_ n5_ n6_ n7_ n8_ n9_ n10_ n11_ n12_ n13_ n14_ n15_ n16_ n17_ n18_ n19_ n20_ n21_ n22_ n23_ n24_
   clear hb hbox hg
   refine hK.out _ _ ⟨cR BK138.out 0, cR BK138.out 1⟩ (fun hHeld => ?_)
   clear hK K
   refine nP 9 ?_
   exact norm_ (by simp only [putAll, Act.put, List.setIfInBounds_toArray, List.set_cons_zero, List.set_cons_succ]) (hCont (gb152) _ ⟨hHeld, (aB BK127.out), (aB BK128.out), (aB BK129.out), (aB BK138.out), (aB BK143.out), (aB BK148.out), (aB BK152.out), GW152.out, GE152.out, NB133_152.out, NB152_133.out, NB127_152.out, NB152_127.out, NB128_152.out, NB152_128.out, NB129_152.out, NB152_129.out, NB138_152.out, NB152_138.out, NB143_152.out, NB152_143.out, NB148_152.out, NB152_148.out, (by repeat (first | (with_reducible first | exact HI133.out | apply IsS135.alloc | apply IsS135.drewN | apply IsS135.drew | apply IsS135.set_1 | apply IsS135.set_2 | refine IsS135.far ?_ NB133_127.out _ | refine IsS135.far ?_ NB133_128.out _ | refine IsS135.far ?_ NB133_129.out _ | refine IsS135.far ?_ NB133_138.out _ | refine IsS135.far ?_ NB133_143.out _ | refine IsS135.far ?_ NB133_148.out _ | refine IsS135.far ?_ NB133_152.out _) | exact HI133.out)), (by repeat (first | (with_reducible first | exact HB.out | apply below_alloc | apply pw_below_drewN | apply below_drew1 | refine below_set ?_ (IsS135.ge HI133.out) | refine below_set ?_ GE127.out | refine below_set ?_ GE128.out | refine below_set ?_ GE129.out | refine below_set ?_ GE138.out | refine below_set ?_ GE143.out | refine below_set ?_ GE148.out | refine below_set ?_ GE152.out) | exact HB.out))⟩)
  ·skip
   refine box_step ?hg (N := 9) ?hd (cs := #[.int .i64 0, .int .i64 0, .int .i64 0]) (t := 41) ?hr ?_; (case hd => rfl); (case hg => rfl); (case hr => first | (go_simp; done) | (go_simp; rfl))
   intro gb152 hg w39 hbox hb
   have n0_ := Aside0.mk (kB BK127.out hb)
   have n1_ := Aside0.mk (kB BK128.out hb)
   have n2_ := Aside0.mk (kB BK129.out hb)
   have n3_ := Aside0.mk (IsS135.below (by repeat (first | (with_reducible first | exact HI133.out | apply IsS135.alloc | apply IsS135.drewN | apply IsS135.drew | apply IsS135.set_1 | apply IsS135.set_2 | refine IsS135.far ?_ NB133_127.out _ | refine IsS135.far ?_ NB133_128.out _ | refine IsS135.far ?_ NB133_129.out _ | refine IsS135.far ?_ NB133_138.out _ | refine IsS135.far ?_ NB133_143.out _ | refine IsS135.far ?_ NB133_148.out _) | exact HI133.out)) hb)
   have n4_ := Aside0.mk (kB BK138.out hb)
   have n5_ := Aside0.mk (kB BK143.out hb)
   have n6_ := Aside0.mk (kB BK148.out hb)
   have n7_ := Aside0.mk (below_step (by repeat (first | (with_reducible first | exact HB.out | apply below_alloc | apply pw_below_drewN | apply below_drew1 | refine below_set ?_ (IsS135.ge HI133.out) | refine below_set ?_ GE127.out | refine below_set ?_ GE128.out | refine below_set ?_ GE129.out | refine below_set ?_ GE138.out | refine below_set ?_ GE143.out | refine below_set ?_ GE148.out) | exact HB.out)) hb)
   have n8_ := Aside0.mk (hbox)
   have n9_ := Aside0.mk ((by rw [hg]; exact (below_size (by repeat (first | (with_reducible first | exact HB.out | apply below_alloc | apply pw_below_drewN | apply below_drew1 | refine below_set ?_ (IsS135.ge HI133.out) | refine below_set ?_ GE127.out | refine below_set ?_ GE128.out | refine below_set ?_ GE129.out | refine below_set ?_ GE138.out | refine below_set ?_ GE143.out | refine below_set ?_ GE148.out) | exact HB.out))) : w.heap.size ≤ gb152))
   have n10_ := Aside0.mk ((by rw [hg]; exact (below_size (by repeat (first | (with_reducible first | exact HB.out | apply below_alloc | apply pw_below_drewN | apply below_drew1 | refine below_set ?_ (IsS135.ge HI133.out) | refine below_set ?_ GE127.out | refine below_set ?_ GE128.out | refine below_set ?_ GE129.out | refine below_set ?_ GE138.out | refine below_set ?_ GE143.out | refine below_set ?_ GE148.out) | exact HB.out))) : w.heap.size ≤ gb152))
   have n11_ := Aside0.mk (gL hg BK127.out)
   have n12_ := Aside0.mk (gG hg BK127.out)
   have n13_ := Aside0.mk (gL hg BK128.out)
   have n14_ := Aside0.mk (gG hg BK128.out)
   have n15_ := Aside0.mk (gL hg BK129.out)
   have n16_ := Aside0.mk (gG hg BK129.out)
   have n17_ := Aside0.mk (gL hg BK138.out)
   have n18_ := Aside0.mk (gG hg BK138.out)
   have n19_ := Aside0.mk (gL hg BK143.out)
   have n20_ := Aside0.mk (gG hg BK143.out)
   have n21_ := Aside0.mk (gL hg BK148.out)
   have n22_ := Aside0.mk (gG hg BK148.out)
   have n23_ := Aside0.mk ((by rw [hg]; exact Nat.ne_of_lt (IsS135.lt (show IsS135 w _ g133 t130 t146 t147 from by repeat (first | (with_reducible first | exact HI133.out | apply IsS135.alloc | apply IsS135.drewN | apply IsS135.drew | apply IsS135.set_1 | apply IsS135.set_2 | refine IsS135.far ?_ NB133_127.out _ | refine IsS135.far ?_ NB133_128.out _ | refine IsS135.far ?_ NB133_129.out _ | refine IsS135.far ?_ NB133_138.out _ | refine IsS135.far ?_ NB133_143.out _ | refine IsS135.far ?_ NB133_148.out _) | exact HI133.out))) : g133 ≠ gb152))
   have n24_ := Aside0.mk ((by rw [hg]; exact Nat.ne_of_gt (IsS135.lt (show IsS135 w _ g133 t130 t146 t147 from by repeat (first | (with_reducible first | exact HI133.out | apply IsS135.alloc | apply IsS135.drewN | apply IsS135.drew | apply IsS135.set_1 | apply IsS135.set_2 | refine IsS135.far ?_ NB133_127.out _ | refine IsS135.far ?_ NB133_128.out _ | refine IsS135.far ?_ NB133_129.out _ | refine IsS135.far ?_ NB133_138.out _ | refine IsS135.far ?_ NB133_143.out _ | refine IsS135.far ?_ NB133_148.out _) | exact HI133.out))) : gb152 ≠ g133))
   clear BK127
   clear BK128
   clear BK129
   clear HI133
   clear BK138
   clear BK143
   clear BK148
   clear HB
   have BK127 := n0_
   have BK128 := n1_
   have BK129 := n2_
   have HI133 := n3_
   have BK138 := n4_
   have BK143 := n5_
   have BK148 := n6_
   have HB := n7_
   have BK152 := n8_
   have GW152 := n9_
   have GE152 := n10_
   have NB127_152 := n11_
   have NB152_127 := n12_
   have NB128_152 := n13_
   have NB152_128 := n14_
   have NB129_152 := n15_
   have NB152_129 := n16_
   have NB138_152 := n17_
   have NB152_138 := n18_
   have NB143_152 := n19_
   have NB152_143 := n20_
   have NB148_152 := n21_
   have NB152_148 := n22_
   have NB133_152 := n23_
   have NB152_133 := n24_
   clear n0_ n1_ n2_ n3_ n4_ n5_ n6_ n7_ n8_ n9_ n10_ n11_ n12_ n13_ n14_ n15_ n16_ n17_ n18_ n19_ n20_ n21_ n22_ n23_ n24_
   clear hb hbox hg
   refine hK.out _ _ ⟨cR BK138.out 0, cR BK138.out 1⟩ (fun hHeld => ?_)
   clear hK K
   refine nP 9 ?_
   refine one_ (i := 1) (N := some 20) #[true, true, true, false, true, false] rfl rfl (by kernel_rfl) (by decide) (fun K hK => ?_)
   refine goes_ Try.func83 (by kernel_rfl) rfl #[.pointer (some ⟨g133, 0, none⟩), .int .i64 3] (by rfl) rfl rfl (by (try simp only [List.map_toArray, List.map_cons, List.map_nil]); first | done | rfl | (simp only [List.length_drop, List.length_take]; rfl)) ?_
   with_reducible refine (spec_l01Below.calls g133 t130 t146 t147 3 t149 t150 t151 w _ ?side1 ?side2 A6.out).mono ?_
   (case side1 => repeat (first | (with_reducible first | exact HI133.out | apply IsS135.alloc | apply IsS135.drewN | apply IsS135.drew | apply IsS135.set_1 | apply IsS135.set_2 | refine IsS135.far ?_ NB133_127.out _ | refine IsS135.far ?_ NB133_128.out _ | refine IsS135.far ?_ NB133_129.out _ | refine IsS135.far ?_ NB133_138.out _ | refine IsS135.far ?_ NB133_143.out _ | refine IsS135.far ?_ NB133_148.out _ | refine IsS135.far ?_ NB133_152.out _) | exact HI133.out))
   (case side2 => repeat (first | (with_reducible first | exact HB.out | apply below_alloc | apply pw_below_drewN | apply below_drew1 | refine below_set ?_ (IsS135.ge HI133.out) | refine below_set ?_ GE127.out | refine below_set ?_ GE128.out | refine below_set ?_ GE129.out | refine below_set ?_ GE138.out | refine below_set ?_ GE143.out | refine below_set ?_ GE148.out | refine below_set ?_ GE152.out) | exact HB.out))
   rintro e w40 ⟨rfl, hi, hb, hk⟩
   refine ⟨_, rfl, ?_⟩
   have n0_ := Aside0.mk (KeepBut.blk hk (g' := gb127) (o := .cells #[.int .i64 0, .int .i64 0, .int .i64 0] 41 (0, 0)) (aB BK127.out) NB127_133.out (by simp))
   have n1_ := Aside0.mk (KeepBut.blk hk (g' := gb128) (o := .cells #[.int .i64 0, .int .i64 0, .int .i64 0] 41 (0, 0)) (aB BK128.out) NB128_133.out (by simp))
   have n2_ := Aside0.mk (KeepBut.blk hk (g' := gb129) (o := .cells #[.int .i64 0, .int .i64 0, .int .i64 0] 41 (0, 0)) (aB BK129.out) NB129_133.out (by simp))
   have n3_ := Aside0.mk (KeepBut.blk hk (g' := gb138) (o := .cells #[.int .i64 t134, .int .i64 t135] 39 (0, 0)) (aB BK138.out) NB138_133.out (by simp))
   have n4_ := Aside0.mk (KeepBut.blk hk (g' := gb143) (o := .cells #[.int .i64 t139, .int .i64 t140] 39 (0, 0)) (aB BK143.out) NB143_133.out (by simp))
   have n5_ := Aside0.mk (KeepBut.blk hk (g' := gb148) (o := .cells #[.int .i64 t144, .int .i64 t145] 39 (0, 0)) (aB BK148.out) NB148_133.out (by simp))
   have n6_ := Aside0.mk (KeepBut.blk hk (g' := gb152) (o := .cells #[.int .i64 0, .int .i64 0, .int .i64 0] 41 (0, 0)) (aB BK152.out) NB152_133.out (by simp))
   have n7_ := Aside0.mk (hb)
   have n8_ := Aside0.mk (hi)
   clear BK127
   clear BK128
   clear BK129
   clear BK138
   clear BK143
   clear BK148
   clear BK152
   clear HB
   clear HI133
   have BK127 := n0_
   have BK128 := n1_
   have BK129 := n2_
   have BK138 := n3_
   have BK143 := n4_
   have BK148 := n5_
   have BK152 := n6_
   have HB := n7_
   have HI133 := n8_
   clear n0_ n1_ n2_ n3_ n4_ n5_ n6_ n7_ n8_
   (try clear hb)
   (try clear hb2)
   (try clear hk)
   (try clear hi)
   refine hK.out _ _ ⟨cR BK138.out 0, cR BK138.out 1⟩ (fun hHeld => ?_)
   clear hK K
   refine nP 20 ?_
   refine pure_ (i := 3) (N := some 22) (v := ?_) (a' := ?_) #[true, true, true, true, true, false] rfl rfl (by kernel_rfl) (fun _ _ _ h => h) (Or.inl ⟨by rfl, ?_⟩) ?_ ?_
   rotate_left
   ·intro w'
    go_simp
    with_reducible rfl
   rotate_left
   ·simp only [Act.put, List.setIfInBounds_toArray, List.set_cons_zero, List.set_cons_succ, i64_w, i32_w]
    rfl
   exact norm_ (by simp only [putAll, Act.put, List.setIfInBounds_toArray, List.set_cons_zero, List.set_cons_succ]) (hCont (gb152) _ ⟨hHeld, (aB BK127.out), (aB BK128.out), (aB BK129.out), (aB BK138.out), (aB BK143.out), (aB BK148.out), (aB BK152.out), GW152.out, GE152.out, NB133_152.out, NB152_133.out, NB127_152.out, NB152_127.out, NB128_152.out, NB152_128.out, NB129_152.out, NB152_129.out, NB138_152.out, NB152_138.out, NB143_152.out, NB152_143.out, NB148_152.out, NB152_148.out, (by repeat (first | (with_reducible first | exact HI133.out | apply IsS135.alloc | apply IsS135.drewN | apply IsS135.drew | apply IsS135.set_1 | apply IsS135.set_2 | refine IsS135.far ?_ NB133_127.out _ | refine IsS135.far ?_ NB133_128.out _ | refine IsS135.far ?_ NB133_129.out _ | refine IsS135.far ?_ NB133_138.out _ | refine IsS135.far ?_ NB133_143.out _ | refine IsS135.far ?_ NB133_148.out _ | refine IsS135.far ?_ NB133_152.out _) | exact HI133.out)), (by repeat (first | (with_reducible first | exact HB.out | apply below_alloc | apply pw_below_drewN | apply below_drew1 | refine below_set ?_ (IsS135.ge HI133.out) | refine below_set ?_ GE127.out | refine below_set ?_ GE128.out | refine below_set ?_ GE129.out | refine below_set ?_ GE138.out | refine below_set ?_ GE143.out | refine below_set ?_ GE148.out | refine below_set ?_ GE152.out) | exact HB.out))⟩)
 rintro gb152 w41 ⟨hS_, h0_, h1_, h2_, h3_, h4_, h5_, h6_, h7_, h8_, h9_, h10_, h11_, h12_, h13_, h14_, h15_, h16_, h17_, h18_, h19_, h20_, h21_, h22_, h23_, h24_⟩
 have n0_ : Aside0 (w41.heap[gb127]? = some (.cells #[.int .i64 0, .int .i64 0, .int .i64 0] 41 (0, 0))) := ⟨h0_⟩
 have n1_ : Aside0 (w41.heap[gb128]? = some (.cells #[.int .i64 0, .int .i64 0, .int .i64 0] 41 (0, 0))) := ⟨h1_⟩
 have n2_ : Aside0 (w41.heap[gb129]? = some (.cells #[.int .i64 0, .int .i64 0, .int .i64 0] 41 (0, 0))) := ⟨h2_⟩
 have n3_ : Aside0 (w41.heap[gb138]? = some (.cells #[.int .i64 t134, .int .i64 t135] 39 (0, 0))) := ⟨h3_⟩
 have n4_ : Aside0 (w41.heap[gb143]? = some (.cells #[.int .i64 t139, .int .i64 t140] 39 (0, 0))) := ⟨h4_⟩
 have n5_ : Aside0 (w41.heap[gb148]? = some (.cells #[.int .i64 t144, .int .i64 t145] 39 (0, 0))) := ⟨h5_⟩
 have n6_ : Aside0 (w41.heap[gb152]? = some (.cells #[.int .i64 0, .int .i64 0, .int .i64 0] 41 (0, 0))) := ⟨h6_⟩
 have n7_ : Aside0 (w.heap.size ≤ gb152) := ⟨h7_⟩
 have n8_ : Aside0 (w.heap.size ≤ gb152) := ⟨h8_⟩
 have n9_ : Aside0 (g133 ≠ gb152) := ⟨h9_⟩
 have n10_ : Aside0 (gb152 ≠ g133) := ⟨h10_⟩
 have n11_ : Aside0 (gb127 ≠ gb152) := ⟨h11_⟩
 have n12_ : Aside0 (gb152 ≠ gb127) := ⟨h12_⟩
 have n13_ : Aside0 (gb128 ≠ gb152) := ⟨h13_⟩
 have n14_ : Aside0 (gb152 ≠ gb128) := ⟨h14_⟩
 have n15_ : Aside0 (gb129 ≠ gb152) := ⟨h15_⟩
 have n16_ : Aside0 (gb152 ≠ gb129) := ⟨h16_⟩
 have n17_ : Aside0 (gb138 ≠ gb152) := ⟨h17_⟩
 have n18_ : Aside0 (gb152 ≠ gb138) := ⟨h18_⟩
 have n19_ : Aside0 (gb143 ≠ gb152) := ⟨h19_⟩
 have n20_ : Aside0 (gb152 ≠ gb143) := ⟨h20_⟩
 have n21_ : Aside0 (gb148 ≠ gb152) := ⟨h21_⟩
 have n22_ : Aside0 (gb152 ≠ gb148) := ⟨h22_⟩
 have n23_ : Aside0 (IsS135 w w41 g133 t130 t150 t151) := ⟨h23_⟩
 have n24_ : Aside0 (Below w.heap.size w w41) := ⟨h24_⟩
 clear BK127
 clear BK128
 clear BK129
 clear BK138
 clear BK143
 clear BK148
 clear HI133
 clear HB
 clear h0_ h1_ h2_ h3_ h4_ h5_ h6_ h7_ h8_ h9_ h10_ h11_ h12_ h13_ h14_ h15_ h16_ h17_ h18_ h19_ h20_ h21_ h22_ h23_ h24_
 have BK127 := n0_
 have BK128 := n1_
 have BK129 := n2_
 have BK138 := n3_
 have BK143 := n4_
 have BK148 := n5_
 have BK152 := n6_
 have GW152 := n7_
 have GE152 := n8_
 have NB133_152 := n9_
 have NB152_133 := n10_
 have NB127_152 := n11_
 have NB152_127 := n12_
 have NB128_152 := n13_
 have NB152_128 := n14_
 have NB129_152 := n15_
 have NB152_129 := n16_
 have NB138_152 := n17_
 have NB152_138 := n18_
 have NB143_152 := n19_
 have NB152_143 := n20_
 have NB148_152 := n21_
 have NB152_148 := n22_
 have HI133 := n23_
 have HB := n24_
 clear n0_ n1_ n2_ n3_ n4_ n5_ n6_ n7_ n8_ n9_ n10_ n11_ n12_ n13_ n14_ n15_ n16_ n17_ n18_ n19_ n20_ n21_ n22_ n23_ n24_
 have hHeld : w41.cell? ⟨gb138, 0, none⟩ = some (.int .i64 t134) ∧ w41.cell? ⟨gb138, 1, none⟩ = some (.int .i64 t135) := hS_
 refine norm_ (a' := ?_) ?_ ?_
 rotate_left
 ·simp only [putAll, Act.put, List.setIfInBounds_toArray, List.set_cons_zero, List.set_cons_succ]
  rfl
 refine one_ (i := 5) (N := none) #[true, true, true, true, true, true] rfl rfl (by kernel_rfl) (by decide) (fun K hK => ?_)
 have hs42 : w41.cell? ⟨gb152, 0, none⟩ = some (.int .i64 0) := cR BK152.out 0
 have hfs42 := blk_frozen BK152.out 0
 have hns42_0 := NB127_152.out
 have hns42_1 := NB128_152.out
 have hns42_2 := NB129_152.out
 have hns42_3 := NB138_152.out
 have hns42_4 := NB143_152.out
 have hns42_5 := NB148_152.out
 have hms42_0 := NB152_127.out
 have hms42_1 := NB152_128.out
 have hms42_2 := NB152_129.out
 have hms42_3 := NB152_138.out
 have hms42_4 := NB152_143.out
 have hms42_5 := NB152_148.out
 have hs43 : w41.cell? ⟨gb152, 1, none⟩ = some (.int .i64 0) := cR BK152.out 1
 have hfs43 := blk_frozen BK152.out 1
 have hns43_0 := NB127_152.out
 have hns43_1 := NB128_152.out
 have hns43_2 := NB129_152.out
 have hns43_3 := NB138_152.out
 have hns43_4 := NB143_152.out
 have hns43_5 := NB148_152.out
 have hms43_0 := NB152_127.out
 have hms43_1 := NB152_128.out
 have hms43_2 := NB152_129.out
 have hms43_3 := NB152_138.out
 have hms43_4 := NB152_143.out
 have hms43_5 := NB152_148.out
 have hs44 : w41.cell? ⟨gb152, 2, none⟩ = some (.int .i64 0) := cR BK152.out 2
 have hfs44 := blk_frozen BK152.out 2
 have hns44_0 := NB127_152.out
 have hns44_1 := NB128_152.out
 have hns44_2 := NB129_152.out
 have hns44_3 := NB138_152.out
 have hns44_4 := NB143_152.out
 have hns44_5 := NB148_152.out
 have hms44_0 := NB152_127.out
 have hms44_1 := NB152_128.out
 have hms44_2 := NB152_129.out
 have hms44_3 := NB152_138.out
 have hms44_4 := NB152_143.out
 have hms44_5 := NB152_148.out
 refine skip_ (w1 := ?_) (by rfl) rfl ?_ ?_
 rotate_left
 ·go_simp
  rfl
 refine hK.out _ _ ⟨((cell_far (p := ⟨gb152, _, none⟩) NB138_152.out _).trans (((cell_far (p := ⟨gb152, _, none⟩) NB138_152.out _).trans (((cell_far (p := ⟨gb152, _, none⟩) NB138_152.out _).trans (hHeld.1)))))), ((cell_far (p := ⟨gb152, _, none⟩) NB138_152.out _).trans (((cell_far (p := ⟨gb152, _, none⟩) NB138_152.out _).trans (((cell_far (p := ⟨gb152, _, none⟩) NB138_152.out _).trans (hHeld.2))))))⟩ (fun hHeld => ?_)
 clear hK K
 refine done_ (by kernel_rfl) ?_
 try go_wp2
 have n0_ : Aside0 ((((w41.setCell ⟨gb152, 0, none⟩ (.int .i64 t149)).setCell ⟨gb152, 1, none⟩ (.int .i64 t134)).setCell ⟨gb152, 2, none⟩ (.int .i64 t135)).heap[gb127]? = some (.cells #[.int .i64 0, .int .i64 0, .int .i64 0] 41 (0, 0))) := ⟨by (with_reducible repeat (first | refine blk_drewN ?_ _ | refine blk_drew ?_ | refine blk_alloc ?_ _)); refine blk_far ?_ NB127_152.out _; (with_reducible repeat (first | refine blk_drewN ?_ _ | refine blk_drew ?_ | refine blk_alloc ?_ _)); refine blk_far ?_ NB127_152.out _; (with_reducible repeat (first | refine blk_drewN ?_ _ | refine blk_drew ?_ | refine blk_alloc ?_ _)); refine blk_far ?_ NB127_152.out _; (with_reducible repeat (first | refine blk_drewN ?_ _ | refine blk_drew ?_ | refine blk_alloc ?_ _)); exact BK127.out⟩
 have n1_ : Aside0 ((((w41.setCell ⟨gb152, 0, none⟩ (.int .i64 t149)).setCell ⟨gb152, 1, none⟩ (.int .i64 t134)).setCell ⟨gb152, 2, none⟩ (.int .i64 t135)).heap[gb128]? = some (.cells #[.int .i64 0, .int .i64 0, .int .i64 0] 41 (0, 0))) := ⟨by (with_reducible repeat (first | refine blk_drewN ?_ _ | refine blk_drew ?_ | refine blk_alloc ?_ _)); refine blk_far ?_ NB128_152.out _; (with_reducible repeat (first | refine blk_drewN ?_ _ | refine blk_drew ?_ | refine blk_alloc ?_ _)); refine blk_far ?_ NB128_152.out _; (with_reducible repeat (first | refine blk_drewN ?_ _ | refine blk_drew ?_ | refine blk_alloc ?_ _)); refine blk_far ?_ NB128_152.out _; (with_reducible repeat (first | refine blk_drewN ?_ _ | refine blk_drew ?_ | refine blk_alloc ?_ _)); exact BK128.out⟩
 have n2_ : Aside0 ((((w41.setCell ⟨gb152, 0, none⟩ (.int .i64 t149)).setCell ⟨gb152, 1, none⟩ (.int .i64 t134)).setCell ⟨gb152, 2, none⟩ (.int .i64 t135)).heap[gb129]? = some (.cells #[.int .i64 0, .int .i64 0, .int .i64 0] 41 (0, 0))) := ⟨by (with_reducible repeat (first | refine blk_drewN ?_ _ | refine blk_drew ?_ | refine blk_alloc ?_ _)); refine blk_far ?_ NB129_152.out _; (with_reducible repeat (first | refine blk_drewN ?_ _ | refine blk_drew ?_ | refine blk_alloc ?_ _)); refine blk_far ?_ NB129_152.out _; (with_reducible repeat (first | refine blk_drewN ?_ _ | refine blk_drew ?_ | refine blk_alloc ?_ _)); refine blk_far ?_ NB129_152.out _; (with_reducible repeat (first | refine blk_drewN ?_ _ | refine blk_drew ?_ | refine blk_alloc ?_ _)); exact BK129.out⟩
 have n3_ : Aside0 ((((w41.setCell ⟨gb152, 0, none⟩ (.int .i64 t149)).setCell ⟨gb152, 1, none⟩ (.int .i64 t134)).setCell ⟨gb152, 2, none⟩ (.int .i64 t135)).heap[gb138]? = some (.cells #[.int .i64 t134, .int .i64 t135] 39 (0, 0))) := ⟨by (with_reducible repeat (first | refine blk_drewN ?_ _ | refine blk_drew ?_ | refine blk_alloc ?_ _)); refine blk_far ?_ NB138_152.out _; (with_reducible repeat (first | refine blk_drewN ?_ _ | refine blk_drew ?_ | refine blk_alloc ?_ _)); refine blk_far ?_ NB138_152.out _; (with_reducible repeat (first | refine blk_drewN ?_ _ | refine blk_drew ?_ | refine blk_alloc ?_ _)); refine blk_far ?_ NB138_152.out _; (with_reducible repeat (first | refine blk_drewN ?_ _ | refine blk_drew ?_ | refine blk_alloc ?_ _)); exact BK138.out⟩
 have n4_ : Aside0 ((((w41.setCell ⟨gb152, 0, none⟩ (.int .i64 t149)).setCell ⟨gb152, 1, none⟩ (.int .i64 t134)).setCell ⟨gb152, 2, none⟩ (.int .i64 t135)).heap[gb143]? = some (.cells #[.int .i64 t139, .int .i64 t140] 39 (0, 0))) := ⟨by (with_reducible repeat (first | refine blk_drewN ?_ _ | refine blk_drew ?_ | refine blk_alloc ?_ _)); refine blk_far ?_ NB143_152.out _; (with_reducible repeat (first | refine blk_drewN ?_ _ | refine blk_drew ?_ | refine blk_alloc ?_ _)); refine blk_far ?_ NB143_152.out _; (with_reducible repeat (first | refine blk_drewN ?_ _ | refine blk_drew ?_ | refine blk_alloc ?_ _)); refine blk_far ?_ NB143_152.out _; (with_reducible repeat (first | refine blk_drewN ?_ _ | refine blk_drew ?_ | refine blk_alloc ?_ _)); exact BK143.out⟩
 have n5_ : Aside0 ((((w41.setCell ⟨gb152, 0, none⟩ (.int .i64 t149)).setCell ⟨gb152, 1, none⟩ (.int .i64 t134)).setCell ⟨gb152, 2, none⟩ (.int .i64 t135)).heap[gb148]? = some (.cells #[.int .i64 t144, .int .i64 t145] 39 (0, 0))) := ⟨by (with_reducible repeat (first | refine blk_drewN ?_ _ | refine blk_drew ?_ | refine blk_alloc ?_ _)); refine blk_far ?_ NB148_152.out _; (with_reducible repeat (first | refine blk_drewN ?_ _ | refine blk_drew ?_ | refine blk_alloc ?_ _)); refine blk_far ?_ NB148_152.out _; (with_reducible repeat (first | refine blk_drewN ?_ _ | refine blk_drew ?_ | refine blk_alloc ?_ _)); refine blk_far ?_ NB148_152.out _; (with_reducible repeat (first | refine blk_drewN ?_ _ | refine blk_drew ?_ | refine blk_alloc ?_ _)); exact BK148.out⟩
 have n6_ : Aside0 ((((w41.setCell ⟨gb152, 0, none⟩ (.int .i64 t149)).setCell ⟨gb152, 1, none⟩ (.int .i64 t134)).setCell ⟨gb152, 2, none⟩ (.int .i64 t135)).heap[gb152]? = some (.cells #[.int .i64 t149, .int .i64 t134, .int .i64 t135] 41 (0, 0))) := ⟨by (with_reducible repeat (first | refine blk_drewN ?_ _ | refine blk_drew ?_ | refine blk_alloc ?_ _)); refine blk_put (cs := #[.int .i64 t149, .int .i64 t134, .int .i64 0]) ?_ 2 _ rfl; (with_reducible repeat (first | refine blk_drewN ?_ _ | refine blk_drew ?_ | refine blk_alloc ?_ _)); refine blk_put (cs := #[.int .i64 t149, .int .i64 0, .int .i64 0]) ?_ 1 _ rfl; (with_reducible repeat (first | refine blk_drewN ?_ _ | refine blk_drew ?_ | refine blk_alloc ?_ _)); refine blk_put (cs := #[.int .i64 0, .int .i64 0, .int .i64 0]) ?_ 0 _ rfl; (with_reducible repeat (first | refine blk_drewN ?_ _ | refine blk_drew ?_ | refine blk_alloc ?_ _)); exact BK152.out⟩
 have n7_ : Aside0 (IsS135 w (((w41.setCell ⟨gb152, 0, none⟩ (.int .i64 t149)).setCell ⟨gb152, 1, none⟩ (.int .i64 t134)).setCell ⟨gb152, 2, none⟩ (.int .i64 t135)) g133 t130 t150 t151) := ⟨by repeat (first | (with_reducible first | exact HI133.out | apply IsS135.alloc | apply IsS135.drewN | apply IsS135.drew | apply IsS135.set_1 | apply IsS135.set_2 | refine IsS135.far ?_ NB133_127.out _ | refine IsS135.far ?_ NB133_128.out _ | refine IsS135.far ?_ NB133_129.out _ | refine IsS135.far ?_ NB133_138.out _ | refine IsS135.far ?_ NB133_143.out _ | refine IsS135.far ?_ NB133_148.out _ | refine IsS135.far ?_ NB133_152.out _) | exact HI133.out)⟩
 have n8_ : Aside0 (Below w.heap.size w (((w41.setCell ⟨gb152, 0, none⟩ (.int .i64 t149)).setCell ⟨gb152, 1, none⟩ (.int .i64 t134)).setCell ⟨gb152, 2, none⟩ (.int .i64 t135))) := ⟨by repeat (first | (with_reducible first | exact HB.out | apply below_alloc | apply pw_below_drewN | apply below_drew1 | refine below_set ?_ (IsS135.ge HI133.out) | refine below_set ?_ GE127.out | refine below_set ?_ GE128.out | refine below_set ?_ GE129.out | refine below_set ?_ GE138.out | refine below_set ?_ GE143.out | refine below_set ?_ GE148.out | refine below_set ?_ GE152.out) | exact HB.out)⟩
 (try clear BK127)
 (try clear BK128)
 (try clear BK129)
 (try clear BK138)
 (try clear BK143)
 (try clear BK148)
 (try clear BK152)
 (try clear HI133)
 (try clear HB)
 generalize (((w41.setCell ⟨gb152, 0, none⟩ (.int .i64 t149)).setCell ⟨gb152, 1, none⟩ (.int .i64 t134)).setCell ⟨gb152, 2, none⟩ (.int .i64 t135)) = w45 at n0_ n1_ n2_ n3_ n4_ n5_ n6_ n7_ n8_ ⊢
 have BK127 := n0_
 have BK128 := n1_
 have BK129 := n2_
 have BK138 := n3_
 have BK143 := n4_
 have BK148 := n5_
 have BK152 := n6_
 have HI133 := n7_
 have HB := n8_
 clear n0_ n1_ n2_ n3_ n4_ n5_ n6_ n7_ n8_
 have n0_ := Aside0.mk (blk_drew BK127.out)
 have n1_ := Aside0.mk (blk_drew BK128.out)
 have n2_ := Aside0.mk (blk_drew BK129.out)
 have n3_ := Aside0.mk (blk_drew BK138.out)
 have n4_ := Aside0.mk (blk_drew BK143.out)
 have n5_ := Aside0.mk (blk_drew BK148.out)
 have n6_ := Aside0.mk (blk_drew BK152.out)
 have n7_ := Aside0.mk (IsS135.drew HI133.out)
 have n8_ := Aside0.mk (below_drew1 HB.out)
 clear BK127
 clear BK128
 clear BK129
 clear BK138
 clear BK143
 clear BK148
 clear BK152
 clear HI133
 clear HB
 have BK127 := n0_
 have BK128 := n1_
 have BK129 := n2_
 have BK138 := n3_
 have BK143 := n4_
 have BK148 := n5_
 have BK152 := n6_
 have HI133 := n7_
 have HB := n8_
 clear n0_ n1_ n2_ n3_ n4_ n5_ n6_ n7_ n8_
 refine start_ (n := 6) (S := fun w' => w'.cell? ⟨gb143, 0, none⟩ = some (.int .i64 t139) ∧ w'.cell? ⟨gb143, 1, none⟩ = some (.int .i64 t140)) (ds := []) #[false, false, false, false, false, false] (by kernel_rfl) rfl rfl ⟨cR BK143.out 0, cR BK143.out 1⟩ (fun hHeld => ?_)
 generalize w45.drew = w46 at BK127 BK128 BK129 BK138 BK143 BK148 BK152 HI133 HB hHeld ⊢
 refine pure_ (i := 0) (N := some 23) (v := ?_) (a' := ?_) #[true, false, false, false, false, false] rfl rfl (by kernel_rfl) (fun _ _ _ h => h) (Or.inl ⟨by rfl, ?_⟩) ?_ ?_
 rotate_left
 ·intro w'
  go_simp
  with_reducible rfl
 rotate_left
 ·simp only [Act.put, List.setIfInBounds_toArray, List.set_cons_zero, List.set_cons_succ, i64_w, i32_w]
  rfl
 refine take_ (i := 2) (N := some 25) (v := ?_) (a' := ?_) #[true, false, true, false, false, false] rfl rfl (by kernel_rfl) (fun _ _ _ h => h) (Or.inl ⟨by rfl, ?_⟩) hHeld ?_ ?_
 rotate_left
 ·rintro w' ⟨s0, s1⟩
  go_simp
  with_reducible rfl
 rotate_left
 ·simp only [Act.put, List.setIfInBounds_toArray, List.set_cons_zero, List.set_cons_succ, i64_w, i32_w]
  rfl
 refine join_ (σ := Nat) 1 #[true, true, true, true, true, false] (fun s_ => [(24, .int .i64 t153), (10, .pointer (some ⟨s_, 0, none⟩)), (26, .agg #[.int .i64 t153, .int .i64 t139, .int .i64 t140])]) (fun s_ w' => (w'.cell? ⟨gb143, 0, none⟩ = some (.int .i64 t139) ∧ w'.cell? ⟨gb143, 1, none⟩ = some (.int .i64 t140)) ∧ (w'.heap[gb127]? = some (.cells #[.int .i64 0, .int .i64 0, .int .i64 0] 41 (0, 0))) ∧ (w'.heap[gb128]? = some (.cells #[.int .i64 0, .int .i64 0, .int .i64 0] 41 (0, 0))) ∧ (w'.heap[gb129]? = some (.cells #[.int .i64 0, .int .i64 0, .int .i64 0] 41 (0, 0))) ∧ (w'.heap[gb138]? = some (.cells #[.int .i64 t134, .int .i64 t135] 39 (0, 0))) ∧ (w'.heap[gb143]? = some (.cells #[.int .i64 t139, .int .i64 t140] 39 (0, 0))) ∧ (w'.heap[gb148]? = some (.cells #[.int .i64 t144, .int .i64 t145] 39 (0, 0))) ∧ (w'.heap[gb152]? = some (.cells #[.int .i64 t149, .int .i64 t134, .int .i64 t135] 41 (0, 0))) ∧ (w'.heap[s_]? = some (.cells #[.int .i64 0, .int .i64 0, .int .i64 0] 41 (0, 0))) ∧ (w.heap.size ≤ s_) ∧ (w.heap.size ≤ s_) ∧ (g133 ≠ s_) ∧ (s_ ≠ g133) ∧ (gb127 ≠ s_) ∧ (s_ ≠ gb127) ∧ (gb128 ≠ s_) ∧ (s_ ≠ gb128) ∧ (gb129 ≠ s_) ∧ (s_ ≠ gb129) ∧ (gb138 ≠ s_) ∧ (s_ ≠ gb138) ∧ (gb143 ≠ s_) ∧ (s_ ≠ gb143) ∧ (gb148 ≠ s_) ∧ (s_ ≠ gb148) ∧ (gb152 ≠ s_) ∧ (s_ ≠ gb152) ∧ (IsS135 w w' g133 t130 t154 t155) ∧ (Below w.heap.size w w')) ?_ ?_
 rotate_left
 ·intro hCont
  refine two_ (i := 1) (j := 4) (Ni := some 24) (Nj := some 10) #[true, true, true, false, false, false] #[true, false, true, false, true, false] rfl rfl rfl rfl (by kernel_rfl) (by decide) (by decide) (fun K hK => ?_) (fun K hK => ?_)
  ·skip
   refine goes_ Try.func83 (by kernel_rfl) rfl #[.pointer (some ⟨g133, 0, none⟩), .int .i64 3] (by rfl) rfl rfl (by (try simp only [List.map_toArray, List.map_cons, List.map_nil]); first | done | rfl | (simp only [List.length_drop, List.length_take]; rfl)) ?_
   with_reducible refine (spec_l01Below.calls g133 t130 t150 t151 3 t153 t154 t155 w _ ?side1 ?side2 A7.out).mono ?_
   (case side1 => repeat (first | (with_reducible first | exact HI133.out | apply IsS135.alloc | apply IsS135.drewN | apply IsS135.drew | apply IsS135.set_1 | apply IsS135.set_2 | refine IsS135.far ?_ NB133_127.out _ | refine IsS135.far ?_ NB133_128.out _ | refine IsS135.far ?_ NB133_129.out _ | refine IsS135.far ?_ NB133_138.out _ | refine IsS135.far ?_ NB133_143.out _ | refine IsS135.far ?_ NB133_148.out _ | refine IsS135.far ?_ NB133_152.out _) | exact HI133.out))
   (case side2 => repeat (first | (with_reducible first | exact HB.out | apply below_alloc | apply pw_below_drewN | apply below_drew1 | refine below_set ?_ (IsS135.ge HI133.out) | refine below_set ?_ GE127.out | refine below_set ?_ GE128.out | refine below_set ?_ GE129.out | refine below_set ?_ GE138.out | refine below_set ?_ GE143.out | refine below_set ?_ GE148.out | refine below_set ?_ GE152.out) | exact HB.out))
   rintro e w47 ⟨rfl, hi, hb, hk⟩
   refine ⟨_, rfl, ?_⟩
   have n0_ := Aside0.mk (KeepBut.blk hk (g' := gb127) (o := .cells #[.int .i64 0, .int .i64 0, .int .i64 0] 41 (0, 0)) (aB BK127.out) NB127_133.out (by simp))
   have n1_ := Aside0.mk (KeepBut.blk hk (g' := gb128) (o := .cells #[.int .i64 0, .int .i64 0, .int .i64 0] 41 (0, 0)) (aB BK128.out) NB128_133.out (by simp))
   have n2_ := Aside0.mk (KeepBut.blk hk (g' := gb129) (o := .cells #[.int .i64 0, .int .i64 0, .int .i64 0] 41 (0, 0)) (aB BK129.out) NB129_133.out (by simp))
   have n3_ := Aside0.mk (KeepBut.blk hk (g' := gb138) (o := .cells #[.int .i64 t134, .int .i64 t135] 39 (0, 0)) (aB BK138.out) NB138_133.out (by simp))
   have n4_ := Aside0.mk (KeepBut.blk hk (g' := gb143) (o := .cells #[.int .i64 t139, .int .i64 t140] 39 (0, 0)) (aB BK143.out) NB143_133.out (by simp))
   have n5_ := Aside0.mk (KeepBut.blk hk (g' := gb148) (o := .cells #[.int .i64 t144, .int .i64 t145] 39 (0, 0)) (aB BK148.out) NB148_133.out (by simp))
   have n6_ := Aside0.mk (KeepBut.blk hk (g' := gb152) (o := .cells #[.int .i64 t149, .int .i64 t134, .int .i64 t135] 41 (0, 0)) (aB BK152.out) NB152_133.out (by simp))
   have n7_ := Aside0.mk (hb)
   have n8_ := Aside0.mk (hi)
   clear BK127
   clear BK128
   clear BK129
   clear BK138
   clear BK143
   clear BK148
   clear BK152
   clear HB
   clear HI133
   have BK127 := n0_
   have BK128 := n1_
   have BK129 := n2_
   have BK138 := n3_
   have BK143 := n4_
   have BK148 := n5_
   have BK152 := n6_
   have HB := n7_
   have HI133 := n8_
   clear n0_ n1_ n2_ n3_ n4_ n5_ n6_ n7_ n8_
   (try clear hb)
   (try clear hb2)
   (try clear hk)
   (try clear hi)
   refine hK.out _ _ ⟨cR BK143.out 0, cR BK143.out 1⟩ (fun hHeld => ?_)
   clear hK K
   refine nP 24 ?_
   refine pure_ (i := 3) (N := some 26) (v := ?_) (a' := ?_) #[true, true, true, true, false, false] rfl rfl (by kernel_rfl) (fun _ _ _ h => h) (Or.inl ⟨by rfl, ?_⟩) ?_ ?_
   rotate_left
   ·intro w'
    go_simp
    with_reducible rfl
   rotate_left
   ·simp only [Act.put, List.setIfInBounds_toArray, List.set_cons_zero, List.set_cons_succ, i64_w, i32_w]
    rfl
   refine one_ (i := 4) (N := some 10) #[true, true, true, true, true, false] rfl rfl (by kernel_rfl) (by decide) (fun K hK => ?_)
   refine box_step ?hg (N := 10) ?hd (cs := #[.int .i64 0, .int .i64 0, .int .i64 0]) (t := 41) ?hr ?_; (case hd => rfl); (case hg => rfl); (case hr => first | (go_simp; done) | (go_simp; rfl))
   intro gb156 hg w48 hbox hb
   have n0_ := Aside0.mk (kB BK127.out hb)
   have n1_ := Aside0.mk (kB BK128.out hb)
   have n2_ := Aside0.mk (kB BK129.out hb)
   have n3_ := Aside0.mk (IsS135.below (by repeat (first | (with_reducible first | exact HI133.out | apply IsS135.alloc | apply IsS135.drewN | apply IsS135.drew | apply IsS135.set_1 | apply IsS135.set_2 | refine IsS135.far ?_ NB133_127.out _ | refine IsS135.far ?_ NB133_128.out _ | refine IsS135.far ?_ NB133_129.out _ | refine IsS135.far ?_ NB133_138.out _ | refine IsS135.far ?_ NB133_143.out _ | refine IsS135.far ?_ NB133_148.out _ | refine IsS135.far ?_ NB133_152.out _) | exact HI133.out)) hb)
   have n4_ := Aside0.mk (kB BK138.out hb)
   have n5_ := Aside0.mk (kB BK143.out hb)
   have n6_ := Aside0.mk (kB BK148.out hb)
   have n7_ := Aside0.mk (kB BK152.out hb)
   have n8_ := Aside0.mk (below_step (by repeat (first | (with_reducible first | exact HB.out | apply below_alloc | apply pw_below_drewN | apply below_drew1 | refine below_set ?_ (IsS135.ge HI133.out) | refine below_set ?_ GE127.out | refine below_set ?_ GE128.out | refine below_set ?_ GE129.out | refine below_set ?_ GE138.out | refine below_set ?_ GE143.out | refine below_set ?_ GE148.out | refine below_set ?_ GE152.out) | exact HB.out)) hb)
   have n9_ := Aside0.mk (hbox)
   have n10_ := Aside0.mk ((by rw [hg]; exact (below_size (by repeat (first | (with_reducible first | exact HB.out | apply below_alloc | apply pw_below_drewN | apply below_drew1 | refine below_set ?_ (IsS135.ge HI133.out) | refine below_set ?_ GE127.out | refine below_set ?_ GE128.out | refine below_set ?_ GE129.out | refine below_set ?_ GE138.out | refine below_set ?_ GE143.out | refine below_set ?_ GE148.out | refine below_set ?_ GE152.out) | exact HB.out))) : w.heap.size ≤ gb156))
   have n11_ := Aside0.mk ((by rw [hg]; exact (below_size (by repeat (first | (with_reducible first | exact HB.out | apply below_alloc | apply pw_below_drewN | apply below_drew1 | refine below_set ?_ (IsS135.ge HI133.out) | refine below_set ?_ GE127.out | refine below_set ?_ GE128.out | refine below_set ?_ GE129.out | refine below_set ?_ GE138.out | refine below_set ?_ GE143.out | refine below_set ?_ GE148.out | refine below_set ?_ GE152.out) | exact HB.out))) : w.heap.size ≤ gb156))
   have n12_ := Aside0.mk (gL hg BK127.out)
   have n13_ := Aside0.mk (gG hg BK127.out)
   have n14_ := Aside0.mk (gL hg BK128.out)
   have n15_ := Aside0.mk (gG hg BK128.out)
   have n16_ := Aside0.mk (gL hg BK129.out)
   have n17_ := Aside0.mk (gG hg BK129.out)
   have n18_ := Aside0.mk (gL hg BK138.out)
   have n19_ := Aside0.mk (gG hg BK138.out)
   have n20_ := Aside0.mk (gL hg BK143.out)
   have n21_ := Aside0.mk (gG hg BK143.out)
   have n22_ := Aside0.mk (gL hg BK148.out)
   have n23_ := Aside0.mk (gG hg BK148.out)
   have n24_ := Aside0.mk (gL hg BK152.out)
   have n25_ := Aside0.mk (gG hg BK152.out)
   have n26_ := Aside0.mk ((by rw [hg]; exact Nat.ne_of_lt (IsS135.lt (show IsS135 w _ g133 t130 t154 t155 from by repeat (first | (with_reducible first | exact HI133.out | apply IsS135.alloc | apply IsS135.drewN | apply IsS135.drew | apply IsS135.set_1 | apply IsS135.set_2 | refine IsS135.far ?_ NB133_127.out _ | refine IsS135.far ?_ NB133_128.out _ | refine IsS135.far ?_ NB133_129.out _ | refine IsS135.far ?_ NB133_138.out _ | refine IsS135.far ?_ NB133_143.out _ | refine IsS135.far ?_ NB133_148.out _ | refine IsS135.far ?_ NB133_152.out _) | exact HI133.out))) : g133 ≠ gb156))
   have n27_ := Aside0.mk ((by rw [hg]; exact Nat.ne_of_gt (IsS135.lt (show IsS135 w _ g133 t130 t154 t155 from by repeat (first | (with_reducible first | exact HI133.out | apply IsS135.alloc | apply IsS135.drewN | apply IsS135.drew | apply IsS135.set_1 | apply IsS135.set_2 | refine IsS135.far ?_ NB133_127.out _ | refine IsS135.far ?_ NB133_128.out _ | refine IsS135.far ?_ NB133_129.out _ | refine IsS135.far ?_ NB133_138.out _ | refine IsS135.far ?_ NB133_143.out _ | refine IsS135.far ?_ NB133_148.out _ | refine IsS135.far ?_ NB133_152.out _) | exact HI133.out))) : gb156 ≠ g133))
   clear BK127
   clear BK128
   clear BK129
   clear HI133
   clear BK138
   clear BK143
   clear BK148
   clear BK152
   clear HB
   have BK127 := n0_
   have BK128 := n1_
   have BK129 := n2_
   have HI133 := n3_
   have BK138 := n4_
   have BK143 := n5_
   have BK148 := n6_
   have BK152 := n7_
   have HB := n8_
   have BK156 := n9_
   have GW156 := n10_
   have GE156 := n11_
   have NB127_156 := n12_
   have NB156_127 := n13_
   have NB128_156 := n14_
   have NB156_128 := n15_
   have NB129_156 := n16_
   have NB156_129 := n17_
   have NB138_156 := n18_
   have NB156_138 := n19_
   have NB143_156 := n20_
   have NB156_143 := n21_
   have NB148_156 := n22_
   have NB156_148 := n23_
   have NB152_156 := n24_
   have NB156_152 := n25_
   have NB133_156 := n26_
   have NB156_133 := n27_
   clear n0_ n1_ n2_ n3_ n4_ n5_ n6_ n7_ n8_ n9_ n10_ n11_ n12_ n13_ n14_ n15_ n16_ n17_ n18_ n19_ n20_ n21_ n22_ n23_ n24_ n25_ n26_ n27_
   clear hb hbox hg
   refine hK.out _ _ ⟨cR BK143.out 0, cR BK143.out 1⟩ (fun hHeld => ?_)
   clear hK K
   refine nP 10 ?_
   exact norm_ (by simp only [putAll, Act.put, List.setIfInBounds_toArray, List.set_cons_zero, List.set_cons_succ]) (hCont (gb156) _ ⟨hHeld, (aB BK127.out), (aB BK128.out), (aB BK129.out), (aB BK138.out), (aB BK143.out), (aB BK148.out), (aB BK152.out), (aB BK156.out), GW156.out, GE156.out, NB133_156.out, NB156_133.out, NB127_156.out, NB156_127.out, NB128_156.out, NB156_128.out, NB129_156.out, NB156_129.out, NB138_156.out, NB156_138.out, NB143_156.out, NB156_143.out, NB148_156.out, NB156_148.out, NB152_156.out, NB156_152.out, (by repeat (first | (with_reducible first | exact HI133.out | apply IsS135.alloc | apply IsS135.drewN | apply IsS135.drew | apply IsS135.set_1 | apply IsS135.set_2 | refine IsS135.far ?_ NB133_127.out _ | refine IsS135.far ?_ NB133_128.out _ | refine IsS135.far ?_ NB133_129.out _ | refine IsS135.far ?_ NB133_138.out _ | refine IsS135.far ?_ NB133_143.out _ | refine IsS135.far ?_ NB133_148.out _ | refine IsS135.far ?_ NB133_152.out _ | refine IsS135.far ?_ NB133_156.out _) | exact HI133.out)), (by repeat (first | (with_reducible first | exact HB.out | apply below_alloc | apply pw_below_drewN | apply below_drew1 | refine below_set ?_ (IsS135.ge HI133.out) | refine below_set ?_ GE127.out | refine below_set ?_ GE128.out | refine below_set ?_ GE129.out | refine below_set ?_ GE138.out | refine below_set ?_ GE143.out | refine below_set ?_ GE148.out | refine below_set ?_ GE152.out | refine below_set ?_ GE156.out) | exact HB.out))⟩)
  ·skip
   refine box_step ?hg (N := 10) ?hd (cs := #[.int .i64 0, .int .i64 0, .int .i64 0]) (t := 41) ?hr ?_; (case hd => rfl); (case hg => rfl); (case hr => first | (go_simp; done) | (go_simp; rfl))
   intro gb156 hg w47 hbox hb
   have n0_ := Aside0.mk (kB BK127.out hb)
   have n1_ := Aside0.mk (kB BK128.out hb)
   have n2_ := Aside0.mk (kB BK129.out hb)
   have n3_ := Aside0.mk (IsS135.below (by repeat (first | (with_reducible first | exact HI133.out | apply IsS135.alloc | apply IsS135.drewN | apply IsS135.drew | apply IsS135.set_1 | apply IsS135.set_2 | refine IsS135.far ?_ NB133_127.out _ | refine IsS135.far ?_ NB133_128.out _ | refine IsS135.far ?_ NB133_129.out _ | refine IsS135.far ?_ NB133_138.out _ | refine IsS135.far ?_ NB133_143.out _ | refine IsS135.far ?_ NB133_148.out _ | refine IsS135.far ?_ NB133_152.out _) | exact HI133.out)) hb)
   have n4_ := Aside0.mk (kB BK138.out hb)
   have n5_ := Aside0.mk (kB BK143.out hb)
   have n6_ := Aside0.mk (kB BK148.out hb)
   have n7_ := Aside0.mk (kB BK152.out hb)
   have n8_ := Aside0.mk (below_step (by repeat (first | (with_reducible first | exact HB.out | apply below_alloc | apply pw_below_drewN | apply below_drew1 | refine below_set ?_ (IsS135.ge HI133.out) | refine below_set ?_ GE127.out | refine below_set ?_ GE128.out | refine below_set ?_ GE129.out | refine below_set ?_ GE138.out | refine below_set ?_ GE143.out | refine below_set ?_ GE148.out | refine below_set ?_ GE152.out) | exact HB.out)) hb)
   have n9_ := Aside0.mk (hbox)
   have n10_ := Aside0.mk ((by rw [hg]; exact (below_size (by repeat (first | (with_reducible first | exact HB.out | apply below_alloc | apply pw_below_drewN | apply below_drew1 | refine below_set ?_ (IsS135.ge HI133.out) | refine below_set ?_ GE127.out | refine below_set ?_ GE128.out | refine below_set ?_ GE129.out | refine below_set ?_ GE138.out | refine below_set ?_ GE143.out | refine below_set ?_ GE148.out | refine below_set ?_ GE152.out) | exact HB.out))) : w.heap.size ≤ gb156))
   have n11_ := Aside0.mk ((by rw [hg]; exact (below_size (by repeat (first | (with_reducible first | exact HB.out | apply below_alloc | apply pw_below_drewN | apply below_drew1 | refine below_set ?_ (IsS135.ge HI133.out) | refine below_set ?_ GE127.out | refine below_set ?_ GE128.out | refine below_set ?_ GE129.out | refine below_set ?_ GE138.out | refine below_set ?_ GE143.out | refine below_set ?_ GE148.out | refine below_set ?_ GE152.out) | exact HB.out))) : w.heap.size ≤ gb156))
   have n12_ := Aside0.mk (gL hg BK127.out)
   have n13_ := Aside0.mk (gG hg BK127.out)
   have n14_ := Aside0.mk (gL hg BK128.out)
   have n15_ := Aside0.mk (gG hg BK128.out)
   have n16_ := Aside0.mk (gL hg BK129.out)
   have n17_ := Aside0.mk (gG hg BK129.out)
   have n18_ := Aside0.mk (gL hg BK138.out)
   have n19_ := Aside0.mk (gG hg BK138.out)
   have n20_ := Aside0.mk (gL hg BK143.out)
   have n21_ := Aside0.mk (gG hg BK143.out)
   have n22_ := Aside0.mk (gL hg BK148.out)
   have n23_ := Aside0.mk (gG hg BK148.out)
   have n24_ := Aside0.mk (gL hg BK152.out)
   have n25_ := Aside0.mk (gG hg BK152.out)
   have n26_ := Aside0.mk ((by rw [hg]; exact Nat.ne_of_lt (IsS135.lt (show IsS135 w _ g133 t130 t150 t151 from by repeat (first | (with_reducible first | exact HI133.out | apply IsS135.alloc | apply IsS135.drewN | apply IsS135.drew | apply IsS135.set_1 | apply IsS135.set_2 | refine IsS135.far ?_ NB133_127.out _ | refine IsS135.far ?_ NB133_128.out _ | refine IsS135.far ?_ NB133_129.out _ | refine IsS135.far ?_ NB133_138.out _ | refine IsS135.far ?_ NB133_143.out _ | refine IsS135.far ?_ NB133_148.out _ | refine IsS135.far ?_ NB133_152.out _) | exact HI133.out))) : g133 ≠ gb156))
   have n27_ := Aside0.mk ((by rw [hg]; exact Nat.ne_of_gt (IsS135.lt (show IsS135 w _ g133 t130 t150 t151 from by repeat (first | (with_reducible first | exact HI133.out | apply IsS135.alloc | apply IsS135.drewN | apply IsS135.drew | apply IsS135.set_1 | apply IsS135.set_2 | refine IsS135.far ?_ NB133_127.out _ | refine IsS135.far ?_ NB133_128.out _ | refine IsS135.far ?_ NB133_129.out _ | refine IsS135.far ?_ NB133_138.out _ | refine IsS135.far ?_ NB133_143.out _ | refine IsS135.far ?_ NB133_148.out _ | refine IsS135.far ?_ NB133_152.out _) | exact HI133.out))) : gb156 ≠ g133))
   clear BK127
   clear BK128
   clear BK129
   clear HI133
   clear BK138
   clear BK143
   clear BK148
   clear BK152
   clear HB
   have BK127 := n0_
   have BK128 := n1_
   have BK129 := n2_
   have HI133 := n3_
   have BK138 := n4_
   have BK143 := n5_
   have BK148 := n6_
   have BK152 := n7_
   have HB := n8_
   have BK156 := n9_
   have GW156 := n10_
   have GE156 := n11_
   have NB127_156 := n12_
   have NB156_127 := n13_
   have NB128_156 := n14_
   have NB156_128 := n15_
   have NB129_156 := n16_
   have NB156_129 := n17_
   have NB138_156 := n18_
   have NB156_138 := n19_
   have NB143_156 := n20_
   have NB156_143 := n21_
   have NB148_156 := n22_
   have NB156_148 := n23_
   have NB152_156 := n24_
   have NB156_152 := n25_
   have NB133_156 := n26_
   have NB156_133 := n27_
   clear n0_ n1_ n2_ n3_ n4_ n5_ n6_ n7_ n8_ n9_ n10_ n11_ n12_ n13_ n14_ n15_ n16_ n17_ n18_ n19_ n20_ n21_ n22_ n23_ n24_ n25_ n26_ n27_
   clear hb hbox hg
   refine hK.out _ _ ⟨cR BK143.out 0, cR BK143.out 1⟩ (fun hHeld => ?_)
   clear hK K
   refine nP 10 ?_
   refine one_ (i := 1) (N := some 24) #[true, true, true, false, true, false] rfl rfl (by kernel_rfl) (by decide) (fun K hK => ?_)
   refine goes_ Try.func83 (by kernel_rfl) rfl #[.pointer (some ⟨g133, 0, none⟩), .int .i64 3] (by rfl) rfl rfl (by (try simp only [List.map_toArray, List.map_cons, List.map_nil]); first | done | rfl | (simp only [List.length_drop, List.length_take]; rfl)) ?_
   with_reducible refine (spec_l01Below.calls g133 t130 t150 t151 3 t153 t154 t155 w _ ?side1 ?side2 A7.out).mono ?_
   (case side1 => repeat (first | (with_reducible first | exact HI133.out | apply IsS135.alloc | apply IsS135.drewN | apply IsS135.drew | apply IsS135.set_1 | apply IsS135.set_2 | refine IsS135.far ?_ NB133_127.out _ | refine IsS135.far ?_ NB133_128.out _ | refine IsS135.far ?_ NB133_129.out _ | refine IsS135.far ?_ NB133_138.out _ | refine IsS135.far ?_ NB133_143.out _ | refine IsS135.far ?_ NB133_148.out _ | refine IsS135.far ?_ NB133_152.out _ | refine IsS135.far ?_ NB133_156.out _) | exact HI133.out))
   (case side2 => repeat (first | (with_reducible first | exact HB.out | apply below_alloc | apply pw_below_drewN | apply below_drew1 | refine below_set ?_ (IsS135.ge HI133.out) | refine below_set ?_ GE127.out | refine below_set ?_ GE128.out | refine below_set ?_ GE129.out | refine below_set ?_ GE138.out | refine below_set ?_ GE143.out | refine below_set ?_ GE148.out | refine below_set ?_ GE152.out | refine below_set ?_ GE156.out) | exact HB.out))
   rintro e w48 ⟨rfl, hi, hb, hk⟩
   refine ⟨_, rfl, ?_⟩
   have n0_ := Aside0.mk (KeepBut.blk hk (g' := gb127) (o := .cells #[.int .i64 0, .int .i64 0, .int .i64 0] 41 (0, 0)) (aB BK127.out) NB127_133.out (by simp))
   have n1_ := Aside0.mk (KeepBut.blk hk (g' := gb128) (o := .cells #[.int .i64 0, .int .i64 0, .int .i64 0] 41 (0, 0)) (aB BK128.out) NB128_133.out (by simp))
   have n2_ := Aside0.mk (KeepBut.blk hk (g' := gb129) (o := .cells #[.int .i64 0, .int .i64 0, .int .i64 0] 41 (0, 0)) (aB BK129.out) NB129_133.out (by simp))
   have n3_ := Aside0.mk (KeepBut.blk hk (g' := gb138) (o := .cells #[.int .i64 t134, .int .i64 t135] 39 (0, 0)) (aB BK138.out) NB138_133.out (by simp))
   have n4_ := Aside0.mk (KeepBut.blk hk (g' := gb143) (o := .cells #[.int .i64 t139, .int .i64 t140] 39 (0, 0)) (aB BK143.out) NB143_133.out (by simp))
   have n5_ := Aside0.mk (KeepBut.blk hk (g' := gb148) (o := .cells #[.int .i64 t144, .int .i64 t145] 39 (0, 0)) (aB BK148.out) NB148_133.out (by simp))
   have n6_ := Aside0.mk (KeepBut.blk hk (g' := gb152) (o := .cells #[.int .i64 t149, .int .i64 t134, .int .i64 t135] 41 (0, 0)) (aB BK152.out) NB152_133.out (by simp))
   have n7_ := Aside0.mk (KeepBut.blk hk (g' := gb156) (o := .cells #[.int .i64 0, .int .i64 0, .int .i64 0] 41 (0, 0)) (aB BK156.out) NB156_133.out (by simp))
   have n8_ := Aside0.mk (hb)
   have n9_ := Aside0.mk (hi)
   clear BK127
   clear BK128
   clear BK129
   clear BK138
   clear BK143
   clear BK148
   clear BK152
   clear BK156
   clear HB
   clear HI133
   have BK127 := n0_
   have BK128 := n1_
   have BK129 := n2_
   have BK138 := n3_
   have BK143 := n4_
   have BK148 := n5_
   have BK152 := n6_
   have BK156 := n7_
   have HB := n8_
   have HI133 := n9_
   clear n0_ n1_ n2_ n3_ n4_ n5_ n6_ n7_ n8_ n9_
   (try clear hb)
   (try clear hb2)
   (try clear hk)
   (try clear hi)
   refine hK.out _ _ ⟨cR BK143.out 0, cR BK143.out 1⟩ (fun hHeld => ?_)
   clear hK K
   refine nP 24 ?_
   refine pure_ (i := 3) (N := some 26) (v := ?_) (a' := ?_) #[true, true, true, true, true, false] rfl rfl (by kernel_rfl) (fun _ _ _ h => h) (Or.inl ⟨by rfl, ?_⟩) ?_ ?_
   rotate_left
   ·intro w'
    go_simp
    with_reducible rfl
   rotate_left
   ·simp only [Act.put, List.setIfInBounds_toArray, List.set_cons_zero, List.set_cons_succ, i64_w, i32_w]
    rfl
   exact norm_ (by simp only [putAll, Act.put, List.setIfInBounds_toArray, List.set_cons_zero, List.set_cons_succ]) (hCont (gb156) _ ⟨hHeld, (aB BK127.out), (aB BK128.out), (aB BK129.out), (aB BK138.out), (aB BK143.out), (aB BK148.out), (aB BK152.out), (aB BK156.out), GW156.out, GE156.out, NB133_156.out, NB156_133.out, NB127_156.out, NB156_127.out, NB128_156.out, NB156_128.out, NB129_156.out, NB156_129.out, NB138_156.out, NB156_138.out, NB143_156.out, NB156_143.out, NB148_156.out, NB156_148.out, NB152_156.out, NB156_152.out, (by repeat (first | (with_reducible first | exact HI133.out | apply IsS135.alloc | apply IsS135.drewN | apply IsS135.drew | apply IsS135.set_1 | apply IsS135.set_2 | refine IsS135.far ?_ NB133_127.out _ | refine IsS135.far ?_ NB133_128.out _ | refine IsS135.far ?_ NB133_129.out _ | refine IsS135.far ?_ NB133_138.out _ | refine IsS135.far ?_ NB133_143.out _ | refine IsS135.far ?_ NB133_148.out _ | refine IsS135.far ?_ NB133_152.out _ | refine IsS135.far ?_ NB133_156.out _) | exact HI133.out)), (by repeat (first | (with_reducible first | exact HB.out | apply below_alloc | apply pw_below_drewN | apply below_drew1 | refine below_set ?_ (IsS135.ge HI133.out) | refine below_set ?_ GE127.out | refine below_set ?_ GE128.out | refine below_set ?_ GE129.out | refine below_set ?_ GE138.out | refine below_set ?_ GE143.out | refine below_set ?_ GE148.out | refine below_set ?_ GE152.out | refine below_set ?_ GE156.out) | exact HB.out))⟩)
 rintro gb156 w49 ⟨hS_, h0_, h1_, h2_, h3_, h4_, h5_, h6_, h7_, h8_, h9_, h10_, h11_, h12_, h13_, h14_, h15_, h16_, h17_, h18_, h19_, h20_, h21_, h22_, h23_, h24_, h25_, h26_, h27_⟩
 have n0_ : Aside0 (w49.heap[gb127]? = some (.cells #[.int .i64 0, .int .i64 0, .int .i64 0] 41 (0, 0))) := ⟨h0_⟩
 have n1_ : Aside0 (w49.heap[gb128]? = some (.cells #[.int .i64 0, .int .i64 0, .int .i64 0] 41 (0, 0))) := ⟨h1_⟩
 have n2_ : Aside0 (w49.heap[gb129]? = some (.cells #[.int .i64 0, .int .i64 0, .int .i64 0] 41 (0, 0))) := ⟨h2_⟩
 have n3_ : Aside0 (w49.heap[gb138]? = some (.cells #[.int .i64 t134, .int .i64 t135] 39 (0, 0))) := ⟨h3_⟩
 have n4_ : Aside0 (w49.heap[gb143]? = some (.cells #[.int .i64 t139, .int .i64 t140] 39 (0, 0))) := ⟨h4_⟩
 have n5_ : Aside0 (w49.heap[gb148]? = some (.cells #[.int .i64 t144, .int .i64 t145] 39 (0, 0))) := ⟨h5_⟩
 have n6_ : Aside0 (w49.heap[gb152]? = some (.cells #[.int .i64 t149, .int .i64 t134, .int .i64 t135] 41 (0, 0))) := ⟨h6_⟩
 have n7_ : Aside0 (w49.heap[gb156]? = some (.cells #[.int .i64 0, .int .i64 0, .int .i64 0] 41 (0, 0))) := ⟨h7_⟩
 have n8_ : Aside0 (w.heap.size ≤ gb156) := ⟨h8_⟩
 have n9_ : Aside0 (w.heap.size ≤ gb156) := ⟨h9_⟩
 have n10_ : Aside0 (g133 ≠ gb156) := ⟨h10_⟩
 have n11_ : Aside0 (gb156 ≠ g133) := ⟨h11_⟩
 have n12_ : Aside0 (gb127 ≠ gb156) := ⟨h12_⟩
 have n13_ : Aside0 (gb156 ≠ gb127) := ⟨h13_⟩
 have n14_ : Aside0 (gb128 ≠ gb156) := ⟨h14_⟩
 have n15_ : Aside0 (gb156 ≠ gb128) := ⟨h15_⟩
 have n16_ : Aside0 (gb129 ≠ gb156) := ⟨h16_⟩
 have n17_ : Aside0 (gb156 ≠ gb129) := ⟨h17_⟩
 have n18_ : Aside0 (gb138 ≠ gb156) := ⟨h18_⟩
 have n19_ : Aside0 (gb156 ≠ gb138) := ⟨h19_⟩
 have n20_ : Aside0 (gb143 ≠ gb156) := ⟨h20_⟩
 have n21_ : Aside0 (gb156 ≠ gb143) := ⟨h21_⟩
 have n22_ : Aside0 (gb148 ≠ gb156) := ⟨h22_⟩
 have n23_ : Aside0 (gb156 ≠ gb148) := ⟨h23_⟩
 have n24_ : Aside0 (gb152 ≠ gb156) := ⟨h24_⟩
 have n25_ : Aside0 (gb156 ≠ gb152) := ⟨h25_⟩
 have n26_ : Aside0 (IsS135 w w49 g133 t130 t154 t155) := ⟨h26_⟩
 have n27_ : Aside0 (Below w.heap.size w w49) := ⟨h27_⟩
 clear BK127
 clear BK128
 clear BK129
 clear BK138
 clear BK143
 clear BK148
 clear BK152
 clear HI133
 clear HB
 clear h0_ h1_ h2_ h3_ h4_ h5_ h6_ h7_ h8_ h9_ h10_ h11_ h12_ h13_ h14_ h15_ h16_ h17_ h18_ h19_ h20_ h21_ h22_ h23_ h24_ h25_ h26_ h27_
 have BK127 := n0_
 have BK128 := n1_
 have BK129 := n2_
 have BK138 := n3_
 have BK143 := n4_
 have BK148 := n5_
 have BK152 := n6_
 have BK156 := n7_
 have GW156 := n8_
 have GE156 := n9_
 have NB133_156 := n10_
 have NB156_133 := n11_
 have NB127_156 := n12_
 have NB156_127 := n13_
 have NB128_156 := n14_
 have NB156_128 := n15_
 have NB129_156 := n16_
 have NB156_129 := n17_
 have NB138_156 := n18_
 have NB156_138 := n19_
 have NB143_156 := n20_
 have NB156_143 := n21_
 have NB148_156 := n22_
 have NB156_148 := n23_
 have NB152_156 := n24_
 have NB156_152 := n25_
 have HI133 := n26_
 have HB := n27_
 clear n0_ n1_ n2_ n3_ n4_ n5_ n6_ n7_ n8_ n9_ n10_ n11_ n12_ n13_ n14_ n15_ n16_ n17_ n18_ n19_ n20_ n21_ n22_ n23_ n24_ n25_ n26_ n27_
 have hHeld : w49.cell? ⟨gb143, 0, none⟩ = some (.int .i64 t139) ∧ w49.cell? ⟨gb143, 1, none⟩ = some (.int .i64 t140) := hS_
 refine norm_ (a' := ?_) ?_ ?_
 rotate_left
 ·simp only [putAll, Act.put, List.setIfInBounds_toArray, List.set_cons_zero, List.set_cons_succ]
  rfl
 refine one_ (i := 5) (N := none) #[true, true, true, true, true, true] rfl rfl (by kernel_rfl) (by decide) (fun K hK => ?_)
 have hs50 : w49.cell? ⟨gb156, 0, none⟩ = some (.int .i64 0) := cR BK156.out 0
 have hfs50 := blk_frozen BK156.out 0
 have hns50_0 := NB127_156.out
 have hns50_1 := NB128_156.out
 have hns50_2 := NB129_156.out
 have hns50_3 := NB138_156.out
 have hns50_4 := NB143_156.out
 have hns50_5 := NB148_156.out
 have hns50_6 := NB152_156.out
 have hms50_0 := NB156_127.out
 have hms50_1 := NB156_128.out
 have hms50_2 := NB156_129.out
 have hms50_3 := NB156_138.out
 have hms50_4 := NB156_143.out
 have hms50_5 := NB156_148.out
 have hms50_6 := NB156_152.out
 have hs51 : w49.cell? ⟨gb156, 1, none⟩ = some (.int .i64 0) := cR BK156.out 1
 have hfs51 := blk_frozen BK156.out 1
 have hns51_0 := NB127_156.out
 have hns51_1 := NB128_156.out
 have hns51_2 := NB129_156.out
 have hns51_3 := NB138_156.out
 have hns51_4 := NB143_156.out
 have hns51_5 := NB148_156.out
 have hns51_6 := NB152_156.out
 have hms51_0 := NB156_127.out
 have hms51_1 := NB156_128.out
 have hms51_2 := NB156_129.out
 have hms51_3 := NB156_138.out
 have hms51_4 := NB156_143.out
 have hms51_5 := NB156_148.out
 have hms51_6 := NB156_152.out
 have hs52 : w49.cell? ⟨gb156, 2, none⟩ = some (.int .i64 0) := cR BK156.out 2
 have hfs52 := blk_frozen BK156.out 2
 have hns52_0 := NB127_156.out
 have hns52_1 := NB128_156.out
 have hns52_2 := NB129_156.out
 have hns52_3 := NB138_156.out
 have hns52_4 := NB143_156.out
 have hns52_5 := NB148_156.out
 have hns52_6 := NB152_156.out
 have hms52_0 := NB156_127.out
 have hms52_1 := NB156_128.out
 have hms52_2 := NB156_129.out
 have hms52_3 := NB156_138.out
 have hms52_4 := NB156_143.out
 have hms52_5 := NB156_148.out
 have hms52_6 := NB156_152.out
 refine skip_ (w1 := ?_) (by rfl) rfl ?_ ?_
 rotate_left
 ·go_simp
  rfl
 refine hK.out _ _ ⟨((cell_far (p := ⟨gb156, _, none⟩) NB143_156.out _).trans (((cell_far (p := ⟨gb156, _, none⟩) NB143_156.out _).trans (((cell_far (p := ⟨gb156, _, none⟩) NB143_156.out _).trans (hHeld.1)))))), ((cell_far (p := ⟨gb156, _, none⟩) NB143_156.out _).trans (((cell_far (p := ⟨gb156, _, none⟩) NB143_156.out _).trans (((cell_far (p := ⟨gb156, _, none⟩) NB143_156.out _).trans (hHeld.2))))))⟩ (fun hHeld => ?_)
 clear hK K
 refine done_ (by kernel_rfl) ?_
 try go_wp2
 have n0_ : Aside0 ((((w49.setCell ⟨gb156, 0, none⟩ (.int .i64 t153)).setCell ⟨gb156, 1, none⟩ (.int .i64 t139)).setCell ⟨gb156, 2, none⟩ (.int .i64 t140)).heap[gb127]? = some (.cells #[.int .i64 0, .int .i64 0, .int .i64 0] 41 (0, 0))) := ⟨by (with_reducible repeat (first | refine blk_drewN ?_ _ | refine blk_drew ?_ | refine blk_alloc ?_ _)); refine blk_far ?_ NB127_156.out _; (with_reducible repeat (first | refine blk_drewN ?_ _ | refine blk_drew ?_ | refine blk_alloc ?_ _)); refine blk_far ?_ NB127_156.out _; (with_reducible repeat (first | refine blk_drewN ?_ _ | refine blk_drew ?_ | refine blk_alloc ?_ _)); refine blk_far ?_ NB127_156.out _; (with_reducible repeat (first | refine blk_drewN ?_ _ | refine blk_drew ?_ | refine blk_alloc ?_ _)); exact BK127.out⟩
 have n1_ : Aside0 ((((w49.setCell ⟨gb156, 0, none⟩ (.int .i64 t153)).setCell ⟨gb156, 1, none⟩ (.int .i64 t139)).setCell ⟨gb156, 2, none⟩ (.int .i64 t140)).heap[gb128]? = some (.cells #[.int .i64 0, .int .i64 0, .int .i64 0] 41 (0, 0))) := ⟨by (with_reducible repeat (first | refine blk_drewN ?_ _ | refine blk_drew ?_ | refine blk_alloc ?_ _)); refine blk_far ?_ NB128_156.out _; (with_reducible repeat (first | refine blk_drewN ?_ _ | refine blk_drew ?_ | refine blk_alloc ?_ _)); refine blk_far ?_ NB128_156.out _; (with_reducible repeat (first | refine blk_drewN ?_ _ | refine blk_drew ?_ | refine blk_alloc ?_ _)); refine blk_far ?_ NB128_156.out _; (with_reducible repeat (first | refine blk_drewN ?_ _ | refine blk_drew ?_ | refine blk_alloc ?_ _)); exact BK128.out⟩
 have n2_ : Aside0 ((((w49.setCell ⟨gb156, 0, none⟩ (.int .i64 t153)).setCell ⟨gb156, 1, none⟩ (.int .i64 t139)).setCell ⟨gb156, 2, none⟩ (.int .i64 t140)).heap[gb129]? = some (.cells #[.int .i64 0, .int .i64 0, .int .i64 0] 41 (0, 0))) := ⟨by (with_reducible repeat (first | refine blk_drewN ?_ _ | refine blk_drew ?_ | refine blk_alloc ?_ _)); refine blk_far ?_ NB129_156.out _; (with_reducible repeat (first | refine blk_drewN ?_ _ | refine blk_drew ?_ | refine blk_alloc ?_ _)); refine blk_far ?_ NB129_156.out _; (with_reducible repeat (first | refine blk_drewN ?_ _ | refine blk_drew ?_ | refine blk_alloc ?_ _)); refine blk_far ?_ NB129_156.out _; (with_reducible repeat (first | refine blk_drewN ?_ _ | refine blk_drew ?_ | refine blk_alloc ?_ _)); exact BK129.out⟩
 have n3_ : Aside0 ((((w49.setCell ⟨gb156, 0, none⟩ (.int .i64 t153)).setCell ⟨gb156, 1, none⟩ (.int .i64 t139)).setCell ⟨gb156, 2, none⟩ (.int .i64 t140)).heap[gb138]? = some (.cells #[.int .i64 t134, .int .i64 t135] 39 (0, 0))) := ⟨by (with_reducible repeat (first | refine blk_drewN ?_ _ | refine blk_drew ?_ | refine blk_alloc ?_ _)); refine blk_far ?_ NB138_156.out _; (with_reducible repeat (first | refine blk_drewN ?_ _ | refine blk_drew ?_ | refine blk_alloc ?_ _)); refine blk_far ?_ NB138_156.out _; (with_reducible repeat (first | refine blk_drewN ?_ _ | refine blk_drew ?_ | refine blk_alloc ?_ _)); refine blk_far ?_ NB138_156.out _; (with_reducible repeat (first | refine blk_drewN ?_ _ | refine blk_drew ?_ | refine blk_alloc ?_ _)); exact BK138.out⟩
 have n4_ : Aside0 ((((w49.setCell ⟨gb156, 0, none⟩ (.int .i64 t153)).setCell ⟨gb156, 1, none⟩ (.int .i64 t139)).setCell ⟨gb156, 2, none⟩ (.int .i64 t140)).heap[gb143]? = some (.cells #[.int .i64 t139, .int .i64 t140] 39 (0, 0))) := ⟨by (with_reducible repeat (first | refine blk_drewN ?_ _ | refine blk_drew ?_ | refine blk_alloc ?_ _)); refine blk_far ?_ NB143_156.out _; (with_reducible repeat (first | refine blk_drewN ?_ _ | refine blk_drew ?_ | refine blk_alloc ?_ _)); refine blk_far ?_ NB143_156.out _; (with_reducible repeat (first | refine blk_drewN ?_ _ | refine blk_drew ?_ | refine blk_alloc ?_ _)); refine blk_far ?_ NB143_156.out _; (with_reducible repeat (first | refine blk_drewN ?_ _ | refine blk_drew ?_ | refine blk_alloc ?_ _)); exact BK143.out⟩
 have n5_ : Aside0 ((((w49.setCell ⟨gb156, 0, none⟩ (.int .i64 t153)).setCell ⟨gb156, 1, none⟩ (.int .i64 t139)).setCell ⟨gb156, 2, none⟩ (.int .i64 t140)).heap[gb148]? = some (.cells #[.int .i64 t144, .int .i64 t145] 39 (0, 0))) := ⟨by (with_reducible repeat (first | refine blk_drewN ?_ _ | refine blk_drew ?_ | refine blk_alloc ?_ _)); refine blk_far ?_ NB148_156.out _; (with_reducible repeat (first | refine blk_drewN ?_ _ | refine blk_drew ?_ | refine blk_alloc ?_ _)); refine blk_far ?_ NB148_156.out _; (with_reducible repeat (first | refine blk_drewN ?_ _ | refine blk_drew ?_ | refine blk_alloc ?_ _)); refine blk_far ?_ NB148_156.out _; (with_reducible repeat (first | refine blk_drewN ?_ _ | refine blk_drew ?_ | refine blk_alloc ?_ _)); exact BK148.out⟩
 have n6_ : Aside0 ((((w49.setCell ⟨gb156, 0, none⟩ (.int .i64 t153)).setCell ⟨gb156, 1, none⟩ (.int .i64 t139)).setCell ⟨gb156, 2, none⟩ (.int .i64 t140)).heap[gb152]? = some (.cells #[.int .i64 t149, .int .i64 t134, .int .i64 t135] 41 (0, 0))) := ⟨by (with_reducible repeat (first | refine blk_drewN ?_ _ | refine blk_drew ?_ | refine blk_alloc ?_ _)); refine blk_far ?_ NB152_156.out _; (with_reducible repeat (first | refine blk_drewN ?_ _ | refine blk_drew ?_ | refine blk_alloc ?_ _)); refine blk_far ?_ NB152_156.out _; (with_reducible repeat (first | refine blk_drewN ?_ _ | refine blk_drew ?_ | refine blk_alloc ?_ _)); refine blk_far ?_ NB152_156.out _; (with_reducible repeat (first | refine blk_drewN ?_ _ | refine blk_drew ?_ | refine blk_alloc ?_ _)); exact BK152.out⟩
 have n7_ : Aside0 ((((w49.setCell ⟨gb156, 0, none⟩ (.int .i64 t153)).setCell ⟨gb156, 1, none⟩ (.int .i64 t139)).setCell ⟨gb156, 2, none⟩ (.int .i64 t140)).heap[gb156]? = some (.cells #[.int .i64 t153, .int .i64 t139, .int .i64 t140] 41 (0, 0))) := ⟨by (with_reducible repeat (first | refine blk_drewN ?_ _ | refine blk_drew ?_ | refine blk_alloc ?_ _)); refine blk_put (cs := #[.int .i64 t153, .int .i64 t139, .int .i64 0]) ?_ 2 _ rfl; (with_reducible repeat (first | refine blk_drewN ?_ _ | refine blk_drew ?_ | refine blk_alloc ?_ _)); refine blk_put (cs := #[.int .i64 t153, .int .i64 0, .int .i64 0]) ?_ 1 _ rfl; (with_reducible repeat (first | refine blk_drewN ?_ _ | refine blk_drew ?_ | refine blk_alloc ?_ _)); refine blk_put (cs := #[.int .i64 0, .int .i64 0, .int .i64 0]) ?_ 0 _ rfl; (with_reducible repeat (first | refine blk_drewN ?_ _ | refine blk_drew ?_ | refine blk_alloc ?_ _)); exact BK156.out⟩
 have n8_ : Aside0 (IsS135 w (((w49.setCell ⟨gb156, 0, none⟩ (.int .i64 t153)).setCell ⟨gb156, 1, none⟩ (.int .i64 t139)).setCell ⟨gb156, 2, none⟩ (.int .i64 t140)) g133 t130 t154 t155) := ⟨by repeat (first | (with_reducible first | exact HI133.out | apply IsS135.alloc | apply IsS135.drewN | apply IsS135.drew | apply IsS135.set_1 | apply IsS135.set_2 | refine IsS135.far ?_ NB133_127.out _ | refine IsS135.far ?_ NB133_128.out _ | refine IsS135.far ?_ NB133_129.out _ | refine IsS135.far ?_ NB133_138.out _ | refine IsS135.far ?_ NB133_143.out _ | refine IsS135.far ?_ NB133_148.out _ | refine IsS135.far ?_ NB133_152.out _ | refine IsS135.far ?_ NB133_156.out _) | exact HI133.out)⟩
 have n9_ : Aside0 (Below w.heap.size w (((w49.setCell ⟨gb156, 0, none⟩ (.int .i64 t153)).setCell ⟨gb156, 1, none⟩ (.int .i64 t139)).setCell ⟨gb156, 2, none⟩ (.int .i64 t140))) := ⟨by repeat (first | (with_reducible first | exact HB.out | apply below_alloc | apply pw_below_drewN | apply below_drew1 | refine below_set ?_ (IsS135.ge HI133.out) | refine below_set ?_ GE127.out | refine below_set ?_ GE128.out | refine below_set ?_ GE129.out | refine below_set ?_ GE138.out | refine below_set ?_ GE143.out | refine below_set ?_ GE148.out | refine below_set ?_ GE152.out | refine below_set ?_ GE156.out) | exact HB.out)⟩
 (try clear BK127)
 (try clear BK128)
 (try clear BK129)
 (try clear BK138)
 (try clear BK143)
 (try clear BK148)
 (try clear BK152)
 (try clear BK156)
 (try clear HI133)
 (try clear HB)
 generalize (((w49.setCell ⟨gb156, 0, none⟩ (.int .i64 t153)).setCell ⟨gb156, 1, none⟩ (.int .i64 t139)).setCell ⟨gb156, 2, none⟩ (.int .i64 t140)) = w53 at n0_ n1_ n2_ n3_ n4_ n5_ n6_ n7_ n8_ n9_ ⊢
 have BK127 := n0_
 have BK128 := n1_
 have BK129 := n2_
 have BK138 := n3_
 have BK143 := n4_
 have BK148 := n5_
 have BK152 := n6_
 have BK156 := n7_
 have HI133 := n8_
 have HB := n9_
 clear n0_ n1_ n2_ n3_ n4_ n5_ n6_ n7_ n8_ n9_
 have n0_ := Aside0.mk (blk_drew BK127.out)
 have n1_ := Aside0.mk (blk_drew BK128.out)
 have n2_ := Aside0.mk (blk_drew BK129.out)
 have n3_ := Aside0.mk (blk_drew BK138.out)
 have n4_ := Aside0.mk (blk_drew BK143.out)
 have n5_ := Aside0.mk (blk_drew BK148.out)
 have n6_ := Aside0.mk (blk_drew BK152.out)
 have n7_ := Aside0.mk (blk_drew BK156.out)
 have n8_ := Aside0.mk (IsS135.drew HI133.out)
 have n9_ := Aside0.mk (below_drew1 HB.out)
 clear BK127
 clear BK128
 clear BK129
 clear BK138
 clear BK143
 clear BK148
 clear BK152
 clear BK156
 clear HI133
 clear HB
 have BK127 := n0_
 have BK128 := n1_
 have BK129 := n2_
 have BK138 := n3_
 have BK143 := n4_
 have BK148 := n5_
 have BK152 := n6_
 have BK156 := n7_
 have HI133 := n8_
 have HB := n9_
 clear n0_ n1_ n2_ n3_ n4_ n5_ n6_ n7_ n8_ n9_
 refine start_ (n := 9) (S := fun w' => w'.cell? ⟨gb152, 0, none⟩ = some (.int .i64 t149) ∧ w'.cell? ⟨gb152, 1, none⟩ = some (.int .i64 t134) ∧ w'.cell? ⟨gb152, 2, none⟩ = some (.int .i64 t135) ∧ w'.cell? ⟨gb156, 0, none⟩ = some (.int .i64 t153) ∧ w'.cell? ⟨gb156, 1, none⟩ = some (.int .i64 t139) ∧ w'.cell? ⟨gb156, 2, none⟩ = some (.int .i64 t140) ∧ w'.cell? ⟨gb148, 0, none⟩ = some (.int .i64 t144) ∧ w'.cell? ⟨gb148, 1, none⟩ = some (.int .i64 t145)) (ds := []) #[false, false, false, false, false, false, false, false, false] (by kernel_rfl) rfl rfl ⟨cR BK152.out 0, cR BK152.out 1, cR BK152.out 2, cR BK156.out 0, cR BK156.out 1, cR BK156.out 2, cR BK148.out 0, cR BK148.out 1⟩ (fun hHeld => ?_); refine with_tabW spec_DrawRegs.tab7 spec_DrawRegs.bits7 (fun HT_ HW_ => ?_)
 generalize w53.drew = w54 at BK127 BK128 BK129 BK138 BK143 BK148 BK152 BK156 HI133 HB hHeld ⊢
 refine pP 2 29 #[false, false, true, false, false, false, false, false, false] ?_
 refine tP 0 27 #[true, false, true, false, false, false, false, false, false] ?_
 refine tP 1 28 #[true, true, true, false, false, false, false, false, false] ?_
 refine tP 4 31 #[true, true, true, false, true, false, false, false, false] ?_
 refine one_ (i := 3) (N := some 30) #[true, true, true, true, true, false, false, false, false] rfl rfl (one_of HT_.out (by kernel_rfl)) (by decide) (fun K hK => ?_)
 refine goes_ Try.func83 (by kernel_rfl) rfl #[.pointer (some ⟨g133, 0, none⟩), .int .i64 3] (by rfl) rfl rfl (by (try simp only [List.map_toArray, List.map_cons, List.map_nil]); first | done | rfl | (simp only [List.length_drop, List.length_take]; rfl)) ?_
 with_reducible refine (spec_l01Below.calls g133 t130 t154 t155 3 t157 t158 t159 w _ ?side1 ?side2 A8.out).mono ?_
 (case side1 => repeat (first | (with_reducible first | exact HI133.out | apply IsS135.alloc | apply IsS135.drewN | apply IsS135.drew | apply IsS135.set_1 | apply IsS135.set_2 | refine IsS135.far ?_ NB133_127.out _ | refine IsS135.far ?_ NB133_128.out _ | refine IsS135.far ?_ NB133_129.out _ | refine IsS135.far ?_ NB133_138.out _ | refine IsS135.far ?_ NB133_143.out _ | refine IsS135.far ?_ NB133_148.out _ | refine IsS135.far ?_ NB133_152.out _ | refine IsS135.far ?_ NB133_156.out _) | exact HI133.out))
 (case side2 => repeat (first | (with_reducible first | exact HB.out | apply below_alloc | apply pw_below_drewN | apply below_drew1 | refine below_set ?_ (IsS135.ge HI133.out) | refine below_set ?_ GE127.out | refine below_set ?_ GE128.out | refine below_set ?_ GE129.out | refine below_set ?_ GE138.out | refine below_set ?_ GE143.out | refine below_set ?_ GE148.out | refine below_set ?_ GE152.out | refine below_set ?_ GE156.out) | exact HB.out))
 rintro e w55 ⟨rfl, hi, hb, hk⟩
 refine ⟨_, rfl, ?_⟩
 have n0_ := Aside0.mk (KeepBut.blk hk (g' := gb127) (o := .cells #[.int .i64 0, .int .i64 0, .int .i64 0] 41 (0, 0)) (aB BK127.out) NB127_133.out (by simp))
 have n1_ := Aside0.mk (KeepBut.blk hk (g' := gb128) (o := .cells #[.int .i64 0, .int .i64 0, .int .i64 0] 41 (0, 0)) (aB BK128.out) NB128_133.out (by simp))
 have n2_ := Aside0.mk (KeepBut.blk hk (g' := gb129) (o := .cells #[.int .i64 0, .int .i64 0, .int .i64 0] 41 (0, 0)) (aB BK129.out) NB129_133.out (by simp))
 have n3_ := Aside0.mk (KeepBut.blk hk (g' := gb138) (o := .cells #[.int .i64 t134, .int .i64 t135] 39 (0, 0)) (aB BK138.out) NB138_133.out (by simp))
 have n4_ := Aside0.mk (KeepBut.blk hk (g' := gb143) (o := .cells #[.int .i64 t139, .int .i64 t140] 39 (0, 0)) (aB BK143.out) NB143_133.out (by simp))
 have n5_ := Aside0.mk (KeepBut.blk hk (g' := gb148) (o := .cells #[.int .i64 t144, .int .i64 t145] 39 (0, 0)) (aB BK148.out) NB148_133.out (by simp))
 have n6_ := Aside0.mk (KeepBut.blk hk (g' := gb152) (o := .cells #[.int .i64 t149, .int .i64 t134, .int .i64 t135] 41 (0, 0)) (aB BK152.out) NB152_133.out (by simp))
 have n7_ := Aside0.mk (KeepBut.blk hk (g' := gb156) (o := .cells #[.int .i64 t153, .int .i64 t139, .int .i64 t140] 41 (0, 0)) (aB BK156.out) NB156_133.out (by simp))
 have n8_ := Aside0.mk (hb)
 have n9_ := Aside0.mk (hi)
 clear BK127
 clear BK128
 clear BK129
 clear BK138
 clear BK143
 clear BK148
 clear BK152
 clear BK156
 clear HB
 clear HI133
 have BK127 := n0_
 have BK128 := n1_
 have BK129 := n2_
 have BK138 := n3_
 have BK143 := n4_
 have BK148 := n5_
 have BK152 := n6_
 have BK156 := n7_
 have HB := n8_
 have HI133 := n9_
 clear n0_ n1_ n2_ n3_ n4_ n5_ n6_ n7_ n8_ n9_
 (try clear hb)
 (try clear hb2)
 (try clear hk)
 (try clear hi)
 refine hK.out _ _ ⟨cR BK152.out 0, cR BK152.out 1, cR BK152.out 2, cR BK156.out 0, cR BK156.out 1, cR BK156.out 2, cR BK148.out 0, cR BK148.out 1⟩ (fun hHeld => ?_)
 clear hK K
 refine nP 30 ?_
 refine pP 5 32 #[true, true, true, true, true, true, false, false, false] ?_
 refine one_ (i := 6) (N := none) #[true, true, true, true, true, true, true, false, false] rfl rfl (one_of HT_.out (by kernel_rfl)) (by decide) (fun K hK => ?_)
 have hs56 : w55.cell? ⟨gb127, 0, none⟩ = some (.int .i64 0) := cR BK127.out 0
 have hfs56 := blk_frozen BK127.out 0
 have hns56_1 := NB128_127.out
 have hns56_2 := NB129_127.out
 have hns56_3 := NB138_127.out
 have hns56_4 := NB143_127.out
 have hns56_5 := NB148_127.out
 have hns56_6 := NB152_127.out
 have hns56_7 := NB156_127.out
 have hms56_1 := NB127_128.out
 have hms56_2 := NB127_129.out
 have hms56_3 := NB127_138.out
 have hms56_4 := NB127_143.out
 have hms56_5 := NB127_148.out
 have hms56_6 := NB127_152.out
 have hms56_7 := NB127_156.out
 have hs57 : w55.cell? ⟨gb127, 1, none⟩ = some (.int .i64 0) := cR BK127.out 1
 have hfs57 := blk_frozen BK127.out 1
 have hns57_1 := NB128_127.out
 have hns57_2 := NB129_127.out
 have hns57_3 := NB138_127.out
 have hns57_4 := NB143_127.out
 have hns57_5 := NB148_127.out
 have hns57_6 := NB152_127.out
 have hns57_7 := NB156_127.out
 have hms57_1 := NB127_128.out
 have hms57_2 := NB127_129.out
 have hms57_3 := NB127_138.out
 have hms57_4 := NB127_143.out
 have hms57_5 := NB127_148.out
 have hms57_6 := NB127_152.out
 have hms57_7 := NB127_156.out
 have hs58 : w55.cell? ⟨gb127, 2, none⟩ = some (.int .i64 0) := cR BK127.out 2
 have hfs58 := blk_frozen BK127.out 2
 have hns58_1 := NB128_127.out
 have hns58_2 := NB129_127.out
 have hns58_3 := NB138_127.out
 have hns58_4 := NB143_127.out
 have hns58_5 := NB148_127.out
 have hns58_6 := NB152_127.out
 have hns58_7 := NB156_127.out
 have hms58_1 := NB127_128.out
 have hms58_2 := NB127_129.out
 have hms58_3 := NB127_138.out
 have hms58_4 := NB127_143.out
 have hms58_5 := NB127_148.out
 have hms58_6 := NB127_152.out
 have hms58_7 := NB127_156.out
 refine skip_ (w1 := ?_) (by rfl) rfl ?_ ?_
 rotate_left
 ·go_simp
  rfl
 refine hK.out _ _ ⟨((cell_far (p := ⟨gb127, _, none⟩) NB152_127.out _).trans (((cell_far (p := ⟨gb127, _, none⟩) NB152_127.out _).trans (((cell_far (p := ⟨gb127, _, none⟩) NB152_127.out _).trans (hHeld.1)))))), ((cell_far (p := ⟨gb127, _, none⟩) NB152_127.out _).trans (((cell_far (p := ⟨gb127, _, none⟩) NB152_127.out _).trans (((cell_far (p := ⟨gb127, _, none⟩) NB152_127.out _).trans (hHeld.2.1)))))), ((cell_far (p := ⟨gb127, _, none⟩) NB152_127.out _).trans (((cell_far (p := ⟨gb127, _, none⟩) NB152_127.out _).trans (((cell_far (p := ⟨gb127, _, none⟩) NB152_127.out _).trans (hHeld.2.2.1)))))), ((cell_far (p := ⟨gb127, _, none⟩) NB156_127.out _).trans (((cell_far (p := ⟨gb127, _, none⟩) NB156_127.out _).trans (((cell_far (p := ⟨gb127, _, none⟩) NB156_127.out _).trans (hHeld.2.2.2.1)))))), ((cell_far (p := ⟨gb127, _, none⟩) NB156_127.out _).trans (((cell_far (p := ⟨gb127, _, none⟩) NB156_127.out _).trans (((cell_far (p := ⟨gb127, _, none⟩) NB156_127.out _).trans (hHeld.2.2.2.2.1)))))), ((cell_far (p := ⟨gb127, _, none⟩) NB156_127.out _).trans (((cell_far (p := ⟨gb127, _, none⟩) NB156_127.out _).trans (((cell_far (p := ⟨gb127, _, none⟩) NB156_127.out _).trans (hHeld.2.2.2.2.2.1)))))), ((cell_far (p := ⟨gb127, _, none⟩) NB148_127.out _).trans (((cell_far (p := ⟨gb127, _, none⟩) NB148_127.out _).trans (((cell_far (p := ⟨gb127, _, none⟩) NB148_127.out _).trans (hHeld.2.2.2.2.2.2.1)))))), ((cell_far (p := ⟨gb127, _, none⟩) NB148_127.out _).trans (((cell_far (p := ⟨gb127, _, none⟩) NB148_127.out _).trans (((cell_far (p := ⟨gb127, _, none⟩) NB148_127.out _).trans (hHeld.2.2.2.2.2.2.2))))))⟩ (fun hHeld => ?_)
 clear hK K
 refine one_ (i := 7) (N := none) #[true, true, true, true, true, true, true, true, false] rfl rfl (one_of HT_.out (by kernel_rfl)) (by decide) (fun K hK => ?_)
 have hs59 : w55.cell? ⟨gb128, 0, none⟩ = some (.int .i64 0) := cR BK128.out 0
 have hfs59 := blk_frozen BK128.out 0
 have hns59_0 := NB127_128.out
 have hns59_2 := NB129_128.out
 have hns59_3 := NB138_128.out
 have hns59_4 := NB143_128.out
 have hns59_5 := NB148_128.out
 have hns59_6 := NB152_128.out
 have hns59_7 := NB156_128.out
 have hms59_0 := NB128_127.out
 have hms59_2 := NB128_129.out
 have hms59_3 := NB128_138.out
 have hms59_4 := NB128_143.out
 have hms59_5 := NB128_148.out
 have hms59_6 := NB128_152.out
 have hms59_7 := NB128_156.out
 have hs60 : w55.cell? ⟨gb128, 1, none⟩ = some (.int .i64 0) := cR BK128.out 1
 have hfs60 := blk_frozen BK128.out 1
 have hns60_0 := NB127_128.out
 have hns60_2 := NB129_128.out
 have hns60_3 := NB138_128.out
 have hns60_4 := NB143_128.out
 have hns60_5 := NB148_128.out
 have hns60_6 := NB152_128.out
 have hns60_7 := NB156_128.out
 have hms60_0 := NB128_127.out
 have hms60_2 := NB128_129.out
 have hms60_3 := NB128_138.out
 have hms60_4 := NB128_143.out
 have hms60_5 := NB128_148.out
 have hms60_6 := NB128_152.out
 have hms60_7 := NB128_156.out
 have hs61 : w55.cell? ⟨gb128, 2, none⟩ = some (.int .i64 0) := cR BK128.out 2
 have hfs61 := blk_frozen BK128.out 2
 have hns61_0 := NB127_128.out
 have hns61_2 := NB129_128.out
 have hns61_3 := NB138_128.out
 have hns61_4 := NB143_128.out
 have hns61_5 := NB148_128.out
 have hns61_6 := NB152_128.out
 have hns61_7 := NB156_128.out
 have hms61_0 := NB128_127.out
 have hms61_2 := NB128_129.out
 have hms61_3 := NB128_138.out
 have hms61_4 := NB128_143.out
 have hms61_5 := NB128_148.out
 have hms61_6 := NB128_152.out
 have hms61_7 := NB128_156.out
 refine skip_ (w1 := ?_) (by rfl) rfl ?_ ?_
 rotate_left
 ·go_simp
  rfl
 refine hK.out _ _ ⟨((cell_far (p := ⟨gb128, _, none⟩) NB152_128.out _).trans (((cell_far (p := ⟨gb128, _, none⟩) NB152_128.out _).trans (((cell_far (p := ⟨gb128, _, none⟩) NB152_128.out _).trans (hHeld.1)))))), ((cell_far (p := ⟨gb128, _, none⟩) NB152_128.out _).trans (((cell_far (p := ⟨gb128, _, none⟩) NB152_128.out _).trans (((cell_far (p := ⟨gb128, _, none⟩) NB152_128.out _).trans (hHeld.2.1)))))), ((cell_far (p := ⟨gb128, _, none⟩) NB152_128.out _).trans (((cell_far (p := ⟨gb128, _, none⟩) NB152_128.out _).trans (((cell_far (p := ⟨gb128, _, none⟩) NB152_128.out _).trans (hHeld.2.2.1)))))), ((cell_far (p := ⟨gb128, _, none⟩) NB156_128.out _).trans (((cell_far (p := ⟨gb128, _, none⟩) NB156_128.out _).trans (((cell_far (p := ⟨gb128, _, none⟩) NB156_128.out _).trans (hHeld.2.2.2.1)))))), ((cell_far (p := ⟨gb128, _, none⟩) NB156_128.out _).trans (((cell_far (p := ⟨gb128, _, none⟩) NB156_128.out _).trans (((cell_far (p := ⟨gb128, _, none⟩) NB156_128.out _).trans (hHeld.2.2.2.2.1)))))), ((cell_far (p := ⟨gb128, _, none⟩) NB156_128.out _).trans (((cell_far (p := ⟨gb128, _, none⟩) NB156_128.out _).trans (((cell_far (p := ⟨gb128, _, none⟩) NB156_128.out _).trans (hHeld.2.2.2.2.2.1)))))), ((cell_far (p := ⟨gb128, _, none⟩) NB148_128.out _).trans (((cell_far (p := ⟨gb128, _, none⟩) NB148_128.out _).trans (((cell_far (p := ⟨gb128, _, none⟩) NB148_128.out _).trans (hHeld.2.2.2.2.2.2.1)))))), ((cell_far (p := ⟨gb128, _, none⟩) NB148_128.out _).trans (((cell_far (p := ⟨gb128, _, none⟩) NB148_128.out _).trans (((cell_far (p := ⟨gb128, _, none⟩) NB148_128.out _).trans (hHeld.2.2.2.2.2.2.2))))))⟩ (fun hHeld => ?_)
 clear hK K
 refine one_ (i := 8) (N := none) #[true, true, true, true, true, true, true, true, true] rfl rfl (one_of HT_.out (by kernel_rfl)) (by decide) (fun K hK => ?_)
 have hs62 : w55.cell? ⟨gb129, 0, none⟩ = some (.int .i64 0) := cR BK129.out 0
 have hfs62 := blk_frozen BK129.out 0
 have hns62_0 := NB127_129.out
 have hns62_1 := NB128_129.out
 have hns62_3 := NB138_129.out
 have hns62_4 := NB143_129.out
 have hns62_5 := NB148_129.out
 have hns62_6 := NB152_129.out
 have hns62_7 := NB156_129.out
 have hms62_0 := NB129_127.out
 have hms62_1 := NB129_128.out
 have hms62_3 := NB129_138.out
 have hms62_4 := NB129_143.out
 have hms62_5 := NB129_148.out
 have hms62_6 := NB129_152.out
 have hms62_7 := NB129_156.out
 have hs63 : w55.cell? ⟨gb129, 1, none⟩ = some (.int .i64 0) := cR BK129.out 1
 have hfs63 := blk_frozen BK129.out 1
 have hns63_0 := NB127_129.out
 have hns63_1 := NB128_129.out
 have hns63_3 := NB138_129.out
 have hns63_4 := NB143_129.out
 have hns63_5 := NB148_129.out
 have hns63_6 := NB152_129.out
 have hns63_7 := NB156_129.out
 have hms63_0 := NB129_127.out
 have hms63_1 := NB129_128.out
 have hms63_3 := NB129_138.out
 have hms63_4 := NB129_143.out
 have hms63_5 := NB129_148.out
 have hms63_6 := NB129_152.out
 have hms63_7 := NB129_156.out
 have hs64 : w55.cell? ⟨gb129, 2, none⟩ = some (.int .i64 0) := cR BK129.out 2
 have hfs64 := blk_frozen BK129.out 2
 have hns64_0 := NB127_129.out
 have hns64_1 := NB128_129.out
 have hns64_3 := NB138_129.out
 have hns64_4 := NB143_129.out
 have hns64_5 := NB148_129.out
 have hns64_6 := NB152_129.out
 have hns64_7 := NB156_129.out
 have hms64_0 := NB129_127.out
 have hms64_1 := NB129_128.out
 have hms64_3 := NB129_138.out
 have hms64_4 := NB129_143.out
 have hms64_5 := NB129_148.out
 have hms64_6 := NB129_152.out
 have hms64_7 := NB129_156.out
 refine skip_ (w1 := ?_) (by rfl) rfl ?_ ?_
 rotate_left
 ·go_simp
  rfl
 refine hK.out _ _ ⟨((cell_far (p := ⟨gb129, _, none⟩) NB152_129.out _).trans (((cell_far (p := ⟨gb129, _, none⟩) NB152_129.out _).trans (((cell_far (p := ⟨gb129, _, none⟩) NB152_129.out _).trans (hHeld.1)))))), ((cell_far (p := ⟨gb129, _, none⟩) NB152_129.out _).trans (((cell_far (p := ⟨gb129, _, none⟩) NB152_129.out _).trans (((cell_far (p := ⟨gb129, _, none⟩) NB152_129.out _).trans (hHeld.2.1)))))), ((cell_far (p := ⟨gb129, _, none⟩) NB152_129.out _).trans (((cell_far (p := ⟨gb129, _, none⟩) NB152_129.out _).trans (((cell_far (p := ⟨gb129, _, none⟩) NB152_129.out _).trans (hHeld.2.2.1)))))), ((cell_far (p := ⟨gb129, _, none⟩) NB156_129.out _).trans (((cell_far (p := ⟨gb129, _, none⟩) NB156_129.out _).trans (((cell_far (p := ⟨gb129, _, none⟩) NB156_129.out _).trans (hHeld.2.2.2.1)))))), ((cell_far (p := ⟨gb129, _, none⟩) NB156_129.out _).trans (((cell_far (p := ⟨gb129, _, none⟩) NB156_129.out _).trans (((cell_far (p := ⟨gb129, _, none⟩) NB156_129.out _).trans (hHeld.2.2.2.2.1)))))), ((cell_far (p := ⟨gb129, _, none⟩) NB156_129.out _).trans (((cell_far (p := ⟨gb129, _, none⟩) NB156_129.out _).trans (((cell_far (p := ⟨gb129, _, none⟩) NB156_129.out _).trans (hHeld.2.2.2.2.2.1)))))), ((cell_far (p := ⟨gb129, _, none⟩) NB148_129.out _).trans (((cell_far (p := ⟨gb129, _, none⟩) NB148_129.out _).trans (((cell_far (p := ⟨gb129, _, none⟩) NB148_129.out _).trans (hHeld.2.2.2.2.2.2.1)))))), ((cell_far (p := ⟨gb129, _, none⟩) NB148_129.out _).trans (((cell_far (p := ⟨gb129, _, none⟩) NB148_129.out _).trans (((cell_far (p := ⟨gb129, _, none⟩) NB148_129.out _).trans (hHeld.2.2.2.2.2.2.2))))))⟩ (fun hHeld => ?_)
 clear hK K
 refine done_ (done_of HT_.out (by kernel_rfl)) ?_
 try go_wp2
 refine bodyPost_ret (results_list (rs := [.cell 2 41, .cell 3 41, .cell 4 41]) rfl (by simp) (.cell gb127 41 #[.int .i64 t149, .int .i64 t134, .int .i64 t135] (0, 0) _ rfl (by (with_reducible repeat (first | refine blk_drewN ?_ _ | refine blk_drew ?_ | refine blk_alloc ?_ _)); refine blk_far ?_ NB127_129.out _; (with_reducible repeat (first | refine blk_drewN ?_ _ | refine blk_drew ?_ | refine blk_alloc ?_ _)); refine blk_far ?_ NB127_129.out _; (with_reducible repeat (first | refine blk_drewN ?_ _ | refine blk_drew ?_ | refine blk_alloc ?_ _)); refine blk_far ?_ NB127_129.out _; (with_reducible repeat (first | refine blk_drewN ?_ _ | refine blk_drew ?_ | refine blk_alloc ?_ _)); refine blk_far ?_ NB127_128.out _; (with_reducible repeat (first | refine blk_drewN ?_ _ | refine blk_drew ?_ | refine blk_alloc ?_ _)); refine blk_far ?_ NB127_128.out _; (with_reducible repeat (first | refine blk_drewN ?_ _ | refine blk_drew ?_ | refine blk_alloc ?_ _)); refine blk_far ?_ NB127_128.out _; (with_reducible repeat (first | refine blk_drewN ?_ _ | refine blk_drew ?_ | refine blk_alloc ?_ _)); refine blk_put (cs := #[.int .i64 t149, .int .i64 t134, .int .i64 0]) ?_ 2 _ rfl; (with_reducible repeat (first | refine blk_drewN ?_ _ | refine blk_drew ?_ | refine blk_alloc ?_ _)); refine blk_put (cs := #[.int .i64 t149, .int .i64 0, .int .i64 0]) ?_ 1 _ rfl; (with_reducible repeat (first | refine blk_drewN ?_ _ | refine blk_drew ?_ | refine blk_alloc ?_ _)); refine blk_put (cs := #[.int .i64 0, .int .i64 0, .int .i64 0]) ?_ 0 _ rfl; (with_reducible repeat (first | refine blk_drewN ?_ _ | refine blk_drew ?_ | refine blk_alloc ?_ _)); exact BK127.out) Try.underlying41 rfl (by kernel_rfl) (.cell gb128 41 #[.int .i64 t153, .int .i64 t139, .int .i64 t140] (0, 0) _ rfl (by (with_reducible repeat (first | refine blk_drewN ?_ _ | refine blk_drew ?_ | refine blk_alloc ?_ _)); refine blk_far ?_ NB128_129.out _; (with_reducible repeat (first | refine blk_drewN ?_ _ | refine blk_drew ?_ | refine blk_alloc ?_ _)); refine blk_far ?_ NB128_129.out _; (with_reducible repeat (first | refine blk_drewN ?_ _ | refine blk_drew ?_ | refine blk_alloc ?_ _)); refine blk_far ?_ NB128_129.out _; (with_reducible repeat (first | refine blk_drewN ?_ _ | refine blk_drew ?_ | refine blk_alloc ?_ _)); refine blk_put (cs := #[.int .i64 t153, .int .i64 t139, .int .i64 0]) ?_ 2 _ rfl; (with_reducible repeat (first | refine blk_drewN ?_ _ | refine blk_drew ?_ | refine blk_alloc ?_ _)); refine blk_put (cs := #[.int .i64 t153, .int .i64 0, .int .i64 0]) ?_ 1 _ rfl; (with_reducible repeat (first | refine blk_drewN ?_ _ | refine blk_drew ?_ | refine blk_alloc ?_ _)); refine blk_put (cs := #[.int .i64 0, .int .i64 0, .int .i64 0]) ?_ 0 _ rfl; (with_reducible repeat (first | refine blk_drewN ?_ _ | refine blk_drew ?_ | refine blk_alloc ?_ _)); refine blk_far ?_ NB128_127.out _; (with_reducible repeat (first | refine blk_drewN ?_ _ | refine blk_drew ?_ | refine blk_alloc ?_ _)); refine blk_far ?_ NB128_127.out _; (with_reducible repeat (first | refine blk_drewN ?_ _ | refine blk_drew ?_ | refine blk_alloc ?_ _)); refine blk_far ?_ NB128_127.out _; (with_reducible repeat (first | refine blk_drewN ?_ _ | refine blk_drew ?_ | refine blk_alloc ?_ _)); exact BK128.out) Try.underlying41 rfl (by kernel_rfl) (.cell gb129 41 #[.int .i64 t157, .int .i64 t144, .int .i64 t145] (0, 0) _ rfl (by (with_reducible repeat (first | refine blk_drewN ?_ _ | refine blk_drew ?_ | refine blk_alloc ?_ _)); refine blk_put (cs := #[.int .i64 t157, .int .i64 t144, .int .i64 0]) ?_ 2 _ rfl; (with_reducible repeat (first | refine blk_drewN ?_ _ | refine blk_drew ?_ | refine blk_alloc ?_ _)); refine blk_put (cs := #[.int .i64 t157, .int .i64 0, .int .i64 0]) ?_ 1 _ rfl; (with_reducible repeat (first | refine blk_drewN ?_ _ | refine blk_drew ?_ | refine blk_alloc ?_ _)); refine blk_put (cs := #[.int .i64 0, .int .i64 0, .int .i64 0]) ?_ 0 _ rfl; (with_reducible repeat (first | refine blk_drewN ?_ _ | refine blk_drew ?_ | refine blk_alloc ?_ _)); refine blk_far ?_ NB129_128.out _; (with_reducible repeat (first | refine blk_drewN ?_ _ | refine blk_drew ?_ | refine blk_alloc ?_ _)); refine blk_far ?_ NB129_128.out _; (with_reducible repeat (first | refine blk_drewN ?_ _ | refine blk_drew ?_ | refine blk_alloc ?_ _)); refine blk_far ?_ NB129_128.out _; (with_reducible repeat (first | refine blk_drewN ?_ _ | refine blk_drew ?_ | refine blk_alloc ?_ _)); refine blk_far ?_ NB129_127.out _; (with_reducible repeat (first | refine blk_drewN ?_ _ | refine blk_drew ?_ | refine blk_alloc ?_ _)); refine blk_far ?_ NB129_127.out _; (with_reducible repeat (first | refine blk_drewN ?_ _ | refine blk_drew ?_ | refine blk_alloc ?_ _)); refine blk_far ?_ NB129_127.out _; (with_reducible repeat (first | refine blk_drewN ?_ _ | refine blk_drew ?_ | refine blk_alloc ?_ _)); exact BK129.out) Try.underlying41 rfl (by kernel_rfl) .nil)))) rfl ?_
 exact ⟨by first | rfl | (simp [errW_none, errW_some] <;> rfl) | (simp [*, errW_none, errW_some] <;> rfl), by repeat (first | (with_reducible first | exact HB.out | apply below_alloc | apply pw_below_drewN | apply below_drew1 | refine below_set ?_ (IsS135.ge HI133.out) | refine below_set ?_ GE127.out | refine below_set ?_ GE128.out | refine below_set ?_ GE129.out | refine below_set ?_ GE138.out | refine below_set ?_ GE143.out | refine below_set ?_ GE148.out | refine below_set ?_ GE152.out | refine below_set ?_ GE156.out) | exact HB.out)⟩

end Go.Proofs.Ytdabhhlfnfjojaa.PFnRegs
