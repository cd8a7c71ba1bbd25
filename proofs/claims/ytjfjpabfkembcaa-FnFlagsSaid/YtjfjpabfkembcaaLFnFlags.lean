/- The walk of the statement on flags. In part printed by this session's gen_lawflags.py. -/
import Derived.Test.YtjfjpabfkembcaaHFlagsPure
import Derived.Test.YtjfjpabfkembcaaHFlagsNew
import Derived.Test.YtjfjpabfkembcaaHDraw6
namespace Go.Proofs.Ytjfjpabfkembcaa.H
open Go.RowKit
set_option linter.unusedVariables false
set_option linter.unusedSimpArgs false
set_option maxHeartbeats 20000000 in
set_option maxRecDepth 100000 in
theorem lawFnFlags (w : World) (v0 : Value) (code : List Int) (h : rdBytes w v0 code) :
    Calls Try.prog 7 #[v0] w fun e w' => e = .returned (.bool true) ∧ Below w.heap.size w w' := by
  obtain ⟨A, c, rfl, _, hm⟩ := rd_len h
  have HR := Aside.mk h
  clear h
  by_cases hbig : (1048576 : Int) < (code.length : Int)
  · have HBG := Aside.mk (decide_eq_true hbig)
    go_enter Try.func7, Try.ntmps7
    go_wp2_with (go_at_call 32; refine (big_calls _ _ code HR.out).mono ?_; rintro e w1 ⟨rfl, hb⟩; rw [HBG.out]; have HB := Aside.mk hb; clear hb)
    go_ret
    exact ⟨rfl, HB.out⟩
  have HBG := Aside.mk (decide_eq_false hbig)
  clear hbig
  go_enter Try.func7, Try.ntmps7
  go_wp2_with (fail)
  refine (big_calls _ _ code HR.out).mono ?_
  rintro e w1 ⟨rfl, hb⟩
  rw [HBG.out]
  have HB := Aside.mk hb
  clear hb
  go_wp2_with (fail)
  refine (drawFlags_calls _ A c code (rdBytes_mov HB.out HR.out)).mono ?_
  rintro e w2 ⟨va, Da, la, vb, Db, lb, vc, Dc, lc, rfl, ⟨hoa, hfa⟩, ⟨hob, hfb⟩, ⟨hoc, hfc⟩, hb⟩
  have Ha := Aside.mk (owRow_rd ow_reg hoa)
  have Hb := Aside.mk (owRow_rd ow_reg hob)
  have Hc := Aside.mk (owRow_rd ow_reg hoc)
  obtain ⟨Aa, ca, rfl⟩ := cell_own ow_reg hoa
  obtain ⟨Ab, cb, rfl⟩ := cell_own ow_reg hob
  obtain ⟨Ac, cc, rfl⟩ := cell_own ow_reg hoc
  have FA := Aside.mk hfa
  have FB := Aside.mk hfb
  have FC := Aside.mk hfc
  have HLa : Aside (la.length ≤ 4000000) := ⟨by have := hfa.1; omega⟩
  have HLb : Aside (lb.length ≤ 4000000) := ⟨by have := hfb.1; omega⟩
  have HLc : Aside (lc.length ≤ 4000000) := ⟨by have := hfc.1; omega⟩
  have HLj : Aside ((joinFlags la lb).length ≤ 4000000) := ⟨by rw [joinFlags_len]; have := hfa.1; omega⟩
  replace HB := Aside.mk (below_step HB.out hb)
  clear hoa hob hoc hfa hfb hfc hb
  go_wp2_with (fail)
  refine (joinFlags_calls _ _ _ la lb Ha.out Hb.out HLa.out).mono ?_
  rintro e w3 ⟨fv, Dn, rfl, ho, _, hb⟩
  obtain ⟨Aj, cj, rfl⟩ := cell_own ow_reg ho
  have Hj := Aside.mk (owRow_rd ow_reg ho)
  replace Ha := Aside.mk (rdRegs_mov hb Ha.out)
  replace Hb := Aside.mk (rdRegs_mov hb Hb.out)
  replace Hc := Aside.mk (rdRegs_mov hb Hc.out)
  replace HB := Aside.mk (below_step HB.out hb)
  clear ho hb
  go_wp2_with (fail)
  refine (joinFlags_calls _ _ _ (joinFlags la lb) lc Hj.out Hc.out HLj.out).mono ?_
  rintro e w4 ⟨fv, Dn, rfl, ho, _, hb⟩
  obtain ⟨Ax, cx, rfl⟩ := cell_own ow_reg ho
  have Hx := Aside.mk (owRow_rd ow_reg ho)
  replace Ha := Aside.mk (rdRegs_mov hb Ha.out)
  replace Hb := Aside.mk (rdRegs_mov hb Hb.out)
  replace Hc := Aside.mk (rdRegs_mov hb Hc.out)
  replace Hj := Aside.mk (rdRegs_mov hb Hj.out)
  replace HB := Aside.mk (below_step HB.out hb)
  clear ho hb
  go_wp2_with (fail)
  refine (joinFlags_calls _ _ _ lc lb Hc.out Hb.out HLc.out).mono ?_
  rintro e w5 ⟨fv, Dn, rfl, ho, _, hb⟩
  obtain ⟨Az, cz, rfl⟩ := cell_own ow_reg ho
  have Hz := Aside.mk (owRow_rd ow_reg ho)
  replace Ha := Aside.mk (rdRegs_mov hb Ha.out)
  replace Hb := Aside.mk (rdRegs_mov hb Hb.out)
  replace Hj := Aside.mk (rdRegs_mov hb Hj.out)
  replace Hx := Aside.mk (rdRegs_mov hb Hx.out)
  replace HB := Aside.mk (below_step HB.out hb)
  clear ho hb Hc
  go_wp2_with (fail)
  refine (joinFlags_calls _ _ _ la (joinFlags lc lb) Ha.out Hz.out HLa.out).mono ?_
  rintro e w6 ⟨fv, Dn, rfl, ho, _, hb⟩
  have e2 := (fnFlags_pure FA.out FB.out FC.out 0 (by omega) (by omega)).2.1
  rw [e2] at ho
  clear e2
  obtain ⟨Ay, cy, rfl⟩ := cell_own ow_reg ho
  have Hy := Aside.mk (owRow_rd ow_reg ho)
  replace Ha := Aside.mk (rdRegs_mov hb Ha.out)
  replace Hb := Aside.mk (rdRegs_mov hb Hb.out)
  replace Hj := Aside.mk (rdRegs_mov hb Hj.out)
  replace Hx := Aside.mk (rdRegs_mov hb Hx.out)
  replace HB := Aside.mk (below_step HB.out hb)
  clear ho hb Hz
  go_wp2_with (fail)
  refine (drawPlaces_calls _ A c code (rdBytes_mov HB.out HR.out)).mono ?_
  rintro e w7 ⟨vp, lp, rfl, hp, hpl, hpx, hb⟩
  obtain ⟨Ap, cp, rfl, hpc, _⟩ := rd_len hp
  obtain ⟨adp, hA, x0⟩ := rdInts_at hp 0 (by omega)
  subst hA
  have hp0 := hpx lp[0] (List.getElem_mem (by omega))
  rw [add0] at x0
  generalize lp[0] = p0 at x0 hp0
  obtain ⟨hp00, hp01⟩ := hp0
  replace Ha := Aside.mk (rdRegs_mov hb Ha.out)
  replace Hb := Aside.mk (rdRegs_mov hb Hb.out)
  replace Hj := Aside.mk (rdRegs_mov hb Hj.out)
  replace Hx := Aside.mk (rdRegs_mov hb Hx.out)
  replace Hy := Aside.mk (rdRegs_mov hb Hy.out)
  replace HB := Aside.mk (below_step HB.out hb)
  clear hb hp hpx
  obtain ⟨n, hn⟩ : ∃ n, p0 % 8 = n := ⟨_, rfl⟩
  have hn0 : 0 ≤ n := by omega
  have hn7 : n ≤ 7 := by omega
  obtain ⟨e1, e2, e3, e4, e5, e6, e7⟩ := fnFlags_pure FA.out FB.out FC.out n hn0 hn7
  have E1 := Aside.mk e1
  have E3 := Aside.mk e3
  have E4 := Aside.mk e4
  have E5 := Aside.mk e5
  have E6 := Aside.mk e6
  have E7 := Aside.mk e7
  clear e1 e2 e3 e4 e5 e6 e7
  have q12 : (0 : Int) < (lp.length : Int) := by omega
  clear hpl
  go_wp2_with (fail)
  refine (setFlags_calls _ _ (joinFlags la lb) n 50 2 Hj.out HLj.out).mono ?_
  rintro e w8 ⟨fv, Dn, rfl, ho, _, hb⟩
  obtain ⟨As, cs, rfl⟩ := cell_own ow_reg ho
  have Hs := Aside.mk (owRow_rd ow_reg ho)
  replace Ha := Aside.mk (rdRegs_mov hb Ha.out)
  replace Hb := Aside.mk (rdRegs_mov hb Hb.out)
  replace Hj := Aside.mk (rdRegs_mov hb Hj.out)
  replace Hx := Aside.mk (rdRegs_mov hb Hx.out)
  replace Hy := Aside.mk (rdRegs_mov hb Hy.out)
  replace HB := Aside.mk (below_step HB.out hb)
  clear ho hb
  have HLs : Aside ((setFlags (joinFlags la lb) n 50 2).length ≤ 4000000) := ⟨setFlags_len _ _ _ _ HLj.out⟩
  go_wp2_with (fail)
  refine (drawSetFlags_calls _ A c code (rdBytes_mov HB.out HR.out)).mono ?_
  rintro e w9 ⟨vu, lu, nu, t13, b13, rfl, hu, hul, hb⟩
  obtain ⟨Au, cu, rfl, _, _⟩ := rd_len hu
  have Hu := Aside.mk hu
  have HLu : Aside (lu.length ≤ 4000000) := ⟨by omega⟩
  replace Ha := Aside.mk (rdRegs_mov hb Ha.out)
  replace Hb := Aside.mk (rdRegs_mov hb Hb.out)
  replace Hj := Aside.mk (rdRegs_mov hb Hj.out)
  replace Hx := Aside.mk (rdRegs_mov hb Hx.out)
  replace Hy := Aside.mk (rdRegs_mov hb Hy.out)
  replace Hs := Aside.mk (rdRegs_mov hb Hs.out)
  replace HB := Aside.mk (below_step HB.out hb)
  clear hu hul hb
  have hba := below_alloc (Below.refl _ w9) (.cells #[.int .i64 t13, .int .i64 b13] 29)
  have L13 := Aside.mk (Loc.new w9 #[.int .i64 t13, .int .i64 b13] 29)
  replace Ha := Aside.mk (rdRegs_mov hba Ha.out)
  replace Hb := Aside.mk (rdRegs_mov hba Hb.out)
  replace Hj := Aside.mk (rdRegs_mov hba Hj.out)
  replace Hx := Aside.mk (rdRegs_mov hba Hx.out)
  replace Hy := Aside.mk (rdRegs_mov hba Hy.out)
  replace Hs := Aside.mk (rdRegs_mov hba Hs.out)
  replace Hu := Aside.mk (rdRegs_mov hba Hu.out)
  replace HB := Aside.mk (below_step HB.out hba)
  clear hba
  go_wp2_with (fail)
  refine (drawFlagsOf_calls _ A c code (rdBytes_mov HB.out HR.out)).mono ?_
  rintro e w10 ⟨vf, lf, rfl, hf, hfl, hb⟩
  obtain ⟨Af, cf, rfl, _, _⟩ := rd_len hf
  have Hf := Aside.mk hf
  replace L13 := Aside.mk (L13.out.below hb)
  replace Ha := Aside.mk (rdRegs_mov hb Ha.out)
  replace Hb := Aside.mk (rdRegs_mov hb Hb.out)
  replace Hj := Aside.mk (rdRegs_mov hb Hj.out)
  replace Hx := Aside.mk (rdRegs_mov hb Hx.out)
  replace Hy := Aside.mk (rdRegs_mov hb Hy.out)
  replace Hs := Aside.mk (rdRegs_mov hb Hs.out)
  replace Hu := Aside.mk (rdRegs_mov hb Hu.out)
  replace HB := Aside.mk (below_step HB.out hb)
  clear hf hfl hb x0 q12
  obtain ⟨B13, hB13⟩ : ∃ B, B = w9.heap.size := ⟨_, rfl⟩
  rw [← hB13] at L13
  go_wp2
  try rw [← hB13]
  clear hB13
  refine zBegin (S := (fun w' => Loc w' B13 #[.int .i64 t13, .int .i64 b13] 29 ∧ Aside (Below w10.heap.size w10 w'))) (z := 69) (by kernel_rfl) (by exact ⟨L13.out.drew', ⟨below_drew (Below.refl _ _)⟩⟩) (fun hHeld => ?_)
  refine zT 0 51 hHeld ?_
  refine zT 1 52 hHeld ?_
  refine zT 2 53 hHeld ?_
  refine zReady (rs := [3]) (by kernel_rfl) (by simp) ?_
  refine zOne (by decide) rfl (fun K hK => ?_) zNil
  go_simp
  refine (joinFlags_calls _ _ _ lb la (rdRegs_mov hHeld.2.out Hb.out) (rdRegs_mov hHeld.2.out Ha.out) HLb.out).mono ?_; rintro e wk3 ⟨fv3, D3, rfl, ho3, _, hb⟩; rw [E1.out] at ho3; obtain ⟨A3, c3, rfl⟩ := cell_own ow_reg ho3
  refine hK.out _ _ (by exact ⟨hHeld.1.below hb, ⟨below_step hHeld.2.out hb⟩⟩) (fun hHeld => ?_)
  clear hK K
  (try simp only [Act.put, List.setIfInBounds_toArray, List.set_cons_zero, List.set_cons_succ])
  have R3 := Aside.mk (owRow_rd ow_reg ho3); clear ho3; clear hb
  refine zReady (rs := [4]) (by kernel_rfl) (by simp) ?_
  refine zOne (by decide) rfl (fun K hK => ?_) zNil
  go_simp
  refine (sameRegs_calls _ _ _ (joinFlags la lb) (rdRegs_mov hHeld.2.out Hj.out) R3.out).mono ?_; rintro e wk4 ⟨rfl, hb⟩
  refine hK.out _ _ (by exact ⟨hHeld.1.below hb, ⟨below_step hHeld.2.out hb⟩⟩) (fun hHeld => ?_)
  clear hK K
  (try simp only [Act.put, List.setIfInBounds_toArray, List.set_cons_zero, List.set_cons_succ])
  clear R3; clear hb
  refine zT 5 56 hHeld ?_
  refine zT 6 57 hHeld ?_
  refine zT 7 58 hHeld ?_
  refine zReady (rs := [8]) (by kernel_rfl) (by simp) ?_
  refine zOne (by decide) rfl (fun K hK => ?_) zNil
  go_simp
  refine (sameRegs_calls _ _ _ (joinFlags (joinFlags la lb) lc) (rdRegs_mov hHeld.2.out Hx.out) (rdRegs_mov hHeld.2.out Hy.out)).mono ?_; rintro e wk8 ⟨rfl, hb⟩
  refine hK.out _ _ (by exact ⟨hHeld.1.below hb, ⟨below_step hHeld.2.out hb⟩⟩) (fun hHeld => ?_)
  clear hK K
  (try simp only [Act.put, List.setIfInBounds_toArray, List.set_cons_zero, List.set_cons_succ])
  clear hb
  refine zT 9 60 hHeld ?_
  refine zT 10 61 hHeld ?_
  refine zT 11 62 hHeld ?_
  refine zT 12 63 hHeld ?_
  refine zT 14 65 hHeld ?_
  refine zReady (rs := [13]) (by kernel_rfl) (by simp) ?_
  refine zOne (by decide) rfl (fun K hK => ?_) zNil
  go_simp
  refine (joinFlags_calls _ _ _ (joinFlags la lb) la (rdRegs_mov hHeld.2.out Hj.out) (rdRegs_mov hHeld.2.out Ha.out) HLj.out).mono ?_; rintro e wk13 ⟨fv13, D13, rfl, ho13, _, hb⟩; rw [E3.out] at ho13; obtain ⟨A13, c13, rfl⟩ := cell_own ow_reg ho13
  refine hK.out _ _ (by exact ⟨hHeld.1.below hb, ⟨below_step hHeld.2.out hb⟩⟩) (fun hHeld => ?_)
  clear hK K
  (try simp only [Act.put, List.setIfInBounds_toArray, List.set_cons_zero, List.set_cons_succ])
  have R13 := Aside.mk (owRow_rd ow_reg ho13); clear ho13; clear hb
  refine zReady (rs := [15]) (by kernel_rfl) (by simp) ?_
  refine zOne (by decide) rfl (fun K hK => ?_) zNil
  go_simp
  refine (sameRegs_calls _ _ _ (joinFlags la lb) R13.out (rdRegs_mov hHeld.2.out Hj.out)).mono ?_; rintro e wk15 ⟨rfl, hb⟩
  refine hK.out _ _ (by exact ⟨hHeld.1.below hb, ⟨below_step hHeld.2.out hb⟩⟩) (fun hHeld => ?_)
  clear hK K
  (try simp only [Act.put, List.setIfInBounds_toArray, List.set_cons_zero, List.set_cons_succ])
  clear R13; clear hb
  refine zT 16 67 hHeld ?_
  refine zT 17 68 hHeld ?_
  refine zT 18 69 hHeld ?_
  refine zT 20 71 hHeld ?_
  refine zReady (rs := [19]) (by kernel_rfl) (by simp) ?_
  refine zOne (by decide) rfl (fun K hK => ?_) zNil
  go_simp
  refine (flagsOf_calls _ _ (setFlags (joinFlags la lb) n 50 2) (rdRegs_mov hHeld.2.out Hs.out)).mono ?_; rintro e wk19 ⟨rfl, hb⟩; rw [E4.out]
  refine hK.out _ _ (by exact ⟨hHeld.1.below hb, ⟨below_step hHeld.2.out hb⟩⟩) (fun hHeld => ?_)
  clear hK K
  (try simp only [Act.put, List.setIfInBounds_toArray, List.set_cons_zero, List.set_cons_succ])
  clear hb
  refine zT 21 72 hHeld ?_
  refine zT 22 73 hHeld ?_
  refine zT 23 74 hHeld ?_
  refine zT 24 75 hHeld ?_
  refine zT 25 76 hHeld ?_
  refine zT 28 79 hHeld ?_
  refine zReady (rs := [26]) (by kernel_rfl) (by simp) ?_
  refine zOne (by decide) rfl (fun K hK => ?_) zNil
  go_simp
  refine (joinFlags_calls _ _ _ (setFlags (joinFlags la lb) n 50 2) la (rdRegs_mov hHeld.2.out Hs.out) (rdRegs_mov hHeld.2.out Ha.out) HLs.out).mono ?_; rintro e wk26 ⟨fv26, D26, rfl, ho26, _, hb⟩; obtain ⟨A26, c26, rfl⟩ := cell_own ow_reg ho26
  refine hK.out _ _ (by exact ⟨hHeld.1.below hb, ⟨below_step hHeld.2.out hb⟩⟩) (fun hHeld => ?_)
  clear hK K
  (try simp only [Act.put, List.setIfInBounds_toArray, List.set_cons_zero, List.set_cons_succ])
  have R26 := Aside.mk (owRow_rd ow_reg ho26); clear ho26; clear hb
  refine zReady (rs := [27]) (by kernel_rfl) (by simp) ?_
  refine zOne (by decide) rfl (fun K hK => ?_) zNil
  go_simp
  refine (flagsOf_calls _ _ (joinFlags (setFlags (joinFlags la lb) n 50 2) la) R26.out).mono ?_; rintro e wk27 ⟨rfl, hb⟩; rw [E5.out]
  refine hK.out _ _ (by exact ⟨hHeld.1.below hb, ⟨below_step hHeld.2.out hb⟩⟩) (fun hHeld => ?_)
  clear hK K
  (try simp only [Act.put, List.setIfInBounds_toArray, List.set_cons_zero, List.set_cons_succ])
  clear R26; clear hb
  refine zT 29 80 hHeld ?_
  refine zT 30 81 hHeld ?_
  refine zT 31 82 hHeld ?_
  refine zT 32 83 hHeld ?_
  refine zReady (rs := [33]) (by kernel_rfl) (by simp) ?_
  refine zOne (by decide) rfl (fun K hK => ?_) zNil
  go_simp
  refine (flagsOk_calls _ _ (joinFlags la lb) (rdRegs_mov hHeld.2.out Hj.out)).mono ?_; rintro e wk33 ⟨rfl, hb⟩; rw [E6.out]
  refine hK.out _ _ (by exact ⟨hHeld.1.below hb, ⟨below_step hHeld.2.out hb⟩⟩) (fun hHeld => ?_)
  clear hK K
  (try simp only [Act.put, List.setIfInBounds_toArray, List.set_cons_zero, List.set_cons_succ])
  clear hb
  refine zT 34 85 hHeld ?_
  refine zT 35 86 hHeld ?_
  refine zT 36 87 hHeld ?_
  refine zT 37 88 hHeld ?_
  refine zT 38 89 hHeld ?_
  refine zT 40 91 hHeld ?_
  refine zT 41 92 hHeld ?_
  refine zT 42 93 hHeld ?_
  refine zReady (rs := [39]) (by kernel_rfl) (by simp) ?_
  refine zOne (by decide) rfl (fun K hK => ?_) zNil
  go_simp
  refine (setFlags_calls _ _ lu nu t13 b13 (rdRegs_mov hHeld.2.out Hu.out) HLu.out).mono ?_; rintro e wk39 ⟨fv39, D39, rfl, ho39, _, hb⟩; obtain ⟨A39, c39, rfl⟩ := cell_own ow_reg ho39
  refine hK.out _ _ (by exact ⟨hHeld.1.below hb, ⟨below_step hHeld.2.out hb⟩⟩) (fun hHeld => ?_)
  clear hK K
  (try simp only [Act.put, List.setIfInBounds_toArray, List.set_cons_zero, List.set_cons_succ])
  have R39 := Aside.mk (owRow_rd ow_reg ho39); clear ho39; clear hb
  refine zReady (rs := [43]) (by kernel_rfl) (by simp) ?_
  refine zOne (by decide) rfl (fun K hK => ?_) zNil
  go_simp
  refine (specSetFlags_calls _ _ lu nu t13 b13 (rdRegs_mov hHeld.2.out Hu.out) HLu.out).mono ?_; rintro e wk43 ⟨fv43, D43, rfl, ho43, _, hb⟩; obtain ⟨A43, c43, rfl⟩ := cell_own ow_reg ho43
  refine hK.out _ _ (by exact ⟨hHeld.1.below hb, ⟨below_step hHeld.2.out hb⟩⟩) (fun hHeld => ?_)
  clear hK K
  (try simp only [Act.put, List.setIfInBounds_toArray, List.set_cons_zero, List.set_cons_succ])
  have R43 := Aside.mk (owRow_rd ow_reg ho43); replace R39 := Aside.mk (rdRegs_mov hb R39.out); clear ho43 hb
  refine zReady (rs := [44]) (by kernel_rfl) (by simp) ?_
  refine zOne (by decide) rfl (fun K hK => ?_) zNil
  go_simp
  refine (sameRegs_calls _ _ _ (setFlags lu nu t13 b13) R39.out R43.out).mono ?_; rintro e wk44 ⟨rfl, hb⟩
  refine hK.out _ _ (by exact ⟨hHeld.1.below hb, ⟨below_step hHeld.2.out hb⟩⟩) (fun hHeld => ?_)
  clear hK K
  (try simp only [Act.put, List.setIfInBounds_toArray, List.set_cons_zero, List.set_cons_succ])
  clear R39 R43; clear hb
  refine zT 45 96 hHeld ?_
  refine zT 46 97 hHeld ?_
  refine zT 47 98 hHeld ?_
  refine zT 49 100 hHeld ?_
  refine zReady (rs := [48]) (by kernel_rfl) (by simp) ?_
  refine zOne (by decide) rfl (fun K hK => ?_) zNil
  go_simp
  refine (flagsOf_calls _ _ lf (rdRegs_mov hHeld.2.out Hf.out)).mono ?_; rintro e wk48 ⟨rfl, hb⟩; generalize hq48 : flagsOf lf = q48
  refine hK.out _ _ (by exact ⟨hHeld.1.below hb, ⟨below_step hHeld.2.out hb⟩⟩) (fun hHeld => ?_)
  clear hK K
  (try simp only [Act.put, List.setIfInBounds_toArray, List.set_cons_zero, List.set_cons_succ])
  have Q48 := Aside.mk hq48; clear hq48; clear hb
  refine zReady (rs := [50]) (by kernel_rfl) (by simp) ?_
  refine zOne (by decide) rfl (fun K hK => ?_) zNil
  go_simp
  refine (specFlagsOf_calls _ _ lf (rdRegs_mov hHeld.2.out Hf.out)).mono ?_; rintro e wk50 ⟨rfl, hb⟩; rw [Q48.out]
  refine hK.out _ _ (by exact ⟨hHeld.1.below hb, ⟨below_step hHeld.2.out hb⟩⟩) (fun hHeld => ?_)
  clear hK K
  (try simp only [Act.put, List.setIfInBounds_toArray, List.set_cons_zero, List.set_cons_succ])
  clear hb
  refine zT 51 102 hHeld ?_
  refine zT 52 103 hHeld ?_
  refine zT 53 104 hHeld ?_
  refine zT 54 105 hHeld ?_
  refine zT 56 107 hHeld ?_
  refine zReady (rs := [55]) (by kernel_rfl) (by simp) ?_
  refine zOne (by decide) rfl (fun K hK => ?_) zNil
  go_simp
  refine (flagsOk_calls _ _ lf (rdRegs_mov hHeld.2.out Hf.out)).mono ?_; rintro e wk55 ⟨rfl, hb⟩; generalize hq55 : flagsOk lf = q55
  refine hK.out _ _ (by exact ⟨hHeld.1.below hb, ⟨below_step hHeld.2.out hb⟩⟩) (fun hHeld => ?_)
  clear hK K
  (try simp only [Act.put, List.setIfInBounds_toArray, List.set_cons_zero, List.set_cons_succ])
  have Q55 := Aside.mk hq55; clear hq55; clear hb
  refine zReady (rs := [57]) (by kernel_rfl) (by simp) ?_
  refine zOne (by decide) rfl (fun K hK => ?_) zNil
  go_simp
  refine (specFlagsOk_calls _ _ lf (rdRegs_mov hHeld.2.out Hf.out)).mono ?_; rintro e wk57 ⟨rfl, hb⟩; rw [Q55.out]
  refine hK.out _ _ (by exact ⟨hHeld.1.below hb, ⟨below_step hHeld.2.out hb⟩⟩) (fun hHeld => ?_)
  clear hK K
  (try simp only [Act.put, List.setIfInBounds_toArray, List.set_cons_zero, List.set_cons_succ])
  clear hb
  refine zT 58 109 hHeld ?_
  refine zT 59 110 hHeld ?_
  refine zT 60 111 hHeld ?_
  refine zT 61 112 hHeld ?_
  refine zT 62 113 hHeld ?_
  refine zT 65 116 hHeld ?_
  refine zReady (rs := [63]) (by kernel_rfl) (by simp) ?_
  refine zOne (by decide) rfl (fun K hK => ?_) zNil
  go_simp
  refine (flagsNew_calls _ n 0 0 hn0 hn7).mono ?_; rintro e wk63 ⟨fv63, D63, rfl, ho63, _, hb⟩; obtain ⟨A63, c63, rfl⟩ := cell_own ow_reg ho63
  refine hK.out _ _ (by exact ⟨hHeld.1.below hb, ⟨below_step hHeld.2.out hb⟩⟩) (fun hHeld => ?_)
  clear hK K
  (try simp only [Act.put, List.setIfInBounds_toArray, List.set_cons_zero, List.set_cons_succ])
  have R63 := Aside.mk (owRow_rd ow_reg ho63); clear ho63; clear hb
  refine zReady (rs := [64]) (by kernel_rfl) (by simp) ?_
  refine zOne (by decide) rfl (fun K hK => ?_) zNil
  go_simp
  refine (flagsOf_calls _ _ (flagsNew n 0 0) R63.out).mono ?_; rintro e wk64 ⟨rfl, hb⟩; rw [E7.out]
  refine hK.out _ _ (by exact ⟨hHeld.1.below hb, ⟨below_step hHeld.2.out hb⟩⟩) (fun hHeld => ?_)
  clear hK K
  (try simp only [Act.put, List.setIfInBounds_toArray, List.set_cons_zero, List.set_cons_succ])
  clear R63; clear hb
  refine zT 66 117 hHeld ?_
  refine zT 67 118 hHeld ?_
  refine zT 68 2 hHeld ?_
  refine zDone (by kernel_rfl) ?_ _
  have HB2 := hHeld.2
  clear hHeld
  go_wp2
  go_ret
  exact ⟨rfl, below_step HB.out HB2.out⟩
end Go.Proofs.Ytjfjpabfkembcaa.H
