/- The walk of the statement on JoinMail. Printed by this session's gen_lawjoinmail.py. -/
import Derived.Test.YtjfjpabfkembcaaHMailV
import Derived.Test.YtjfjpabfkembcaaHRegY
import Derived.Deep.DeepCutAuto
namespace Go.Proofs.Ytjfjpabfkembcaa.H
open Go.RowKit
set_option linter.unusedVariables false
set_option linter.unusedSimpArgs false
theorem joinMail_small (a b : Mail) : (joinMail a b).fl.length ≤ a.fl.length := by
  unfold joinMail
  split
  · show (joinFlags _ _).length ≤ _
    rw [joinFlags_len]; omega
  · exact Nat.le_refl _
set_option maxHeartbeats 20000000 in
set_option maxRecDepth 100000 in
theorem lawFnExactJoinMail (w : World) (fa : Value) (a : Mail) (ha : rdRegs w fa a.fl) (hta : tmMail a) (fb : Value) (b : Mail) (hb0 : rdRegs w fb b.fl) (htb : tmMail b) :
    Calls Try.prog 5 #[.agg #[.int .i64 a.g, .int .i64 a.u, fa, .string a.tx], .agg #[.int .i64 b.g, .int .i64 b.u, fb, .string b.tx]] w fun e w' => e = .returned (.bool true) ∧ Below w.heap.size w w' := by
  obtain ⟨rb, hrb⟩ : ∃ rb, joinMail a b = rb := ⟨_, rfl⟩
  have HRR := Aside.mk hrb
  have hsm := joinMail_small a b
  rw [hrb] at hsm
  have HSM := Aside.mk hsm
  clear hrb hsm
  obtain ⟨Ap0, cp0, rfl, _, hm0⟩ := rd_len ha
  obtain ⟨Ap1, cp1, rfl, _, hm1⟩ := rd_len hb0
  have HR0 := Aside.mk ha
  have HR1 := Aside.mk hb0
  have HTa := Aside.mk hta
  have HTb := Aside.mk htb
  clear ha hb0 hta htb
  obtain ⟨wz, hwz⟩ : ∃ wz : World, wz.heap.size = w.heap.size + 2 := ⟨(w.alloc (.cells #[] 0)).alloc (.cells #[] 0), by simp⟩
  have HZ := Aside.mk hwz
  clear hwz
  go_enter Try.func5, Try.ntmps5
  go_wp2_with (fail)
  refine (szMail_calls _ _ a _ (rdRegs_mov (by (repeat (first | (with_reducible exact HB.out) | (with_reducible exact Below.refl _ _) | (with_reducible refine below_set ?_ (by first | omega | (dsimp only; omega) | (simp; done) | (simp; omega)) _) | (with_reducible refine below_alloc ?_ _) | (with_reducible refine below_drewN ?_ _) | (with_reducible refine below_drew ?_)))) HR0.out) HTa.out (by decide) (by decide)).mono ?_
  rintro e w1 ⟨lf, rfl, hsz, hb⟩
  have L0 := Aside.mk (((Loc.new w #[.int .i64 a.g, .int .i64 a.u, .slice Ap0 a.fl.length cp0, .string a.tx] 54).alloc (.cells #[.int .i64 b.g, .int .i64 b.u, .slice Ap1 b.fl.length cp1, .string b.tx] 54)).below hb)
  have L1 := Aside.mk ((Loc.new1 w (.cells #[.int .i64 a.g, .int .i64 a.u, .slice Ap0 a.fl.length cp0, .string a.tx] 54) #[.int .i64 b.g, .int .i64 b.u, .slice Ap1 b.fl.length cp1, .string b.tx] 54).below hb)
  have HB := Aside.mk (below_step (w0 := w) (by (repeat (first | (with_reducible exact HB.out) | (with_reducible exact Below.refl _ _) | (with_reducible refine below_set ?_ (by first | omega | (dsimp only; omega) | (simp; done) | (simp; omega)) _) | (with_reducible refine below_alloc ?_ _) | (with_reducible refine below_drewN ?_ _) | (with_reducible refine below_drew ?_)))) hb)
  clear hb
  (try clear l0)
  (try clear q0)
  (try clear f0)
  (try clear l1)
  (try clear q1)
  (try clear f1)
  have l0 := L0.out.cells
  have q0 := L0.out.lt
  have f0 := L0.out.free
  have l1 := L1.out.cells
  have q1 := L1.out.lt
  have f1 := L1.out.free
  by_cases hneg : lf < 0
  · go_wp2
    go_ret
    exact ⟨rfl, HB.out⟩
  have HSa : Aside (szMail a ≤ 1048576) := ⟨by unfold isSz at hsz; omega⟩
  have hlf : lf ≤ 1048576 := by unfold isSz at hsz; omega
  clear hsz
  go_wp2_with (fail)
  refine (szMail_calls _ _ b _ (rdRegs_mov HB.out HR1.out) HTb.out (by omega) hlf).mono ?_
  rintro e w2 ⟨lg, rfl, hsz, hb⟩
  replace L0 := Aside.mk (L0.out.below hb)
  replace L1 := Aside.mk (L1.out.below hb)
  replace HB := Aside.mk (below_step HB.out hb)
  (try clear l0)
  (try clear q0)
  (try clear f0)
  (try clear l1)
  (try clear q1)
  (try clear f1)
  have l0 := L0.out.cells
  have q0 := L0.out.lt
  have f0 := L0.out.free
  have l1 := L1.out.cells
  have q1 := L1.out.lt
  have f1 := L1.out.free
  clear hb
  by_cases hneg2 : lg < 0
  · go_wp2
    go_ret
    exact ⟨rfl, HB.out⟩
  have HSb : Aside (szMail b ≤ 1048576) := ⟨by unfold isSz at hsz; omega⟩
  have HSr : Aside ((rb.fl.length : Int) ≤ 1048576) := ⟨by have := HSM.out; have := HSa.out; unfold szMail at this; omega⟩
  replace HSa : Aside ((a.fl.length : Int) ≤ 1048576) := ⟨by have := HSa.out; unfold szMail at this; omega⟩
  replace HSb : Aside ((b.fl.length : Int) ≤ 1048576) := ⟨by have := HSb.out; unfold szMail at this; omega⟩
  have HLa : Aside (a.fl.length ≤ 4000000) := ⟨by have := HSa.out; omega⟩
  have HLb : Aside (b.fl.length ≤ 4000000) := ⟨by have := HSb.out; omega⟩
  clear hsz hlf
  try clear HWL
  have HWL : Aside (wz.heap.size ≤ w2.heap.size) := ⟨by have := HB.out.size; have := HZ.out; have := L1.out.lt; omega⟩
  go_wp2_with (fail)
  go_cut [6] (fun v6 wc => ∃ (B : Nat) (D : List Nat), v6 = .pointer (some ⟨B, 0, none⟩) ∧ Aside (HasMail w2 wc B D rb) ∧ Aside (Loc wc w.heap.size #[.int .i64 a.g, .int .i64 a.u, .slice Ap0 a.fl.length cp0, .string a.tx] 54) ∧ Aside (Loc wc (w.heap.size + 1) #[.int .i64 b.g, .int .i64 b.u, .slice Ap1 b.fl.length cp1, .string b.tx] 54) ∧ Aside (Below w.heap.size w wc))
  case first =>
    refine yBegin (S := (fun w' => Loc w' w.heap.size #[.int .i64 a.g, .int .i64 a.u, .slice Ap0 a.fl.length cp0, .string a.tx] 54 ∧ Loc w' (w.heap.size + 1) #[.int .i64 b.g, .int .i64 b.u, .slice Ap1 b.fl.length cp1, .string b.tx] 54 ∧ Since w2 w')) (z := 6) (by kernel_rfl) (by exact ⟨L0.out.drew', L1.out.drew', below_drew (Below.refl _ _)⟩) (fun hHeld => ?_)
    refine yT 0 24 hHeld ?_
    refine yT 2 26 hHeld ?_
    refine yReady (rs := [1, 5]) (by kernel_rfl) (by simp) ?_
    refine yOne rfl (fun K hK => ?_) ?_
    go_simp
    refine (toMail_calls _ _ a (rdRegs_mov (below_step HB.out hHeld.2.2.low) HR0.out) HLa.out).mono ?_
    rintro e wa ⟨fva, Da, rfl, hoa, _, hb⟩
    obtain ⟨Aa, ca, rfl⟩ := cell_own ow_reg hoa
    refine hK.out _ _ (by exact ⟨Loc.below hHeld.1 hb, Loc.below hHeld.2.1 hb, below_step hHeld.2.2.low hb⟩) (fun hHeld => ?_)
    clear hK K
    (try simp only [Act.put, List.setIfInBounds_toArray, List.set_cons_zero, List.set_cons_succ])
    have hra := owRow_rd ow_reg hoa
    have hba := Below.refl wa.heap.size wa
    clear hoa hb
    refine yReady (rs := [3, 5]) (by kernel_rfl) (by simp) ?_
    refine yOne rfl (fun K hK => ?_) ?_
    go_simp
    refine (toMail_calls _ _ b (rdRegs_mov (below_step HB.out hHeld.2.2.low) HR1.out) HLb.out).mono ?_
    rintro e wb ⟨fvb, Db, rfl, hob, _, hb⟩
    obtain ⟨Ab, cb, rfl⟩ := cell_own ow_reg hob
    refine hK.out _ _ (by exact ⟨Loc.below hHeld.1 hb, Loc.below hHeld.2.1 hb, below_step hHeld.2.2.low hb⟩) (fun hHeld => ?_)
    clear hK K
    (try simp only [Act.put, List.setIfInBounds_toArray, List.set_cons_zero, List.set_cons_succ])
    have hrb := owRow_rd ow_reg hob
    have hbb := Below.refl wb.heap.size wb
    replace hba := below_step hba hb
    clear hob hb
    refine yReady (rs := [4, 5]) (by kernel_rfl) (by simp) ?_
    refine yOne rfl (fun K hK => ?_) ?_
    go_simp
    have hHp := hHeld.2.2.low
    (try have hLp := LB.lt)
    refine (specJoinMail_calls _ _ _ a b (rdRegs_mov hba hra) (rdRegs_mov hbb hrb) HLa.out).mono ?_
    rintro e ws ⟨fvs, Ds, he, ho, hn, hb⟩
    rw [HRR.out] at he ho
    subst he
    obtain ⟨As, cs, rfl⟩ := cell_own ow_reg ho
    refine hK.out _ _ (by exact ⟨Loc.below hHeld.1 hb, Loc.below hHeld.2.1 hb, below_step hHeld.2.2.low hb⟩) (fun hHeld => ?_)
    clear hK K
    (try simp only [Act.put, List.setIfInBounds_toArray, List.set_cons_zero, List.set_cons_succ])
    have hHs := hHeld
    clear hb hra hrb hba hbb
    refine yReady (rs := [5]) (by kernel_rfl) (by simp) ?_
    refine yOne rfl (fun K hK => ?_) yNil
    have hHa := hHeld
    go_simp
    refine hK.out _ _ (by exact ⟨Loc.alloc hHeld.1 _, Loc.alloc hHeld.2.1 _, below_alloc hHeld.2.2.low _⟩) (fun hHeld => ?_)
    clear hK K
    (try simp only [Act.put, List.setIfInBounds_toArray, List.set_cons_zero, List.set_cons_succ])
    clear hHa
    refine yReady (rs := [6]) (by kernel_rfl) (by simp) ?_
    refine yLast (Or.inl rfl) rfl (fun K hK => ?_) yNil
    go_simp
    refine hK.out _ _ ?_
    clear hK K
    (try simp only [Act.put, List.setIfInBounds_toArray, List.set_cons_zero, List.set_cons_succ])
    refine yDone (by kernel_rfl) ?_ _
    go_wp2
    go_meet
    case rel => exact ⟨_, _, rfl, ⟨HasMail.made ho (hn.from (by exact hHp.size)) (by exact hHs.2.2.low.size)⟩, ⟨Loc.alloc hHs.1 _⟩, ⟨Loc.alloc hHs.2.1 _⟩, ⟨below_step HB.out (below_alloc hHs.2.2.low _)⟩⟩
    refine yOne rfl (fun K hK => ?_) yNil
    have hHa := hHeld
    go_simp
    refine hK.out _ _ (by exact ⟨Loc.alloc hHeld.1 _, Loc.alloc hHeld.2.1 _, below_alloc hHeld.2.2.low _⟩) (fun hHeld => ?_)
    clear hK K
    (try simp only [Act.put, List.setIfInBounds_toArray, List.set_cons_zero, List.set_cons_succ])
    obtain ⟨BB, hBB⟩ : ∃ BB, BB = (wb).heap.size := ⟨_, rfl⟩
    have HBB : w2.heap.size ≤ BB := by have h_ : w2.heap.size ≤ (wb).heap.size := (hHa.2.2.low).size; omega
    have LB : Loc ((wb).alloc (.cells #[.int .i64 0, .int .i64 0, .slice none 0 0, .string ⟨#[]⟩] 58)) BB #[.int .i64 0, .int .i64 0, .slice none 0 0, .string ⟨#[]⟩] 58 := by rw [hBB]; exact Loc.new _ _ _
    try rw [← hBB]
    clear hBB
    have hba := below_alloc hba (.cells #[.int .i64 0, .int .i64 0, .slice none 0 0, .string ⟨#[]⟩] 58)
    have hbb := below_alloc hbb (.cells #[.int .i64 0, .int .i64 0, .slice none 0 0, .string ⟨#[]⟩] 58)
    clear hHa
    refine yReady (rs := [4]) (by kernel_rfl) (by simp) ?_
    refine yOne rfl (fun K hK => ?_) yNil
    go_simp
    have hHp := hHeld.2.2.low
    (try have hLp := LB.lt)
    refine (specJoinMail_calls _ _ _ a b (rdRegs_mov hba hra) (rdRegs_mov hbb hrb) HLa.out).mono ?_
    rintro e ws ⟨fvs, Ds, he, ho, hn, hb⟩
    rw [HRR.out] at he ho
    subst he
    obtain ⟨As, cs, rfl⟩ := cell_own ow_reg ho
    refine hK.out _ _ (by exact ⟨Loc.below hHeld.1 hb, Loc.below hHeld.2.1 hb, below_step hHeld.2.2.low hb⟩) (fun hHeld => ?_)
    clear hK K
    (try simp only [Act.put, List.setIfInBounds_toArray, List.set_cons_zero, List.set_cons_succ])
    have LB := LB.below hb
    have hHs := hHeld
    clear hb hra hrb hba hbb
    refine yReady (rs := [6]) (by kernel_rfl) (by simp) ?_
    refine yLast (Or.inl rfl) rfl (fun K hK => ?_) yNil
    have lB := LB.cells
    have qB := LB.lt
    have fB := LB.free
    go_simp
    refine hK.out _ _ ?_
    clear hK K
    (try simp only [Act.put, List.setIfInBounds_toArray, List.set_cons_zero, List.set_cons_succ])
    refine yDone (by kernel_rfl) ?_ _
    go_wp2
    go_meet
    case rel => rw [setsc4]; exact ⟨BB, _, rfl, ⟨HasMail.stored ho (hn.from (by exact hHp.size)) LB (fun hx => by have := (hn.2 _ hx).1; omega) HBB⟩, ⟨Loc.sets2 hHeld.1 (by have := HBB; have := L0.out.lt; omega) _⟩, ⟨Loc.sets2 hHeld.2.1 (by have := HBB; have := L1.out.lt; omega) _⟩, ⟨below_step HB.out (below_sets2 hHeld.2.2.low (by exact HBB) _ _)⟩⟩
    refine yOne rfl (fun K hK => ?_) yNil
    have hHa := hHeld
    go_simp
    refine hK.out _ _ (by exact ⟨Loc.alloc hHeld.1 _, Loc.alloc hHeld.2.1 _, below_alloc hHeld.2.2.low _⟩) (fun hHeld => ?_)
    clear hK K
    (try simp only [Act.put, List.setIfInBounds_toArray, List.set_cons_zero, List.set_cons_succ])
    obtain ⟨BB, hBB⟩ : ∃ BB, BB = (wa).heap.size := ⟨_, rfl⟩
    have HBB : w2.heap.size ≤ BB := by have h_ : w2.heap.size ≤ (wa).heap.size := (hHa.2.2.low).size; omega
    have LB : Loc ((wa).alloc (.cells #[.int .i64 0, .int .i64 0, .slice none 0 0, .string ⟨#[]⟩] 58)) BB #[.int .i64 0, .int .i64 0, .slice none 0 0, .string ⟨#[]⟩] 58 := by rw [hBB]; exact Loc.new _ _ _
    try rw [← hBB]
    clear hBB
    have hba := below_alloc hba (.cells #[.int .i64 0, .int .i64 0, .slice none 0 0, .string ⟨#[]⟩] 58)
    clear hHa
    refine yReady (rs := [3]) (by kernel_rfl) (by simp) ?_
    refine yOne rfl (fun K hK => ?_) yNil
    go_simp
    refine (toMail_calls _ _ b (rdRegs_mov (below_step HB.out hHeld.2.2.low) HR1.out) HLb.out).mono ?_
    rintro e wb ⟨fvb, Db, rfl, hob, _, hb⟩
    obtain ⟨Ab, cb, rfl⟩ := cell_own ow_reg hob
    refine hK.out _ _ (by exact ⟨Loc.below hHeld.1 hb, Loc.below hHeld.2.1 hb, below_step hHeld.2.2.low hb⟩) (fun hHeld => ?_)
    clear hK K
    (try simp only [Act.put, List.setIfInBounds_toArray, List.set_cons_zero, List.set_cons_succ])
    have LB := LB.below hb
    have hrb := owRow_rd ow_reg hob
    have hbb := Below.refl wb.heap.size wb
    replace hba := below_step hba hb
    clear hob hb
    refine yReady (rs := [4]) (by kernel_rfl) (by simp) ?_
    refine yOne rfl (fun K hK => ?_) yNil
    go_simp
    have hHp := hHeld.2.2.low
    (try have hLp := LB.lt)
    refine (specJoinMail_calls _ _ _ a b (rdRegs_mov hba hra) (rdRegs_mov hbb hrb) HLa.out).mono ?_
    rintro e ws ⟨fvs, Ds, he, ho, hn, hb⟩
    rw [HRR.out] at he ho
    subst he
    obtain ⟨As, cs, rfl⟩ := cell_own ow_reg ho
    refine hK.out _ _ (by exact ⟨Loc.below hHeld.1 hb, Loc.below hHeld.2.1 hb, below_step hHeld.2.2.low hb⟩) (fun hHeld => ?_)
    clear hK K
    (try simp only [Act.put, List.setIfInBounds_toArray, List.set_cons_zero, List.set_cons_succ])
    have LB := LB.below hb
    have hHs := hHeld
    clear hb hra hrb hba hbb
    refine yReady (rs := [6]) (by kernel_rfl) (by simp) ?_
    refine yLast (Or.inl rfl) rfl (fun K hK => ?_) yNil
    have lB := LB.cells
    have qB := LB.lt
    have fB := LB.free
    go_simp
    refine hK.out _ _ ?_
    clear hK K
    (try simp only [Act.put, List.setIfInBounds_toArray, List.set_cons_zero, List.set_cons_succ])
    refine yDone (by kernel_rfl) ?_ _
    go_wp2
    go_meet
    case rel => rw [setsc4]; exact ⟨BB, _, rfl, ⟨HasMail.stored ho (hn.from (by exact hHp.size)) LB (fun hx => by have := (hn.2 _ hx).1; omega) HBB⟩, ⟨Loc.sets2 hHeld.1 (by have := HBB; have := L0.out.lt; omega) _⟩, ⟨Loc.sets2 hHeld.2.1 (by have := HBB; have := L1.out.lt; omega) _⟩, ⟨below_step HB.out (below_sets2 hHeld.2.2.low (by exact HBB) _ _)⟩⟩
    refine yOne rfl (fun K hK => ?_) yNil
    have hHa := hHeld
    go_simp
    refine hK.out _ _ (by exact ⟨Loc.alloc hHeld.1 _, Loc.alloc hHeld.2.1 _, below_alloc hHeld.2.2.low _⟩) (fun hHeld => ?_)
    clear hK K
    (try simp only [Act.put, List.setIfInBounds_toArray, List.set_cons_zero, List.set_cons_succ])
    obtain ⟨BB, hBB⟩ : ∃ BB, BB = (w2).heap.size := ⟨_, rfl⟩
    have HBB : w2.heap.size ≤ BB := by have h_ : w2.heap.size ≤ (w2).heap.size := (hHa.2.2.low).size; omega
    have LB : Loc ((w2.drew).alloc (.cells #[.int .i64 0, .int .i64 0, .slice none 0 0, .string ⟨#[]⟩] 58)) BB #[.int .i64 0, .int .i64 0, .slice none 0 0, .string ⟨#[]⟩] 58 := by rw [hBB]; exact Loc.new _ _ _
    try rw [← hBB]
    clear hBB
    clear hHa
    refine yReady (rs := [1]) (by kernel_rfl) (by simp) ?_
    refine yOne rfl (fun K hK => ?_) yNil
    go_simp
    refine (toMail_calls _ _ a (rdRegs_mov (below_step HB.out hHeld.2.2.low) HR0.out) HLa.out).mono ?_
    rintro e wa ⟨fva, Da, rfl, hoa, _, hb⟩
    obtain ⟨Aa, ca, rfl⟩ := cell_own ow_reg hoa
    refine hK.out _ _ (by exact ⟨Loc.below hHeld.1 hb, Loc.below hHeld.2.1 hb, below_step hHeld.2.2.low hb⟩) (fun hHeld => ?_)
    clear hK K
    (try simp only [Act.put, List.setIfInBounds_toArray, List.set_cons_zero, List.set_cons_succ])
    have LB := LB.below hb
    have hra := owRow_rd ow_reg hoa
    have hba := Below.refl wa.heap.size wa
    clear hoa hb
    refine yReady (rs := [3]) (by kernel_rfl) (by simp) ?_
    refine yOne rfl (fun K hK => ?_) yNil
    go_simp
    refine (toMail_calls _ _ b (rdRegs_mov (below_step HB.out hHeld.2.2.low) HR1.out) HLb.out).mono ?_
    rintro e wb ⟨fvb, Db, rfl, hob, _, hb⟩
    obtain ⟨Ab, cb, rfl⟩ := cell_own ow_reg hob
    refine hK.out _ _ (by exact ⟨Loc.below hHeld.1 hb, Loc.below hHeld.2.1 hb, below_step hHeld.2.2.low hb⟩) (fun hHeld => ?_)
    clear hK K
    (try simp only [Act.put, List.setIfInBounds_toArray, List.set_cons_zero, List.set_cons_succ])
    have LB := LB.below hb
    have hrb := owRow_rd ow_reg hob
    have hbb := Below.refl wb.heap.size wb
    replace hba := below_step hba hb
    clear hob hb
    refine yReady (rs := [4]) (by kernel_rfl) (by simp) ?_
    refine yOne rfl (fun K hK => ?_) yNil
    go_simp
    have hHp := hHeld.2.2.low
    (try have hLp := LB.lt)
    refine (specJoinMail_calls _ _ _ a b (rdRegs_mov hba hra) (rdRegs_mov hbb hrb) HLa.out).mono ?_
    rintro e ws ⟨fvs, Ds, he, ho, hn, hb⟩
    rw [HRR.out] at he ho
    subst he
    obtain ⟨As, cs, rfl⟩ := cell_own ow_reg ho
    refine hK.out _ _ (by exact ⟨Loc.below hHeld.1 hb, Loc.below hHeld.2.1 hb, below_step hHeld.2.2.low hb⟩) (fun hHeld => ?_)
    clear hK K
    (try simp only [Act.put, List.setIfInBounds_toArray, List.set_cons_zero, List.set_cons_succ])
    have LB := LB.below hb
    have hHs := hHeld
    clear hb hra hrb hba hbb
    refine yReady (rs := [6]) (by kernel_rfl) (by simp) ?_
    refine yLast (Or.inl rfl) rfl (fun K hK => ?_) yNil
    have lB := LB.cells
    have qB := LB.lt
    have fB := LB.free
    go_simp
    refine hK.out _ _ ?_
    clear hK K
    (try simp only [Act.put, List.setIfInBounds_toArray, List.set_cons_zero, List.set_cons_succ])
    refine yDone (by kernel_rfl) ?_ _
    go_wp2
    go_meet
    case rel => rw [setsc4]; exact ⟨BB, _, rfl, ⟨HasMail.stored ho (hn.from (by exact hHp.size)) LB (fun hx => by have := (hn.2 _ hx).1; omega) HBB⟩, ⟨Loc.sets2 hHeld.1 (by have := HBB; have := L0.out.lt; omega) _⟩, ⟨Loc.sets2 hHeld.2.1 (by have := HBB; have := L1.out.lt; omega) _⟩, ⟨below_step HB.out (below_sets2 hHeld.2.2.low (by exact HBB) _ _)⟩⟩
  case rest =>
  obtain ⟨BW, DW, rfl, HHW, L0', L1', HB'⟩ := hcut
  clear L0 L1 HB l0 q0 f0 l1 q1 f1
  have L0 := L0'
  have L1 := L1'
  have HB := HB'
  clear L0' L1' HB'
  obtain ⟨AW, cW, hlW, hW, hnW, hbW, hgW⟩ := HHW.out
  have LW := Aside.mk hlW
  have HW := Aside.mk hW
  have NW : Aside (New wz wc DW) := ⟨hnW.from HWL.out⟩
  have OW : Aside (BW ∉ DW ∧ wz.heap.size ≤ BW) := ⟨hbW, by have := HWL.out; omega⟩
  clear hlW hW hnW hbW hgW HHW
  (try clear l0)
  (try clear q0)
  (try clear f0)
  (try clear l1)
  (try clear q1)
  (try clear f1)
  (try clear lW)
  (try clear qW)
  (try clear fW)
  have l0 := L0.out.cells
  have q0 := L0.out.lt
  have f0 := L0.out.free
  have l1 := L1.out.cells
  have q1 := L1.out.lt
  have f1 := L1.out.free
  have lW := LW.out.cells
  have qW := LW.out.lt
  have fW := LW.out.free
  try clear HBLW HNLW
  have HBLW : Aside (BW < wc.heap.size) := ⟨LW.out.lt⟩
  have HNLW : Aside (∀ b ∈ DW, b < wc.heap.size) := ⟨fun b hb => (NW.out.2 b hb).2⟩
  try clear HWL
  have HWL : Aside (wz.heap.size ≤ wc.heap.size) := ⟨by have := HB.out.size; have := HZ.out; have := L1.out.lt; omega⟩
  go_wp2_with (fail)
  refine (toMail_calls _ _ a (rdRegs_mov HB.out HR0.out) HLa.out).mono ?_
  rintro e wX ⟨fv, DX, he, ho, hn, hb⟩
  subst he
  obtain ⟨AX, cX, rfl⟩ := cell_own ow_reg ho
  have ANX := Aside.mk hn
  have LLX := Aside.mk hb.size
  have hOX := Aside.mk ho
  clear ho hn
  replace L0 := Aside.mk (L0.out.below hb)
  replace L1 := Aside.mk (L1.out.below hb)
  replace LW := Aside.mk (LW.out.below hb)
  replace HW := Aside.mk (owRow_below ow_reg HW.out hb)
  replace NW := Aside.mk (NW.out.mono hb.size)
  replace HB := Aside.mk (below_step HB.out hb)
  (try clear l0)
  (try clear q0)
  (try clear f0)
  (try clear l1)
  (try clear q1)
  (try clear f1)
  (try clear lW)
  (try clear qW)
  (try clear fW)
  have l0 := L0.out.cells
  have q0 := L0.out.lt
  have f0 := L0.out.free
  have l1 := L1.out.cells
  have q1 := L1.out.lt
  have f1 := L1.out.free
  have lW := LW.out.cells
  have qW := LW.out.lt
  have fW := LW.out.free
  clear hb
  have APWX0 : Aside (BW ∉ DX ∧ ∀ b ∈ DW, b ∉ DX) := ⟨fun hx => by have := (ANX.out.2 _ hx).1; have := HBLW.out; omega, fun b hb hx => by have := HNLW.out _ hb; have := (ANX.out.2 _ hx).1; omega⟩
  have HX := hOX
  have NX : Aside (New wz wX DX) := ⟨ANX.out.from (by have := HWL.out; omega)⟩
  clear hOX
  replace L0 := Aside.mk (L0.out.alloc (.cells #[.int .i64 a.g, .int .i64 a.u, .slice AX a.fl.length cX, .string a.tx] 58))
  replace L1 := Aside.mk (L1.out.alloc (.cells #[.int .i64 a.g, .int .i64 a.u, .slice AX a.fl.length cX, .string a.tx] 58))
  replace LW := Aside.mk (LW.out.alloc (.cells #[.int .i64 a.g, .int .i64 a.u, .slice AX a.fl.length cX, .string a.tx] 58))
  replace HW := Aside.mk (owRow_alloc ow_reg HW.out (.cells #[.int .i64 a.g, .int .i64 a.u, .slice AX a.fl.length cX, .string a.tx] 58))
  replace NW := Aside.mk (NW.out.alloc (.cells #[.int .i64 a.g, .int .i64 a.u, .slice AX a.fl.length cX, .string a.tx] 58))
  replace HX := Aside.mk (owRow_alloc ow_reg HX.out (.cells #[.int .i64 a.g, .int .i64 a.u, .slice AX a.fl.length cX, .string a.tx] 58))
  replace NX := Aside.mk (NX.out.alloc (.cells #[.int .i64 a.g, .int .i64 a.u, .slice AX a.fl.length cX, .string a.tx] 58))
  have LX := Aside.mk (Loc.new wX #[.int .i64 a.g, .int .i64 a.u, .slice AX a.fl.length cX, .string a.tx] 58)
  replace HB := Aside.mk (below_alloc HB.out (.cells #[.int .i64 a.g, .int .i64 a.u, .slice AX a.fl.length cX, .string a.tx] 58))
  obtain ⟨BX, hBX⟩ : ∃ BX, BX = wX.heap.size := ⟨_, rfl⟩
  have OX : Aside (BX ∉ DX ∧ wz.heap.size ≤ BX) := ⟨fun hx => by have := (ANX.out.2 _ hx).2; omega, by have := HWL.out; have := LLX.out; omega⟩
  have APWX : Aside (BW ∉ DX ∧ BX ∉ DW ∧ ∀ b ∈ DW, b ∉ DX) := ⟨APWX0.out.1, fun hx => by have := HNLW.out _ hx; have := LLX.out; omega, APWX0.out.2⟩
  clear APWX0
  rw [← hBX] at LX
  obtain ⟨vX, hvX⟩ : ∃ vX, vX = wX.alloc (.cells #[.int .i64 a.g, .int .i64 a.u, .slice AX a.fl.length cX, .string a.tx] 58) := ⟨_, rfl⟩
  go_wp2_with (fail)
  rw [← hvX] at L0 L1 LW LX HW HX NW NX HB
  try rw [← hBX]
  try rw [← hvX]
  clear hBX hvX ANX LLX
  (try clear l0)
  (try clear q0)
  (try clear f0)
  (try clear l1)
  (try clear q1)
  (try clear f1)
  (try clear lW)
  (try clear qW)
  (try clear fW)
  (try clear lX)
  (try clear qX)
  (try clear fX)
  have l0 := L0.out.cells
  have q0 := L0.out.lt
  have f0 := L0.out.free
  have l1 := L1.out.cells
  have q1 := L1.out.lt
  have f1 := L1.out.free
  have lW := LW.out.cells
  have qW := LW.out.lt
  have fW := LW.out.free
  have lX := LX.out.cells
  have qX := LX.out.lt
  have fX := LX.out.free
  try clear HBLW HNLW
  have HBLW : Aside (BW < vX.heap.size) := ⟨LW.out.lt⟩
  have HNLW : Aside (∀ b ∈ DW, b < vX.heap.size) := ⟨fun b hb => (NW.out.2 b hb).2⟩
  try clear HBLX HNLX
  have HBLX : Aside (BX < vX.heap.size) := ⟨LX.out.lt⟩
  have HNLX : Aside (∀ b ∈ DX, b < vX.heap.size) := ⟨fun b hb => (NX.out.2 b hb).2⟩
  try clear HWL
  have HWL : Aside (wz.heap.size ≤ vX.heap.size) := ⟨by have := HB.out.size; have := HZ.out; have := L1.out.lt; omega⟩
  go_wp2_with (fail)
  refine (toMail_calls _ _ b (rdRegs_mov HB.out HR1.out) HLb.out).mono ?_
  rintro e wY ⟨fv, DY, he, ho, hn, hb⟩
  subst he
  obtain ⟨AY, cY, rfl⟩ := cell_own ow_reg ho
  have ANY := Aside.mk hn
  have LLY := Aside.mk hb.size
  have hOY := Aside.mk ho
  clear ho hn
  replace L0 := Aside.mk (L0.out.below hb)
  replace L1 := Aside.mk (L1.out.below hb)
  replace LW := Aside.mk (LW.out.below hb)
  replace LX := Aside.mk (LX.out.below hb)
  replace HW := Aside.mk (owRow_below ow_reg HW.out hb)
  replace NW := Aside.mk (NW.out.mono hb.size)
  replace HX := Aside.mk (owRow_below ow_reg HX.out hb)
  replace NX := Aside.mk (NX.out.mono hb.size)
  replace HB := Aside.mk (below_step HB.out hb)
  (try clear l0)
  (try clear q0)
  (try clear f0)
  (try clear l1)
  (try clear q1)
  (try clear f1)
  (try clear lW)
  (try clear qW)
  (try clear fW)
  (try clear lX)
  (try clear qX)
  (try clear fX)
  have l0 := L0.out.cells
  have q0 := L0.out.lt
  have f0 := L0.out.free
  have l1 := L1.out.cells
  have q1 := L1.out.lt
  have f1 := L1.out.free
  have lW := LW.out.cells
  have qW := LW.out.lt
  have fW := LW.out.free
  have lX := LX.out.cells
  have qX := LX.out.lt
  have fX := LX.out.free
  clear hb
  have APWY0 : Aside (BW ∉ DY ∧ ∀ b ∈ DW, b ∉ DY) := ⟨fun hx => by have := (ANY.out.2 _ hx).1; have := HBLW.out; omega, fun b hb hx => by have := HNLW.out _ hb; have := (ANY.out.2 _ hx).1; omega⟩
  have APXY0 : Aside (BX ∉ DY ∧ ∀ b ∈ DX, b ∉ DY) := ⟨fun hx => by have := (ANY.out.2 _ hx).1; have := HBLX.out; omega, fun b hb hx => by have := HNLX.out _ hb; have := (ANY.out.2 _ hx).1; omega⟩
  have HY := hOY
  have NY : Aside (New wz wY DY) := ⟨ANY.out.from (by have := HWL.out; omega)⟩
  clear hOY
  replace L0 := Aside.mk (L0.out.alloc (.cells #[.int .i64 b.g, .int .i64 b.u, .slice AY b.fl.length cY, .string b.tx] 58))
  replace L1 := Aside.mk (L1.out.alloc (.cells #[.int .i64 b.g, .int .i64 b.u, .slice AY b.fl.length cY, .string b.tx] 58))
  replace LW := Aside.mk (LW.out.alloc (.cells #[.int .i64 b.g, .int .i64 b.u, .slice AY b.fl.length cY, .string b.tx] 58))
  replace LX := Aside.mk (LX.out.alloc (.cells #[.int .i64 b.g, .int .i64 b.u, .slice AY b.fl.length cY, .string b.tx] 58))
  replace HW := Aside.mk (owRow_alloc ow_reg HW.out (.cells #[.int .i64 b.g, .int .i64 b.u, .slice AY b.fl.length cY, .string b.tx] 58))
  replace NW := Aside.mk (NW.out.alloc (.cells #[.int .i64 b.g, .int .i64 b.u, .slice AY b.fl.length cY, .string b.tx] 58))
  replace HX := Aside.mk (owRow_alloc ow_reg HX.out (.cells #[.int .i64 b.g, .int .i64 b.u, .slice AY b.fl.length cY, .string b.tx] 58))
  replace NX := Aside.mk (NX.out.alloc (.cells #[.int .i64 b.g, .int .i64 b.u, .slice AY b.fl.length cY, .string b.tx] 58))
  replace HY := Aside.mk (owRow_alloc ow_reg HY.out (.cells #[.int .i64 b.g, .int .i64 b.u, .slice AY b.fl.length cY, .string b.tx] 58))
  replace NY := Aside.mk (NY.out.alloc (.cells #[.int .i64 b.g, .int .i64 b.u, .slice AY b.fl.length cY, .string b.tx] 58))
  have LY := Aside.mk (Loc.new wY #[.int .i64 b.g, .int .i64 b.u, .slice AY b.fl.length cY, .string b.tx] 58)
  replace HB := Aside.mk (below_alloc HB.out (.cells #[.int .i64 b.g, .int .i64 b.u, .slice AY b.fl.length cY, .string b.tx] 58))
  obtain ⟨BY, hBY⟩ : ∃ BY, BY = wY.heap.size := ⟨_, rfl⟩
  have OY : Aside (BY ∉ DY ∧ wz.heap.size ≤ BY) := ⟨fun hx => by have := (ANY.out.2 _ hx).2; omega, by have := HWL.out; have := LLY.out; omega⟩
  have APWY : Aside (BW ∉ DY ∧ BY ∉ DW ∧ ∀ b ∈ DW, b ∉ DY) := ⟨APWY0.out.1, fun hx => by have := HNLW.out _ hx; have := LLY.out; omega, APWY0.out.2⟩
  clear APWY0
  have APXY : Aside (BX ∉ DY ∧ BY ∉ DX ∧ ∀ b ∈ DX, b ∉ DY) := ⟨APXY0.out.1, fun hx => by have := HNLX.out _ hx; have := LLY.out; omega, APXY0.out.2⟩
  clear APXY0
  rw [← hBY] at LY
  obtain ⟨vY, hvY⟩ : ∃ vY, vY = wY.alloc (.cells #[.int .i64 b.g, .int .i64 b.u, .slice AY b.fl.length cY, .string b.tx] 58) := ⟨_, rfl⟩
  go_wp2_with (fail)
  rw [← hvY] at L0 L1 LW LX LY HW HX HY NW NX NY HB
  try rw [← hBY]
  try rw [← hvY]
  clear hBY hvY ANY LLY
  (try clear l0)
  (try clear q0)
  (try clear f0)
  (try clear l1)
  (try clear q1)
  (try clear f1)
  (try clear lW)
  (try clear qW)
  (try clear fW)
  (try clear lX)
  (try clear qX)
  (try clear fX)
  (try clear lY)
  (try clear qY)
  (try clear fY)
  have l0 := L0.out.cells
  have q0 := L0.out.lt
  have f0 := L0.out.free
  have l1 := L1.out.cells
  have q1 := L1.out.lt
  have f1 := L1.out.free
  have lW := LW.out.cells
  have qW := LW.out.lt
  have fW := LW.out.free
  have lX := LX.out.cells
  have qX := LX.out.lt
  have fX := LX.out.free
  have lY := LY.out.cells
  have qY := LY.out.lt
  have fY := LY.out.free
  try clear HBLW HNLW
  have HBLW : Aside (BW < vY.heap.size) := ⟨LW.out.lt⟩
  have HNLW : Aside (∀ b ∈ DW, b < vY.heap.size) := ⟨fun b hb => (NW.out.2 b hb).2⟩
  try clear HBLX HNLX
  have HBLX : Aside (BX < vY.heap.size) := ⟨LX.out.lt⟩
  have HNLX : Aside (∀ b ∈ DX, b < vY.heap.size) := ⟨fun b hb => (NX.out.2 b hb).2⟩
  try clear HBLY HNLY
  have HBLY : Aside (BY < vY.heap.size) := ⟨LY.out.lt⟩
  have HNLY : Aside (∀ b ∈ DY, b < vY.heap.size) := ⟨fun b hb => (NY.out.2 b hb).2⟩
  try clear HWL
  have HWL : Aside (wz.heap.size ≤ vY.heap.size) := ⟨by have := HB.out.size; have := HZ.out; have := L1.out.lt; omega⟩
  go_wp2_with (fail)
  refine (joinMail_calls _ _ _ a b (owRow_rd ow_reg HX.out) (owRow_rd ow_reg HY.out) HLa.out).mono ?_
  rintro e wG ⟨fv, DG, he, ho, hn, hb⟩
  rw [HRR.out] at he ho
  subst he
  obtain ⟨AG, cG, rfl⟩ := cell_own ow_reg ho
  have ANG := Aside.mk hn
  have LLG := Aside.mk hb.size
  have hOG := Aside.mk ho
  clear ho hn
  replace L0 := Aside.mk (L0.out.below hb)
  replace L1 := Aside.mk (L1.out.below hb)
  replace LW := Aside.mk (LW.out.below hb)
  replace LX := Aside.mk (LX.out.below hb)
  replace LY := Aside.mk (LY.out.below hb)
  replace HW := Aside.mk (owRow_below ow_reg HW.out hb)
  replace NW := Aside.mk (NW.out.mono hb.size)
  replace HX := Aside.mk (owRow_below ow_reg HX.out hb)
  replace NX := Aside.mk (NX.out.mono hb.size)
  replace HY := Aside.mk (owRow_below ow_reg HY.out hb)
  replace NY := Aside.mk (NY.out.mono hb.size)
  replace HB := Aside.mk (below_step HB.out hb)
  (try clear l0)
  (try clear q0)
  (try clear f0)
  (try clear l1)
  (try clear q1)
  (try clear f1)
  (try clear lW)
  (try clear qW)
  (try clear fW)
  (try clear lX)
  (try clear qX)
  (try clear fX)
  (try clear lY)
  (try clear qY)
  (try clear fY)
  have l0 := L0.out.cells
  have q0 := L0.out.lt
  have f0 := L0.out.free
  have l1 := L1.out.cells
  have q1 := L1.out.lt
  have f1 := L1.out.free
  have lW := LW.out.cells
  have qW := LW.out.lt
  have fW := LW.out.free
  have lX := LX.out.cells
  have qX := LX.out.lt
  have fX := LX.out.free
  have lY := LY.out.cells
  have qY := LY.out.lt
  have fY := LY.out.free
  clear hb
  have APWG0 : Aside (BW ∉ DG ∧ ∀ b ∈ DW, b ∉ DG) := ⟨fun hx => by have := (ANG.out.2 _ hx).1; have := HBLW.out; omega, fun b hb hx => by have := HNLW.out _ hb; have := (ANG.out.2 _ hx).1; omega⟩
  have APXG0 : Aside (BX ∉ DG ∧ ∀ b ∈ DX, b ∉ DG) := ⟨fun hx => by have := (ANG.out.2 _ hx).1; have := HBLX.out; omega, fun b hb hx => by have := HNLX.out _ hb; have := (ANG.out.2 _ hx).1; omega⟩
  have APYG0 : Aside (BY ∉ DG ∧ ∀ b ∈ DY, b ∉ DG) := ⟨fun hx => by have := (ANG.out.2 _ hx).1; have := HBLY.out; omega, fun b hb hx => by have := HNLY.out _ hb; have := (ANG.out.2 _ hx).1; omega⟩
  have HG := hOG
  have NG : Aside (New wz wG DG) := ⟨ANG.out.from (by have := HWL.out; omega)⟩
  clear hOG
  replace L0 := Aside.mk (L0.out.alloc (.cells #[.int .i64 rb.g, .int .i64 rb.u, .slice AG rb.fl.length cG, .string rb.tx] 58))
  replace L1 := Aside.mk (L1.out.alloc (.cells #[.int .i64 rb.g, .int .i64 rb.u, .slice AG rb.fl.length cG, .string rb.tx] 58))
  replace LW := Aside.mk (LW.out.alloc (.cells #[.int .i64 rb.g, .int .i64 rb.u, .slice AG rb.fl.length cG, .string rb.tx] 58))
  replace LX := Aside.mk (LX.out.alloc (.cells #[.int .i64 rb.g, .int .i64 rb.u, .slice AG rb.fl.length cG, .string rb.tx] 58))
  replace LY := Aside.mk (LY.out.alloc (.cells #[.int .i64 rb.g, .int .i64 rb.u, .slice AG rb.fl.length cG, .string rb.tx] 58))
  replace HW := Aside.mk (owRow_alloc ow_reg HW.out (.cells #[.int .i64 rb.g, .int .i64 rb.u, .slice AG rb.fl.length cG, .string rb.tx] 58))
  replace NW := Aside.mk (NW.out.alloc (.cells #[.int .i64 rb.g, .int .i64 rb.u, .slice AG rb.fl.length cG, .string rb.tx] 58))
  replace HX := Aside.mk (owRow_alloc ow_reg HX.out (.cells #[.int .i64 rb.g, .int .i64 rb.u, .slice AG rb.fl.length cG, .string rb.tx] 58))
  replace NX := Aside.mk (NX.out.alloc (.cells #[.int .i64 rb.g, .int .i64 rb.u, .slice AG rb.fl.length cG, .string rb.tx] 58))
  replace HY := Aside.mk (owRow_alloc ow_reg HY.out (.cells #[.int .i64 rb.g, .int .i64 rb.u, .slice AG rb.fl.length cG, .string rb.tx] 58))
  replace NY := Aside.mk (NY.out.alloc (.cells #[.int .i64 rb.g, .int .i64 rb.u, .slice AG rb.fl.length cG, .string rb.tx] 58))
  replace HG := Aside.mk (owRow_alloc ow_reg HG.out (.cells #[.int .i64 rb.g, .int .i64 rb.u, .slice AG rb.fl.length cG, .string rb.tx] 58))
  replace NG := Aside.mk (NG.out.alloc (.cells #[.int .i64 rb.g, .int .i64 rb.u, .slice AG rb.fl.length cG, .string rb.tx] 58))
  have LG := Aside.mk (Loc.new wG #[.int .i64 rb.g, .int .i64 rb.u, .slice AG rb.fl.length cG, .string rb.tx] 58)
  replace HB := Aside.mk (below_alloc HB.out (.cells #[.int .i64 rb.g, .int .i64 rb.u, .slice AG rb.fl.length cG, .string rb.tx] 58))
  obtain ⟨BG, hBG⟩ : ∃ BG, BG = wG.heap.size := ⟨_, rfl⟩
  have OG : Aside (BG ∉ DG ∧ wz.heap.size ≤ BG) := ⟨fun hx => by have := (ANG.out.2 _ hx).2; omega, by have := HWL.out; have := LLG.out; omega⟩
  have APWG : Aside (BW ∉ DG ∧ BG ∉ DW ∧ ∀ b ∈ DW, b ∉ DG) := ⟨APWG0.out.1, fun hx => by have := HNLW.out _ hx; have := LLG.out; omega, APWG0.out.2⟩
  clear APWG0
  have APXG : Aside (BX ∉ DG ∧ BG ∉ DX ∧ ∀ b ∈ DX, b ∉ DG) := ⟨APXG0.out.1, fun hx => by have := HNLX.out _ hx; have := LLG.out; omega, APXG0.out.2⟩
  clear APXG0
  have APYG : Aside (BY ∉ DG ∧ BG ∉ DY ∧ ∀ b ∈ DY, b ∉ DG) := ⟨APYG0.out.1, fun hx => by have := HNLY.out _ hx; have := LLG.out; omega, APYG0.out.2⟩
  clear APYG0
  rw [← hBG] at LG
  obtain ⟨vG, hvG⟩ : ∃ vG, vG = wG.alloc (.cells #[.int .i64 rb.g, .int .i64 rb.u, .slice AG rb.fl.length cG, .string rb.tx] 58) := ⟨_, rfl⟩
  go_wp2_with (fail)
  rw [← hvG] at L0 L1 LW LX LY LG HW HX HY HG NW NX NY NG HB
  try rw [← hBG]
  try rw [← hvG]
  clear hBG hvG ANG LLG
  (try clear l0)
  (try clear q0)
  (try clear f0)
  (try clear l1)
  (try clear q1)
  (try clear f1)
  (try clear lW)
  (try clear qW)
  (try clear fW)
  (try clear lX)
  (try clear qX)
  (try clear fX)
  (try clear lY)
  (try clear qY)
  (try clear fY)
  (try clear lG)
  (try clear qG)
  (try clear fG)
  have l0 := L0.out.cells
  have q0 := L0.out.lt
  have f0 := L0.out.free
  have l1 := L1.out.cells
  have q1 := L1.out.lt
  have f1 := L1.out.free
  have lW := LW.out.cells
  have qW := LW.out.lt
  have fW := LW.out.free
  have lX := LX.out.cells
  have qX := LX.out.lt
  have fX := LX.out.free
  have lY := LY.out.cells
  have qY := LY.out.lt
  have fY := LY.out.free
  have lG := LG.out.cells
  have qG := LG.out.lt
  have fG := LG.out.free
  go_wp2_with (fail)
  refine (eqMail_calls _ _ _ rb (owRow_rd ow_reg HG.out) (owRow_rd ow_reg HW.out)).mono ?_
  rintro e w6 ⟨rfl, hb⟩
  replace L0 := Aside.mk (L0.out.below hb)
  replace L1 := Aside.mk (L1.out.below hb)
  replace LW := Aside.mk (LW.out.below hb)
  replace LX := Aside.mk (LX.out.below hb)
  replace LY := Aside.mk (LY.out.below hb)
  replace LG := Aside.mk (LG.out.below hb)
  replace HW := Aside.mk (owRow_below ow_reg HW.out hb)
  replace NW := Aside.mk (NW.out.mono hb.size)
  replace HX := Aside.mk (owRow_below ow_reg HX.out hb)
  replace NX := Aside.mk (NX.out.mono hb.size)
  replace HY := Aside.mk (owRow_below ow_reg HY.out hb)
  replace NY := Aside.mk (NY.out.mono hb.size)
  replace HG := Aside.mk (owRow_below ow_reg HG.out hb)
  replace NG := Aside.mk (NG.out.mono hb.size)
  replace HB := Aside.mk (below_step HB.out hb)
  (try clear l0)
  (try clear q0)
  (try clear f0)
  (try clear l1)
  (try clear q1)
  (try clear f1)
  (try clear lW)
  (try clear qW)
  (try clear fW)
  (try clear lX)
  (try clear qX)
  (try clear fX)
  (try clear lY)
  (try clear qY)
  (try clear fY)
  (try clear lG)
  (try clear qG)
  (try clear fG)
  have l0 := L0.out.cells
  have q0 := L0.out.lt
  have f0 := L0.out.free
  have l1 := L1.out.cells
  have q1 := L1.out.lt
  have f1 := L1.out.free
  have lW := LW.out.cells
  have qW := LW.out.lt
  have fW := LW.out.free
  have lX := LX.out.cells
  have qX := LX.out.lt
  have fX := LX.out.free
  have lY := LY.out.cells
  have qY := LY.out.lt
  have fY := LY.out.free
  have lG := LG.out.cells
  have qG := LG.out.lt
  have fG := LG.out.free
  clear hb
  go_wp2_with (fail)
  refine zBegin (S := (fun w' => Loc w' w.heap.size #[.int .i64 a.g, .int .i64 a.u, .slice Ap0 a.fl.length cp0, .string a.tx] 54 ∧ Loc w' (w.heap.size + 1) #[.int .i64 b.g, .int .i64 b.u, .slice Ap1 b.fl.length cp1, .string b.tx] 54 ∧ Loc w' BW #[.int .i64 rb.g, .int .i64 rb.u, .slice AW rb.fl.length cW, .string rb.tx] 58 ∧ Loc w' BX #[.int .i64 a.g, .int .i64 a.u, .slice AX a.fl.length cX, .string a.tx] 58 ∧ Loc w' BY #[.int .i64 b.g, .int .i64 b.u, .slice AY b.fl.length cY, .string b.tx] 58 ∧ Loc w' BG #[.int .i64 rb.g, .int .i64 rb.u, .slice AG rb.fl.length cG, .string rb.tx] 58)) (z := 5) (by kernel_rfl) (by exact ⟨L0.out.drew', L1.out.drew', LW.out.drew', LX.out.drew', LY.out.drew', LG.out.drew'⟩) (fun hHeld => ?_)
  refine zT 0 40 hHeld ?_
  refine zT 1 41 hHeld ?_
  refine zReady (rs := [2]) (by kernel_rfl) (by simp) ?_
  refine zOne (by decide) rfl (fun K hK => ?_) zNil
  go_simp
  refine (toMail_calls _ _ a (rdRegs_mov (below_drew HB.out) HR0.out) HLa.out).mono ?_
  rintro e w7 ⟨fva, Da, rfl, hoa, _, hb⟩
  obtain ⟨Aa, ca, rfl⟩ := cell_own ow_reg hoa
  have Ha0 := Aside.mk (owRow_rd ow_reg hoa)
  have hb0 := below_step (w0 := w6) (below_drew (Below.refl _ w6)) hb
  clear hoa
  refine hK.out _ _ (by exact ⟨Loc.below hHeld.1 hb, Loc.below hHeld.2.1 hb, Loc.below hHeld.2.2.1 hb, Loc.below hHeld.2.2.2.1 hb, Loc.below hHeld.2.2.2.2.1 hb, Loc.below hHeld.2.2.2.2.2 hb⟩) (fun hHeld => ?_)
  clear hK K
  (try simp only [Act.put, List.setIfInBounds_toArray, List.set_cons_zero, List.set_cons_succ])
  replace L0 := Aside.mk (L0.out.below hb0)
  replace L1 := Aside.mk (L1.out.below hb0)
  replace LW := Aside.mk (LW.out.below hb0)
  replace LX := Aside.mk (LX.out.below hb0)
  replace LY := Aside.mk (LY.out.below hb0)
  replace LG := Aside.mk (LG.out.below hb0)
  replace HW := Aside.mk (owRow_below ow_reg HW.out hb0)
  replace NW := Aside.mk (NW.out.mono hb0.size)
  replace HX := Aside.mk (owRow_below ow_reg HX.out hb0)
  replace NX := Aside.mk (NX.out.mono hb0.size)
  replace HY := Aside.mk (owRow_below ow_reg HY.out hb0)
  replace NY := Aside.mk (NY.out.mono hb0.size)
  replace HG := Aside.mk (owRow_below ow_reg HG.out hb0)
  replace NG := Aside.mk (NG.out.mono hb0.size)
  replace HB := Aside.mk (below_step HB.out hb0)
  (try clear l0)
  (try clear q0)
  (try clear f0)
  (try clear l1)
  (try clear q1)
  (try clear f1)
  (try clear lW)
  (try clear qW)
  (try clear fW)
  (try clear lX)
  (try clear qX)
  (try clear fX)
  (try clear lY)
  (try clear qY)
  (try clear fY)
  (try clear lG)
  (try clear qG)
  (try clear fG)
  have l0 := L0.out.cells
  have q0 := L0.out.lt
  have f0 := L0.out.free
  have l1 := L1.out.cells
  have q1 := L1.out.lt
  have f1 := L1.out.free
  have lW := LW.out.cells
  have qW := LW.out.lt
  have fW := LW.out.free
  have lX := LX.out.cells
  have qX := LX.out.lt
  have fX := LX.out.free
  have lY := LY.out.cells
  have qY := LY.out.lt
  have fY := LY.out.free
  have lG := LG.out.cells
  have qG := LG.out.lt
  have fG := LG.out.free
  clear hb hb0
  refine zReady (rs := [3]) (by kernel_rfl) (by simp) ?_
  refine zOne (by decide) rfl (fun K hK => ?_) zNil
  go_simp
  refine (eqMail_calls _ _ _ a (owRow_rd ow_reg HX.out) Ha0.out).mono ?_
  rintro e w8 ⟨rfl, hb⟩
  refine hK.out _ _ (by exact ⟨Loc.below hHeld.1 hb, Loc.below hHeld.2.1 hb, Loc.below hHeld.2.2.1 hb, Loc.below hHeld.2.2.2.1 hb, Loc.below hHeld.2.2.2.2.1 hb, Loc.below hHeld.2.2.2.2.2 hb⟩) (fun hHeld => ?_)
  clear hK K
  (try simp only [Act.put, List.setIfInBounds_toArray, List.set_cons_zero, List.set_cons_succ])
  replace L0 := Aside.mk (L0.out.below hb)
  replace L1 := Aside.mk (L1.out.below hb)
  replace LW := Aside.mk (LW.out.below hb)
  replace LX := Aside.mk (LX.out.below hb)
  replace LY := Aside.mk (LY.out.below hb)
  replace LG := Aside.mk (LG.out.below hb)
  replace HW := Aside.mk (owRow_below ow_reg HW.out hb)
  replace NW := Aside.mk (NW.out.mono hb.size)
  replace HX := Aside.mk (owRow_below ow_reg HX.out hb)
  replace NX := Aside.mk (NX.out.mono hb.size)
  replace HY := Aside.mk (owRow_below ow_reg HY.out hb)
  replace NY := Aside.mk (NY.out.mono hb.size)
  replace HG := Aside.mk (owRow_below ow_reg HG.out hb)
  replace NG := Aside.mk (NG.out.mono hb.size)
  replace HB := Aside.mk (below_step HB.out hb)
  (try clear l0)
  (try clear q0)
  (try clear f0)
  (try clear l1)
  (try clear q1)
  (try clear f1)
  (try clear lW)
  (try clear qW)
  (try clear fW)
  (try clear lX)
  (try clear qX)
  (try clear fX)
  (try clear lY)
  (try clear qY)
  (try clear fY)
  (try clear lG)
  (try clear qG)
  (try clear fG)
  have l0 := L0.out.cells
  have q0 := L0.out.lt
  have f0 := L0.out.free
  have l1 := L1.out.cells
  have q1 := L1.out.lt
  have f1 := L1.out.free
  have lW := LW.out.cells
  have qW := LW.out.lt
  have fW := LW.out.free
  have lX := LX.out.cells
  have qX := LX.out.lt
  have fX := LX.out.free
  have lY := LY.out.cells
  have qY := LY.out.lt
  have fY := LY.out.free
  have lG := LG.out.cells
  have qG := LG.out.lt
  have fG := LG.out.free
  clear hb Ha0
  refine zT 4 44 hHeld ?_
  refine zDone (by kernel_rfl) ?_ _
  clear hHeld
  go_wp2_with (fail)
  refine zBegin (S := (fun w' => Loc w' w.heap.size #[.int .i64 a.g, .int .i64 a.u, .slice Ap0 a.fl.length cp0, .string a.tx] 54 ∧ Loc w' (w.heap.size + 1) #[.int .i64 b.g, .int .i64 b.u, .slice Ap1 b.fl.length cp1, .string b.tx] 54 ∧ Loc w' BW #[.int .i64 rb.g, .int .i64 rb.u, .slice AW rb.fl.length cW, .string rb.tx] 58 ∧ Loc w' BX #[.int .i64 a.g, .int .i64 a.u, .slice AX a.fl.length cX, .string a.tx] 58 ∧ Loc w' BY #[.int .i64 b.g, .int .i64 b.u, .slice AY b.fl.length cY, .string b.tx] 58 ∧ Loc w' BG #[.int .i64 rb.g, .int .i64 rb.u, .slice AG rb.fl.length cG, .string rb.tx] 58)) (z := 5) (by kernel_rfl) (by exact ⟨L0.out.drew', L1.out.drew', LW.out.drew', LX.out.drew', LY.out.drew', LG.out.drew'⟩) (fun hHeld => ?_)
  refine zT 0 45 hHeld ?_
  refine zT 1 46 hHeld ?_
  refine zReady (rs := [2]) (by kernel_rfl) (by simp) ?_
  refine zOne (by decide) rfl (fun K hK => ?_) zNil
  go_simp
  refine (toMail_calls _ _ b (rdRegs_mov (below_drew HB.out) HR1.out) HLb.out).mono ?_
  rintro e w9 ⟨fva, Da, rfl, hoa, _, hb⟩
  obtain ⟨Aa, ca, rfl⟩ := cell_own ow_reg hoa
  have Ha0 := Aside.mk (owRow_rd ow_reg hoa)
  have hb0 := below_step (w0 := w8) (below_drew (Below.refl _ w8)) hb
  clear hoa
  refine hK.out _ _ (by exact ⟨Loc.below hHeld.1 hb, Loc.below hHeld.2.1 hb, Loc.below hHeld.2.2.1 hb, Loc.below hHeld.2.2.2.1 hb, Loc.below hHeld.2.2.2.2.1 hb, Loc.below hHeld.2.2.2.2.2 hb⟩) (fun hHeld => ?_)
  clear hK K
  (try simp only [Act.put, List.setIfInBounds_toArray, List.set_cons_zero, List.set_cons_succ])
  replace L0 := Aside.mk (L0.out.below hb0)
  replace L1 := Aside.mk (L1.out.below hb0)
  replace LW := Aside.mk (LW.out.below hb0)
  replace LX := Aside.mk (LX.out.below hb0)
  replace LY := Aside.mk (LY.out.below hb0)
  replace LG := Aside.mk (LG.out.below hb0)
  replace HW := Aside.mk (owRow_below ow_reg HW.out hb0)
  replace NW := Aside.mk (NW.out.mono hb0.size)
  replace HX := Aside.mk (owRow_below ow_reg HX.out hb0)
  replace NX := Aside.mk (NX.out.mono hb0.size)
  replace HY := Aside.mk (owRow_below ow_reg HY.out hb0)
  replace NY := Aside.mk (NY.out.mono hb0.size)
  replace HG := Aside.mk (owRow_below ow_reg HG.out hb0)
  replace NG := Aside.mk (NG.out.mono hb0.size)
  replace HB := Aside.mk (below_step HB.out hb0)
  (try clear l0)
  (try clear q0)
  (try clear f0)
  (try clear l1)
  (try clear q1)
  (try clear f1)
  (try clear lW)
  (try clear qW)
  (try clear fW)
  (try clear lX)
  (try clear qX)
  (try clear fX)
  (try clear lY)
  (try clear qY)
  (try clear fY)
  (try clear lG)
  (try clear qG)
  (try clear fG)
  have l0 := L0.out.cells
  have q0 := L0.out.lt
  have f0 := L0.out.free
  have l1 := L1.out.cells
  have q1 := L1.out.lt
  have f1 := L1.out.free
  have lW := LW.out.cells
  have qW := LW.out.lt
  have fW := LW.out.free
  have lX := LX.out.cells
  have qX := LX.out.lt
  have fX := LX.out.free
  have lY := LY.out.cells
  have qY := LY.out.lt
  have fY := LY.out.free
  have lG := LG.out.cells
  have qG := LG.out.lt
  have fG := LG.out.free
  clear hb hb0
  refine zReady (rs := [3]) (by kernel_rfl) (by simp) ?_
  refine zOne (by decide) rfl (fun K hK => ?_) zNil
  go_simp
  refine (eqMail_calls _ _ _ b (owRow_rd ow_reg HY.out) Ha0.out).mono ?_
  rintro e w10 ⟨rfl, hb⟩
  refine hK.out _ _ (by exact ⟨Loc.below hHeld.1 hb, Loc.below hHeld.2.1 hb, Loc.below hHeld.2.2.1 hb, Loc.below hHeld.2.2.2.1 hb, Loc.below hHeld.2.2.2.2.1 hb, Loc.below hHeld.2.2.2.2.2 hb⟩) (fun hHeld => ?_)
  clear hK K
  (try simp only [Act.put, List.setIfInBounds_toArray, List.set_cons_zero, List.set_cons_succ])
  replace L0 := Aside.mk (L0.out.below hb)
  replace L1 := Aside.mk (L1.out.below hb)
  replace LW := Aside.mk (LW.out.below hb)
  replace LX := Aside.mk (LX.out.below hb)
  replace LY := Aside.mk (LY.out.below hb)
  replace LG := Aside.mk (LG.out.below hb)
  replace HW := Aside.mk (owRow_below ow_reg HW.out hb)
  replace NW := Aside.mk (NW.out.mono hb.size)
  replace HX := Aside.mk (owRow_below ow_reg HX.out hb)
  replace NX := Aside.mk (NX.out.mono hb.size)
  replace HY := Aside.mk (owRow_below ow_reg HY.out hb)
  replace NY := Aside.mk (NY.out.mono hb.size)
  replace HG := Aside.mk (owRow_below ow_reg HG.out hb)
  replace NG := Aside.mk (NG.out.mono hb.size)
  replace HB := Aside.mk (below_step HB.out hb)
  (try clear l0)
  (try clear q0)
  (try clear f0)
  (try clear l1)
  (try clear q1)
  (try clear f1)
  (try clear lW)
  (try clear qW)
  (try clear fW)
  (try clear lX)
  (try clear qX)
  (try clear fX)
  (try clear lY)
  (try clear qY)
  (try clear fY)
  (try clear lG)
  (try clear qG)
  (try clear fG)
  have l0 := L0.out.cells
  have q0 := L0.out.lt
  have f0 := L0.out.free
  have l1 := L1.out.cells
  have q1 := L1.out.lt
  have f1 := L1.out.free
  have lW := LW.out.cells
  have qW := LW.out.lt
  have fW := LW.out.free
  have lX := LX.out.cells
  have qX := LX.out.lt
  have fX := LX.out.free
  have lY := LY.out.cells
  have qY := LY.out.lt
  have fY := LY.out.free
  have lG := LG.out.cells
  have qG := LG.out.lt
  have fG := LG.out.free
  clear hb Ha0
  refine zT 4 49 hHeld ?_
  refine zDone (by kernel_rfl) ?_ _
  clear hHeld
  go_wp2_with (fail)
  refine (markMail_calls _ DX _ a 1 HX.out NX.out.1 (by decide) (by have := HSa.out; omega)).mono ?_
  rintro e w11 ⟨rfl, _, hk⟩
  have hE0 : w.heap.size ∉ DX := fun hx => by have := (NX.out.2 _ hx).1; have := HZ.out; omega
  have hE1 : w.heap.size + 1 ∉ DX := fun hx => by have := (NX.out.2 _ hx).1; have := HZ.out; omega
  replace L0 := Aside.mk (L0.out.keep hk hE0)
  replace L1 := Aside.mk (L1.out.keep hk hE1)
  replace LX := Aside.mk (LX.out.keep hk OX.out.1)
  replace LW := Aside.mk (LW.out.keep hk APWX.out.1)
  replace HW := Aside.mk (owRow_keep ow_reg HW.out hk APWX.out.2.2)
  replace NW := Aside.mk (NW.out.mono hk.size)
  replace LY := Aside.mk (LY.out.keep hk APXY.out.2.1)
  replace HY := Aside.mk (owRow_keep ow_reg HY.out hk (fun b hb hx => APXY.out.2.2 b hx hb))
  replace NY := Aside.mk (NY.out.mono hk.size)
  replace LG := Aside.mk (LG.out.keep hk APXG.out.2.1)
  replace HG := Aside.mk (owRow_keep ow_reg HG.out hk (fun b hb hx => APXG.out.2.2 b hx hb))
  replace NG := Aside.mk (NG.out.mono hk.size)
  replace HB := Aside.mk (NX.out.keepBelow hk HB.out (by have := HZ.out; omega))
  clear hk hE0 hE1 HX NX
  try clear LX lX qX fX
  (try clear l0)
  (try clear q0)
  (try clear f0)
  (try clear l1)
  (try clear q1)
  (try clear f1)
  (try clear lW)
  (try clear qW)
  (try clear fW)
  (try clear lY)
  (try clear qY)
  (try clear fY)
  (try clear lG)
  (try clear qG)
  (try clear fG)
  have l0 := L0.out.cells
  have q0 := L0.out.lt
  have f0 := L0.out.free
  have l1 := L1.out.cells
  have q1 := L1.out.lt
  have f1 := L1.out.free
  have lW := LW.out.cells
  have qW := LW.out.lt
  have fW := LW.out.free
  have lY := LY.out.cells
  have qY := LY.out.lt
  have fY := LY.out.free
  have lG := LG.out.cells
  have qG := LG.out.lt
  have fG := LG.out.free
  obtain ⟨kx, hkx⟩ : ∃ kx : Int, kx = 1 + 3 * (a.fl.length : Int) := ⟨_, rfl⟩
  have hkx0 : 1 ≤ kx := by omega
  have hkx1 : kx ≤ 4000000 := by have := HSa.out; omega
  rw [← hkx]
  clear hkx
  go_wp2_with (fail)
  refine (markMail_calls _ DY _ b kx HY.out NY.out.1 (by omega) (by have := HSb.out; omega)).mono ?_
  rintro e w12 ⟨rfl, _, hk⟩
  have hE0 : w.heap.size ∉ DY := fun hx => by have := (NY.out.2 _ hx).1; have := HZ.out; omega
  have hE1 : w.heap.size + 1 ∉ DY := fun hx => by have := (NY.out.2 _ hx).1; have := HZ.out; omega
  replace L0 := Aside.mk (L0.out.keep hk hE0)
  replace L1 := Aside.mk (L1.out.keep hk hE1)
  replace LY := Aside.mk (LY.out.keep hk OY.out.1)
  replace LW := Aside.mk (LW.out.keep hk APWY.out.1)
  replace HW := Aside.mk (owRow_keep ow_reg HW.out hk APWY.out.2.2)
  replace NW := Aside.mk (NW.out.mono hk.size)
  replace LG := Aside.mk (LG.out.keep hk APYG.out.2.1)
  replace HG := Aside.mk (owRow_keep ow_reg HG.out hk (fun b hb hx => APYG.out.2.2 b hx hb))
  replace NG := Aside.mk (NG.out.mono hk.size)
  replace HB := Aside.mk (NY.out.keepBelow hk HB.out (by have := HZ.out; omega))
  clear hk hE0 hE1 HY NY
  try clear LY lY qY fY
  (try clear l0)
  (try clear q0)
  (try clear f0)
  (try clear l1)
  (try clear q1)
  (try clear f1)
  (try clear lW)
  (try clear qW)
  (try clear fW)
  (try clear lG)
  (try clear qG)
  (try clear fG)
  have l0 := L0.out.cells
  have q0 := L0.out.lt
  have f0 := L0.out.free
  have l1 := L1.out.cells
  have q1 := L1.out.lt
  have f1 := L1.out.free
  have lW := LW.out.cells
  have qW := LW.out.lt
  have fW := LW.out.free
  have lG := LG.out.cells
  have qG := LG.out.lt
  have fG := LG.out.free
  obtain ⟨ky, hky⟩ : ∃ ky : Int, ky = kx + 3 * (b.fl.length : Int) := ⟨_, rfl⟩
  have hky0 : ¬ (ky < 0) := by omega
  rw [← hky]
  clear hky hkx0 hkx1
  go_wp2_with (fail)
  refine (eqMail_calls _ _ _ rb (owRow_rd ow_reg HG.out) (owRow_rd ow_reg HW.out)).mono ?_
  rintro e w13 ⟨rfl, hb⟩
  replace L0 := Aside.mk (L0.out.below hb)
  replace L1 := Aside.mk (L1.out.below hb)
  replace LW := Aside.mk (LW.out.below hb)
  replace LG := Aside.mk (LG.out.below hb)
  replace HW := Aside.mk (owRow_below ow_reg HW.out hb)
  replace NW := Aside.mk (NW.out.mono hb.size)
  replace HG := Aside.mk (owRow_below ow_reg HG.out hb)
  replace NG := Aside.mk (NG.out.mono hb.size)
  replace HB := Aside.mk (below_step HB.out hb)
  (try clear l0)
  (try clear q0)
  (try clear f0)
  (try clear l1)
  (try clear q1)
  (try clear f1)
  (try clear lW)
  (try clear qW)
  (try clear fW)
  (try clear lG)
  (try clear qG)
  (try clear fG)
  have l0 := L0.out.cells
  have q0 := L0.out.lt
  have f0 := L0.out.free
  have l1 := L1.out.cells
  have q1 := L1.out.lt
  have f1 := L1.out.free
  have lW := LW.out.cells
  have qW := LW.out.lt
  have fW := LW.out.free
  have lG := LG.out.cells
  have qG := LG.out.lt
  have fG := LG.out.free
  clear hb
  go_wp2_with (fail)
  refine (markMail_calls _ DG _ rb 1 HG.out NG.out.1 (by decide) (by have := HSr.out; omega)).mono ?_
  rintro e w14 ⟨rfl, ⟨Dm, hom, _, _⟩, hk⟩
  have hE0 : w.heap.size ∉ DG := fun hx => by have := (NG.out.2 _ hx).1; have := HZ.out; omega
  have hE1 : w.heap.size + 1 ∉ DG := fun hx => by have := (NG.out.2 _ hx).1; have := HZ.out; omega
  replace L0 := Aside.mk (L0.out.keep hk hE0)
  replace L1 := Aside.mk (L1.out.keep hk hE1)
  replace LG := Aside.mk (LG.out.keep hk OG.out.1)
  replace LW := Aside.mk (LW.out.keep hk APWG.out.1)
  replace HW := Aside.mk (owRow_keep ow_reg HW.out hk APWG.out.2.2)
  replace NW := Aside.mk (NW.out.mono hk.size)
  replace HB := Aside.mk (NG.out.keepBelow hk HB.out (by have := HZ.out; omega))
  have HM := Aside.mk (owRow_rd ow_reg hom)
  clear hom
  clear hk hE0 hE1 HG NG
  have HG := HM
  clear HM
  (try clear l0)
  (try clear q0)
  (try clear f0)
  (try clear l1)
  (try clear q1)
  (try clear f1)
  (try clear lW)
  (try clear qW)
  (try clear fW)
  (try clear lG)
  (try clear qG)
  (try clear fG)
  have l0 := L0.out.cells
  have q0 := L0.out.lt
  have f0 := L0.out.free
  have l1 := L1.out.cells
  have q1 := L1.out.lt
  have f1 := L1.out.free
  have lW := LW.out.cells
  have qW := LW.out.lt
  have fW := LW.out.free
  have lG := LG.out.cells
  have qG := LG.out.lt
  have fG := LG.out.free
  obtain ⟨kg, hkg⟩ : ∃ kg : Int, kg = 1 + 3 * (rb.fl.length : Int) := ⟨_, rfl⟩
  have HKG := Aside.mk hkg
  have hkg0 : ¬ (kg < 0) := by omega
  rw [← hkg]
  clear hkg
  go_wp2_with (fail)
  refine (heldMail_calls _ _ rb 1 HG.out (by decide) (by have := HSr.out; omega)).mono ?_
  rintro e w15 ⟨rfl, hb⟩
  rw [← HKG.out]
  replace L0 := Aside.mk (L0.out.below hb)
  replace L1 := Aside.mk (L1.out.below hb)
  replace LW := Aside.mk (LW.out.below hb)
  replace LG := Aside.mk (LG.out.below hb)
  replace HW := Aside.mk (owRow_below ow_reg HW.out hb)
  replace NW := Aside.mk (NW.out.mono hb.size)
  replace HG := Aside.mk (rdRegs_mov hb HG.out)
  replace HB := Aside.mk (below_step HB.out hb)
  (try clear l0)
  (try clear q0)
  (try clear f0)
  (try clear l1)
  (try clear q1)
  (try clear f1)
  (try clear lW)
  (try clear qW)
  (try clear fW)
  (try clear lG)
  (try clear qG)
  (try clear fG)
  have l0 := L0.out.cells
  have q0 := L0.out.lt
  have f0 := L0.out.free
  have l1 := L1.out.cells
  have q1 := L1.out.lt
  have f1 := L1.out.free
  have lW := LW.out.cells
  have qW := LW.out.lt
  have fW := LW.out.free
  have lG := LG.out.cells
  have qG := LG.out.lt
  have fG := LG.out.free
  clear hb
  try clear HBLW HNLW
  have HBLW : Aside (BW < w15.heap.size) := ⟨LW.out.lt⟩
  have HNLW : Aside (∀ b ∈ DW, b < w15.heap.size) := ⟨fun b hb => (NW.out.2 b hb).2⟩
  try clear HWL
  have HWL : Aside (wz.heap.size ≤ w15.heap.size) := ⟨by have := HB.out.size; have := HZ.out; have := L1.out.lt; omega⟩
  go_wp2_with (fail)
  go_cut [13] (fun v13 wc => ∃ (B : Nat) (D : List Nat), v13 = .pointer (some ⟨B, 0, none⟩) ∧ Aside (HasMail w15 wc B D rb) ∧ Aside (Loc wc w.heap.size #[.int .i64 a.g, .int .i64 a.u, .slice Ap0 a.fl.length cp0, .string a.tx] 54) ∧ Aside (Loc wc (w.heap.size + 1) #[.int .i64 b.g, .int .i64 b.u, .slice Ap1 b.fl.length cp1, .string b.tx] 54) ∧ Aside (Loc wc BW #[.int .i64 rb.g, .int .i64 rb.u, .slice AW rb.fl.length cW, .string rb.tx] 58) ∧ Aside (Loc wc BG #[.int .i64 rb.g, .int .i64 rb.u, .slice AG rb.fl.length cG, .string rb.tx] 58) ∧ Aside (owRegs wc DW (.slice AW rb.fl.length cW) rb.fl) ∧ Aside (New wz wc DW) ∧ Aside (rdRegs wc (.slice AG rb.fl.length cG) (mkRegs 1 rb.fl)) ∧ Aside (Below w.heap.size w wc))
  case first =>
    refine yBegin (S := (fun w' => Loc w' w.heap.size #[.int .i64 a.g, .int .i64 a.u, .slice Ap0 a.fl.length cp0, .string a.tx] 54 ∧ Loc w' (w.heap.size + 1) #[.int .i64 b.g, .int .i64 b.u, .slice Ap1 b.fl.length cp1, .string b.tx] 54 ∧ Loc w' BW #[.int .i64 rb.g, .int .i64 rb.u, .slice AW rb.fl.length cW, .string rb.tx] 58 ∧ Loc w' BG #[.int .i64 rb.g, .int .i64 rb.u, .slice AG rb.fl.length cG, .string rb.tx] 58 ∧ Since w15 w')) (z := 6) (by kernel_rfl) (by exact ⟨L0.out.drew', L1.out.drew', LW.out.drew', LG.out.drew', below_drew (Below.refl _ _)⟩) (fun hHeld => ?_)
    refine yT 0 75 hHeld ?_
    refine yT 2 77 hHeld ?_
    refine yReady (rs := [1, 5]) (by kernel_rfl) (by simp) ?_
    refine yOne rfl (fun K hK => ?_) ?_
    go_simp
    refine (toMail_calls _ _ a (rdRegs_mov (below_step HB.out hHeld.2.2.2.2.low) HR0.out) HLa.out).mono ?_
    rintro e wa ⟨fva, Da, rfl, hoa, _, hb⟩
    obtain ⟨Aa, ca, rfl⟩ := cell_own ow_reg hoa
    refine hK.out _ _ (by exact ⟨Loc.below hHeld.1 hb, Loc.below hHeld.2.1 hb, Loc.below hHeld.2.2.1 hb, Loc.below hHeld.2.2.2.1 hb, below_step hHeld.2.2.2.2.low hb⟩) (fun hHeld => ?_)
    clear hK K
    (try simp only [Act.put, List.setIfInBounds_toArray, List.set_cons_zero, List.set_cons_succ])
    have hra := owRow_rd ow_reg hoa
    have hba := Below.refl wa.heap.size wa
    clear hoa hb
    refine yReady (rs := [3, 5]) (by kernel_rfl) (by simp) ?_
    refine yOne rfl (fun K hK => ?_) ?_
    go_simp
    refine (toMail_calls _ _ b (rdRegs_mov (below_step HB.out hHeld.2.2.2.2.low) HR1.out) HLb.out).mono ?_
    rintro e wb ⟨fvb, Db, rfl, hob, _, hb⟩
    obtain ⟨Ab, cb, rfl⟩ := cell_own ow_reg hob
    refine hK.out _ _ (by exact ⟨Loc.below hHeld.1 hb, Loc.below hHeld.2.1 hb, Loc.below hHeld.2.2.1 hb, Loc.below hHeld.2.2.2.1 hb, below_step hHeld.2.2.2.2.low hb⟩) (fun hHeld => ?_)
    clear hK K
    (try simp only [Act.put, List.setIfInBounds_toArray, List.set_cons_zero, List.set_cons_succ])
    have hrb := owRow_rd ow_reg hob
    have hbb := Below.refl wb.heap.size wb
    replace hba := below_step hba hb
    clear hob hb
    refine yReady (rs := [4, 5]) (by kernel_rfl) (by simp) ?_
    refine yOne rfl (fun K hK => ?_) ?_
    go_simp
    have hHp := hHeld.2.2.2.2.low
    (try have hLp := LB.lt)
    refine (joinMail_calls _ _ _ a b (rdRegs_mov hba hra) (rdRegs_mov hbb hrb) HLa.out).mono ?_
    rintro e ws ⟨fvs, Ds, he, ho, hn, hb⟩
    rw [HRR.out] at he ho
    subst he
    obtain ⟨As, cs, rfl⟩ := cell_own ow_reg ho
    refine hK.out _ _ (by exact ⟨Loc.below hHeld.1 hb, Loc.below hHeld.2.1 hb, Loc.below hHeld.2.2.1 hb, Loc.below hHeld.2.2.2.1 hb, below_step hHeld.2.2.2.2.low hb⟩) (fun hHeld => ?_)
    clear hK K
    (try simp only [Act.put, List.setIfInBounds_toArray, List.set_cons_zero, List.set_cons_succ])
    have hHs := hHeld
    clear hb hra hrb hba hbb
    refine yReady (rs := [5]) (by kernel_rfl) (by simp) ?_
    refine yOne rfl (fun K hK => ?_) yNil
    have hHa := hHeld
    go_simp
    refine hK.out _ _ (by exact ⟨Loc.alloc hHeld.1 _, Loc.alloc hHeld.2.1 _, Loc.alloc hHeld.2.2.1 _, Loc.alloc hHeld.2.2.2.1 _, below_alloc hHeld.2.2.2.2.low _⟩) (fun hHeld => ?_)
    clear hK K
    (try simp only [Act.put, List.setIfInBounds_toArray, List.set_cons_zero, List.set_cons_succ])
    clear hHa
    refine yReady (rs := [6]) (by kernel_rfl) (by simp) ?_
    refine yLast (Or.inl rfl) rfl (fun K hK => ?_) yNil
    go_simp
    refine hK.out _ _ ?_
    clear hK K
    (try simp only [Act.put, List.setIfInBounds_toArray, List.set_cons_zero, List.set_cons_succ])
    refine yDone (by kernel_rfl) ?_ _
    go_wp2
    go_meet
    case rel => exact ⟨_, _, rfl, ⟨HasMail.made ho (hn.from (by exact hHp.size)) (by exact hHs.2.2.2.2.low.size)⟩, ⟨Loc.alloc hHs.1 _⟩, ⟨Loc.alloc hHs.2.1 _⟩, ⟨Loc.alloc hHs.2.2.1 _⟩, ⟨Loc.alloc hHs.2.2.2.1 _⟩, ⟨owRow_below ow_reg HW.out (below_alloc hHs.2.2.2.2.low _)⟩, ⟨NW.out.mono ((below_alloc hHs.2.2.2.2.low _)).size⟩, ⟨rdRegs_mov (below_alloc hHs.2.2.2.2.low _) HG.out⟩, ⟨below_step HB.out (below_alloc hHs.2.2.2.2.low _)⟩⟩
    refine yOne rfl (fun K hK => ?_) yNil
    have hHa := hHeld
    go_simp
    refine hK.out _ _ (by exact ⟨Loc.alloc hHeld.1 _, Loc.alloc hHeld.2.1 _, Loc.alloc hHeld.2.2.1 _, Loc.alloc hHeld.2.2.2.1 _, below_alloc hHeld.2.2.2.2.low _⟩) (fun hHeld => ?_)
    clear hK K
    (try simp only [Act.put, List.setIfInBounds_toArray, List.set_cons_zero, List.set_cons_succ])
    obtain ⟨BB, hBB⟩ : ∃ BB, BB = (wb).heap.size := ⟨_, rfl⟩
    have HBB : w15.heap.size ≤ BB := by have h_ : w15.heap.size ≤ (wb).heap.size := (hHa.2.2.2.2.low).size; omega
    have LB : Loc ((wb).alloc (.cells #[.int .i64 0, .int .i64 0, .slice none 0 0, .string ⟨#[]⟩] 58)) BB #[.int .i64 0, .int .i64 0, .slice none 0 0, .string ⟨#[]⟩] 58 := by rw [hBB]; exact Loc.new _ _ _
    try rw [← hBB]
    clear hBB
    have hba := below_alloc hba (.cells #[.int .i64 0, .int .i64 0, .slice none 0 0, .string ⟨#[]⟩] 58)
    have hbb := below_alloc hbb (.cells #[.int .i64 0, .int .i64 0, .slice none 0 0, .string ⟨#[]⟩] 58)
    clear hHa
    refine yReady (rs := [4]) (by kernel_rfl) (by simp) ?_
    refine yOne rfl (fun K hK => ?_) yNil
    go_simp
    have hHp := hHeld.2.2.2.2.low
    (try have hLp := LB.lt)
    refine (joinMail_calls _ _ _ a b (rdRegs_mov hba hra) (rdRegs_mov hbb hrb) HLa.out).mono ?_
    rintro e ws ⟨fvs, Ds, he, ho, hn, hb⟩
    rw [HRR.out] at he ho
    subst he
    obtain ⟨As, cs, rfl⟩ := cell_own ow_reg ho
    refine hK.out _ _ (by exact ⟨Loc.below hHeld.1 hb, Loc.below hHeld.2.1 hb, Loc.below hHeld.2.2.1 hb, Loc.below hHeld.2.2.2.1 hb, below_step hHeld.2.2.2.2.low hb⟩) (fun hHeld => ?_)
    clear hK K
    (try simp only [Act.put, List.setIfInBounds_toArray, List.set_cons_zero, List.set_cons_succ])
    have LB := LB.below hb
    have hHs := hHeld
    clear hb hra hrb hba hbb
    refine yReady (rs := [6]) (by kernel_rfl) (by simp) ?_
    refine yLast (Or.inl rfl) rfl (fun K hK => ?_) yNil
    have lB := LB.cells
    have qB := LB.lt
    have fB := LB.free
    go_simp
    refine hK.out _ _ ?_
    clear hK K
    (try simp only [Act.put, List.setIfInBounds_toArray, List.set_cons_zero, List.set_cons_succ])
    refine yDone (by kernel_rfl) ?_ _
    go_wp2
    go_meet
    case rel => rw [setsc4]; exact ⟨BB, _, rfl, ⟨HasMail.stored ho (hn.from (by exact hHp.size)) LB (fun hx => by have := (hn.2 _ hx).1; omega) HBB⟩, ⟨Loc.sets2 hHeld.1 (by have := HBB; have := L0.out.lt; omega) _⟩, ⟨Loc.sets2 hHeld.2.1 (by have := HBB; have := L1.out.lt; omega) _⟩, ⟨Loc.sets2 hHeld.2.2.1 (by have := HBB; have := LW.out.lt; omega) _⟩, ⟨Loc.sets2 hHeld.2.2.2.1 (by have := HBB; have := LG.out.lt; omega) _⟩, ⟨owRow_below ow_reg HW.out (below_sets2 hHeld.2.2.2.2.low (by exact HBB) _ _)⟩, ⟨NW.out.mono ((below_sets2 hHeld.2.2.2.2.low (by exact HBB) _ _)).size⟩, ⟨rdRegs_mov (below_sets2 hHeld.2.2.2.2.low (by exact HBB) _ _) HG.out⟩, ⟨below_step HB.out (below_sets2 hHeld.2.2.2.2.low (by exact HBB) _ _)⟩⟩
    refine yOne rfl (fun K hK => ?_) yNil
    have hHa := hHeld
    go_simp
    refine hK.out _ _ (by exact ⟨Loc.alloc hHeld.1 _, Loc.alloc hHeld.2.1 _, Loc.alloc hHeld.2.2.1 _, Loc.alloc hHeld.2.2.2.1 _, below_alloc hHeld.2.2.2.2.low _⟩) (fun hHeld => ?_)
    clear hK K
    (try simp only [Act.put, List.setIfInBounds_toArray, List.set_cons_zero, List.set_cons_succ])
    obtain ⟨BB, hBB⟩ : ∃ BB, BB = (wa).heap.size := ⟨_, rfl⟩
    have HBB : w15.heap.size ≤ BB := by have h_ : w15.heap.size ≤ (wa).heap.size := (hHa.2.2.2.2.low).size; omega
    have LB : Loc ((wa).alloc (.cells #[.int .i64 0, .int .i64 0, .slice none 0 0, .string ⟨#[]⟩] 58)) BB #[.int .i64 0, .int .i64 0, .slice none 0 0, .string ⟨#[]⟩] 58 := by rw [hBB]; exact Loc.new _ _ _
    try rw [← hBB]
    clear hBB
    have hba := below_alloc hba (.cells #[.int .i64 0, .int .i64 0, .slice none 0 0, .string ⟨#[]⟩] 58)
    clear hHa
    refine yReady (rs := [3]) (by kernel_rfl) (by simp) ?_
    refine yOne rfl (fun K hK => ?_) yNil
    go_simp
    refine (toMail_calls _ _ b (rdRegs_mov (below_step HB.out hHeld.2.2.2.2.low) HR1.out) HLb.out).mono ?_
    rintro e wb ⟨fvb, Db, rfl, hob, _, hb⟩
    obtain ⟨Ab, cb, rfl⟩ := cell_own ow_reg hob
    refine hK.out _ _ (by exact ⟨Loc.below hHeld.1 hb, Loc.below hHeld.2.1 hb, Loc.below hHeld.2.2.1 hb, Loc.below hHeld.2.2.2.1 hb, below_step hHeld.2.2.2.2.low hb⟩) (fun hHeld => ?_)
    clear hK K
    (try simp only [Act.put, List.setIfInBounds_toArray, List.set_cons_zero, List.set_cons_succ])
    have LB := LB.below hb
    have hrb := owRow_rd ow_reg hob
    have hbb := Below.refl wb.heap.size wb
    replace hba := below_step hba hb
    clear hob hb
    refine yReady (rs := [4]) (by kernel_rfl) (by simp) ?_
    refine yOne rfl (fun K hK => ?_) yNil
    go_simp
    have hHp := hHeld.2.2.2.2.low
    (try have hLp := LB.lt)
    refine (joinMail_calls _ _ _ a b (rdRegs_mov hba hra) (rdRegs_mov hbb hrb) HLa.out).mono ?_
    rintro e ws ⟨fvs, Ds, he, ho, hn, hb⟩
    rw [HRR.out] at he ho
    subst he
    obtain ⟨As, cs, rfl⟩ := cell_own ow_reg ho
    refine hK.out _ _ (by exact ⟨Loc.below hHeld.1 hb, Loc.below hHeld.2.1 hb, Loc.below hHeld.2.2.1 hb, Loc.below hHeld.2.2.2.1 hb, below_step hHeld.2.2.2.2.low hb⟩) (fun hHeld => ?_)
    clear hK K
    (try simp only [Act.put, List.setIfInBounds_toArray, List.set_cons_zero, List.set_cons_succ])
    have LB := LB.below hb
    have hHs := hHeld
    clear hb hra hrb hba hbb
    refine yReady (rs := [6]) (by kernel_rfl) (by simp) ?_
    refine yLast (Or.inl rfl) rfl (fun K hK => ?_) yNil
    have lB := LB.cells
    have qB := LB.lt
    have fB := LB.free
    go_simp
    refine hK.out _ _ ?_
    clear hK K
    (try simp only [Act.put, List.setIfInBounds_toArray, List.set_cons_zero, List.set_cons_succ])
    refine yDone (by kernel_rfl) ?_ _
    go_wp2
    go_meet
    case rel => rw [setsc4]; exact ⟨BB, _, rfl, ⟨HasMail.stored ho (hn.from (by exact hHp.size)) LB (fun hx => by have := (hn.2 _ hx).1; omega) HBB⟩, ⟨Loc.sets2 hHeld.1 (by have := HBB; have := L0.out.lt; omega) _⟩, ⟨Loc.sets2 hHeld.2.1 (by have := HBB; have := L1.out.lt; omega) _⟩, ⟨Loc.sets2 hHeld.2.2.1 (by have := HBB; have := LW.out.lt; omega) _⟩, ⟨Loc.sets2 hHeld.2.2.2.1 (by have := HBB; have := LG.out.lt; omega) _⟩, ⟨owRow_below ow_reg HW.out (below_sets2 hHeld.2.2.2.2.low (by exact HBB) _ _)⟩, ⟨NW.out.mono ((below_sets2 hHeld.2.2.2.2.low (by exact HBB) _ _)).size⟩, ⟨rdRegs_mov (below_sets2 hHeld.2.2.2.2.low (by exact HBB) _ _) HG.out⟩, ⟨below_step HB.out (below_sets2 hHeld.2.2.2.2.low (by exact HBB) _ _)⟩⟩
    refine yOne rfl (fun K hK => ?_) yNil
    have hHa := hHeld
    go_simp
    refine hK.out _ _ (by exact ⟨Loc.alloc hHeld.1 _, Loc.alloc hHeld.2.1 _, Loc.alloc hHeld.2.2.1 _, Loc.alloc hHeld.2.2.2.1 _, below_alloc hHeld.2.2.2.2.low _⟩) (fun hHeld => ?_)
    clear hK K
    (try simp only [Act.put, List.setIfInBounds_toArray, List.set_cons_zero, List.set_cons_succ])
    obtain ⟨BB, hBB⟩ : ∃ BB, BB = (w15).heap.size := ⟨_, rfl⟩
    have HBB : w15.heap.size ≤ BB := by have h_ : w15.heap.size ≤ (w15).heap.size := (hHa.2.2.2.2.low).size; omega
    have LB : Loc ((w15.drew).alloc (.cells #[.int .i64 0, .int .i64 0, .slice none 0 0, .string ⟨#[]⟩] 58)) BB #[.int .i64 0, .int .i64 0, .slice none 0 0, .string ⟨#[]⟩] 58 := by rw [hBB]; exact Loc.new _ _ _
    try rw [← hBB]
    clear hBB
    clear hHa
    refine yReady (rs := [1]) (by kernel_rfl) (by simp) ?_
    refine yOne rfl (fun K hK => ?_) yNil
    go_simp
    refine (toMail_calls _ _ a (rdRegs_mov (below_step HB.out hHeld.2.2.2.2.low) HR0.out) HLa.out).mono ?_
    rintro e wa ⟨fva, Da, rfl, hoa, _, hb⟩
    obtain ⟨Aa, ca, rfl⟩ := cell_own ow_reg hoa
    refine hK.out _ _ (by exact ⟨Loc.below hHeld.1 hb, Loc.below hHeld.2.1 hb, Loc.below hHeld.2.2.1 hb, Loc.below hHeld.2.2.2.1 hb, below_step hHeld.2.2.2.2.low hb⟩) (fun hHeld => ?_)
    clear hK K
    (try simp only [Act.put, List.setIfInBounds_toArray, List.set_cons_zero, List.set_cons_succ])
    have LB := LB.below hb
    have hra := owRow_rd ow_reg hoa
    have hba := Below.refl wa.heap.size wa
    clear hoa hb
    refine yReady (rs := [3]) (by kernel_rfl) (by simp) ?_
    refine yOne rfl (fun K hK => ?_) yNil
    go_simp
    refine (toMail_calls _ _ b (rdRegs_mov (below_step HB.out hHeld.2.2.2.2.low) HR1.out) HLb.out).mono ?_
    rintro e wb ⟨fvb, Db, rfl, hob, _, hb⟩
    obtain ⟨Ab, cb, rfl⟩ := cell_own ow_reg hob
    refine hK.out _ _ (by exact ⟨Loc.below hHeld.1 hb, Loc.below hHeld.2.1 hb, Loc.below hHeld.2.2.1 hb, Loc.below hHeld.2.2.2.1 hb, below_step hHeld.2.2.2.2.low hb⟩) (fun hHeld => ?_)
    clear hK K
    (try simp only [Act.put, List.setIfInBounds_toArray, List.set_cons_zero, List.set_cons_succ])
    have LB := LB.below hb
    have hrb := owRow_rd ow_reg hob
    have hbb := Below.refl wb.heap.size wb
    replace hba := below_step hba hb
    clear hob hb
    refine yReady (rs := [4]) (by kernel_rfl) (by simp) ?_
    refine yOne rfl (fun K hK => ?_) yNil
    go_simp
    have hHp := hHeld.2.2.2.2.low
    (try have hLp := LB.lt)
    refine (joinMail_calls _ _ _ a b (rdRegs_mov hba hra) (rdRegs_mov hbb hrb) HLa.out).mono ?_
    rintro e ws ⟨fvs, Ds, he, ho, hn, hb⟩
    rw [HRR.out] at he ho
    subst he
    obtain ⟨As, cs, rfl⟩ := cell_own ow_reg ho
    refine hK.out _ _ (by exact ⟨Loc.below hHeld.1 hb, Loc.below hHeld.2.1 hb, Loc.below hHeld.2.2.1 hb, Loc.below hHeld.2.2.2.1 hb, below_step hHeld.2.2.2.2.low hb⟩) (fun hHeld => ?_)
    clear hK K
    (try simp only [Act.put, List.setIfInBounds_toArray, List.set_cons_zero, List.set_cons_succ])
    have LB := LB.below hb
    have hHs := hHeld
    clear hb hra hrb hba hbb
    refine yReady (rs := [6]) (by kernel_rfl) (by simp) ?_
    refine yLast (Or.inl rfl) rfl (fun K hK => ?_) yNil
    have lB := LB.cells
    have qB := LB.lt
    have fB := LB.free
    go_simp
    refine hK.out _ _ ?_
    clear hK K
    (try simp only [Act.put, List.setIfInBounds_toArray, List.set_cons_zero, List.set_cons_succ])
    refine yDone (by kernel_rfl) ?_ _
    go_wp2
    go_meet
    case rel => rw [setsc4]; exact ⟨BB, _, rfl, ⟨HasMail.stored ho (hn.from (by exact hHp.size)) LB (fun hx => by have := (hn.2 _ hx).1; omega) HBB⟩, ⟨Loc.sets2 hHeld.1 (by have := HBB; have := L0.out.lt; omega) _⟩, ⟨Loc.sets2 hHeld.2.1 (by have := HBB; have := L1.out.lt; omega) _⟩, ⟨Loc.sets2 hHeld.2.2.1 (by have := HBB; have := LW.out.lt; omega) _⟩, ⟨Loc.sets2 hHeld.2.2.2.1 (by have := HBB; have := LG.out.lt; omega) _⟩, ⟨owRow_below ow_reg HW.out (below_sets2 hHeld.2.2.2.2.low (by exact HBB) _ _)⟩, ⟨NW.out.mono ((below_sets2 hHeld.2.2.2.2.low (by exact HBB) _ _)).size⟩, ⟨rdRegs_mov (below_sets2 hHeld.2.2.2.2.low (by exact HBB) _ _) HG.out⟩, ⟨below_step HB.out (below_sets2 hHeld.2.2.2.2.low (by exact HBB) _ _)⟩⟩
  case rest =>
  obtain ⟨BH, DH, rfl, HHH, L0', L1', LW', LG', HW', NW', HG', HB'⟩ := hcut
  clear L0 L1 LW LG HW NW HG HB l0 q0 f0 l1 q1 f1 lW qW fW lG qG fG
  have L0 := L0'
  have L1 := L1'
  have LW := LW'
  have LG := LG'
  have HW := HW'
  have NW := NW'
  have HG := HG'
  have HB := HB'
  clear L0' L1' LW' LG' HW' NW' HG' HB'
  obtain ⟨AH, cH, hlH, hH, hnH, hbH, hgH⟩ := HHH.out
  have APWH : Aside (BW ∉ DH ∧ BH ∉ DW ∧ ∀ b ∈ DW, b ∉ DH) := ⟨fun hx => by have := (hnH.2 _ hx).1; have := HBLW.out; omega, fun hx => by have := HNLW.out _ hx; omega, fun b hb hx => by have := HNLW.out _ hb; have := (hnH.2 _ hx).1; omega⟩
  have LH := Aside.mk hlH
  have HH := Aside.mk hH
  have NH : Aside (New wz wc DH) := ⟨hnH.from HWL.out⟩
  have OH : Aside (BH ∉ DH ∧ wz.heap.size ≤ BH) := ⟨hbH, by have := HWL.out; omega⟩
  clear hlH hH hnH hbH hgH HHH
  (try clear l0)
  (try clear q0)
  (try clear f0)
  (try clear l1)
  (try clear q1)
  (try clear f1)
  (try clear lW)
  (try clear qW)
  (try clear fW)
  (try clear lG)
  (try clear qG)
  (try clear fG)
  (try clear lH)
  (try clear qH)
  (try clear fH)
  have l0 := L0.out.cells
  have q0 := L0.out.lt
  have f0 := L0.out.free
  have l1 := L1.out.cells
  have q1 := L1.out.lt
  have f1 := L1.out.free
  have lW := LW.out.cells
  have qW := LW.out.lt
  have fW := LW.out.free
  have lG := LG.out.cells
  have qG := LG.out.lt
  have fG := LG.out.free
  have lH := LH.out.cells
  have qH := LH.out.lt
  have fH := LH.out.free
  go_wp2_with (fail)
  refine (eqMail_calls _ _ _ rb (owRow_rd ow_reg HH.out) (owRow_rd ow_reg HW.out)).mono ?_
  rintro e w16 ⟨rfl, hb⟩
  replace L0 := Aside.mk (L0.out.below hb)
  replace L1 := Aside.mk (L1.out.below hb)
  replace LW := Aside.mk (LW.out.below hb)
  replace LG := Aside.mk (LG.out.below hb)
  replace LH := Aside.mk (LH.out.below hb)
  replace HW := Aside.mk (owRow_below ow_reg HW.out hb)
  replace NW := Aside.mk (NW.out.mono hb.size)
  replace HH := Aside.mk (owRow_below ow_reg HH.out hb)
  replace NH := Aside.mk (NH.out.mono hb.size)
  replace HG := Aside.mk (rdRegs_mov hb HG.out)
  replace HB := Aside.mk (below_step HB.out hb)
  (try clear l0)
  (try clear q0)
  (try clear f0)
  (try clear l1)
  (try clear q1)
  (try clear f1)
  (try clear lW)
  (try clear qW)
  (try clear fW)
  (try clear lG)
  (try clear qG)
  (try clear fG)
  (try clear lH)
  (try clear qH)
  (try clear fH)
  have l0 := L0.out.cells
  have q0 := L0.out.lt
  have f0 := L0.out.free
  have l1 := L1.out.cells
  have q1 := L1.out.lt
  have f1 := L1.out.free
  have lW := LW.out.cells
  have qW := LW.out.lt
  have fW := LW.out.free
  have lG := LG.out.cells
  have qG := LG.out.lt
  have fG := LG.out.free
  have lH := LH.out.cells
  have qH := LH.out.lt
  have fH := LH.out.free
  clear hb
  go_wp2_with (fail)
  refine (heldMail_calls _ _ rb 1 HG.out (by decide) (by have := HSr.out; omega)).mono ?_
  rintro e w17 ⟨rfl, hb⟩
  rw [← HKG.out]
  replace L0 := Aside.mk (L0.out.below hb)
  replace L1 := Aside.mk (L1.out.below hb)
  replace LW := Aside.mk (LW.out.below hb)
  replace LG := Aside.mk (LG.out.below hb)
  replace LH := Aside.mk (LH.out.below hb)
  replace HW := Aside.mk (owRow_below ow_reg HW.out hb)
  replace NW := Aside.mk (NW.out.mono hb.size)
  replace HH := Aside.mk (owRow_below ow_reg HH.out hb)
  replace NH := Aside.mk (NH.out.mono hb.size)
  replace HG := Aside.mk (rdRegs_mov hb HG.out)
  replace HB := Aside.mk (below_step HB.out hb)
  (try clear l0)
  (try clear q0)
  (try clear f0)
  (try clear l1)
  (try clear q1)
  (try clear f1)
  (try clear lW)
  (try clear qW)
  (try clear fW)
  (try clear lG)
  (try clear qG)
  (try clear fG)
  (try clear lH)
  (try clear qH)
  (try clear fH)
  have l0 := L0.out.cells
  have q0 := L0.out.lt
  have f0 := L0.out.free
  have l1 := L1.out.cells
  have q1 := L1.out.lt
  have f1 := L1.out.free
  have lW := LW.out.cells
  have qW := LW.out.lt
  have fW := LW.out.free
  have lG := LG.out.cells
  have qG := LG.out.lt
  have fG := LG.out.free
  have lH := LH.out.cells
  have qH := LH.out.lt
  have fH := LH.out.free
  clear hb
  go_wp2
  go_ret
  exact ⟨rfl, HB.out⟩
end Go.Proofs.Ytjfjpabfkembcaa.H
