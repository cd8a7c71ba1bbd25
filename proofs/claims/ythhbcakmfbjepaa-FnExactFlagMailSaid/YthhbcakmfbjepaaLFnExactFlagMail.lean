/- The walk of the statement on FlagMail. Printed by this session's gen_law.py. -/
import Derived.Test.YthhbcakmfbjepaaHLaw
import Derived.Test.YthhbcakmfbjepaaHFlagMail
import Derived.Deep.DeepCutAuto
namespace Go.Proofs.Ythhbcakmfbjepaa.H
open Go.RowKit
set_option linter.unusedVariables false
set_option linter.unusedSimpArgs false
set_option maxHeartbeats 20000000 in
set_option maxRecDepth 100000 in
theorem lawFnExactFlagMail (w : World) (mv gv : Value) (b : Box) (h : rdMails w mv b.ml) (hg : rdInts w gv b.go) (ht : tmBox b) (g : Int) (_ : (Lit.int .i64 g).wf = true) (f : Int) (_ : (Lit.int .i64 f).wf = true) (t y : Int) :
    Calls Try.prog 6 #[.agg #[.int .i64 b.g, .string b.nm, .int .i64 b.t, .int .i64 b.b, .int .i64 b.nx, mv, gv], .int .i64 g, .int .i64 f, .agg #[.int .i64 t, .int .i64 y]] w fun e w' => e = .returned (.bool true) ∧ Below w.heap.size w w' := by
  obtain ⟨rb, ok, HRR⟩ : ∃ rb ok, Aside (flagMail b g f t y = (rb, ok)) := ⟨_, _, ⟨rfl⟩⟩
  obtain ⟨Ap0, cp0, rfl, _, hm⟩ := rd_len h
  obtain ⟨Ap1, cp1, rfl, _, _⟩ := rd_len hg
  have HR := Aside.mk h
  have HG := Aside.mk hg
  have HT := Aside.mk ht
  clear h hg ht
  obtain ⟨wz, hwz⟩ : ∃ wz : World, wz.heap.size = w.heap.size + 2 := ⟨((w.alloc (.cells #[] 0)).alloc (.cells #[] 0)), by simp⟩
  have HZ := Aside.mk hwz
  clear hwz
  go_enter Try.func6, Try.ntmps6
  go_wp2_with (fail)
  refine (szBox_calls _ _ _ b _ (rdMails_mov (by (repeat (first | (with_reducible exact HB.out) | (with_reducible exact Below.refl _ _) | (with_reducible refine below_set ?_ (by first | omega | (dsimp only; omega) | (simp; done) | (simp; omega)) _) | (with_reducible refine below_alloc ?_ _) | (with_reducible refine below_drewN ?_ _) | (with_reducible refine below_drew ?_)))) HR.out) (rdInts_mov (by (repeat (first | (with_reducible exact HB.out) | (with_reducible exact Below.refl _ _) | (with_reducible refine below_set ?_ (by first | omega | (dsimp only; omega) | (simp; done) | (simp; omega)) _) | (with_reducible refine below_alloc ?_ _) | (with_reducible refine below_drewN ?_ _) | (with_reducible refine below_drew ?_)))) HG.out) HT.out (by decide) (by decide)).mono ?_
  rintro e w1 ⟨lf, rfl, hsz, hb⟩
  have L0 := Aside.mk (((Loc.new w #[.int .i64 b.g, .string b.nm, .int .i64 b.t, .int .i64 b.b, .int .i64 b.nx, .slice Ap0 b.ml.length cp0, .slice Ap1 b.go.length cp1] 50).alloc (.cells #[.int .i64 t, .int .i64 y] 47)).below hb)
  have L1 := Aside.mk ((Loc.new1 w (.cells #[.int .i64 b.g, .string b.nm, .int .i64 b.t, .int .i64 b.b, .int .i64 b.nx, .slice Ap0 b.ml.length cp0, .slice Ap1 b.go.length cp1] 50) #[.int .i64 t, .int .i64 y] 47).below hb)
  have HB := Aside.mk (below_step (w0 := w) (by (repeat (first | (with_reducible exact HB.out) | (with_reducible exact Below.refl _ _) | (with_reducible refine below_set ?_ (by first | omega | (dsimp only; omega) | (simp; done) | (simp; omega)) _) | (with_reducible refine below_alloc ?_ _) | (with_reducible refine below_drewN ?_ _) | (with_reducible refine below_drew ?_)))) hb)
  have HS1 : Aside (wz.heap.size ≤ w1.heap.size) := ⟨by have := hb.size; have := HZ.out; simp at *; omega⟩
  clear hb
  (try clear l0)
  (try clear q0)
  (try clear f0)
  (try clear l1)
  (try clear q1)
  (try clear f1)
  have l0 := L0.out.cells
  have q0 := L0.out.lt
  have f0 := L0.out.free
  have l1 := L1.out.cells
  have q1 := L1.out.lt
  have f1 := L1.out.free
  by_cases hneg : lf < 0
  · go_wp2
    go_ret
    exact ⟨rfl, HB.out⟩
  have HS := Aside.mk (sz_le hsz hneg)
  have HL := Aside.mk (smBox_of_sz HS.out)
  have HTX : Aside (txBox b) := ⟨tx_of_tm HT.out⟩
  have HCB := Aside.mk (cBox_of_sz HS.out)
  have HCR := Aside.mk (flagMail_small HRR.out HS.out)
  clear hsz
  have HWL : Aside (wz.heap.size ≤ w1.heap.size) := HS1
  go_wp2_with (fail)
  go_cut [10, 11] (fun v10 v11 wc => ∃ (B : Nat) (D : List Nat), v10 = .pointer (some ⟨B, 0, none⟩) ∧ v11 = .bool ok ∧ Aside (HasBox w1 wc B D rb) ∧ Aside (Loc wc w.heap.size #[.int .i64 b.g, .string b.nm, .int .i64 b.t, .int .i64 b.b, .int .i64 b.nx, .slice Ap0 b.ml.length cp0, .slice Ap1 b.go.length cp1] 50) ∧ Aside (Loc wc (w.heap.size + 1) #[.int .i64 t, .int .i64 y] 47) ∧ Aside (Below w.heap.size w wc))
  case first =>
    refine yBegin (S := (fun w' => Loc w' w.heap.size #[.int .i64 b.g, .string b.nm, .int .i64 b.t, .int .i64 b.b, .int .i64 b.nx, .slice Ap0 b.ml.length cp0, .slice Ap1 b.go.length cp1] 50 ∧ Loc w' (w.heap.size + 1) #[.int .i64 t, .int .i64 y] 47 ∧ Since w1 w')) (z := 11) (by kernel_rfl) (by exact ⟨L0.out.drew', L1.out.drew', below_drew (Below.refl _ _)⟩) (fun hHeld => ?_)
    refine yT 0 26 hHeld ?_
    refine yT 2 28 hHeld ?_
    refine yT 3 29 hHeld ?_
    refine yT 4 30 hHeld ?_
    refine yReady (rs := [1, 10]) (by kernel_rfl) (by simp) ?_
    refine yOne rfl (fun K hK => ?_) ?_
    go_simp
    refine (toBox_calls _ _ _ b (rdMails_mov (below_step HB.out (by exact hHeld.2.2.low)) HR.out) (rdInts_mov (below_step HB.out (by exact hHeld.2.2.low)) HG.out) HL.out).mono ?_
    rintro e wa ⟨mx, gx, Da, rfl, hoa, _, hb⟩
    obtain ⟨Aa0, ca0, Aa1, ca1, Da0, Da1, rfl, rfl, _, ha0, ha1⟩ := box_parts hoa
    have Ha0 := Aside.mk (owRow_rd ow_mail ha0)
    have Ha1 := Aside.mk (owRow_rd ow_int ha1)
    clear hoa ha0 ha1
    refine hK.out _ _ (by exact ⟨Loc.below hHeld.1 hb, Loc.below hHeld.2.1 hb, below_step hHeld.2.2.low hb⟩) (fun hHeld => ?_)
    clear hK K
    (try simp only [Act.put, List.setIfInBounds_toArray, List.set_cons_zero, List.set_cons_succ])
    have hba := hb
    clear hb
    refine yReady (rs := [5, 10]) (by kernel_rfl) (by simp) ?_
    refine yOne rfl (fun K hK => ?_) ?_
    go_simp
    refine (toStamp_calls _ t y).mono ?_
    rintro e wt ⟨rfl, hb⟩
    refine hK.out _ _ (by exact ⟨Loc.below hHeld.1 hb, Loc.below hHeld.2.1 hb, below_step hHeld.2.2.low hb⟩) (fun hHeld => ?_)
    clear hK K
    (try simp only [Act.put, List.setIfInBounds_toArray, List.set_cons_zero, List.set_cons_succ])
    have hbt := hb
    clear hb
    refine yReady (rs := [6, 10]) (by kernel_rfl) (by simp) ?_
    refine yOne rfl (fun K hK => ?_) ?_
    go_simp
    have hHp := hHeld.2.2.low
    refine (specFlagMail_calls _ _ _ b g f t y (rdMails_mov (by exact (below_step (Below.refl _ wa) hbt)) Ha0.out) (rdInts_mov (by exact (below_step (Below.refl _ wa) hbt)) Ha1.out) HL.out HTX.out).mono ?_
    rintro e ws ⟨ms, gs, Ds, he, ho, hn, hb⟩
    rw [HRR.out] at he ho
    dsimp only at he ho
    subst he
    obtain ⟨As0, cs0, As1, cs1, _, _, rfl, rfl, _, _, _⟩ := box_parts ho
    refine hK.out _ _ (by exact ⟨Loc.below hHeld.1 hb, Loc.below hHeld.2.1 hb, below_step hHeld.2.2.low hb⟩) (fun hHeld => ?_)
    clear hK K
    (try simp only [Act.put, List.setIfInBounds_toArray, List.set_cons_zero, List.set_cons_succ])
    have hbs := hb
    clear hb
    have hHs := hHeld
    refine yT 7 25 hHeld ?_
    refine yT 8 33 hHeld ?_
    refine yP 9 34 hHeld ?_
    refine yReady (rs := [10]) (by kernel_rfl) (by simp) ?_
    refine yOne rfl (fun K hK => ?_) yNil
    have hHa := hHeld
    go_simp
    refine hK.out _ _ (by exact ⟨Loc.alloc hHeld.1 _, Loc.alloc hHeld.2.1 _, below_alloc hHeld.2.2.low _⟩) (fun hHeld => ?_)
    clear hK K
    (try simp only [Act.put, List.setIfInBounds_toArray, List.set_cons_zero, List.set_cons_succ])
    clear hHa
    refine yReady (rs := [11]) (by kernel_rfl) (by simp) ?_
    refine yLast (Or.inl rfl) rfl (fun K hK => ?_) yNil
    go_simp
    refine hK.out _ _ ?_
    clear hK K
    (try simp only [Act.put, List.setIfInBounds_toArray, List.set_cons_zero, List.set_cons_succ])
    refine yReady (rs := [12]) (by kernel_rfl) (by simp) ?_
    refine yLast (Or.inr rfl) rfl (fun K hK => ?_) yNil
    go_simp
    refine hK.out _ _ ?_
    clear hK K
    (try simp only [Act.put, List.setIfInBounds_toArray, List.set_cons_zero, List.set_cons_succ])
    refine yDone (by kernel_rfl) ?_ _
    go_wp2
    go_meet
    case rel => exact ⟨_, _, rfl, rfl, ⟨HasBox.made ho (hn.from (by have := hHp.size; exact this)) (by have := hHs.2.2.low.size; exact this)⟩, ⟨Loc.alloc hHs.1 _⟩, ⟨Loc.alloc hHs.2.1 _⟩, ⟨below_step HB.out (below_alloc hHs.2.2.low _)⟩⟩
    refine yOne rfl (fun K hK => ?_) yNil
    have hHa := hHeld
    go_simp
    refine hK.out _ _ (by exact ⟨Loc.alloc hHeld.1 _, Loc.alloc hHeld.2.1 _, below_alloc hHeld.2.2.low _⟩) (fun hHeld => ?_)
    clear hK K
    (try simp only [Act.put, List.setIfInBounds_toArray, List.set_cons_zero, List.set_cons_succ])
    obtain ⟨BB, hBB⟩ : ∃ BB, BB = (wt).heap.size := ⟨_, rfl⟩
    have HBB : Aside (w1.heap.size ≤ BB ∧ BB < (wt).heap.size + 1) := ⟨by have : w1.heap.size ≤ (wt).heap.size := hHa.2.2.low.size; constructor <;> omega⟩
    have LB : Loc ((wt).alloc (.cells #[.int .i64 0, .string ⟨#[]⟩, .int .i64 0, .int .i64 0, .int .i64 0, .slice none 0 0, .slice none 0 0] 55)) BB #[.int .i64 0, .string ⟨#[]⟩, .int .i64 0, .int .i64 0, .int .i64 0, .slice none 0 0, .slice none 0 0] 55 := by rw [hBB]; exact Loc.new _ _ _
    try rw [← hBB]
    clear hBB
    clear hHa
    refine yReady (rs := [6]) (by kernel_rfl) (by simp) ?_
    refine yOne rfl (fun K hK => ?_) yNil
    go_simp
    have hHp := hHeld.2.2.low
    have hLBp := LB
    refine (specFlagMail_calls _ _ _ b g f t y (rdMails_mov (by exact (below_alloc (below_step (Below.refl _ wa) hbt) _)) Ha0.out) (rdInts_mov (by exact (below_alloc (below_step (Below.refl _ wa) hbt) _)) Ha1.out) HL.out HTX.out).mono ?_
    rintro e ws ⟨ms, gs, Ds, he, ho, hn, hb⟩
    rw [HRR.out] at he ho
    dsimp only at he ho
    subst he
    obtain ⟨As0, cs0, As1, cs1, _, _, rfl, rfl, _, _, _⟩ := box_parts ho
    refine hK.out _ _ (by exact ⟨Loc.below hHeld.1 hb, Loc.below hHeld.2.1 hb, below_step hHeld.2.2.low hb⟩) (fun hHeld => ?_)
    clear hK K
    (try simp only [Act.put, List.setIfInBounds_toArray, List.set_cons_zero, List.set_cons_succ])
    have hbs := hb
    clear hb
    have hHs := hHeld
    refine yT 7 25 hHeld ?_
    refine yT 8 33 hHeld ?_
    refine yP 9 34 hHeld ?_
    refine yReady (rs := [11]) (by kernel_rfl) (by simp) ?_
    refine yLast (Or.inl rfl) rfl (fun K hK => ?_) yNil
    have lB := ((Loc.below LB hbs)).cells
    have qB := ((Loc.below LB hbs)).lt
    have fB := ((Loc.below LB hbs)).free
    go_simp
    refine hK.out _ _ ?_
    clear hK K
    (try simp only [Act.put, List.setIfInBounds_toArray, List.set_cons_zero, List.set_cons_succ])
    refine yReady (rs := [12]) (by kernel_rfl) (by simp) ?_
    refine yLast (Or.inr rfl) rfl (fun K hK => ?_) yNil
    go_simp
    refine hK.out _ _ ?_
    clear hK K
    (try simp only [Act.put, List.setIfInBounds_toArray, List.set_cons_zero, List.set_cons_succ])
    refine yDone (by kernel_rfl) ?_ _
    go_wp2
    go_meet
    case rel => rw [sets7]; exact ⟨BB, _, rfl, rfl, ⟨HasBox.stored ho (hn.from (by have := hHp.size; exact this)) (Loc.below LB hbs) (fun hx => by have := (hn.2 _ hx).1; have := (hLBp).lt; omega) HBB.out.1⟩, ⟨Loc.sets (hHeld.1) (by have := HBB.out.1; have := L0.out.lt; omega) _⟩, ⟨Loc.sets (hHeld.2.1) (by have := HBB.out.1; have := L1.out.lt; omega) _⟩, ⟨below_step HB.out (below_sets hHeld.2.2.low (by exact HBB.out.1) _ _)⟩⟩
    refine yOne rfl (fun K hK => ?_) yNil
    have hHa := hHeld
    go_simp
    refine hK.out _ _ (by exact ⟨Loc.alloc hHeld.1 _, Loc.alloc hHeld.2.1 _, below_alloc hHeld.2.2.low _⟩) (fun hHeld => ?_)
    clear hK K
    (try simp only [Act.put, List.setIfInBounds_toArray, List.set_cons_zero, List.set_cons_succ])
    obtain ⟨BB, hBB⟩ : ∃ BB, BB = (wa).heap.size := ⟨_, rfl⟩
    have HBB : Aside (w1.heap.size ≤ BB ∧ BB < (wa).heap.size + 1) := ⟨by have : w1.heap.size ≤ (wa).heap.size := hHa.2.2.low.size; constructor <;> omega⟩
    have LB : Loc ((wa).alloc (.cells #[.int .i64 0, .string ⟨#[]⟩, .int .i64 0, .int .i64 0, .int .i64 0, .slice none 0 0, .slice none 0 0] 55)) BB #[.int .i64 0, .string ⟨#[]⟩, .int .i64 0, .int .i64 0, .int .i64 0, .slice none 0 0, .slice none 0 0] 55 := by rw [hBB]; exact Loc.new _ _ _
    try rw [← hBB]
    clear hBB
    clear hHa
    refine yReady (rs := [5]) (by kernel_rfl) (by simp) ?_
    refine yOne rfl (fun K hK => ?_) yNil
    go_simp
    refine (toStamp_calls _ t y).mono ?_
    rintro e wt ⟨rfl, hb⟩
    refine hK.out _ _ (by exact ⟨Loc.below hHeld.1 hb, Loc.below hHeld.2.1 hb, below_step hHeld.2.2.low hb⟩) (fun hHeld => ?_)
    clear hK K
    (try simp only [Act.put, List.setIfInBounds_toArray, List.set_cons_zero, List.set_cons_succ])
    have hbt := hb
    clear hb
    refine yReady (rs := [6]) (by kernel_rfl) (by simp) ?_
    refine yOne rfl (fun K hK => ?_) yNil
    go_simp
    have hHp := hHeld.2.2.low
    have hLBp := (Loc.below LB hbt)
    refine (specFlagMail_calls _ _ _ b g f t y (rdMails_mov (by exact (below_step (below_alloc (Below.refl _ wa) _) hbt)) Ha0.out) (rdInts_mov (by exact (below_step (below_alloc (Below.refl _ wa) _) hbt)) Ha1.out) HL.out HTX.out).mono ?_
    rintro e ws ⟨ms, gs, Ds, he, ho, hn, hb⟩
    rw [HRR.out] at he ho
    dsimp only at he ho
    subst he
    obtain ⟨As0, cs0, As1, cs1, _, _, rfl, rfl, _, _, _⟩ := box_parts ho
    refine hK.out _ _ (by exact ⟨Loc.below hHeld.1 hb, Loc.below hHeld.2.1 hb, below_step hHeld.2.2.low hb⟩) (fun hHeld => ?_)
    clear hK K
    (try simp only [Act.put, List.setIfInBounds_toArray, List.set_cons_zero, List.set_cons_succ])
    have hbs := hb
    clear hb
    have hHs := hHeld
    refine yT 7 25 hHeld ?_
    refine yT 8 33 hHeld ?_
    refine yP 9 34 hHeld ?_
    refine yReady (rs := [11]) (by kernel_rfl) (by simp) ?_
    refine yLast (Or.inl rfl) rfl (fun K hK => ?_) yNil
    have lB := ((Loc.below (Loc.below LB hbt) hbs)).cells
    have qB := ((Loc.below (Loc.below LB hbt) hbs)).lt
    have fB := ((Loc.below (Loc.below LB hbt) hbs)).free
    go_simp
    refine hK.out _ _ ?_
    clear hK K
    (try simp only [Act.put, List.setIfInBounds_toArray, List.set_cons_zero, List.set_cons_succ])
    refine yReady (rs := [12]) (by kernel_rfl) (by simp) ?_
    refine yLast (Or.inr rfl) rfl (fun K hK => ?_) yNil
    go_simp
    refine hK.out _ _ ?_
    clear hK K
    (try simp only [Act.put, List.setIfInBounds_toArray, List.set_cons_zero, List.set_cons_succ])
    refine yDone (by kernel_rfl) ?_ _
    go_wp2
    go_meet
    case rel => rw [sets7]; exact ⟨BB, _, rfl, rfl, ⟨HasBox.stored ho (hn.from (by have := hHp.size; exact this)) (Loc.below (Loc.below LB hbt) hbs) (fun hx => by have := (hn.2 _ hx).1; have := (hLBp).lt; omega) HBB.out.1⟩, ⟨Loc.sets (hHeld.1) (by have := HBB.out.1; have := L0.out.lt; omega) _⟩, ⟨Loc.sets (hHeld.2.1) (by have := HBB.out.1; have := L1.out.lt; omega) _⟩, ⟨below_step HB.out (below_sets hHeld.2.2.low (by exact HBB.out.1) _ _)⟩⟩
    refine yOne rfl (fun K hK => ?_) yNil
    have hHa := hHeld
    go_simp
    refine hK.out _ _ (by exact ⟨Loc.alloc hHeld.1 _, Loc.alloc hHeld.2.1 _, below_alloc hHeld.2.2.low _⟩) (fun hHeld => ?_)
    clear hK K
    (try simp only [Act.put, List.setIfInBounds_toArray, List.set_cons_zero, List.set_cons_succ])
    obtain ⟨BB, hBB⟩ : ∃ BB, BB = (w1).heap.size := ⟨_, rfl⟩
    have HBB : Aside (w1.heap.size ≤ BB ∧ BB < (w1).heap.size + 1) := ⟨by have : w1.heap.size ≤ (w1).heap.size := hHa.2.2.low.size; constructor <;> omega⟩
    have LB : Loc ((w1.drew).alloc (.cells #[.int .i64 0, .string ⟨#[]⟩, .int .i64 0, .int .i64 0, .int .i64 0, .slice none 0 0, .slice none 0 0] 55)) BB #[.int .i64 0, .string ⟨#[]⟩, .int .i64 0, .int .i64 0, .int .i64 0, .slice none 0 0, .slice none 0 0] 55 := by rw [hBB]; exact Loc.new _ _ _
    try rw [← hBB]
    clear hBB
    clear hHa
    refine yReady (rs := [1]) (by kernel_rfl) (by simp) ?_
    refine yOne rfl (fun K hK => ?_) yNil
    go_simp
    refine (toBox_calls _ _ _ b (rdMails_mov (below_step HB.out (by exact hHeld.2.2.low)) HR.out) (rdInts_mov (below_step HB.out (by exact hHeld.2.2.low)) HG.out) HL.out).mono ?_
    rintro e wa ⟨mx, gx, Da, rfl, hoa, _, hb⟩
    obtain ⟨Aa0, ca0, Aa1, ca1, Da0, Da1, rfl, rfl, _, ha0, ha1⟩ := box_parts hoa
    have Ha0 := Aside.mk (owRow_rd ow_mail ha0)
    have Ha1 := Aside.mk (owRow_rd ow_int ha1)
    clear hoa ha0 ha1
    refine hK.out _ _ (by exact ⟨Loc.below hHeld.1 hb, Loc.below hHeld.2.1 hb, below_step hHeld.2.2.low hb⟩) (fun hHeld => ?_)
    clear hK K
    (try simp only [Act.put, List.setIfInBounds_toArray, List.set_cons_zero, List.set_cons_succ])
    have hba := hb
    clear hb
    refine yReady (rs := [5]) (by kernel_rfl) (by simp) ?_
    refine yOne rfl (fun K hK => ?_) yNil
    go_simp
    refine (toStamp_calls _ t y).mono ?_
    rintro e wt ⟨rfl, hb⟩
    refine hK.out _ _ (by exact ⟨Loc.below hHeld.1 hb, Loc.below hHeld.2.1 hb, below_step hHeld.2.2.low hb⟩) (fun hHeld => ?_)
    clear hK K
    (try simp only [Act.put, List.setIfInBounds_toArray, List.set_cons_zero, List.set_cons_succ])
    have hbt := hb
    clear hb
    refine yReady (rs := [6]) (by kernel_rfl) (by simp) ?_
    refine yOne rfl (fun K hK => ?_) yNil
    go_simp
    have hHp := hHeld.2.2.low
    have hLBp := (Loc.below (Loc.below LB hba) hbt)
    refine (specFlagMail_calls _ _ _ b g f t y (rdMails_mov (by exact (below_step (Below.refl _ wa) hbt)) Ha0.out) (rdInts_mov (by exact (below_step (Below.refl _ wa) hbt)) Ha1.out) HL.out HTX.out).mono ?_
    rintro e ws ⟨ms, gs, Ds, he, ho, hn, hb⟩
    rw [HRR.out] at he ho
    dsimp only at he ho
    subst he
    obtain ⟨As0, cs0, As1, cs1, _, _, rfl, rfl, _, _, _⟩ := box_parts ho
    refine hK.out _ _ (by exact ⟨Loc.below hHeld.1 hb, Loc.below hHeld.2.1 hb, below_step hHeld.2.2.low hb⟩) (fun hHeld => ?_)
    clear hK K
    (try simp only [Act.put, List.setIfInBounds_toArray, List.set_cons_zero, List.set_cons_succ])
    have hbs := hb
    clear hb
    have hHs := hHeld
    refine yT 7 25 hHeld ?_
    refine yT 8 33 hHeld ?_
    refine yP 9 34 hHeld ?_
    refine yReady (rs := [11]) (by kernel_rfl) (by simp) ?_
    refine yLast (Or.inl rfl) rfl (fun K hK => ?_) yNil
    have lB := ((Loc.below (Loc.below (Loc.below LB hba) hbt) hbs)).cells
    have qB := ((Loc.below (Loc.below (Loc.below LB hba) hbt) hbs)).lt
    have fB := ((Loc.below (Loc.below (Loc.below LB hba) hbt) hbs)).free
    go_simp
    refine hK.out _ _ ?_
    clear hK K
    (try simp only [Act.put, List.setIfInBounds_toArray, List.set_cons_zero, List.set_cons_succ])
    refine yReady (rs := [12]) (by kernel_rfl) (by simp) ?_
    refine yLast (Or.inr rfl) rfl (fun K hK => ?_) yNil
    go_simp
    refine hK.out _ _ ?_
    clear hK K
    (try simp only [Act.put, List.setIfInBounds_toArray, List.set_cons_zero, List.set_cons_succ])
    refine yDone (by kernel_rfl) ?_ _
    go_wp2
    go_meet
    case rel => rw [sets7]; exact ⟨BB, _, rfl, rfl, ⟨HasBox.stored ho (hn.from (by have := hHp.size; exact this)) (Loc.below (Loc.below (Loc.below LB hba) hbt) hbs) (fun hx => by have := (hn.2 _ hx).1; have := (hLBp).lt; omega) HBB.out.1⟩, ⟨Loc.sets (hHeld.1) (by have := HBB.out.1; have := L0.out.lt; omega) _⟩, ⟨Loc.sets (hHeld.2.1) (by have := HBB.out.1; have := L1.out.lt; omega) _⟩, ⟨below_step HB.out (below_sets hHeld.2.2.low (by exact HBB.out.1) _ _)⟩⟩
  case rest =>
  obtain ⟨BW, DW, rfl, rfl, HHW, L0', L1', HB'⟩ := hcut
  clear L0 L1 HB l0 q0 f0 l1 q1 f1
  have L0 := L0'
  have L1 := L1'
  have HB := HB'
  clear L0' L1' HB'
  have HH2 := Aside.mk (HHW.out.from (w0 := wz) HWL.out)
  obtain ⟨AW0, cW0, AW1, cW1, DW0, DW1, rfl, hlW, hW0, hW1, hnW, hbW, hbW2⟩ := HH2.out
  have LW := Aside.mk (hlW)
  have HW0 := Aside.mk (hW0)
  have HW1 := Aside.mk (hW1)
  have NW := Aside.mk (hnW)
  have OW := Aside.mk (And.intro hbW hbW2)
  clear hlW hW0 hW1 hnW hbW hbW2 HHW HH2 HWL
  (try clear l0)
  (try clear q0)
  (try clear f0)
  (try clear l1)
  (try clear q1)
  (try clear f1)
  (try clear lW)
  (try clear qW)
  (try clear fW)
  have l0 := L0.out.cells
  have q0 := L0.out.lt
  have f0 := L0.out.free
  have l1 := L1.out.cells
  have q1 := L1.out.lt
  have f1 := L1.out.free
  have lW := LW.out.cells
  have qW := LW.out.lt
  have fW := LW.out.free
  try clear HWL
  have HWL : Aside (wz.heap.size ≤ wc.heap.size) := ⟨by have := NW.out; have := OW.out; have := LW.out.lt; omega⟩
  have HBLW : Aside (BW < wc.heap.size) := ⟨LW.out.lt⟩
  have HNLW : Aside (∀ b ∈ DW0 ++ DW1, b < wc.heap.size) := ⟨fun b hb => (NW.out.2 b hb).2⟩
  go_wp2_with (fail)
  refine (toBox_calls _ _ _ b (rdMails_mov HB.out HR.out) (rdInts_mov HB.out HG.out) HL.out).mono ?_
  rintro e wX ⟨mx, gx, D, rfl, ho, hn, hb⟩
  obtain ⟨AX0, cX0, AX1, cX1, DX0, DX1, rfl, rfl, rfl, hX0, hX1⟩ := box_parts ho
  have LLX := Aside.mk hb.size
  have ANX := Aside.mk hn
  replace L0 := Aside.mk (L0.out.below hb)
  replace L1 := Aside.mk (L1.out.below hb)
  replace LW := Aside.mk (LW.out.below hb)
  replace HW0 := Aside.mk (owRow_below ow_mail HW0.out hb)
  replace HW1 := Aside.mk (owRow_below ow_int HW1.out hb)
  replace NW := Aside.mk (NW.out.mono hb.size)
  replace HB := Aside.mk (below_step HB.out hb)
  (try clear l0)
  (try clear q0)
  (try clear f0)
  (try clear l1)
  (try clear q1)
  (try clear f1)
  (try clear lW)
  (try clear qW)
  (try clear fW)
  have l0 := L0.out.cells
  have q0 := L0.out.lt
  have f0 := L0.out.free
  have l1 := L1.out.cells
  have q1 := L1.out.lt
  have f1 := L1.out.free
  have lW := LW.out.cells
  have qW := LW.out.lt
  have fW := LW.out.free
  clear hb
  have APWX0 : Aside (BW ∉ DX0 ++ DX1 ∧ ∀ b ∈ DW0 ++ DW1, b ∉ DX0 ++ DX1) := ⟨fun hx => by have := (ANX.out.2 _ hx).1; have := HBLW.out; omega, fun b hb hx => by have := HNLW.out _ hb; have := (ANX.out.2 _ hx).1; omega⟩
  have HX0 := Aside.mk hX0
  have HX1 := Aside.mk hX1
  have NX : Aside (New wz wX (DX0 ++ DX1)) := ⟨ANX.out.from (by have := HWL.out; omega)⟩
  clear ho hn hX0 hX1
  go_wp2_with (fail)
  replace L0 := Aside.mk (L0.out.alloc (.cells #[.int .i64 b.g, .string b.nm, .int .i64 b.t, .int .i64 b.b, .int .i64 b.nx, .slice AX0 b.ml.length cX0, .slice AX1 b.go.length cX1] 55))
  replace L1 := Aside.mk (L1.out.alloc (.cells #[.int .i64 b.g, .string b.nm, .int .i64 b.t, .int .i64 b.b, .int .i64 b.nx, .slice AX0 b.ml.length cX0, .slice AX1 b.go.length cX1] 55))
  replace LW := Aside.mk (LW.out.alloc (.cells #[.int .i64 b.g, .string b.nm, .int .i64 b.t, .int .i64 b.b, .int .i64 b.nx, .slice AX0 b.ml.length cX0, .slice AX1 b.go.length cX1] 55))
  replace HW0 := Aside.mk (owRow_alloc ow_mail HW0.out (.cells #[.int .i64 b.g, .string b.nm, .int .i64 b.t, .int .i64 b.b, .int .i64 b.nx, .slice AX0 b.ml.length cX0, .slice AX1 b.go.length cX1] 55))
  replace HW1 := Aside.mk (owRow_alloc ow_int HW1.out (.cells #[.int .i64 b.g, .string b.nm, .int .i64 b.t, .int .i64 b.b, .int .i64 b.nx, .slice AX0 b.ml.length cX0, .slice AX1 b.go.length cX1] 55))
  replace NW := Aside.mk (NW.out.alloc (.cells #[.int .i64 b.g, .string b.nm, .int .i64 b.t, .int .i64 b.b, .int .i64 b.nx, .slice AX0 b.ml.length cX0, .slice AX1 b.go.length cX1] 55))
  replace HX0 := Aside.mk (owRow_alloc ow_mail HX0.out (.cells #[.int .i64 b.g, .string b.nm, .int .i64 b.t, .int .i64 b.b, .int .i64 b.nx, .slice AX0 b.ml.length cX0, .slice AX1 b.go.length cX1] 55))
  replace HX1 := Aside.mk (owRow_alloc ow_int HX1.out (.cells #[.int .i64 b.g, .string b.nm, .int .i64 b.t, .int .i64 b.b, .int .i64 b.nx, .slice AX0 b.ml.length cX0, .slice AX1 b.go.length cX1] 55))
  replace NX := Aside.mk (NX.out.alloc (.cells #[.int .i64 b.g, .string b.nm, .int .i64 b.t, .int .i64 b.b, .int .i64 b.nx, .slice AX0 b.ml.length cX0, .slice AX1 b.go.length cX1] 55))
  have LX := Aside.mk (Loc.new wX #[.int .i64 b.g, .string b.nm, .int .i64 b.t, .int .i64 b.b, .int .i64 b.nx, .slice AX0 b.ml.length cX0, .slice AX1 b.go.length cX1] 55)
  replace HB := Aside.mk (below_alloc HB.out (.cells #[.int .i64 b.g, .string b.nm, .int .i64 b.t, .int .i64 b.b, .int .i64 b.nx, .slice AX0 b.ml.length cX0, .slice AX1 b.go.length cX1] 55))
  have HWL2 : Aside (wz.heap.size ≤ (wX.alloc (.cells #[.int .i64 b.g, .string b.nm, .int .i64 b.t, .int .i64 b.b, .int .i64 b.nx, .slice AX0 b.ml.length cX0, .slice AX1 b.go.length cX1] 55)).heap.size) := ⟨by have := HWL.out; have := ANX.out; have := LLX.out; simp; omega⟩
  have HUX : Aside (∀ b, b < wc.heap.size → b < wX.heap.size) := ⟨fun b hb => by have := LLX.out; omega⟩
  obtain ⟨BX, hBX⟩ : ∃ BX, BX = wX.heap.size := ⟨_, rfl⟩
  have OX : Aside (BX ∉ DX0 ++ DX1 ∧ wz.heap.size ≤ BX) := ⟨fun hx => by have := (NX.out.2 _ hx).2; have := (ANX.out.2 _ hx).2; omega, by have := HWL.out; have := LLX.out; omega⟩
  have APWX : Aside (BW ∉ DX0 ++ DX1 ∧ BX ∉ DW0 ++ DW1 ∧ ∀ b ∈ DW0 ++ DW1, b ∉ DX0 ++ DX1) := ⟨APWX0.out.1, fun hx => by have := HNLW.out _ hx; have := HUX.out _ this; omega, APWX0.out.2⟩
  clear APWX0
  rw [← hBX] at LX
  obtain ⟨vX, hvX⟩ : ∃ vX, vX = wX.alloc (.cells #[.int .i64 b.g, .string b.nm, .int .i64 b.t, .int .i64 b.b, .int .i64 b.nx, .slice AX0 b.ml.length cX0, .slice AX1 b.go.length cX1] 55) := ⟨_, rfl⟩
  rw [← hvX] at L0 L1 LW LX HW0 HW1 HX0 HX1 NW NX HB HWL2
  try rw [← hBX]
  try rw [← hvX]
  clear hBX hvX HWL HUX ANX LLX
  have HWL := HWL2
  clear HWL2
  (try clear l0)
  (try clear q0)
  (try clear f0)
  (try clear l1)
  (try clear q1)
  (try clear f1)
  (try clear lW)
  (try clear qW)
  (try clear fW)
  (try clear lX)
  (try clear qX)
  (try clear fX)
  have l0 := L0.out.cells
  have q0 := L0.out.lt
  have f0 := L0.out.free
  have l1 := L1.out.cells
  have q1 := L1.out.lt
  have f1 := L1.out.free
  have lW := LW.out.cells
  have qW := LW.out.lt
  have fW := LW.out.free
  have lX := LX.out.cells
  have qX := LX.out.lt
  have fX := LX.out.free
  clear HBLW HNLW
  have HBLW : Aside (BW < vX.heap.size) := ⟨LW.out.lt⟩
  have HNLW : Aside (∀ b ∈ DW0 ++ DW1, b < vX.heap.size) := ⟨fun b hb => (NW.out.2 b hb).2⟩
  have HBLX : Aside (BX < vX.heap.size) := ⟨LX.out.lt⟩
  have HNLX : Aside (∀ b ∈ DX0 ++ DX1, b < vX.heap.size) := ⟨fun b hb => (NX.out.2 b hb).2⟩
  go_wp2_with (fail)
  go_cut [13, 14] (fun v13 v14 wc => ∃ (B : Nat) (D : List Nat), v13 = .pointer (some ⟨B, 0, none⟩) ∧ v14 = .bool ok ∧ Aside (HasBox vX wc B D rb) ∧ Aside (Loc wc w.heap.size #[.int .i64 b.g, .string b.nm, .int .i64 b.t, .int .i64 b.b, .int .i64 b.nx, .slice Ap0 b.ml.length cp0, .slice Ap1 b.go.length cp1] 50) ∧ Aside (Loc wc (w.heap.size + 1) #[.int .i64 t, .int .i64 y] 47) ∧ Aside (Loc wc BW #[.int .i64 rb.g, .string rb.nm, .int .i64 rb.t, .int .i64 rb.b, .int .i64 rb.nx, .slice AW0 rb.ml.length cW0, .slice AW1 rb.go.length cW1] 55) ∧ Aside (Loc wc BX #[.int .i64 b.g, .string b.nm, .int .i64 b.t, .int .i64 b.b, .int .i64 b.nx, .slice AX0 b.ml.length cX0, .slice AX1 b.go.length cX1] 55) ∧ Aside (owMails wc DW0 (.slice AW0 rb.ml.length cW0) rb.ml) ∧ Aside (owInts wc DW1 (.slice AW1 rb.go.length cW1) rb.go) ∧ Aside (New wz wc (DW0 ++ DW1)) ∧ Aside (owMails wc DX0 (.slice AX0 b.ml.length cX0) b.ml) ∧ Aside (owInts wc DX1 (.slice AX1 b.go.length cX1) b.go) ∧ Aside (New wz wc (DX0 ++ DX1)) ∧ Aside (Below w.heap.size w wc))
  case first =>
    refine yBegin (S := (fun w' => Loc w' w.heap.size #[.int .i64 b.g, .string b.nm, .int .i64 b.t, .int .i64 b.b, .int .i64 b.nx, .slice Ap0 b.ml.length cp0, .slice Ap1 b.go.length cp1] 50 ∧ Loc w' (w.heap.size + 1) #[.int .i64 t, .int .i64 y] 47 ∧ Loc w' BW #[.int .i64 rb.g, .string rb.nm, .int .i64 rb.t, .int .i64 rb.b, .int .i64 rb.nx, .slice AW0 rb.ml.length cW0, .slice AW1 rb.go.length cW1] 55 ∧ Loc w' BX #[.int .i64 b.g, .string b.nm, .int .i64 b.t, .int .i64 b.b, .int .i64 b.nx, .slice AX0 b.ml.length cX0, .slice AX1 b.go.length cX1] 55 ∧ Since vX w')) (z := 10) (by kernel_rfl) (by exact ⟨L0.out.drew', L1.out.drew', LW.out.drew', LX.out.drew', below_drew (Below.refl _ _)⟩) (fun hHeld => ?_)
    refine yT 0 38 hHeld ?_
    refine yT 1 39 hHeld ?_
    refine yT 2 40 hHeld ?_
    refine yT 3 41 hHeld ?_
    refine yReady (rs := [4, 9]) (by kernel_rfl) (by simp) ?_
    refine yOne rfl (fun K hK => ?_) ?_
    go_simp
    refine (toStamp_calls _ t y).mono ?_
    rintro e wt ⟨rfl, hb⟩
    refine hK.out _ _ (by exact ⟨Loc.below hHeld.1 hb, Loc.below hHeld.2.1 hb, Loc.below hHeld.2.2.1 hb, Loc.below hHeld.2.2.2.1 hb, below_step hHeld.2.2.2.2.low hb⟩) (fun hHeld => ?_)
    clear hK K
    (try simp only [Act.put, List.setIfInBounds_toArray, List.set_cons_zero, List.set_cons_succ])
    have hbt := hb
    clear hb
    refine yReady (rs := [5, 9]) (by kernel_rfl) (by simp) ?_
    refine yOne rfl (fun K hK => ?_) ?_
    go_simp
    have hHp := hHeld.2.2.2.2.low
    refine (flagMail_calls _ _ _ b g f t y (owRow_rd ow_mail (owRow_below ow_mail HX0.out hHeld.2.2.2.2.low)) (owRow_rd ow_int (owRow_below ow_int HX1.out hHeld.2.2.2.2.low)) HL.out HTX.out).mono ?_
    rintro e ws ⟨ms, gs, Ds, he, ho, hn, hb⟩
    rw [HRR.out] at he ho
    dsimp only at he ho
    subst he
    obtain ⟨As0, cs0, As1, cs1, _, _, rfl, rfl, _, _, _⟩ := box_parts ho
    refine hK.out _ _ (by exact ⟨Loc.below hHeld.1 hb, Loc.below hHeld.2.1 hb, Loc.below hHeld.2.2.1 hb, Loc.below hHeld.2.2.2.1 hb, below_step hHeld.2.2.2.2.low hb⟩) (fun hHeld => ?_)
    clear hK K
    (try simp only [Act.put, List.setIfInBounds_toArray, List.set_cons_zero, List.set_cons_succ])
    have hbs := hb
    clear hb
    have hHs := hHeld
    refine yT 6 37 hHeld ?_
    refine yT 7 44 hHeld ?_
    refine yP 8 45 hHeld ?_
    refine yReady (rs := [9]) (by kernel_rfl) (by simp) ?_
    refine yOne rfl (fun K hK => ?_) yNil
    have hHa := hHeld
    go_simp
    refine hK.out _ _ (by exact ⟨Loc.alloc hHeld.1 _, Loc.alloc hHeld.2.1 _, Loc.alloc hHeld.2.2.1 _, Loc.alloc hHeld.2.2.2.1 _, below_alloc hHeld.2.2.2.2.low _⟩) (fun hHeld => ?_)
    clear hK K
    (try simp only [Act.put, List.setIfInBounds_toArray, List.set_cons_zero, List.set_cons_succ])
    clear hHa
    refine yReady (rs := [10]) (by kernel_rfl) (by simp) ?_
    refine yLast (Or.inl rfl) rfl (fun K hK => ?_) yNil
    go_simp
    refine hK.out _ _ ?_
    clear hK K
    (try simp only [Act.put, List.setIfInBounds_toArray, List.set_cons_zero, List.set_cons_succ])
    refine yReady (rs := [11]) (by kernel_rfl) (by simp) ?_
    refine yLast (Or.inr rfl) rfl (fun K hK => ?_) yNil
    go_simp
    refine hK.out _ _ ?_
    clear hK K
    (try simp only [Act.put, List.setIfInBounds_toArray, List.set_cons_zero, List.set_cons_succ])
    refine yDone (by kernel_rfl) ?_ _
    go_wp2
    go_meet
    case rel => exact ⟨_, _, rfl, rfl, ⟨HasBox.made ho (hn.from (by have := hHp.size; exact this)) (by have := hHs.2.2.2.2.low.size; exact this)⟩, ⟨Loc.alloc hHs.1 _⟩, ⟨Loc.alloc hHs.2.1 _⟩, ⟨Loc.alloc hHs.2.2.1 _⟩, ⟨Loc.alloc hHs.2.2.2.1 _⟩, ⟨owRow_below ow_mail HW0.out (below_alloc hHs.2.2.2.2.low _)⟩, ⟨owRow_below ow_int HW1.out (below_alloc hHs.2.2.2.2.low _)⟩, ⟨NW.out.mono ((below_alloc hHs.2.2.2.2.low _)).size⟩, ⟨owRow_below ow_mail HX0.out (below_alloc hHs.2.2.2.2.low _)⟩, ⟨owRow_below ow_int HX1.out (below_alloc hHs.2.2.2.2.low _)⟩, ⟨NX.out.mono ((below_alloc hHs.2.2.2.2.low _)).size⟩, ⟨below_step HB.out (below_alloc hHs.2.2.2.2.low _)⟩⟩
    refine yOne rfl (fun K hK => ?_) yNil
    have hHa := hHeld
    go_simp
    refine hK.out _ _ (by exact ⟨Loc.alloc hHeld.1 _, Loc.alloc hHeld.2.1 _, Loc.alloc hHeld.2.2.1 _, Loc.alloc hHeld.2.2.2.1 _, below_alloc hHeld.2.2.2.2.low _⟩) (fun hHeld => ?_)
    clear hK K
    (try simp only [Act.put, List.setIfInBounds_toArray, List.set_cons_zero, List.set_cons_succ])
    obtain ⟨BB, hBB⟩ : ∃ BB, BB = (wt).heap.size := ⟨_, rfl⟩
    have HBB : Aside (vX.heap.size ≤ BB ∧ BB < (wt).heap.size + 1) := ⟨by have : vX.heap.size ≤ (wt).heap.size := hHa.2.2.2.2.low.size; constructor <;> omega⟩
    have LB : Loc ((wt).alloc (.cells #[.int .i64 0, .string ⟨#[]⟩, .int .i64 0, .int .i64 0, .int .i64 0, .slice none 0 0, .slice none 0 0] 55)) BB #[.int .i64 0, .string ⟨#[]⟩, .int .i64 0, .int .i64 0, .int .i64 0, .slice none 0 0, .slice none 0 0] 55 := by rw [hBB]; exact Loc.new _ _ _
    try rw [← hBB]
    clear hBB
    clear hHa
    refine yReady (rs := [5]) (by kernel_rfl) (by simp) ?_
    refine yOne rfl (fun K hK => ?_) yNil
    go_simp
    have hHp := hHeld.2.2.2.2.low
    have hLBp := LB
    refine (flagMail_calls _ _ _ b g f t y (owRow_rd ow_mail (owRow_below ow_mail HX0.out hHeld.2.2.2.2.low)) (owRow_rd ow_int (owRow_below ow_int HX1.out hHeld.2.2.2.2.low)) HL.out HTX.out).mono ?_
    rintro e ws ⟨ms, gs, Ds, he, ho, hn, hb⟩
    rw [HRR.out] at he ho
    dsimp only at he ho
    subst he
    obtain ⟨As0, cs0, As1, cs1, _, _, rfl, rfl, _, _, _⟩ := box_parts ho
    refine hK.out _ _ (by exact ⟨Loc.below hHeld.1 hb, Loc.below hHeld.2.1 hb, Loc.below hHeld.2.2.1 hb, Loc.below hHeld.2.2.2.1 hb, below_step hHeld.2.2.2.2.low hb⟩) (fun hHeld => ?_)
    clear hK K
    (try simp only [Act.put, List.setIfInBounds_toArray, List.set_cons_zero, List.set_cons_succ])
    have hbs := hb
    clear hb
    have hHs := hHeld
    refine yT 6 37 hHeld ?_
    refine yT 7 44 hHeld ?_
    refine yP 8 45 hHeld ?_
    refine yReady (rs := [10]) (by kernel_rfl) (by simp) ?_
    refine yLast (Or.inl rfl) rfl (fun K hK => ?_) yNil
    have lB := ((Loc.below LB hbs)).cells
    have qB := ((Loc.below LB hbs)).lt
    have fB := ((Loc.below LB hbs)).free
    go_simp
    refine hK.out _ _ ?_
    clear hK K
    (try simp only [Act.put, List.setIfInBounds_toArray, List.set_cons_zero, List.set_cons_succ])
    refine yReady (rs := [11]) (by kernel_rfl) (by simp) ?_
    refine yLast (Or.inr rfl) rfl (fun K hK => ?_) yNil
    go_simp
    refine hK.out _ _ ?_
    clear hK K
    (try simp only [Act.put, List.setIfInBounds_toArray, List.set_cons_zero, List.set_cons_succ])
    refine yDone (by kernel_rfl) ?_ _
    go_wp2
    go_meet
    case rel => rw [sets7]; exact ⟨BB, _, rfl, rfl, ⟨HasBox.stored ho (hn.from (by have := hHp.size; exact this)) (Loc.below LB hbs) (fun hx => by have := (hn.2 _ hx).1; have := (hLBp).lt; omega) HBB.out.1⟩, ⟨Loc.sets (hHeld.1) (by have := HBB.out.1; have := L0.out.lt; omega) _⟩, ⟨Loc.sets (hHeld.2.1) (by have := HBB.out.1; have := L1.out.lt; omega) _⟩, ⟨Loc.sets (hHeld.2.2.1) (by have := HBB.out.1; have := LW.out.lt; omega) _⟩, ⟨Loc.sets (hHeld.2.2.2.1) (by have := HBB.out.1; have := LX.out.lt; omega) _⟩, ⟨owRow_below ow_mail HW0.out (below_sets hHeld.2.2.2.2.low (by exact HBB.out.1) _ _)⟩, ⟨owRow_below ow_int HW1.out (below_sets hHeld.2.2.2.2.low (by exact HBB.out.1) _ _)⟩, ⟨NW.out.mono ((below_sets hHeld.2.2.2.2.low (by exact HBB.out.1) _ _)).size⟩, ⟨owRow_below ow_mail HX0.out (below_sets hHeld.2.2.2.2.low (by exact HBB.out.1) _ _)⟩, ⟨owRow_below ow_int HX1.out (below_sets hHeld.2.2.2.2.low (by exact HBB.out.1) _ _)⟩, ⟨NX.out.mono ((below_sets hHeld.2.2.2.2.low (by exact HBB.out.1) _ _)).size⟩, ⟨below_step HB.out (below_sets hHeld.2.2.2.2.low (by exact HBB.out.1) _ _)⟩⟩
    refine yOne rfl (fun K hK => ?_) yNil
    have hHa := hHeld
    go_simp
    refine hK.out _ _ (by exact ⟨Loc.alloc hHeld.1 _, Loc.alloc hHeld.2.1 _, Loc.alloc hHeld.2.2.1 _, Loc.alloc hHeld.2.2.2.1 _, below_alloc hHeld.2.2.2.2.low _⟩) (fun hHeld => ?_)
    clear hK K
    (try simp only [Act.put, List.setIfInBounds_toArray, List.set_cons_zero, List.set_cons_succ])
    obtain ⟨BB, hBB⟩ : ∃ BB, BB = (vX).heap.size := ⟨_, rfl⟩
    have HBB : Aside (vX.heap.size ≤ BB ∧ BB < (vX).heap.size + 1) := ⟨by have : vX.heap.size ≤ (vX).heap.size := hHa.2.2.2.2.low.size; constructor <;> omega⟩
    have LB : Loc ((vX.drew).alloc (.cells #[.int .i64 0, .string ⟨#[]⟩, .int .i64 0, .int .i64 0, .int .i64 0, .slice none 0 0, .slice none 0 0] 55)) BB #[.int .i64 0, .string ⟨#[]⟩, .int .i64 0, .int .i64 0, .int .i64 0, .slice none 0 0, .slice none 0 0] 55 := by rw [hBB]; exact Loc.new _ _ _
    try rw [← hBB]
    clear hBB
    clear hHa
    refine yReady (rs := [4]) (by kernel_rfl) (by simp) ?_
    refine yOne rfl (fun K hK => ?_) yNil
    go_simp
    refine (toStamp_calls _ t y).mono ?_
    rintro e wt ⟨rfl, hb⟩
    refine hK.out _ _ (by exact ⟨Loc.below hHeld.1 hb, Loc.below hHeld.2.1 hb, Loc.below hHeld.2.2.1 hb, Loc.below hHeld.2.2.2.1 hb, below_step hHeld.2.2.2.2.low hb⟩) (fun hHeld => ?_)
    clear hK K
    (try simp only [Act.put, List.setIfInBounds_toArray, List.set_cons_zero, List.set_cons_succ])
    have hbt := hb
    clear hb
    refine yReady (rs := [5]) (by kernel_rfl) (by simp) ?_
    refine yOne rfl (fun K hK => ?_) yNil
    go_simp
    have hHp := hHeld.2.2.2.2.low
    have hLBp := (Loc.below LB hbt)
    refine (flagMail_calls _ _ _ b g f t y (owRow_rd ow_mail (owRow_below ow_mail HX0.out hHeld.2.2.2.2.low)) (owRow_rd ow_int (owRow_below ow_int HX1.out hHeld.2.2.2.2.low)) HL.out HTX.out).mono ?_
    rintro e ws ⟨ms, gs, Ds, he, ho, hn, hb⟩
    rw [HRR.out] at he ho
    dsimp only at he ho
    subst he
    obtain ⟨As0, cs0, As1, cs1, _, _, rfl, rfl, _, _, _⟩ := box_parts ho
    refine hK.out _ _ (by exact ⟨Loc.below hHeld.1 hb, Loc.below hHeld.2.1 hb, Loc.below hHeld.2.2.1 hb, Loc.below hHeld.2.2.2.1 hb, below_step hHeld.2.2.2.2.low hb⟩) (fun hHeld => ?_)
    clear hK K
    (try simp only [Act.put, List.setIfInBounds_toArray, List.set_cons_zero, List.set_cons_succ])
    have hbs := hb
    clear hb
    have hHs := hHeld
    refine yT 6 37 hHeld ?_
    refine yT 7 44 hHeld ?_
    refine yP 8 45 hHeld ?_
    refine yReady (rs := [10]) (by kernel_rfl) (by simp) ?_
    refine yLast (Or.inl rfl) rfl (fun K hK => ?_) yNil
    have lB := ((Loc.below (Loc.below LB hbt) hbs)).cells
    have qB := ((Loc.below (Loc.below LB hbt) hbs)).lt
    have fB := ((Loc.below (Loc.below LB hbt) hbs)).free
    go_simp
    refine hK.out _ _ ?_
    clear hK K
    (try simp only [Act.put, List.setIfInBounds_toArray, List.set_cons_zero, List.set_cons_succ])
    refine yReady (rs := [11]) (by kernel_rfl) (by simp) ?_
    refine yLast (Or.inr rfl) rfl (fun K hK => ?_) yNil
    go_simp
    refine hK.out _ _ ?_
    clear hK K
    (try simp only [Act.put, List.setIfInBounds_toArray, List.set_cons_zero, List.set_cons_succ])
    refine yDone (by kernel_rfl) ?_ _
    go_wp2
    go_meet
    case rel => rw [sets7]; exact ⟨BB, _, rfl, rfl, ⟨HasBox.stored ho (hn.from (by have := hHp.size; exact this)) (Loc.below (Loc.below LB hbt) hbs) (fun hx => by have := (hn.2 _ hx).1; have := (hLBp).lt; omega) HBB.out.1⟩, ⟨Loc.sets (hHeld.1) (by have := HBB.out.1; have := L0.out.lt; omega) _⟩, ⟨Loc.sets (hHeld.2.1) (by have := HBB.out.1; have := L1.out.lt; omega) _⟩, ⟨Loc.sets (hHeld.2.2.1) (by have := HBB.out.1; have := LW.out.lt; omega) _⟩, ⟨Loc.sets (hHeld.2.2.2.1) (by have := HBB.out.1; have := LX.out.lt; omega) _⟩, ⟨owRow_below ow_mail HW0.out (below_sets hHeld.2.2.2.2.low (by exact HBB.out.1) _ _)⟩, ⟨owRow_below ow_int HW1.out (below_sets hHeld.2.2.2.2.low (by exact HBB.out.1) _ _)⟩, ⟨NW.out.mono ((below_sets hHeld.2.2.2.2.low (by exact HBB.out.1) _ _)).size⟩, ⟨owRow_below ow_mail HX0.out (below_sets hHeld.2.2.2.2.low (by exact HBB.out.1) _ _)⟩, ⟨owRow_below ow_int HX1.out (below_sets hHeld.2.2.2.2.low (by exact HBB.out.1) _ _)⟩, ⟨NX.out.mono ((below_sets hHeld.2.2.2.2.low (by exact HBB.out.1) _ _)).size⟩, ⟨below_step HB.out (below_sets hHeld.2.2.2.2.low (by exact HBB.out.1) _ _)⟩⟩
  case rest =>
  obtain ⟨BG, DG, rfl, rfl, HHG, L0', L1', LW', LX', HW0', HW1', NW', HX0', HX1', NX', HB'⟩ := hcut
  clear L0 L1 LW LX HW0 HW1 HX0 HX1 NW NX HB l0 q0 f0 l1 q1 f1 lW qW fW lX qX fX
  have L0 := L0'
  have L1 := L1'
  have LW := LW'
  have LX := LX'
  have HW0 := HW0'
  have HW1 := HW1'
  have HX0 := HX0'
  have HX1 := HX1'
  have NW := NW'
  have NX := NX'
  have HB := HB'
  clear L0' L1' LW' LX' HW0' HW1' HX0' HX1' NW' NX' HB'
  have APWG : Aside (BW ∉ DG ∧ BG ∉ DW0 ++ DW1 ∧ ∀ b ∈ DW0 ++ DW1, b ∉ DG) := ⟨fun hx => by have := (HHG.out.new.2 _ hx).1; have := HBLW.out; omega, fun hx => by have := HNLW.out _ hx; have := HHG.out.off.2; omega, fun b hb hx => by have := HNLW.out _ hb; have := (HHG.out.new.2 _ hx).1; omega⟩
  have APXG : Aside (BX ∉ DG ∧ BG ∉ DX0 ++ DX1 ∧ ∀ b ∈ DX0 ++ DX1, b ∉ DG) := ⟨fun hx => by have := (HHG.out.new.2 _ hx).1; have := HBLX.out; omega, fun hx => by have := HNLX.out _ hx; have := HHG.out.off.2; omega, fun b hb hx => by have := HNLX.out _ hb; have := (HHG.out.new.2 _ hx).1; omega⟩
  have HH2 := Aside.mk (HHG.out.from (w0 := wz) HWL.out)
  obtain ⟨AG0, cG0, AG1, cG1, DG0, DG1, rfl, hlG, hG0, hG1, hnG, hbG, hbG2⟩ := HH2.out
  have LG := Aside.mk (hlG)
  have HG0 := Aside.mk (hG0)
  have HG1 := Aside.mk (hG1)
  have NG := Aside.mk (hnG)
  have OG := Aside.mk (And.intro hbG hbG2)
  clear hlG hG0 hG1 hnG hbG hbG2 HHG HH2 HWL
  (try clear l0)
  (try clear q0)
  (try clear f0)
  (try clear l1)
  (try clear q1)
  (try clear f1)
  (try clear lW)
  (try clear qW)
  (try clear fW)
  (try clear lX)
  (try clear qX)
  (try clear fX)
  (try clear lG)
  (try clear qG)
  (try clear fG)
  have l0 := L0.out.cells
  have q0 := L0.out.lt
  have f0 := L0.out.free
  have l1 := L1.out.cells
  have q1 := L1.out.lt
  have f1 := L1.out.free
  have lW := LW.out.cells
  have qW := LW.out.lt
  have fW := LW.out.free
  have lX := LX.out.cells
  have qX := LX.out.lt
  have fX := LX.out.free
  have lG := LG.out.cells
  have qG := LG.out.lt
  have fG := LG.out.free
  clear HBLW HNLW HBLX HNLX
  try clear HWL
  go_wp2_with (fail)
  refine (eqBox_calls _ _ _ _ _ rb (owRow_rd ow_mail HG0.out) (owRow_rd ow_int HG1.out) (owRow_rd ow_mail HW0.out) (owRow_rd ow_int HW1.out)).mono ?_
  rintro e w6 ⟨rfl, hb⟩
  replace L0 := Aside.mk (L0.out.below hb)
  replace L1 := Aside.mk (L1.out.below hb)
  replace LW := Aside.mk (LW.out.below hb)
  replace LX := Aside.mk (LX.out.below hb)
  replace LG := Aside.mk (LG.out.below hb)
  replace HW0 := Aside.mk (owRow_below ow_mail HW0.out hb)
  replace HW1 := Aside.mk (owRow_below ow_int HW1.out hb)
  replace NW := Aside.mk (NW.out.mono hb.size)
  replace HX0 := Aside.mk (owRow_below ow_mail HX0.out hb)
  replace HX1 := Aside.mk (owRow_below ow_int HX1.out hb)
  replace NX := Aside.mk (NX.out.mono hb.size)
  replace HG0 := Aside.mk (owRow_below ow_mail HG0.out hb)
  replace HG1 := Aside.mk (owRow_below ow_int HG1.out hb)
  replace NG := Aside.mk (NG.out.mono hb.size)
  replace HB := Aside.mk (below_step HB.out hb)
  (try clear l0)
  (try clear q0)
  (try clear f0)
  (try clear l1)
  (try clear q1)
  (try clear f1)
  (try clear lW)
  (try clear qW)
  (try clear fW)
  (try clear lX)
  (try clear qX)
  (try clear fX)
  (try clear lG)
  (try clear qG)
  (try clear fG)
  have l0 := L0.out.cells
  have q0 := L0.out.lt
  have f0 := L0.out.free
  have l1 := L1.out.cells
  have q1 := L1.out.lt
  have f1 := L1.out.free
  have lW := LW.out.cells
  have qW := LW.out.lt
  have fW := LW.out.free
  have lX := LX.out.cells
  have qX := LX.out.lt
  have fX := LX.out.free
  have lG := LG.out.cells
  have qG := LG.out.lt
  have fG := LG.out.free
  clear hb
  go_wp2_with (fail)
  refine zBegin (S := (fun w' => Loc w' w.heap.size #[.int .i64 b.g, .string b.nm, .int .i64 b.t, .int .i64 b.b, .int .i64 b.nx, .slice Ap0 b.ml.length cp0, .slice Ap1 b.go.length cp1] 50 ∧ Loc w' (w.heap.size + 1) #[.int .i64 t, .int .i64 y] 47 ∧ Loc w' BW #[.int .i64 rb.g, .string rb.nm, .int .i64 rb.t, .int .i64 rb.b, .int .i64 rb.nx, .slice AW0 rb.ml.length cW0, .slice AW1 rb.go.length cW1] 55 ∧ Loc w' BX #[.int .i64 b.g, .string b.nm, .int .i64 b.t, .int .i64 b.b, .int .i64 b.nx, .slice AX0 b.ml.length cX0, .slice AX1 b.go.length cX1] 55 ∧ Loc w' BG #[.int .i64 rb.g, .string rb.nm, .int .i64 rb.t, .int .i64 rb.b, .int .i64 rb.nx, .slice AG0 rb.ml.length cG0, .slice AG1 rb.go.length cG1] 55)) (z := 5) (by kernel_rfl) (by exact ⟨L0.out.drew', L1.out.drew', LW.out.drew', LX.out.drew', LG.out.drew'⟩) (fun hHeld => ?_)
  refine zT 0 55 hHeld ?_
  refine zT 1 56 hHeld ?_
  refine zReady (rs := [2]) (by kernel_rfl) (by simp) ?_
  refine zOne (by decide) rfl (fun K hK => ?_) zNil
  go_simp
  refine (toBox_calls _ _ _ b (rdMails_mov (below_drew HB.out) HR.out) (rdInts_mov (below_drew HB.out) HG.out) HL.out).mono ?_
  rintro e w7 ⟨mx, gx, Da, rfl, hoa, _, hb⟩
  obtain ⟨Aa0, ca0, Aa1, ca1, Da0, Da1, rfl, rfl, _, ha0, ha1⟩ := box_parts hoa
  have Ha0 := Aside.mk (owRow_rd ow_mail ha0)
  have Ha1 := Aside.mk (owRow_rd ow_int ha1)
  clear hoa ha0 ha1
  have hb0 := below_step (w0 := w6) (below_drew (Below.refl _ w6)) hb
  refine hK.out _ _ (by exact ⟨Loc.below hHeld.1 hb, Loc.below hHeld.2.1 hb, Loc.below hHeld.2.2.1 hb, Loc.below hHeld.2.2.2.1 hb, Loc.below hHeld.2.2.2.2 hb⟩) (fun hHeld => ?_)
  clear hK K
  (try simp only [Act.put, List.setIfInBounds_toArray, List.set_cons_zero, List.set_cons_succ])
  replace L0 := Aside.mk (L0.out.below hb0)
  replace L1 := Aside.mk (L1.out.below hb0)
  replace LW := Aside.mk (LW.out.below hb0)
  replace LX := Aside.mk (LX.out.below hb0)
  replace LG := Aside.mk (LG.out.below hb0)
  replace HW0 := Aside.mk (owRow_below ow_mail HW0.out hb0)
  replace HW1 := Aside.mk (owRow_below ow_int HW1.out hb0)
  replace NW := Aside.mk (NW.out.mono hb0.size)
  replace HX0 := Aside.mk (owRow_below ow_mail HX0.out hb0)
  replace HX1 := Aside.mk (owRow_below ow_int HX1.out hb0)
  replace NX := Aside.mk (NX.out.mono hb0.size)
  replace HG0 := Aside.mk (owRow_below ow_mail HG0.out hb0)
  replace HG1 := Aside.mk (owRow_below ow_int HG1.out hb0)
  replace NG := Aside.mk (NG.out.mono hb0.size)
  replace HB := Aside.mk (below_step HB.out hb0)
  (try clear l0)
  (try clear q0)
  (try clear f0)
  (try clear l1)
  (try clear q1)
  (try clear f1)
  (try clear lW)
  (try clear qW)
  (try clear fW)
  (try clear lX)
  (try clear qX)
  (try clear fX)
  (try clear lG)
  (try clear qG)
  (try clear fG)
  have l0 := L0.out.cells
  have q0 := L0.out.lt
  have f0 := L0.out.free
  have l1 := L1.out.cells
  have q1 := L1.out.lt
  have f1 := L1.out.free
  have lW := LW.out.cells
  have qW := LW.out.lt
  have fW := LW.out.free
  have lX := LX.out.cells
  have qX := LX.out.lt
  have fX := LX.out.free
  have lG := LG.out.cells
  have qG := LG.out.lt
  have fG := LG.out.free
  clear hb hb0
  refine zReady (rs := [3]) (by kernel_rfl) (by simp) ?_
  refine zOne (by decide) rfl (fun K hK => ?_) zNil
  go_simp
  refine (eqBox_calls _ _ _ _ _ b (owRow_rd ow_mail HX0.out) (owRow_rd ow_int HX1.out) Ha0.out Ha1.out).mono ?_
  rintro e w8 ⟨rfl, hb⟩
  refine hK.out _ _ (by exact ⟨Loc.below hHeld.1 hb, Loc.below hHeld.2.1 hb, Loc.below hHeld.2.2.1 hb, Loc.below hHeld.2.2.2.1 hb, Loc.below hHeld.2.2.2.2 hb⟩) (fun hHeld => ?_)
  clear hK K
  (try simp only [Act.put, List.setIfInBounds_toArray, List.set_cons_zero, List.set_cons_succ])
  replace L0 := Aside.mk (L0.out.below hb)
  replace L1 := Aside.mk (L1.out.below hb)
  replace LW := Aside.mk (LW.out.below hb)
  replace LX := Aside.mk (LX.out.below hb)
  replace LG := Aside.mk (LG.out.below hb)
  replace HW0 := Aside.mk (owRow_below ow_mail HW0.out hb)
  replace HW1 := Aside.mk (owRow_below ow_int HW1.out hb)
  replace NW := Aside.mk (NW.out.mono hb.size)
  replace HX0 := Aside.mk (owRow_below ow_mail HX0.out hb)
  replace HX1 := Aside.mk (owRow_below ow_int HX1.out hb)
  replace NX := Aside.mk (NX.out.mono hb.size)
  replace HG0 := Aside.mk (owRow_below ow_mail HG0.out hb)
  replace HG1 := Aside.mk (owRow_below ow_int HG1.out hb)
  replace NG := Aside.mk (NG.out.mono hb.size)
  replace HB := Aside.mk (below_step HB.out hb)
  (try clear l0)
  (try clear q0)
  (try clear f0)
  (try clear l1)
  (try clear q1)
  (try clear f1)
  (try clear lW)
  (try clear qW)
  (try clear fW)
  (try clear lX)
  (try clear qX)
  (try clear fX)
  (try clear lG)
  (try clear qG)
  (try clear fG)
  have l0 := L0.out.cells
  have q0 := L0.out.lt
  have f0 := L0.out.free
  have l1 := L1.out.cells
  have q1 := L1.out.lt
  have f1 := L1.out.free
  have lW := LW.out.cells
  have qW := LW.out.lt
  have fW := LW.out.free
  have lX := LX.out.cells
  have qX := LX.out.lt
  have fX := LX.out.free
  have lG := LG.out.cells
  have qG := LG.out.lt
  have fG := LG.out.free
  clear hb Ha0 Ha1
  refine zT 4 59 hHeld ?_
  refine zDone (by kernel_rfl) ?_ _
  clear hHeld
  go_wp2_with (fail)
  refine (markBox_calls _ DX0 DX1 _ _ b 1 HX0.out HX1.out NX.out.1 (by decide) (by have := HCB.out; omega)).mono ?_
  rintro e w9 ⟨rfl, _, hk⟩
  have hE0 : w.heap.size ∉ DX0 ++ DX1 := fun hx => by have := (NX.out.2 _ hx).1; have := HZ.out; omega
  replace L0 := Aside.mk (L0.out.keep hk hE0)
  have hE1 : w.heap.size + 1 ∉ DX0 ++ DX1 := fun hx => by have := (NX.out.2 _ hx).1; have := HZ.out; omega
  replace L1 := Aside.mk (L1.out.keep hk hE1)
  clear hE1
  replace LX := Aside.mk (LX.out.keep hk OX.out.1)
  replace LW := Aside.mk (LW.out.keep hk APWX.out.1)
  replace HW0 := Aside.mk (owRow_keep ow_mail HW0.out hk (fun b hb => APWX.out.2.2 b (by simp [hb])))
  replace HW1 := Aside.mk (owRow_keep ow_int HW1.out hk (fun b hb => APWX.out.2.2 b (by simp [hb])))
  replace NW := Aside.mk (NW.out.mono hk.size)
  replace LG := Aside.mk (LG.out.keep hk APXG.out.2.1)
  replace HG0 := Aside.mk (owRow_keep ow_mail HG0.out hk (fun b hb => (fun b hb hx => APXG.out.2.2 b hx hb) b (by simp [hb])))
  replace HG1 := Aside.mk (owRow_keep ow_int HG1.out hk (fun b hb => (fun b hb hx => APXG.out.2.2 b hx hb) b (by simp [hb])))
  replace NG := Aside.mk (NG.out.mono hk.size)
  replace HB := Aside.mk (NX.out.keepBelow hk HB.out (by have := HZ.out; omega))
  clear hk hE0 HX0 HX1 NX
  try clear LX lX qX fX
  (try clear l0)
  (try clear q0)
  (try clear f0)
  (try clear l1)
  (try clear q1)
  (try clear f1)
  (try clear lW)
  (try clear qW)
  (try clear fW)
  (try clear lG)
  (try clear qG)
  (try clear fG)
  have l0 := L0.out.cells
  have q0 := L0.out.lt
  have f0 := L0.out.free
  have l1 := L1.out.cells
  have q1 := L1.out.lt
  have f1 := L1.out.free
  have lW := LW.out.cells
  have qW := LW.out.lt
  have fW := LW.out.free
  have lG := LG.out.cells
  have qG := LG.out.lt
  have fG := LG.out.free
  obtain ⟨kx, hkx⟩ : ∃ kx : Int, kx = 1 + cMails b.ml + (b.go.length : Int) := ⟨_, rfl⟩
  have hkp : 0 ≤ kx := by have := cMails_nn b.ml; omega
  rw [← hkx]
  have hk0 : ¬ (kx < 0) := by omega
  clear hkx
  go_wp2_with (fail)
  refine (eqBox_calls _ _ _ _ _ rb (owRow_rd ow_mail HG0.out) (owRow_rd ow_int HG1.out) (owRow_rd ow_mail HW0.out) (owRow_rd ow_int HW1.out)).mono ?_
  rintro e w10 ⟨rfl, hb⟩
  replace L0 := Aside.mk (L0.out.below hb)
  replace L1 := Aside.mk (L1.out.below hb)
  replace LW := Aside.mk (LW.out.below hb)
  replace LG := Aside.mk (LG.out.below hb)
  replace HW0 := Aside.mk (owRow_below ow_mail HW0.out hb)
  replace HW1 := Aside.mk (owRow_below ow_int HW1.out hb)
  replace NW := Aside.mk (NW.out.mono hb.size)
  replace HG0 := Aside.mk (owRow_below ow_mail HG0.out hb)
  replace HG1 := Aside.mk (owRow_below ow_int HG1.out hb)
  replace NG := Aside.mk (NG.out.mono hb.size)
  replace HB := Aside.mk (below_step HB.out hb)
  (try clear l0)
  (try clear q0)
  (try clear f0)
  (try clear l1)
  (try clear q1)
  (try clear f1)
  (try clear lW)
  (try clear qW)
  (try clear fW)
  (try clear lG)
  (try clear qG)
  (try clear fG)
  have l0 := L0.out.cells
  have q0 := L0.out.lt
  have f0 := L0.out.free
  have l1 := L1.out.cells
  have q1 := L1.out.lt
  have f1 := L1.out.free
  have lW := LW.out.cells
  have qW := LW.out.lt
  have fW := LW.out.free
  have lG := LG.out.cells
  have qG := LG.out.lt
  have fG := LG.out.free
  clear hb
  go_wp2_with (fail)
  refine (markBox_calls _ DG0 DG1 _ _ rb 1 HG0.out HG1.out NG.out.1 (by decide) (by have := HCR.out; omega)).mono ?_
  rintro e w11 ⟨rfl, ⟨Dm, hom, _, _⟩, hk⟩
  have hE0 : w.heap.size ∉ DG0 ++ DG1 := fun hx => by have := (NG.out.2 _ hx).1; have := HZ.out; omega
  replace L0 := Aside.mk (L0.out.keep hk hE0)
  have hE1 : w.heap.size + 1 ∉ DG0 ++ DG1 := fun hx => by have := (NG.out.2 _ hx).1; have := HZ.out; omega
  replace L1 := Aside.mk (L1.out.keep hk hE1)
  clear hE1
  replace LG := Aside.mk (LG.out.keep hk OG.out.1)
  replace LW := Aside.mk (LW.out.keep hk APWG.out.1)
  replace HW0 := Aside.mk (owRow_keep ow_mail HW0.out hk (fun b hb => APWG.out.2.2 b (by simp [hb])))
  replace HW1 := Aside.mk (owRow_keep ow_int HW1.out hk (fun b hb => APWG.out.2.2 b (by simp [hb])))
  replace NW := Aside.mk (NW.out.mono hk.size)
  replace HB := Aside.mk (NG.out.keepBelow hk HB.out (by have := HZ.out; omega))
  clear hk hE0 HG0 HG1 NG
  obtain ⟨hmG0, hmG1⟩ := markedBox_rd hom
  have HG0 := Aside.mk hmG0
  have HG1 := Aside.mk hmG1
  clear hmG0 hmG1 hom
  (try clear l0)
  (try clear q0)
  (try clear f0)
  (try clear l1)
  (try clear q1)
  (try clear f1)
  (try clear lW)
  (try clear qW)
  (try clear fW)
  (try clear lG)
  (try clear qG)
  (try clear fG)
  have l0 := L0.out.cells
  have q0 := L0.out.lt
  have f0 := L0.out.free
  have l1 := L1.out.cells
  have q1 := L1.out.lt
  have f1 := L1.out.free
  have lW := LW.out.cells
  have qW := LW.out.lt
  have fW := LW.out.free
  have lG := LG.out.cells
  have qG := LG.out.lt
  have fG := LG.out.free
  obtain ⟨kg, hkg⟩ : ∃ kg : Int, kg = 1 + cMails rb.ml + (rb.go.length : Int) := ⟨_, rfl⟩
  have HKG := Aside.mk hkg
  rw [← hkg]
  have hkg0 : ¬ (kg < 0) := by have := cMails_nn rb.ml; omega
  clear hkg
  go_wp2_with (fail)
  refine (heldBox_calls _ _ _ rb 1 HG0.out HG1.out (by decide) (by have := HCR.out; omega)).mono ?_
  rintro e w12 ⟨rfl, hb⟩
  rw [← HKG.out]
  replace L0 := Aside.mk (L0.out.below hb)
  replace L1 := Aside.mk (L1.out.below hb)
  replace LW := Aside.mk (LW.out.below hb)
  replace LG := Aside.mk (LG.out.below hb)
  replace HW0 := Aside.mk (owRow_below ow_mail HW0.out hb)
  replace HW1 := Aside.mk (owRow_below ow_int HW1.out hb)
  replace NW := Aside.mk (NW.out.mono hb.size)
  replace HG0 := Aside.mk (rdMails_mov hb HG0.out)
  replace HG1 := Aside.mk (rdInts_mov hb HG1.out)
  replace HB := Aside.mk (below_step HB.out hb)
  (try clear l0)
  (try clear q0)
  (try clear f0)
  (try clear l1)
  (try clear q1)
  (try clear f1)
  (try clear lW)
  (try clear qW)
  (try clear fW)
  (try clear lG)
  (try clear qG)
  (try clear fG)
  have l0 := L0.out.cells
  have q0 := L0.out.lt
  have f0 := L0.out.free
  have l1 := L1.out.cells
  have q1 := L1.out.lt
  have f1 := L1.out.free
  have lW := LW.out.cells
  have qW := LW.out.lt
  have fW := LW.out.free
  have lG := LG.out.cells
  have qG := LG.out.lt
  have fG := LG.out.free
  clear hb
  have HWL : Aside (wz.heap.size ≤ w12.heap.size) := ⟨by have := OW.out; have := LW.out.lt; omega⟩
  have HBLW : Aside (BW < w12.heap.size) := ⟨LW.out.lt⟩
  have HNLW : Aside (∀ b ∈ DW0 ++ DW1, b < w12.heap.size) := ⟨fun b hb => (NW.out.2 b hb).2⟩
  go_wp2_with (fail)
  go_cut [18, 19] (fun v18 v19 wc => ∃ (B : Nat) (D : List Nat), v18 = .pointer (some ⟨B, 0, none⟩) ∧ v19 = .bool ok ∧ Aside (HasBox w12 wc B D rb) ∧ Aside (Loc wc w.heap.size #[.int .i64 b.g, .string b.nm, .int .i64 b.t, .int .i64 b.b, .int .i64 b.nx, .slice Ap0 b.ml.length cp0, .slice Ap1 b.go.length cp1] 50) ∧ Aside (Loc wc (w.heap.size + 1) #[.int .i64 t, .int .i64 y] 47) ∧ Aside (Loc wc BW #[.int .i64 rb.g, .string rb.nm, .int .i64 rb.t, .int .i64 rb.b, .int .i64 rb.nx, .slice AW0 rb.ml.length cW0, .slice AW1 rb.go.length cW1] 55) ∧ Aside (Loc wc BG #[.int .i64 rb.g, .string rb.nm, .int .i64 rb.t, .int .i64 rb.b, .int .i64 rb.nx, .slice AG0 rb.ml.length cG0, .slice AG1 rb.go.length cG1] 55) ∧ Aside (owMails wc DW0 (.slice AW0 rb.ml.length cW0) rb.ml) ∧ Aside (owInts wc DW1 (.slice AW1 rb.go.length cW1) rb.go) ∧ Aside (New wz wc (DW0 ++ DW1)) ∧ Aside (rdMails wc (.slice AG0 rb.ml.length cG0) (markedBox rb 1).ml) ∧ Aside (rdInts wc (.slice AG1 rb.go.length cG1) (markedBox rb 1).go) ∧ Aside (Below w.heap.size w wc))
  case first =>
    refine yBegin (S := (fun w' => Loc w' w.heap.size #[.int .i64 b.g, .string b.nm, .int .i64 b.t, .int .i64 b.b, .int .i64 b.nx, .slice Ap0 b.ml.length cp0, .slice Ap1 b.go.length cp1] 50 ∧ Loc w' (w.heap.size + 1) #[.int .i64 t, .int .i64 y] 47 ∧ Loc w' BW #[.int .i64 rb.g, .string rb.nm, .int .i64 rb.t, .int .i64 rb.b, .int .i64 rb.nx, .slice AW0 rb.ml.length cW0, .slice AW1 rb.go.length cW1] 55 ∧ Loc w' BG #[.int .i64 rb.g, .string rb.nm, .int .i64 rb.t, .int .i64 rb.b, .int .i64 rb.nx, .slice AG0 rb.ml.length cG0, .slice AG1 rb.go.length cG1] 55 ∧ Since w12 w')) (z := 11) (by kernel_rfl) (by exact ⟨L0.out.drew', L1.out.drew', LW.out.drew', LG.out.drew', below_drew (Below.refl _ _)⟩) (fun hHeld => ?_)
    refine yT 0 88 hHeld ?_
    refine yT 2 90 hHeld ?_
    refine yT 3 91 hHeld ?_
    refine yT 4 92 hHeld ?_
    refine yReady (rs := [1, 10]) (by kernel_rfl) (by simp) ?_
    refine yOne rfl (fun K hK => ?_) ?_
    go_simp
    refine (toBox_calls _ _ _ b (rdMails_mov (below_step HB.out (by exact hHeld.2.2.2.2.low)) HR.out) (rdInts_mov (below_step HB.out (by exact hHeld.2.2.2.2.low)) HG.out) HL.out).mono ?_
    rintro e wa ⟨mx, gx, Da, rfl, hoa, _, hb⟩
    obtain ⟨Aa0, ca0, Aa1, ca1, Da0, Da1, rfl, rfl, _, ha0, ha1⟩ := box_parts hoa
    have Ha0 := Aside.mk (owRow_rd ow_mail ha0)
    have Ha1 := Aside.mk (owRow_rd ow_int ha1)
    clear hoa ha0 ha1
    refine hK.out _ _ (by exact ⟨Loc.below hHeld.1 hb, Loc.below hHeld.2.1 hb, Loc.below hHeld.2.2.1 hb, Loc.below hHeld.2.2.2.1 hb, below_step hHeld.2.2.2.2.low hb⟩) (fun hHeld => ?_)
    clear hK K
    (try simp only [Act.put, List.setIfInBounds_toArray, List.set_cons_zero, List.set_cons_succ])
    have hba := hb
    clear hb
    refine yReady (rs := [5, 10]) (by kernel_rfl) (by simp) ?_
    refine yOne rfl (fun K hK => ?_) ?_
    go_simp
    refine (toStamp_calls _ t y).mono ?_
    rintro e wt ⟨rfl, hb⟩
    refine hK.out _ _ (by exact ⟨Loc.below hHeld.1 hb, Loc.below hHeld.2.1 hb, Loc.below hHeld.2.2.1 hb, Loc.below hHeld.2.2.2.1 hb, below_step hHeld.2.2.2.2.low hb⟩) (fun hHeld => ?_)
    clear hK K
    (try simp only [Act.put, List.setIfInBounds_toArray, List.set_cons_zero, List.set_cons_succ])
    have hbt := hb
    clear hb
    refine yReady (rs := [6, 10]) (by kernel_rfl) (by simp) ?_
    refine yOne rfl (fun K hK => ?_) ?_
    go_simp
    have hHp := hHeld.2.2.2.2.low
    refine (flagMail_calls _ _ _ b g f t y (rdMails_mov (by exact (below_step (Below.refl _ wa) hbt)) Ha0.out) (rdInts_mov (by exact (below_step (Below.refl _ wa) hbt)) Ha1.out) HL.out HTX.out).mono ?_
    rintro e ws ⟨ms, gs, Ds, he, ho, hn, hb⟩
    rw [HRR.out] at he ho
    dsimp only at he ho
    subst he
    obtain ⟨As0, cs0, As1, cs1, _, _, rfl, rfl, _, _, _⟩ := box_parts ho
    refine hK.out _ _ (by exact ⟨Loc.below hHeld.1 hb, Loc.below hHeld.2.1 hb, Loc.below hHeld.2.2.1 hb, Loc.below hHeld.2.2.2.1 hb, below_step hHeld.2.2.2.2.low hb⟩) (fun hHeld => ?_)
    clear hK K
    (try simp only [Act.put, List.setIfInBounds_toArray, List.set_cons_zero, List.set_cons_succ])
    have hbs := hb
    clear hb
    have hHs := hHeld
    refine yT 7 87 hHeld ?_
    refine yT 8 95 hHeld ?_
    refine yP 9 96 hHeld ?_
    refine yReady (rs := [10]) (by kernel_rfl) (by simp) ?_
    refine yOne rfl (fun K hK => ?_) yNil
    have hHa := hHeld
    go_simp
    refine hK.out _ _ (by exact ⟨Loc.alloc hHeld.1 _, Loc.alloc hHeld.2.1 _, Loc.alloc hHeld.2.2.1 _, Loc.alloc hHeld.2.2.2.1 _, below_alloc hHeld.2.2.2.2.low _⟩) (fun hHeld => ?_)
    clear hK K
    (try simp only [Act.put, List.setIfInBounds_toArray, List.set_cons_zero, List.set_cons_succ])
    clear hHa
    refine yReady (rs := [11]) (by kernel_rfl) (by simp) ?_
    refine yLast (Or.inl rfl) rfl (fun K hK => ?_) yNil
    go_simp
    refine hK.out _ _ ?_
    clear hK K
    (try simp only [Act.put, List.setIfInBounds_toArray, List.set_cons_zero, List.set_cons_succ])
    refine yReady (rs := [12]) (by kernel_rfl) (by simp) ?_
    refine yLast (Or.inr rfl) rfl (fun K hK => ?_) yNil
    go_simp
    refine hK.out _ _ ?_
    clear hK K
    (try simp only [Act.put, List.setIfInBounds_toArray, List.set_cons_zero, List.set_cons_succ])
    refine yDone (by kernel_rfl) ?_ _
    go_wp2
    go_meet
    case rel => exact ⟨_, _, rfl, rfl, ⟨HasBox.made ho (hn.from (by have := hHp.size; exact this)) (by have := hHs.2.2.2.2.low.size; exact this)⟩, ⟨Loc.alloc hHs.1 _⟩, ⟨Loc.alloc hHs.2.1 _⟩, ⟨Loc.alloc hHs.2.2.1 _⟩, ⟨Loc.alloc hHs.2.2.2.1 _⟩, ⟨owRow_below ow_mail HW0.out (below_alloc hHs.2.2.2.2.low _)⟩, ⟨owRow_below ow_int HW1.out (below_alloc hHs.2.2.2.2.low _)⟩, ⟨NW.out.mono ((below_alloc hHs.2.2.2.2.low _)).size⟩, ⟨rdMails_mov (below_alloc hHs.2.2.2.2.low _) HG0.out⟩, ⟨rdInts_mov (below_alloc hHs.2.2.2.2.low _) HG1.out⟩, ⟨below_step HB.out (below_alloc hHs.2.2.2.2.low _)⟩⟩
    refine yOne rfl (fun K hK => ?_) yNil
    have hHa := hHeld
    go_simp
    refine hK.out _ _ (by exact ⟨Loc.alloc hHeld.1 _, Loc.alloc hHeld.2.1 _, Loc.alloc hHeld.2.2.1 _, Loc.alloc hHeld.2.2.2.1 _, below_alloc hHeld.2.2.2.2.low _⟩) (fun hHeld => ?_)
    clear hK K
    (try simp only [Act.put, List.setIfInBounds_toArray, List.set_cons_zero, List.set_cons_succ])
    obtain ⟨BB, hBB⟩ : ∃ BB, BB = (wt).heap.size := ⟨_, rfl⟩
    have HBB : Aside (w12.heap.size ≤ BB ∧ BB < (wt).heap.size + 1) := ⟨by have : w12.heap.size ≤ (wt).heap.size := hHa.2.2.2.2.low.size; constructor <;> omega⟩
    have LB : Loc ((wt).alloc (.cells #[.int .i64 0, .string ⟨#[]⟩, .int .i64 0, .int .i64 0, .int .i64 0, .slice none 0 0, .slice none 0 0] 55)) BB #[.int .i64 0, .string ⟨#[]⟩, .int .i64 0, .int .i64 0, .int .i64 0, .slice none 0 0, .slice none 0 0] 55 := by rw [hBB]; exact Loc.new _ _ _
    try rw [← hBB]
    clear hBB
    clear hHa
    refine yReady (rs := [6]) (by kernel_rfl) (by simp) ?_
    refine yOne rfl (fun K hK => ?_) yNil
    go_simp
    have hHp := hHeld.2.2.2.2.low
    have hLBp := LB
    refine (flagMail_calls _ _ _ b g f t y (rdMails_mov (by exact (below_alloc (below_step (Below.refl _ wa) hbt) _)) Ha0.out) (rdInts_mov (by exact (below_alloc (below_step (Below.refl _ wa) hbt) _)) Ha1.out) HL.out HTX.out).mono ?_
    rintro e ws ⟨ms, gs, Ds, he, ho, hn, hb⟩
    rw [HRR.out] at he ho
    dsimp only at he ho
    subst he
    obtain ⟨As0, cs0, As1, cs1, _, _, rfl, rfl, _, _, _⟩ := box_parts ho
    refine hK.out _ _ (by exact ⟨Loc.below hHeld.1 hb, Loc.below hHeld.2.1 hb, Loc.below hHeld.2.2.1 hb, Loc.below hHeld.2.2.2.1 hb, below_step hHeld.2.2.2.2.low hb⟩) (fun hHeld => ?_)
    clear hK K
    (try simp only [Act.put, List.setIfInBounds_toArray, List.set_cons_zero, List.set_cons_succ])
    have hbs := hb
    clear hb
    have hHs := hHeld
    refine yT 7 87 hHeld ?_
    refine yT 8 95 hHeld ?_
    refine yP 9 96 hHeld ?_
    refine yReady (rs := [11]) (by kernel_rfl) (by simp) ?_
    refine yLast (Or.inl rfl) rfl (fun K hK => ?_) yNil
    have lB := ((Loc.below LB hbs)).cells
    have qB := ((Loc.below LB hbs)).lt
    have fB := ((Loc.below LB hbs)).free
    go_simp
    refine hK.out _ _ ?_
    clear hK K
    (try simp only [Act.put, List.setIfInBounds_toArray, List.set_cons_zero, List.set_cons_succ])
    refine yReady (rs := [12]) (by kernel_rfl) (by simp) ?_
    refine yLast (Or.inr rfl) rfl (fun K hK => ?_) yNil
    go_simp
    refine hK.out _ _ ?_
    clear hK K
    (try simp only [Act.put, List.setIfInBounds_toArray, List.set_cons_zero, List.set_cons_succ])
    refine yDone (by kernel_rfl) ?_ _
    go_wp2
    go_meet
    case rel => rw [sets7]; exact ⟨BB, _, rfl, rfl, ⟨HasBox.stored ho (hn.from (by have := hHp.size; exact this)) (Loc.below LB hbs) (fun hx => by have := (hn.2 _ hx).1; have := (hLBp).lt; omega) HBB.out.1⟩, ⟨Loc.sets (hHeld.1) (by have := HBB.out.1; have := L0.out.lt; omega) _⟩, ⟨Loc.sets (hHeld.2.1) (by have := HBB.out.1; have := L1.out.lt; omega) _⟩, ⟨Loc.sets (hHeld.2.2.1) (by have := HBB.out.1; have := LW.out.lt; omega) _⟩, ⟨Loc.sets (hHeld.2.2.2.1) (by have := HBB.out.1; have := LG.out.lt; omega) _⟩, ⟨owRow_below ow_mail HW0.out (below_sets hHeld.2.2.2.2.low (by exact HBB.out.1) _ _)⟩, ⟨owRow_below ow_int HW1.out (below_sets hHeld.2.2.2.2.low (by exact HBB.out.1) _ _)⟩, ⟨NW.out.mono ((below_sets hHeld.2.2.2.2.low (by exact HBB.out.1) _ _)).size⟩, ⟨rdMails_mov (below_sets hHeld.2.2.2.2.low (by exact HBB.out.1) _ _) HG0.out⟩, ⟨rdInts_mov (below_sets hHeld.2.2.2.2.low (by exact HBB.out.1) _ _) HG1.out⟩, ⟨below_step HB.out (below_sets hHeld.2.2.2.2.low (by exact HBB.out.1) _ _)⟩⟩
    refine yOne rfl (fun K hK => ?_) yNil
    have hHa := hHeld
    go_simp
    refine hK.out _ _ (by exact ⟨Loc.alloc hHeld.1 _, Loc.alloc hHeld.2.1 _, Loc.alloc hHeld.2.2.1 _, Loc.alloc hHeld.2.2.2.1 _, below_alloc hHeld.2.2.2.2.low _⟩) (fun hHeld => ?_)
    clear hK K
    (try simp only [Act.put, List.setIfInBounds_toArray, List.set_cons_zero, List.set_cons_succ])
    obtain ⟨BB, hBB⟩ : ∃ BB, BB = (wa).heap.size := ⟨_, rfl⟩
    have HBB : Aside (w12.heap.size ≤ BB ∧ BB < (wa).heap.size + 1) := ⟨by have : w12.heap.size ≤ (wa).heap.size := hHa.2.2.2.2.low.size; constructor <;> omega⟩
    have LB : Loc ((wa).alloc (.cells #[.int .i64 0, .string ⟨#[]⟩, .int .i64 0, .int .i64 0, .int .i64 0, .slice none 0 0, .slice none 0 0] 55)) BB #[.int .i64 0, .string ⟨#[]⟩, .int .i64 0, .int .i64 0, .int .i64 0, .slice none 0 0, .slice none 0 0] 55 := by rw [hBB]; exact Loc.new _ _ _
    try rw [← hBB]
    clear hBB
    clear hHa
    refine yReady (rs := [5]) (by kernel_rfl) (by simp) ?_
    refine yOne rfl (fun K hK => ?_) yNil
    go_simp
    refine (toStamp_calls _ t y).mono ?_
    rintro e wt ⟨rfl, hb⟩
    refine hK.out _ _ (by exact ⟨Loc.below hHeld.1 hb, Loc.below hHeld.2.1 hb, Loc.below hHeld.2.2.1 hb, Loc.below hHeld.2.2.2.1 hb, below_step hHeld.2.2.2.2.low hb⟩) (fun hHeld => ?_)
    clear hK K
    (try simp only [Act.put, List.setIfInBounds_toArray, List.set_cons_zero, List.set_cons_succ])
    have hbt := hb
    clear hb
    refine yReady (rs := [6]) (by kernel_rfl) (by simp) ?_
    refine yOne rfl (fun K hK => ?_) yNil
    go_simp
    have hHp := hHeld.2.2.2.2.low
    have hLBp := (Loc.below LB hbt)
    refine (flagMail_calls _ _ _ b g f t y (rdMails_mov (by exact (below_step (below_alloc (Below.refl _ wa) _) hbt)) Ha0.out) (rdInts_mov (by exact (below_step (below_alloc (Below.refl _ wa) _) hbt)) Ha1.out) HL.out HTX.out).mono ?_
    rintro e ws ⟨ms, gs, Ds, he, ho, hn, hb⟩
    rw [HRR.out] at he ho
    dsimp only at he ho
    subst he
    obtain ⟨As0, cs0, As1, cs1, _, _, rfl, rfl, _, _, _⟩ := box_parts ho
    refine hK.out _ _ (by exact ⟨Loc.below hHeld.1 hb, Loc.below hHeld.2.1 hb, Loc.below hHeld.2.2.1 hb, Loc.below hHeld.2.2.2.1 hb, below_step hHeld.2.2.2.2.low hb⟩) (fun hHeld => ?_)
    clear hK K
    (try simp only [Act.put, List.setIfInBounds_toArray, List.set_cons_zero, List.set_cons_succ])
    have hbs := hb
    clear hb
    have hHs := hHeld
    refine yT 7 87 hHeld ?_
    refine yT 8 95 hHeld ?_
    refine yP 9 96 hHeld ?_
    refine yReady (rs := [11]) (by kernel_rfl) (by simp) ?_
    refine yLast (Or.inl rfl) rfl (fun K hK => ?_) yNil
    have lB := ((Loc.below (Loc.below LB hbt) hbs)).cells
    have qB := ((Loc.below (Loc.below LB hbt) hbs)).lt
    have fB := ((Loc.below (Loc.below LB hbt) hbs)).free
    go_simp
    refine hK.out _ _ ?_
    clear hK K
    (try simp only [Act.put, List.setIfInBounds_toArray, List.set_cons_zero, List.set_cons_succ])
    refine yReady (rs := [12]) (by kernel_rfl) (by simp) ?_
    refine yLast (Or.inr rfl) rfl (fun K hK => ?_) yNil
    go_simp
    refine hK.out _ _ ?_
    clear hK K
    (try simp only [Act.put, List.setIfInBounds_toArray, List.set_cons_zero, List.set_cons_succ])
    refine yDone (by kernel_rfl) ?_ _
    go_wp2
    go_meet
    case rel => rw [sets7]; exact ⟨BB, _, rfl, rfl, ⟨HasBox.stored ho (hn.from (by have := hHp.size; exact this)) (Loc.below (Loc.below LB hbt) hbs) (fun hx => by have := (hn.2 _ hx).1; have := (hLBp).lt; omega) HBB.out.1⟩, ⟨Loc.sets (hHeld.1) (by have := HBB.out.1; have := L0.out.lt; omega) _⟩, ⟨Loc.sets (hHeld.2.1) (by have := HBB.out.1; have := L1.out.lt; omega) _⟩, ⟨Loc.sets (hHeld.2.2.1) (by have := HBB.out.1; have := LW.out.lt; omega) _⟩, ⟨Loc.sets (hHeld.2.2.2.1) (by have := HBB.out.1; have := LG.out.lt; omega) _⟩, ⟨owRow_below ow_mail HW0.out (below_sets hHeld.2.2.2.2.low (by exact HBB.out.1) _ _)⟩, ⟨owRow_below ow_int HW1.out (below_sets hHeld.2.2.2.2.low (by exact HBB.out.1) _ _)⟩, ⟨NW.out.mono ((below_sets hHeld.2.2.2.2.low (by exact HBB.out.1) _ _)).size⟩, ⟨rdMails_mov (below_sets hHeld.2.2.2.2.low (by exact HBB.out.1) _ _) HG0.out⟩, ⟨rdInts_mov (below_sets hHeld.2.2.2.2.low (by exact HBB.out.1) _ _) HG1.out⟩, ⟨below_step HB.out (below_sets hHeld.2.2.2.2.low (by exact HBB.out.1) _ _)⟩⟩
    refine yOne rfl (fun K hK => ?_) yNil
    have hHa := hHeld
    go_simp
    refine hK.out _ _ (by exact ⟨Loc.alloc hHeld.1 _, Loc.alloc hHeld.2.1 _, Loc.alloc hHeld.2.2.1 _, Loc.alloc hHeld.2.2.2.1 _, below_alloc hHeld.2.2.2.2.low _⟩) (fun hHeld => ?_)
    clear hK K
    (try simp only [Act.put, List.setIfInBounds_toArray, List.set_cons_zero, List.set_cons_succ])
    obtain ⟨BB, hBB⟩ : ∃ BB, BB = (w12).heap.size := ⟨_, rfl⟩
    have HBB : Aside (w12.heap.size ≤ BB ∧ BB < (w12).heap.size + 1) := ⟨by have : w12.heap.size ≤ (w12).heap.size := hHa.2.2.2.2.low.size; constructor <;> omega⟩
    have LB : Loc ((w12.drew).alloc (.cells #[.int .i64 0, .string ⟨#[]⟩, .int .i64 0, .int .i64 0, .int .i64 0, .slice none 0 0, .slice none 0 0] 55)) BB #[.int .i64 0, .string ⟨#[]⟩, .int .i64 0, .int .i64 0, .int .i64 0, .slice none 0 0, .slice none 0 0] 55 := by rw [hBB]; exact Loc.new _ _ _
    try rw [← hBB]
    clear hBB
    clear hHa
    refine yReady (rs := [1]) (by kernel_rfl) (by simp) ?_
    refine yOne rfl (fun K hK => ?_) yNil
    go_simp
    refine (toBox_calls _ _ _ b (rdMails_mov (below_step HB.out (by exact hHeld.2.2.2.2.low)) HR.out) (rdInts_mov (below_step HB.out (by exact hHeld.2.2.2.2.low)) HG.out) HL.out).mono ?_
    rintro e wa ⟨mx, gx, Da, rfl, hoa, _, hb⟩
    obtain ⟨Aa0, ca0, Aa1, ca1, Da0, Da1, rfl, rfl, _, ha0, ha1⟩ := box_parts hoa
    have Ha0 := Aside.mk (owRow_rd ow_mail ha0)
    have Ha1 := Aside.mk (owRow_rd ow_int ha1)
    clear hoa ha0 ha1
    refine hK.out _ _ (by exact ⟨Loc.below hHeld.1 hb, Loc.below hHeld.2.1 hb, Loc.below hHeld.2.2.1 hb, Loc.below hHeld.2.2.2.1 hb, below_step hHeld.2.2.2.2.low hb⟩) (fun hHeld => ?_)
    clear hK K
    (try simp only [Act.put, List.setIfInBounds_toArray, List.set_cons_zero, List.set_cons_succ])
    have hba := hb
    clear hb
    refine yReady (rs := [5]) (by kernel_rfl) (by simp) ?_
    refine yOne rfl (fun K hK => ?_) yNil
    go_simp
    refine (toStamp_calls _ t y).mono ?_
    rintro e wt ⟨rfl, hb⟩
    refine hK.out _ _ (by exact ⟨Loc.below hHeld.1 hb, Loc.below hHeld.2.1 hb, Loc.below hHeld.2.2.1 hb, Loc.below hHeld.2.2.2.1 hb, below_step hHeld.2.2.2.2.low hb⟩) (fun hHeld => ?_)
    clear hK K
    (try simp only [Act.put, List.setIfInBounds_toArray, List.set_cons_zero, List.set_cons_succ])
    have hbt := hb
    clear hb
    refine yReady (rs := [6]) (by kernel_rfl) (by simp) ?_
    refine yOne rfl (fun K hK => ?_) yNil
    go_simp
    have hHp := hHeld.2.2.2.2.low
    have hLBp := (Loc.below (Loc.below LB hba) hbt)
    refine (flagMail_calls _ _ _ b g f t y (rdMails_mov (by exact (below_step (Below.refl _ wa) hbt)) Ha0.out) (rdInts_mov (by exact (below_step (Below.refl _ wa) hbt)) Ha1.out) HL.out HTX.out).mono ?_
    rintro e ws ⟨ms, gs, Ds, he, ho, hn, hb⟩
    rw [HRR.out] at he ho
    dsimp only at he ho
    subst he
    obtain ⟨As0, cs0, As1, cs1, _, _, rfl, rfl, _, _, _⟩ := box_parts ho
    refine hK.out _ _ (by exact ⟨Loc.below hHeld.1 hb, Loc.below hHeld.2.1 hb, Loc.below hHeld.2.2.1 hb, Loc.below hHeld.2.2.2.1 hb, below_step hHeld.2.2.2.2.low hb⟩) (fun hHeld => ?_)
    clear hK K
    (try simp only [Act.put, List.setIfInBounds_toArray, List.set_cons_zero, List.set_cons_succ])
    have hbs := hb
    clear hb
    have hHs := hHeld
    refine yT 7 87 hHeld ?_
    refine yT 8 95 hHeld ?_
    refine yP 9 96 hHeld ?_
    refine yReady (rs := [11]) (by kernel_rfl) (by simp) ?_
    refine yLast (Or.inl rfl) rfl (fun K hK => ?_) yNil
    have lB := ((Loc.below (Loc.below (Loc.below LB hba) hbt) hbs)).cells
    have qB := ((Loc.below (Loc.below (Loc.below LB hba) hbt) hbs)).lt
    have fB := ((Loc.below (Loc.below (Loc.below LB hba) hbt) hbs)).free
    go_simp
    refine hK.out _ _ ?_
    clear hK K
    (try simp only [Act.put, List.setIfInBounds_toArray, List.set_cons_zero, List.set_cons_succ])
    refine yReady (rs := [12]) (by kernel_rfl) (by simp) ?_
    refine yLast (Or.inr rfl) rfl (fun K hK => ?_) yNil
    go_simp
    refine hK.out _ _ ?_
    clear hK K
    (try simp only [Act.put, List.setIfInBounds_toArray, List.set_cons_zero, List.set_cons_succ])
    refine yDone (by kernel_rfl) ?_ _
    go_wp2
    go_meet
    case rel => rw [sets7]; exact ⟨BB, _, rfl, rfl, ⟨HasBox.stored ho (hn.from (by have := hHp.size; exact this)) (Loc.below (Loc.below (Loc.below LB hba) hbt) hbs) (fun hx => by have := (hn.2 _ hx).1; have := (hLBp).lt; omega) HBB.out.1⟩, ⟨Loc.sets (hHeld.1) (by have := HBB.out.1; have := L0.out.lt; omega) _⟩, ⟨Loc.sets (hHeld.2.1) (by have := HBB.out.1; have := L1.out.lt; omega) _⟩, ⟨Loc.sets (hHeld.2.2.1) (by have := HBB.out.1; have := LW.out.lt; omega) _⟩, ⟨Loc.sets (hHeld.2.2.2.1) (by have := HBB.out.1; have := LG.out.lt; omega) _⟩, ⟨owRow_below ow_mail HW0.out (below_sets hHeld.2.2.2.2.low (by exact HBB.out.1) _ _)⟩, ⟨owRow_below ow_int HW1.out (below_sets hHeld.2.2.2.2.low (by exact HBB.out.1) _ _)⟩, ⟨NW.out.mono ((below_sets hHeld.2.2.2.2.low (by exact HBB.out.1) _ _)).size⟩, ⟨rdMails_mov (below_sets hHeld.2.2.2.2.low (by exact HBB.out.1) _ _) HG0.out⟩, ⟨rdInts_mov (below_sets hHeld.2.2.2.2.low (by exact HBB.out.1) _ _) HG1.out⟩, ⟨below_step HB.out (below_sets hHeld.2.2.2.2.low (by exact HBB.out.1) _ _)⟩⟩
  case rest =>
  obtain ⟨BH, DH, rfl, rfl, HHH, L0', L1', LW', LG', HW0', HW1', NW', HG0', HG1', HB'⟩ := hcut
  clear L0 L1 LW LG HW0 HW1 NW HG0 HG1 HB l0 q0 f0 l1 q1 f1 lW qW fW lG qG fG
  have L0 := L0'
  have L1 := L1'
  have LW := LW'
  have LG := LG'
  have HW0 := HW0'
  have HW1 := HW1'
  have NW := NW'
  have HG0 := HG0'
  have HG1 := HG1'
  have HB := HB'
  clear L0' L1' LW' LG' HW0' HW1' NW' HG0' HG1' HB'
  have APWH : Aside (BW ∉ DH ∧ BH ∉ DW0 ++ DW1 ∧ ∀ b ∈ DW0 ++ DW1, b ∉ DH) := ⟨fun hx => by have := (HHH.out.new.2 _ hx).1; have := HBLW.out; omega, fun hx => by have := HNLW.out _ hx; have := HHH.out.off.2; omega, fun b hb hx => by have := HNLW.out _ hb; have := (HHH.out.new.2 _ hx).1; omega⟩
  have HH2 := Aside.mk (HHH.out.from (w0 := wz) HWL.out)
  obtain ⟨AH0, cH0, AH1, cH1, DH0, DH1, rfl, hlH, hH0, hH1, hnH, hbH, hbH2⟩ := HH2.out
  have LH := Aside.mk (hlH)
  have HH0 := Aside.mk (hH0)
  have HH1 := Aside.mk (hH1)
  have NH := Aside.mk (hnH)
  have OH := Aside.mk (And.intro hbH hbH2)
  clear hlH hH0 hH1 hnH hbH hbH2 HHH HH2 HWL
  (try clear l0)
  (try clear q0)
  (try clear f0)
  (try clear l1)
  (try clear q1)
  (try clear f1)
  (try clear lW)
  (try clear qW)
  (try clear fW)
  (try clear lG)
  (try clear qG)
  (try clear fG)
  (try clear lH)
  (try clear qH)
  (try clear fH)
  have l0 := L0.out.cells
  have q0 := L0.out.lt
  have f0 := L0.out.free
  have l1 := L1.out.cells
  have q1 := L1.out.lt
  have f1 := L1.out.free
  have lW := LW.out.cells
  have qW := LW.out.lt
  have fW := LW.out.free
  have lG := LG.out.cells
  have qG := LG.out.lt
  have fG := LG.out.free
  have lH := LH.out.cells
  have qH := LH.out.lt
  have fH := LH.out.free
  go_wp2_with (fail)
  refine (eqBox_calls _ _ _ _ _ rb (owRow_rd ow_mail HH0.out) (owRow_rd ow_int HH1.out) (owRow_rd ow_mail HW0.out) (owRow_rd ow_int HW1.out)).mono ?_
  rintro e w13 ⟨rfl, hb⟩
  replace L0 := Aside.mk (L0.out.below hb)
  replace L1 := Aside.mk (L1.out.below hb)
  replace LW := Aside.mk (LW.out.below hb)
  replace LG := Aside.mk (LG.out.below hb)
  replace LH := Aside.mk (LH.out.below hb)
  replace HW0 := Aside.mk (owRow_below ow_mail HW0.out hb)
  replace HW1 := Aside.mk (owRow_below ow_int HW1.out hb)
  replace NW := Aside.mk (NW.out.mono hb.size)
  replace HH0 := Aside.mk (owRow_below ow_mail HH0.out hb)
  replace HH1 := Aside.mk (owRow_below ow_int HH1.out hb)
  replace NH := Aside.mk (NH.out.mono hb.size)
  replace HG0 := Aside.mk (rdMails_mov hb HG0.out)
  replace HG1 := Aside.mk (rdInts_mov hb HG1.out)
  replace HB := Aside.mk (below_step HB.out hb)
  (try clear l0)
  (try clear q0)
  (try clear f0)
  (try clear l1)
  (try clear q1)
  (try clear f1)
  (try clear lW)
  (try clear qW)
  (try clear fW)
  (try clear lG)
  (try clear qG)
  (try clear fG)
  (try clear lH)
  (try clear qH)
  (try clear fH)
  have l0 := L0.out.cells
  have q0 := L0.out.lt
  have f0 := L0.out.free
  have l1 := L1.out.cells
  have q1 := L1.out.lt
  have f1 := L1.out.free
  have lW := LW.out.cells
  have qW := LW.out.lt
  have fW := LW.out.free
  have lG := LG.out.cells
  have qG := LG.out.lt
  have fG := LG.out.free
  have lH := LH.out.cells
  have qH := LH.out.lt
  have fH := LH.out.free
  clear hb
  go_wp2_with (fail)
  refine (heldBox_calls _ _ _ rb 1 HG0.out HG1.out (by decide) (by have := HCR.out; omega)).mono ?_
  rintro e w14 ⟨rfl, hb⟩
  rw [← HKG.out]
  replace L0 := Aside.mk (L0.out.below hb)
  replace L1 := Aside.mk (L1.out.below hb)
  replace LW := Aside.mk (LW.out.below hb)
  replace LG := Aside.mk (LG.out.below hb)
  replace LH := Aside.mk (LH.out.below hb)
  replace HW0 := Aside.mk (owRow_below ow_mail HW0.out hb)
  replace HW1 := Aside.mk (owRow_below ow_int HW1.out hb)
  replace NW := Aside.mk (NW.out.mono hb.size)
  replace HH0 := Aside.mk (owRow_below ow_mail HH0.out hb)
  replace HH1 := Aside.mk (owRow_below ow_int HH1.out hb)
  replace NH := Aside.mk (NH.out.mono hb.size)
  replace HG0 := Aside.mk (rdMails_mov hb HG0.out)
  replace HG1 := Aside.mk (rdInts_mov hb HG1.out)
  replace HB := Aside.mk (below_step HB.out hb)
  (try clear l0)
  (try clear q0)
  (try clear f0)
  (try clear l1)
  (try clear q1)
  (try clear f1)
  (try clear lW)
  (try clear qW)
  (try clear fW)
  (try clear lG)
  (try clear qG)
  (try clear fG)
  (try clear lH)
  (try clear qH)
  (try clear fH)
  have l0 := L0.out.cells
  have q0 := L0.out.lt
  have f0 := L0.out.free
  have l1 := L1.out.cells
  have q1 := L1.out.lt
  have f1 := L1.out.free
  have lW := LW.out.cells
  have qW := LW.out.lt
  have fW := LW.out.free
  have lG := LG.out.cells
  have qG := LG.out.lt
  have fG := LG.out.free
  have lH := LH.out.cells
  have qH := LH.out.lt
  have fH := LH.out.free
  clear hb
  go_wp2
  go_ret
  exact ⟨rfl, HB.out⟩
end Go.Proofs.Ythhbcakmfbjepaa.H
