/- MarkMail, the reference's: the walk. Printed by this session's gen_mark.py. -/
import Derived.Test.YthhbcakmfbjepaaHMarkMailI
import Derived.Test.YthhbcakmfbjepaaHFlagMail
import Derived.Test.YthhbcakmfbjepaaHStamped
import Derived.Deep.DeepCutAuto
namespace Go.Proofs.Ythhbcakmfbjepaa.H
open Go.RowKit
set_option linter.unusedVariables false
set_option linter.unusedSimpArgs false
set_option maxHeartbeats 20000000 in
set_option maxRecDepth 100000 in
theorem specMarkMail_calls (w : World) (bv gv : Value) (s : Store) (bg g f : Int) (h : rdBoxes w bv s.bx) (hg : rdInts w gv s.go) (hl : smStore s) (ht : ∀ b ∈ s.bx, txBox b) :
    Calls Try.prog 49 #[.agg #[.int .i64 s.by_, .int .i64 s.tm, bv, gv], .int .i64 bg, .int .i64 g, .int .i64 f] w (RetStoreB w w (markMail s bg g f)) := by
  obtain ⟨A0, c0, rfl, _, hm⟩ := rd_len h
  obtain ⟨A1, c1, rfl, _, _⟩ := rd_len hg
  obtain ⟨wz, hwz⟩ : ∃ wz : World, wz.heap.size = w.heap.size + 2 := ⟨(w.alloc (.cells #[] 0)).alloc (.cells #[] 0), by simp⟩
  have HZ := Aside.mk hwz
  clear hwz
  have HR := Aside.mk h
  have HG := Aside.mk hg
  have HL := Aside.mk hl
  have HT := Aside.mk ht
  clear h hg hl ht
  rcases h1 : storeOk s with _ | _
  rotate_left
  by_cases h2 : 0 ≤ boxAt s.bx bg
  · obtain ⟨kk, hkk⟩ : ∃ kk : Nat, boxAt s.bx bg = (kk : Int) := Int.eq_ofNat_of_zero_le h2
    have hlt : kk < s.bx.length := by have := boxAt_lt h2; rw [hkk] at this; simpa using this
    obtain ⟨ad, fv0, gv0, hA, y0, y1, y2, y3, y4, y5, y6, hf, hh⟩ := rdBoxes_at HR.out kk hlt
    subst hA
    obtain ⟨m, hm0⟩ : ∃ m, m = s.bx[kk] := ⟨_, rfl⟩
    rw [← hm0] at y0 y1 y2 y3 y4 hf hh
    obtain ⟨rb, ok, HRR⟩ : ∃ rb ok, Aside (flagMail m g f (s.tm + 1) s.by_ = (rb, ok)) := ⟨_, _, ⟨rfl⟩⟩
    have HE : Aside (markMail s bg g f = stamped s kk (rb, ok)) := ⟨by unfold markMail; rw [h1, hkk, decide_eq_true (show (0 : Int) ≤ (kk : Int) by omega)]; simp only [Bool.and_self, Bool.not_false, if_true, Int.toNat_natCast]; rw [List.getElem?_eq_getElem hlt, ← hm0]; dsimp only; rw [HRR.out]⟩
    have HLM : Aside (smBox m) := ⟨hm0 ▸ HL.out.1.2 _ (List.getElem_mem hlt)⟩
    have HTM : Aside (txBox m) := ⟨hm0 ▸ HT.out _ (List.getElem_mem hlt)⟩
    have HTR : Aside (txBox rb) := ⟨flagMail_tx HRR.out HTM.out⟩
    have HKK := Aside.mk hkk
    have HKL := Aside.mk hlt
    obtain ⟨A2, c2, rfl, _, _⟩ := rd_len hf
    obtain ⟨A3, c3, rfl, _, _⟩ := rd_len hh
    have HF := Aside.mk hf
    have HH := Aside.mk hh
    have HY := Aside.mk (And.intro y0 (And.intro y1 (And.intro y2 (And.intro y3 (And.intro y4 (And.intro y5 y6))))))
    have hq0 : (0 : Int) ≤ (kk : Int) := by omega
    have hq1 : (kk : Int) < (s.bx.length : Int) := by omega
    have htm := storeOk_tm h1
    obtain ⟨htm0, htm1⟩ := htm
    clear hf hh hm0 h2 hkk y0 y1 y2 y3 y4 y5 y6
    go_enter Try.func49, Try.ntmps49
    go_wp2_with (fail)
    refine (specBoxAt_calls _ _ _ s bg (rdBoxes_mov (by (repeat (first | (with_reducible exact HB.out) | (with_reducible exact Below.refl _ _) | (with_reducible refine below_set ?_ (by first | omega | (dsimp only; omega) | (simp; done) | (simp; omega)) _) | (with_reducible refine below_alloc ?_ _) | (with_reducible refine below_drewN ?_ _) | (with_reducible refine below_drew ?_)))) HR.out) rfl).mono ?_
    rintro e w' ⟨he, hb⟩
    (try rw [HKK.out] at he)
    subst he
    have L0 := Aside.mk (((Loc.new w #[.int .i64 s.by_, .int .i64 s.tm, .slice (some ad) s.bx.length c0, .slice A1 s.go.length c1] 42).alloc (.cells #[.int .i64 0, .int .i64 0, .slice none 0 0, .slice none 0 0] 42)).below hb)
    have L1 := Aside.mk ((Loc.new1 w (.cells #[.int .i64 s.by_, .int .i64 s.tm, .slice (some ad) s.bx.length c0, .slice A1 s.go.length c1] 42) #[.int .i64 0, .int .i64 0, .slice none 0 0, .slice none 0 0] 42).below hb)
    have HB := Aside.mk (below_step (w0 := w) (by (repeat (first | (with_reducible exact HB.out) | (with_reducible exact Below.refl _ _) | (with_reducible refine below_set ?_ (by first | omega | (dsimp only; omega) | (simp; done) | (simp; omega)) _) | (with_reducible refine below_alloc ?_ _) | (with_reducible refine below_drewN ?_ _) | (with_reducible refine below_drew ?_)))) hb)
    clear hb
    have l0 := L0.out.cells
    have l1 := L1.out.cells
    have q0 := L0.out.lt
    have q1 := L1.out.lt
    have f1 := L1.out.free
    go_wp2_with (first
      | (go_at_call 138; refine (specBoxAt_calls _ _ _ s bg (rdBoxes_mov HB.out HR.out) rfl).mono ?_; rintro e w' ⟨he, hb⟩; (try rw [HKK.out] at he); subst he; replace L0 := Aside.mk (L0.out.below hb); replace L1 := Aside.mk (L1.out.below hb); replace HB := Aside.mk (below_step HB.out hb); (try clear l0); (try clear q0); (try clear f0); (try clear l1); (try clear q1); (try clear f1); have l0 := L0.out.cells; have q0 := L0.out.lt; have f0 := L0.out.free; have l1 := L1.out.cells; have q1 := L1.out.lt; have f1 := L1.out.free; clear hb)
      | (go_at_call 25; refine (specStoreOk_calls _ _ _ s (rdBoxes_mov HB.out HR.out) (rdInts_mov HB.out HG.out) HT.out).mono ?_; rintro e w' ⟨he, hb⟩; rw [h1] at he; subst he; replace L0 := Aside.mk (L0.out.below hb); replace L1 := Aside.mk (L1.out.below hb); replace HB := Aside.mk (below_step HB.out hb); (try clear l0); (try clear q0); (try clear f0); (try clear l1); (try clear q1); (try clear f1); have l0 := L0.out.cells; have q0 := L0.out.lt; have f0 := L0.out.free; have l1 := L1.out.cells; have q1 := L1.out.lt; have f1 := L1.out.free; clear hb))
    clear h1
    obtain ⟨wq, hwq⟩ : ∃ wq : World, wq = w' := ⟨_, rfl⟩
    subst hwq
    have HWQ : Aside (wz.heap.size ≤ wq.heap.size) := ⟨by have := L1.out.lt; have := HZ.out; omega⟩
    have x0 := cell_b HB.out HY.out.1
    have x1 := cell_b HB.out HY.out.2.1
    have x2 := cell_b HB.out HY.out.2.2.1
    have x3 := cell_b HB.out HY.out.2.2.2.1
    have x4 := cell_b HB.out HY.out.2.2.2.2.1
    have x5 := cell_b HB.out HY.out.2.2.2.2.2.1
    have x6 := cell_b HB.out HY.out.2.2.2.2.2.2
    go_wp2_with (fail)
    go_cut [11, 12] (fun v11 v12 wc => ∃ (B : Nat) (D : List Nat), v11 = .pointer (some ⟨B, 0, none⟩) ∧ v12 = .bool ok ∧ Aside (HasBox wq wc B D rb) ∧ Aside (Loc wc w.heap.size #[.int .i64 s.by_, .int .i64 s.tm, .slice (some ad) s.bx.length c0, .slice A1 s.go.length c1] 42) ∧ Aside (Loc wc (w.heap.size + 1) #[.int .i64 0, .int .i64 0, .slice none 0 0, .slice none 0 0] 42) ∧ Aside (Below w.heap.size w wc))
    case first =>
      refine yBegin (S := (fun w' => Loc w' w.heap.size #[.int .i64 s.by_, .int .i64 s.tm, .slice (some ad) s.bx.length c0, .slice A1 s.go.length c1] 42 ∧ Loc w' (w.heap.size + 1) #[.int .i64 0, .int .i64 0, .slice none 0 0, .slice none 0 0] 42 ∧ w'.cell? (ad.add (kk * 7)) = some (.int .i64 m.g) ∧ w'.cell? ⟨(ad.add (kk * 7)).block, (ad.add (kk * 7)).off + 1, none⟩ = some (.string m.nm) ∧ w'.cell? ⟨(ad.add (kk * 7)).block, (ad.add (kk * 7)).off + 2, none⟩ = some (.int .i64 m.t) ∧ w'.cell? ⟨(ad.add (kk * 7)).block, (ad.add (kk * 7)).off + 3, none⟩ = some (.int .i64 m.b) ∧ w'.cell? ⟨(ad.add (kk * 7)).block, (ad.add (kk * 7)).off + 4, none⟩ = some (.int .i64 m.nx) ∧ w'.cell? ⟨(ad.add (kk * 7)).block, (ad.add (kk * 7)).off + 5, none⟩ = some (.slice A2 m.ml.length c2) ∧ w'.cell? ⟨(ad.add (kk * 7)).block, (ad.add (kk * 7)).off + 6, none⟩ = some (.slice A3 m.go.length c3) ∧ Since wq w')) (z := 14) (by kernel_rfl) (by exact ⟨L0.out.drew', L1.out.drew', x0, x1, x2, x3, x4, x5, x6, below_drew (Below.refl _ _)⟩) (fun hHeld => ?_)
      refine yT 0 26 hHeld ?_
      refine yT 1 27 hHeld ?_
      refine yT 2 28 hHeld ?_
      refine yT 3 29 hHeld ?_
      refine yT 4 30 hHeld ?_
      refine yT 5 31 hHeld ?_
      refine yT 6 32 hHeld ?_
      refine yT 7 33 hHeld ?_
      refine yReady (rs := [8, 13]) (by kernel_rfl) (by simp) ?_
      refine yOne rfl (fun K hK => ?_) ?_
      go_simp
      refine (specNextStamp_calls _ s _ _ _ _ _ _ htm0 htm1).mono ?_
      rintro e wt ⟨rfl, hb⟩
      refine hK.out _ _ (by exact ⟨Loc.below hHeld.1 hb, Loc.below hHeld.2.1 hb, cell_b hb hHeld.2.2.1, cell_b hb hHeld.2.2.2.1, cell_b hb hHeld.2.2.2.2.1, cell_b hb hHeld.2.2.2.2.2.1, cell_b hb hHeld.2.2.2.2.2.2.1, cell_b hb hHeld.2.2.2.2.2.2.2.1, cell_b hb hHeld.2.2.2.2.2.2.2.2.1, below_step hHeld.2.2.2.2.2.2.2.2.2.low hb⟩) (fun hHeld => ?_)
      clear hK K
      (try simp only [Act.put, List.setIfInBounds_toArray, List.set_cons_zero, List.set_cons_succ])
      have hbt := hb
      clear hb
      refine yReady (rs := [9, 13]) (by kernel_rfl) (by simp) ?_
      refine yOne rfl (fun K hK => ?_) ?_
      go_simp
      have hHp := hHeld.2.2.2.2.2.2.2.2.2.low
      refine (specFlagMail_calls _ _ _ m g f (s.tm + 1) s.by_ (rdMails_mov (below_step HB.out (by exact hHeld.2.2.2.2.2.2.2.2.2.low)) HF.out) (rdInts_mov (below_step HB.out (by exact hHeld.2.2.2.2.2.2.2.2.2.low)) HH.out) HLM.out HTM.out).mono ?_
      rintro e ws ⟨ms, gs, Ds, he, ho, hn, hb⟩
      rw [HRR.out] at he ho
      dsimp only at he ho
      subst he
      obtain ⟨As0, cs0, As1, cs1, _, _, rfl, rfl, _, _, _⟩ := box_parts ho
      refine hK.out _ _ (by exact ⟨Loc.below hHeld.1 hb, Loc.below hHeld.2.1 hb, cell_b hb hHeld.2.2.1, cell_b hb hHeld.2.2.2.1, cell_b hb hHeld.2.2.2.2.1, cell_b hb hHeld.2.2.2.2.2.1, cell_b hb hHeld.2.2.2.2.2.2.1, cell_b hb hHeld.2.2.2.2.2.2.2.1, cell_b hb hHeld.2.2.2.2.2.2.2.2.1, below_step hHeld.2.2.2.2.2.2.2.2.2.low hb⟩) (fun hHeld => ?_)
      clear hK K
      (try simp only [Act.put, List.setIfInBounds_toArray, List.set_cons_zero, List.set_cons_succ])
      have hbs := hb
      clear hb
      have hHs := hHeld
      refine yT 10 25 hHeld ?_
      refine yT 11 36 hHeld ?_
      refine yP 12 37 hHeld ?_
      refine yReady (rs := [13]) (by kernel_rfl) (by simp) ?_
      refine yOne rfl (fun K hK => ?_) yNil
      go_simp
      refine hK.out _ _ (by exact ⟨Loc.alloc hHeld.1 _, Loc.alloc hHeld.2.1 _, cell_alloc' hHeld.2.2.1 _, cell_alloc' hHeld.2.2.2.1 _, cell_alloc' hHeld.2.2.2.2.1 _, cell_alloc' hHeld.2.2.2.2.2.1 _, cell_alloc' hHeld.2.2.2.2.2.2.1 _, cell_alloc' hHeld.2.2.2.2.2.2.2.1 _, cell_alloc' hHeld.2.2.2.2.2.2.2.2.1 _, below_alloc hHeld.2.2.2.2.2.2.2.2.2.low _⟩) (fun hHeld => ?_)
      clear hK K
      (try simp only [Act.put, List.setIfInBounds_toArray, List.set_cons_zero, List.set_cons_succ])
      refine yReady (rs := [14]) (by kernel_rfl) (by simp) ?_
      refine yLast (Or.inl rfl) rfl (fun K hK => ?_) yNil
      go_simp
      refine hK.out _ _ ?_
      clear hK K
      (try simp only [Act.put, List.setIfInBounds_toArray, List.set_cons_zero, List.set_cons_succ])
      refine yReady (rs := [15]) (by kernel_rfl) (by simp) ?_
      refine yLast (Or.inr rfl) rfl (fun K hK => ?_) yNil
      go_simp
      refine hK.out _ _ ?_
      clear hK K
      (try simp only [Act.put, List.setIfInBounds_toArray, List.set_cons_zero, List.set_cons_succ])
      refine yDone (by kernel_rfl) ?_ _
      go_wp2
      go_meet
      case rel => exact ⟨_, _, rfl, rfl, ⟨HasBox.made ho (hn.from (by have := hHp.size; exact this)) (by have := hHs.2.2.2.2.2.2.2.2.2.low.size; exact this)⟩, ⟨Loc.alloc hHs.1 _⟩, ⟨Loc.alloc hHs.2.1 _⟩, ⟨below_step HB.out (below_alloc hHs.2.2.2.2.2.2.2.2.2.low _)⟩⟩
      refine yOne rfl (fun K hK => ?_) yNil
      have hHa := hHeld
      go_simp
      refine hK.out _ _ (by exact ⟨Loc.alloc hHeld.1 _, Loc.alloc hHeld.2.1 _, cell_alloc' hHeld.2.2.1 _, cell_alloc' hHeld.2.2.2.1 _, cell_alloc' hHeld.2.2.2.2.1 _, cell_alloc' hHeld.2.2.2.2.2.1 _, cell_alloc' hHeld.2.2.2.2.2.2.1 _, cell_alloc' hHeld.2.2.2.2.2.2.2.1 _, cell_alloc' hHeld.2.2.2.2.2.2.2.2.1 _, below_alloc hHeld.2.2.2.2.2.2.2.2.2.low _⟩) (fun hHeld => ?_)
      clear hK K
      (try simp only [Act.put, List.setIfInBounds_toArray, List.set_cons_zero, List.set_cons_succ])
      obtain ⟨BB, hBB⟩ : ∃ BB, BB = (wt).heap.size := ⟨_, rfl⟩
      have HBB : Aside (wq.heap.size ≤ BB ∧ BB < (wt).heap.size + 1) := ⟨by have : wq.heap.size ≤ (wt).heap.size := hHa.2.2.2.2.2.2.2.2.2.low.size; constructor <;> omega⟩
      have LB : Loc ((wt).alloc (.cells #[.int .i64 0, .string ⟨#[]⟩, .int .i64 0, .int .i64 0, .int .i64 0, .slice none 0 0, .slice none 0 0] 55)) BB #[.int .i64 0, .string ⟨#[]⟩, .int .i64 0, .int .i64 0, .int .i64 0, .slice none 0 0, .slice none 0 0] 55 := by rw [hBB]; exact Loc.new _ _ _
      try rw [← hBB]
      clear hBB
      clear hHa
      refine yReady (rs := [9]) (by kernel_rfl) (by simp) ?_
      refine yOne rfl (fun K hK => ?_) yNil
      go_simp
      have hHp := hHeld.2.2.2.2.2.2.2.2.2.low
      have hLBp := LB
      refine (specFlagMail_calls _ _ _ m g f (s.tm + 1) s.by_ (rdMails_mov (below_step HB.out (by exact hHeld.2.2.2.2.2.2.2.2.2.low)) HF.out) (rdInts_mov (below_step HB.out (by exact hHeld.2.2.2.2.2.2.2.2.2.low)) HH.out) HLM.out HTM.out).mono ?_
      rintro e ws ⟨ms, gs, Ds, he, ho, hn, hb⟩
      rw [HRR.out] at he ho
      dsimp only at he ho
      subst he
      obtain ⟨As0, cs0, As1, cs1, _, _, rfl, rfl, _, _, _⟩ := box_parts ho
      refine hK.out _ _ (by exact ⟨Loc.below hHeld.1 hb, Loc.below hHeld.2.1 hb, cell_b hb hHeld.2.2.1, cell_b hb hHeld.2.2.2.1, cell_b hb hHeld.2.2.2.2.1, cell_b hb hHeld.2.2.2.2.2.1, cell_b hb hHeld.2.2.2.2.2.2.1, cell_b hb hHeld.2.2.2.2.2.2.2.1, cell_b hb hHeld.2.2.2.2.2.2.2.2.1, below_step hHeld.2.2.2.2.2.2.2.2.2.low hb⟩) (fun hHeld => ?_)
      clear hK K
      (try simp only [Act.put, List.setIfInBounds_toArray, List.set_cons_zero, List.set_cons_succ])
      have hbs := hb
      clear hb
      have hHs := hHeld
      refine yT 10 25 hHeld ?_
      refine yT 11 36 hHeld ?_
      refine yP 12 37 hHeld ?_
      refine yReady (rs := [14]) (by kernel_rfl) (by simp) ?_
      refine yLast (Or.inl rfl) rfl (fun K hK => ?_) yNil
      have lB := ((Loc.below LB hbs)).cells
      have qB := ((Loc.below LB hbs)).lt
      have fB := ((Loc.below LB hbs)).free
      go_simp
      refine hK.out _ _ ?_
      clear hK K
      (try simp only [Act.put, List.setIfInBounds_toArray, List.set_cons_zero, List.set_cons_succ])
      refine yReady (rs := [15]) (by kernel_rfl) (by simp) ?_
      refine yLast (Or.inr rfl) rfl (fun K hK => ?_) yNil
      go_simp
      refine hK.out _ _ ?_
      clear hK K
      (try simp only [Act.put, List.setIfInBounds_toArray, List.set_cons_zero, List.set_cons_succ])
      refine yDone (by kernel_rfl) ?_ _
      go_wp2
      go_meet
      case rel => rw [setsc7]; exact ⟨BB, _, rfl, rfl, ⟨HasBox.stored ho (hn.from (by have := hHp.size; exact this)) (Loc.below LB hbs) (fun hx => by have := (hn.2 _ hx).1; have := (hLBp).lt; omega) HBB.out.1⟩, ⟨Loc.sets2 (hHeld.1) (by have := HBB.out.1; have := L0.out.lt; omega) _⟩, ⟨Loc.sets2 (hHeld.2.1) (by have := HBB.out.1; have := L1.out.lt; omega) _⟩, ⟨below_step HB.out (below_sets2 hHeld.2.2.2.2.2.2.2.2.2.low (by exact HBB.out.1) _ _)⟩⟩
      refine yOne rfl (fun K hK => ?_) yNil
      have hHa := hHeld
      go_simp
      refine hK.out _ _ (by exact ⟨Loc.alloc hHeld.1 _, Loc.alloc hHeld.2.1 _, cell_alloc' hHeld.2.2.1 _, cell_alloc' hHeld.2.2.2.1 _, cell_alloc' hHeld.2.2.2.2.1 _, cell_alloc' hHeld.2.2.2.2.2.1 _, cell_alloc' hHeld.2.2.2.2.2.2.1 _, cell_alloc' hHeld.2.2.2.2.2.2.2.1 _, cell_alloc' hHeld.2.2.2.2.2.2.2.2.1 _, below_alloc hHeld.2.2.2.2.2.2.2.2.2.low _⟩) (fun hHeld => ?_)
      clear hK K
      (try simp only [Act.put, List.setIfInBounds_toArray, List.set_cons_zero, List.set_cons_succ])
      obtain ⟨BB, hBB⟩ : ∃ BB, BB = (wq).heap.size := ⟨_, rfl⟩
      have HBB : Aside (wq.heap.size ≤ BB ∧ BB < (wq).heap.size + 1) := ⟨by have : wq.heap.size ≤ (wq).heap.size := hHa.2.2.2.2.2.2.2.2.2.low.size; constructor <;> omega⟩
      have LB : Loc ((wq.drew).alloc (.cells #[.int .i64 0, .string ⟨#[]⟩, .int .i64 0, .int .i64 0, .int .i64 0, .slice none 0 0, .slice none 0 0] 55)) BB #[.int .i64 0, .string ⟨#[]⟩, .int .i64 0, .int .i64 0, .int .i64 0, .slice none 0 0, .slice none 0 0] 55 := by rw [hBB]; exact Loc.new _ _ _
      try rw [← hBB]
      clear hBB
      clear hHa
      refine yReady (rs := [8]) (by kernel_rfl) (by simp) ?_
      refine yOne rfl (fun K hK => ?_) yNil
      go_simp
      refine (specNextStamp_calls _ s _ _ _ _ _ _ htm0 htm1).mono ?_
      rintro e wt ⟨rfl, hb⟩
      refine hK.out _ _ (by exact ⟨Loc.below hHeld.1 hb, Loc.below hHeld.2.1 hb, cell_b hb hHeld.2.2.1, cell_b hb hHeld.2.2.2.1, cell_b hb hHeld.2.2.2.2.1, cell_b hb hHeld.2.2.2.2.2.1, cell_b hb hHeld.2.2.2.2.2.2.1, cell_b hb hHeld.2.2.2.2.2.2.2.1, cell_b hb hHeld.2.2.2.2.2.2.2.2.1, below_step hHeld.2.2.2.2.2.2.2.2.2.low hb⟩) (fun hHeld => ?_)
      clear hK K
      (try simp only [Act.put, List.setIfInBounds_toArray, List.set_cons_zero, List.set_cons_succ])
      have hbt := hb
      clear hb
      refine yReady (rs := [9]) (by kernel_rfl) (by simp) ?_
      refine yOne rfl (fun K hK => ?_) yNil
      go_simp
      have hHp := hHeld.2.2.2.2.2.2.2.2.2.low
      have hLBp := (Loc.below LB hbt)
      refine (specFlagMail_calls _ _ _ m g f (s.tm + 1) s.by_ (rdMails_mov (below_step HB.out (by exact hHeld.2.2.2.2.2.2.2.2.2.low)) HF.out) (rdInts_mov (below_step HB.out (by exact hHeld.2.2.2.2.2.2.2.2.2.low)) HH.out) HLM.out HTM.out).mono ?_
      rintro e ws ⟨ms, gs, Ds, he, ho, hn, hb⟩
      rw [HRR.out] at he ho
      dsimp only at he ho
      subst he
      obtain ⟨As0, cs0, As1, cs1, _, _, rfl, rfl, _, _, _⟩ := box_parts ho
      refine hK.out _ _ (by exact ⟨Loc.below hHeld.1 hb, Loc.below hHeld.2.1 hb, cell_b hb hHeld.2.2.1, cell_b hb hHeld.2.2.2.1, cell_b hb hHeld.2.2.2.2.1, cell_b hb hHeld.2.2.2.2.2.1, cell_b hb hHeld.2.2.2.2.2.2.1, cell_b hb hHeld.2.2.2.2.2.2.2.1, cell_b hb hHeld.2.2.2.2.2.2.2.2.1, below_step hHeld.2.2.2.2.2.2.2.2.2.low hb⟩) (fun hHeld => ?_)
      clear hK K
      (try simp only [Act.put, List.setIfInBounds_toArray, List.set_cons_zero, List.set_cons_succ])
      have hbs := hb
      clear hb
      have hHs := hHeld
      refine yT 10 25 hHeld ?_
      refine yT 11 36 hHeld ?_
      refine yP 12 37 hHeld ?_
      refine yReady (rs := [14]) (by kernel_rfl) (by simp) ?_
      refine yLast (Or.inl rfl) rfl (fun K hK => ?_) yNil
      have lB := ((Loc.below (Loc.below LB hbt) hbs)).cells
      have qB := ((Loc.below (Loc.below LB hbt) hbs)).lt
      have fB := ((Loc.below (Loc.below LB hbt) hbs)).free
      go_simp
      refine hK.out _ _ ?_
      clear hK K
      (try simp only [Act.put, List.setIfInBounds_toArray, List.set_cons_zero, List.set_cons_succ])
      refine yReady (rs := [15]) (by kernel_rfl) (by simp) ?_
      refine yLast (Or.inr rfl) rfl (fun K hK => ?_) yNil
      go_simp
      refine hK.out _ _ ?_
      clear hK K
      (try simp only [Act.put, List.setIfInBounds_toArray, List.set_cons_zero, List.set_cons_succ])
      refine yDone (by kernel_rfl) ?_ _
      go_wp2
      go_meet
      case rel => rw [setsc7]; exact ⟨BB, _, rfl, rfl, ⟨HasBox.stored ho (hn.from (by have := hHp.size; exact this)) (Loc.below (Loc.below LB hbt) hbs) (fun hx => by have := (hn.2 _ hx).1; have := (hLBp).lt; omega) HBB.out.1⟩, ⟨Loc.sets2 (hHeld.1) (by have := HBB.out.1; have := L0.out.lt; omega) _⟩, ⟨Loc.sets2 (hHeld.2.1) (by have := HBB.out.1; have := L1.out.lt; omega) _⟩, ⟨below_step HB.out (below_sets2 hHeld.2.2.2.2.2.2.2.2.2.low (by exact HBB.out.1) _ _)⟩⟩
    case rest =>
      obtain ⟨BV, DV, rfl, rfl, HHV, L0', L1', HB'⟩ := hcut


      have HQL : Aside (w.heap.size + 2 ≤ wq.heap.size) := ⟨by have := L1.out.lt; omega⟩
      clear L0 L1 HB l0 q0 l1 q1 f1 x0 x1 x2 x3 x4 x5 x6
      have L0 := L0'
      have L1 := L1'
      have HB := HB'
      clear L0' L1' HB'
      obtain ⟨Av0, cv0, Av1, cv1, DV0, DV1, rfl, hlV, hV0, hV1, hnV, hbV, hbV2⟩ := HHV.out
      have LV := Aside.mk hlV
      have HV0 := Aside.mk hV0
      have HV1 := Aside.mk hV1
      have NV := Aside.mk hnV
      have HBV : Aside (wq.heap.size ≤ BV ∧ BV ∉ DV0 ++ DV1) := ⟨hbV2, hbV⟩
      clear hlV hV0 hV1 hnV hbV hbV2 HHV
      have l0 := L0.out.cells
      have q0 := L0.out.lt
      have f0 := L0.out.free
      have l1 := L1.out.cells
      have q1 := L1.out.lt
      have f1 := L1.out.free
      have lV := LV.out.cells
      have qV := LV.out.lt
      have fV := LV.out.free
      have hbv := HBV.out.1
      rcases ok with _ | _
      · have HE2 : Aside (markMail s bg g f = (s, false)) := ⟨by rw [HE.out]; rfl⟩
        go_wp2_with (fail)
        refine (l07Copy_calls _ _ _ s (rdBoxes_mov HB.out HR.out) (rdInts_mov HB.out HG.out) HL.out).mono ?_
        rintro e w5 ⟨mx, gx, E, rfl, ho, hn, hb⟩
        obtain ⟨An, cn, Ao, co, F0, F1, rfl, rfl, rfl, hom, hog⟩ := store_slices ho
        have HPm := Aside.mk hom
        have HPg := Aside.mk hog
        have HEm : Aside (∀ x ∈ F0, w.heap.size + 2 ≤ x) := ⟨fun x hx => by have := (hn.2 x (by simp [hx])).1; omega⟩
        have HEg : Aside (∀ x ∈ F1, w.heap.size + 2 ≤ x) := ⟨fun x hx => by have := (hn.2 x (by simp [hx])).1; omega⟩
        have HNx := Aside.mk (hn.from (w0 := w) (by omega))
        replace L1 := Aside.mk (L1.out.below hb)
        replace HB := Aside.mk (below_step HB.out hb)
        clear hom hog ho hn hb l1 q1 f1
        have l1 := L1.out.cells
        have q1 := L1.out.lt
        have f1 := L1.out.free
        go_wp2
        refine bodyPost_ret (v := .tuple #[.agg #[.int .i64 s.by_, .int .i64 s.tm, .slice An s.bx.length cn, .slice Ao s.go.length co], .bool false]) (by simp [results, go_sem, l1, q1]) rfl ?_
        rw [HE2.out]
        refine ⟨_, _, F0 ++ F1, rfl, ⟨_, _, F0, F1, rfl, rfl, ?_, ?_⟩, ?_, ?_⟩
        · (repeat (first | (with_reducible exact HPm.out) | (with_reducible refine owRow_far ow_box (w.heap.size + 2) ?_ HEm.out (by first | omega | (dsimp only; omega) | (simp; done) | (simp; omega)) _) | (with_reducible refine owRow_alloc ow_box ?_ _)))
        · (repeat (first | (with_reducible exact HPg.out) | (with_reducible refine owRow_far ow_int (w.heap.size + 2) ?_ HEg.out (by first | omega | (dsimp only; omega) | (simp; done) | (simp; omega)) _) | (with_reducible refine owRow_alloc ow_int ?_ _)))
        · (repeat (first | (with_reducible exact HNx.out) | (with_reducible refine New.set ?_ _ _) | (with_reducible refine New.alloc ?_ _) | (with_reducible refine New.drew ?_)))
        · (repeat (first | (with_reducible exact HB.out) | (with_reducible exact Below.refl _ _) | (with_reducible refine below_set ?_ (by first | omega | (dsimp only; omega) | (simp; done) | (simp; omega)) _) | (with_reducible refine below_alloc ?_ _) | (with_reducible refine below_drewN ?_ _) | (with_reducible refine below_drew ?_)))
      · obtain ⟨rs, rk, HRS⟩ : ∃ rs rk, Aside (orElse { s with tm := s.tm + 1, bx := s.bx.set kk rb } s = (rs, rk)) := ⟨_, _, ⟨rfl⟩⟩
        have HE2 : Aside (markMail s bg g f = (rs, rk)) := ⟨by rw [HE.out, ← HRS.out]; rfl⟩
        have hbox : owBox wc (DV0 ++ DV1) [.int .i64 rb.g, .string rb.nm, .int .i64 rb.t, .int .i64 rb.b, .int .i64 rb.nx, .slice Av0 rb.ml.length cv0, .slice Av1 rb.go.length cv1] rb := ⟨_, _, DV0, DV1, rfl, rfl, HV0.out, HV1.out⟩
        have HBX := Aside.mk hbox
        clear hbox
        go_wp2_with (fail)
        refine (l07Stamped_calls wz _ _ _ _ _ s kk rb (DV0 ++ DV1) (rdBoxes_mov HB.out HR.out) (rdInts_mov HB.out HG.out) HL.out HT.out HKL.out htm0 htm1 HBX.out (NV.out.from HWQ.out) (by have := HWQ.out; have := NV.out; have := HBV.out; omega) HTR.out).mono ?_
        rintro e w4 ⟨mx, gx, E, he, ho, hn, hb⟩
        rw [HRS.out] at he ho
        dsimp only at he ho
        subst he
        obtain ⟨An, cn, Ao, co, F0, F1, rfl, rfl, rfl, hom, hog⟩ := store_slices ho
        have HPm := Aside.mk hom
        have HPg := Aside.mk hog
        have HEm : Aside (∀ x ∈ F0, w.heap.size + 2 ≤ x) := ⟨fun x hx => by have := (hn.2 x (by simp [hx])).1; have := HZ.out; omega⟩
        have HEg : Aside (∀ x ∈ F1, w.heap.size + 2 ≤ x) := ⟨fun x hx => by have := (hn.2 x (by simp [hx])).1; have := HZ.out; omega⟩
        have HNx := Aside.mk (hn.from (w0 := w) (by have := HZ.out; omega))
        replace L1 := Aside.mk (L1.out.below hb)
        replace HB := Aside.mk (below_step HB.out hb)
        clear hom hog ho hn hb
        (try clear l1 q1 f1)
        have l1 := L1.out.cells
        have q1 := L1.out.lt
        have f1 := L1.out.free
        go_wp2
        refine bodyPost_ret (v := .tuple #[.agg #[.int .i64 rs.by_, .int .i64 rs.tm, .slice An rs.bx.length cn, .slice Ao rs.go.length co], .bool rk]) (by simp [results, go_sem, l1, q1]) rfl ?_
        rw [HE2.out]
        refine ⟨_, _, F0 ++ F1, rfl, ⟨_, _, F0, F1, rfl, rfl, ?_, ?_⟩, ?_, ?_⟩
        · (repeat (first | (with_reducible exact HPm.out) | (with_reducible refine owRow_far ow_box (w.heap.size + 2) ?_ HEm.out (by first | omega | (dsimp only; omega) | (simp; done) | (simp; omega)) _) | (with_reducible refine owRow_alloc ow_box ?_ _)))
        · (repeat (first | (with_reducible exact HPg.out) | (with_reducible refine owRow_far ow_int (w.heap.size + 2) ?_ HEg.out (by first | omega | (dsimp only; omega) | (simp; done) | (simp; omega)) _) | (with_reducible refine owRow_alloc ow_int ?_ _)))
        · (repeat (first | (with_reducible exact HNx.out) | (with_reducible refine New.set ?_ _ _) | (with_reducible refine New.alloc ?_ _) | (with_reducible refine New.drew ?_)))
        · (repeat (first | (with_reducible exact HB.out) | (with_reducible exact Below.refl _ _) | (with_reducible refine below_set ?_ (by first | omega | (dsimp only; omega) | (simp; done) | (simp; omega)) _) | (with_reducible refine below_alloc ?_ _) | (with_reducible refine below_drewN ?_ _) | (with_reducible refine below_drew ?_)))
  all_goals
    have HE : Aside (markMail s bg g f = (s, false)) := ⟨by unfold markMail; simp [*]; try omega⟩
    have HKK : Aside (boxAt s.bx bg = boxAt s.bx bg) := ⟨rfl⟩
    go_enter Try.func49, Try.ntmps49
    go_wp2_with (fail)
    refine (specBoxAt_calls _ _ _ s bg (rdBoxes_mov (by (repeat (first | (with_reducible exact HB.out) | (with_reducible exact Below.refl _ _) | (with_reducible refine below_set ?_ (by first | omega | (dsimp only; omega) | (simp; done) | (simp; omega)) _) | (with_reducible refine below_alloc ?_ _) | (with_reducible refine below_drewN ?_ _) | (with_reducible refine below_drew ?_)))) HR.out) rfl).mono ?_
    rintro e w' ⟨he, hb⟩
    (try rw [HKK.out] at he)
    subst he
    have L0 := Aside.mk (((Loc.new w #[.int .i64 s.by_, .int .i64 s.tm, .slice A0 s.bx.length c0, .slice A1 s.go.length c1] 42).alloc (.cells #[.int .i64 0, .int .i64 0, .slice none 0 0, .slice none 0 0] 42)).below hb)
    have L1 := Aside.mk ((Loc.new1 w (.cells #[.int .i64 s.by_, .int .i64 s.tm, .slice A0 s.bx.length c0, .slice A1 s.go.length c1] 42) #[.int .i64 0, .int .i64 0, .slice none 0 0, .slice none 0 0] 42).below hb)
    have HB := Aside.mk (below_step (w0 := w) (by (repeat (first | (with_reducible exact HB.out) | (with_reducible exact Below.refl _ _) | (with_reducible refine below_set ?_ (by first | omega | (dsimp only; omega) | (simp; done) | (simp; omega)) _) | (with_reducible refine below_alloc ?_ _) | (with_reducible refine below_drewN ?_ _) | (with_reducible refine below_drew ?_)))) hb)
    clear hb
    have l0 := L0.out.cells
    have l1 := L1.out.cells
    have q0 := L0.out.lt
    have q1 := L1.out.lt
    have f1 := L1.out.free
    go_wp2_with (first
      | (go_at_call 138; refine (specBoxAt_calls _ _ _ s bg (rdBoxes_mov HB.out HR.out) rfl).mono ?_; rintro e w' ⟨he, hb⟩; (try rw [HKK.out] at he); subst he; replace L0 := Aside.mk (L0.out.below hb); replace L1 := Aside.mk (L1.out.below hb); replace HB := Aside.mk (below_step HB.out hb); (try clear l0); (try clear q0); (try clear f0); (try clear l1); (try clear q1); (try clear f1); have l0 := L0.out.cells; have q0 := L0.out.lt; have f0 := L0.out.free; have l1 := L1.out.cells; have q1 := L1.out.lt; have f1 := L1.out.free; clear hb)
      | (go_at_call 25; refine (specStoreOk_calls _ _ _ s (rdBoxes_mov HB.out HR.out) (rdInts_mov HB.out HG.out) HT.out).mono ?_; rintro e w' ⟨he, hb⟩; rw [h1] at he; subst he; replace L0 := Aside.mk (L0.out.below hb); replace L1 := Aside.mk (L1.out.below hb); replace HB := Aside.mk (below_step HB.out hb); (try clear l0); (try clear q0); (try clear f0); (try clear l1); (try clear q1); (try clear f1); have l0 := L0.out.cells; have q0 := L0.out.lt; have f0 := L0.out.free; have l1 := L1.out.cells; have q1 := L1.out.lt; have f1 := L1.out.free; clear hb))
    go_wp2_with (fail)
    refine (l07Copy_calls _ _ _ s (rdBoxes_mov HB.out HR.out) (rdInts_mov HB.out HG.out) HL.out).mono ?_
    rintro e w5 ⟨mx, gx, E, rfl, ho, hn, hb⟩
    obtain ⟨An, cn, Ao, co, F0, F1, rfl, rfl, rfl, hom, hog⟩ := store_slices ho
    have HPm := Aside.mk hom
    have HPg := Aside.mk hog
    have HEm : Aside (∀ x ∈ F0, w.heap.size + 2 ≤ x) := ⟨fun x hx => by have := (hn.2 x (by simp [hx])).1; omega⟩
    have HEg : Aside (∀ x ∈ F1, w.heap.size + 2 ≤ x) := ⟨fun x hx => by have := (hn.2 x (by simp [hx])).1; omega⟩
    have HNx := Aside.mk (hn.from (w0 := w) (by omega))
    replace L1 := Aside.mk (L1.out.below hb)
    replace HB := Aside.mk (below_step HB.out hb)
    clear hom hog ho hn hb l1 q1 f1
    have l1 := L1.out.cells
    have q1 := L1.out.lt
    have f1 := L1.out.free
    go_wp2
    refine bodyPost_ret (v := .tuple #[.agg #[.int .i64 s.by_, .int .i64 s.tm, .slice An s.bx.length cn, .slice Ao s.go.length co], .bool false]) (by simp [results, go_sem, l1, q1]) rfl ?_
    rw [HE.out]
    refine ⟨_, _, F0 ++ F1, rfl, ⟨_, _, F0, F1, rfl, rfl, ?_, ?_⟩, ?_, ?_⟩
    · (repeat (first | (with_reducible exact HPm.out) | (with_reducible refine owRow_far ow_box (w.heap.size + 2) ?_ HEm.out (by first | omega | (dsimp only; omega) | (simp; done) | (simp; omega)) _) | (with_reducible refine owRow_alloc ow_box ?_ _)))
    · (repeat (first | (with_reducible exact HPg.out) | (with_reducible refine owRow_far ow_int (w.heap.size + 2) ?_ HEg.out (by first | omega | (dsimp only; omega) | (simp; done) | (simp; omega)) _) | (with_reducible refine owRow_alloc ow_int ?_ _)))
    · (repeat (first | (with_reducible exact HNx.out) | (with_reducible refine New.set ?_ _ _) | (with_reducible refine New.alloc ?_ _) | (with_reducible refine New.drew ?_)))
    · (repeat (first | (with_reducible exact HB.out) | (with_reducible exact Below.refl _ _) | (with_reducible refine below_set ?_ (by first | omega | (dsimp only; omega) | (simp; done) | (simp; omega)) _) | (with_reducible refine below_alloc ?_ _) | (with_reducible refine below_drewN ?_ _) | (with_reducible refine below_drew ?_)))
theorem cBoxes_set : ∀ (l : List Box) (k : Nat) (b : Box), cBoxes (l.set k b) ≤ cBoxes l + cBox b
  | [], k, b => by simp [cBoxes, cBox]; have := cMails_nn b.ml; omega
  | x :: l, 0, b => by
    have := cMails_nn x.ml
    simp only [List.set_cons_zero, cBoxes, cBox]
    omega
  | x :: l, k + 1, b => by
    have := cBoxes_set l k b
    simp only [List.set_cons_succ, cBoxes]
    omega
theorem stamped_small {s rs : Store} {ok : Bool} {k : Nat} {r : Box × Bool} (h : stamped s k r = (rs, ok)) (hs : szStore s ≤ 1048576) (hr : cMails r.1.ml + (r.1.go.length : Int) ≤ 100000000) : cBoxes rs.bx + (rs.go.length : Int) ≤ 200000000 := by
  have h0 := cStore_of_sz hs
  have h1 := cBoxes_set s.bx k r.1
  unfold cBox at h1
  unfold stamped orElse at h
  split at h
  · split at h
    · injection h with h _
      subst h
      dsimp only
      omega
    · injection h with h _
      subst h
      omega
  · injection h with h _
    subst h
    omega
theorem szBox_at {s : Store} {k : Nat} {b : Box} (h : s.bx[k]? = some b) (hs : szStore s ≤ 1048576) : szBox b ≤ 1048576 := by
  have := sz_box_in (List.mem_of_getElem? h)
  unfold szStore szBoxes at hs
  omega
theorem markMail_small {s rs : Store} {ok : Bool} {bg g f : Int} (h : markMail s bg g f = (rs, ok)) (hs : szStore s ≤ 1048576) : cBoxes rs.bx + (rs.go.length : Int) ≤ 200000000 := by
  have h0 := cStore_of_sz hs
  unfold markMail at h
  split at h
  · split at h
    · injection h with h _
      subst h
      omega
    · rename_i b hb
      exact stamped_small h hs (flagMail_small (ok := (flagMail b g f (s.tm + 1) s.by_).2) rfl (szBox_at hb hs))
  · injection h with h _
    subst h
    omega
end Go.Proofs.Ythhbcakmfbjepaa.H
