/- MarkMail, the program's: the walk. Printed by this session's gen_mark.py. -/
import Derived.Test.YthhbcakmfbjepaaHOrElse
import Derived.Test.YthhbcakmfbjepaaHFlagMailI
import Derived.Test.YthhbcakmfbjepaaHRegY
import Derived.Test.YthhbcakmfbjepaaHAt2
import Derived.Test.YthhbcakmfbjepaaHLaw
import Derived.Deep.DeepCutAuto
namespace Go.Proofs.Ythhbcakmfbjepaa.H
open Go.RowKit
set_option linter.unusedVariables false
set_option linter.unusedSimpArgs false
theorem storeOk_tm {s : Store} (h : storeOk s = true) : 0 ≤ s.tm ∧ s.tm ≤ 100000 := by
  unfold storeOk storeHead at h
  simp only [Bool.and_eq_true] at h
  exact isIn_iff.1 h.1.1.1.2
theorem flagMail_tx {b rb : Box} {ok : Bool} {g n t y : Int} (h : flagMail b g n t y = (rb, ok)) (hb : txBox b) : txBox rb := by
  unfold flagMail at h
  split at h
  · injection h with h _
    subst h
    refine ⟨hb.1, fun m hm => ?_⟩
    dsimp only at hm
    obtain ⟨i, hi, rfl⟩ := List.getElem_of_mem hm
    rw [List.getElem_modify]
    split
    · exact hb.2 (b.ml[i]'(by simpa using hi)) (List.getElem_mem _)
    · exact hb.2 _ (List.getElem_mem _)
  · injection h with h _
    subst h
    exact hb
theorem addMail_tx {b rb : Box} {ok : Bool} {g f t y : Int} {tx : ByteArray} (h : addMail b g f tx t y = (rb, ok)) (hb : txBox b) (htx : tx.size ≤ 9223372036854775807) : txBox rb := by
  unfold addMail at h
  split at h
  · dsimp only at h
    split at h
    · injection h with h _
      subst h
      refine ⟨hb.1, fun m hm => ?_⟩
      rcases List.mem_append.1 hm with hm | hm
      · exact hb.2 m hm
      · rw [List.mem_singleton.1 hm]; exact htx
    · injection h with h _
      subst h
      exact hb
  · injection h with h _
    subst h
    exact hb
set_option maxHeartbeats 20000000 in
set_option maxRecDepth 100000 in
theorem markMail_calls (w : World) (bv gv : Value) (s : Store) (bg g f : Int) (h : rdBoxes w bv s.bx) (hg : rdInts w gv s.go) (hl : smStore s) (ht : ∀ b ∈ s.bx, txBox b) :
    Calls Try.prog 50 #[.agg #[.int .i64 s.by_, .int .i64 s.tm, bv, gv], .int .i64 bg, .int .i64 g, .int .i64 f] w (RetStoreB w w (markMail s bg g f)) := by
  obtain ⟨A0, c0, rfl, _, hm⟩ := rd_len h
  obtain ⟨A1, c1, rfl, _, _⟩ := rd_len hg
  obtain ⟨wz, hwz⟩ : ∃ wz : World, wz.heap.size = w.heap.size + 2 := ⟨(w.alloc (.cells #[] 0)).alloc (.cells #[] 0), by simp⟩
  have HZ := Aside.mk hwz
  clear hwz
  have HR := Aside.mk h
  have HG := Aside.mk hg
  have HL := Aside.mk hl
  have HT := Aside.mk ht
  clear h hg hl ht
  rcases h1 : storeOk s with _ | _
  rotate_left
  by_cases h2 : 0 ≤ boxAt s.bx bg
  · obtain ⟨kk, hkk⟩ : ∃ kk : Nat, boxAt s.bx bg = (kk : Int) := Int.eq_ofNat_of_zero_le h2
    have hlt : kk < s.bx.length := by have := boxAt_lt h2; rw [hkk] at this; simpa using this
    obtain ⟨ad, fv0, gv0, hA, y0, y1, y2, y3, y4, y5, y6, hf, hh⟩ := rdBoxes_at HR.out kk hlt
    subst hA
    obtain ⟨m, hm0⟩ : ∃ m, m = s.bx[kk] := ⟨_, rfl⟩
    rw [← hm0] at y0 y1 y2 y3 y4 hf hh
    obtain ⟨rb, ok, HRR⟩ : ∃ rb ok, Aside (flagMail m g f (s.tm + 1) s.by_ = (rb, ok)) := ⟨_, _, ⟨rfl⟩⟩
    have HE : Aside (markMail s bg g f = stamped s kk (rb, ok)) := ⟨by unfold markMail; rw [h1, hkk, decide_eq_true (show (0 : Int) ≤ (kk : Int) by omega)]; simp only [Bool.and_self, Bool.not_false, if_true, Int.toNat_natCast]; rw [List.getElem?_eq_getElem hlt, ← hm0]; dsimp only; rw [HRR.out]⟩
    have HLM : Aside (smBox m) := ⟨hm0 ▸ HL.out.1.2 _ (List.getElem_mem hlt)⟩
    have HTM : Aside (txBox m) := ⟨hm0 ▸ HT.out _ (List.getElem_mem hlt)⟩
    have HTR : Aside (txBox rb) := ⟨flagMail_tx HRR.out HTM.out⟩
    have HKK := Aside.mk hkk
    have HKL := Aside.mk hlt
    obtain ⟨A2, c2, rfl, _, _⟩ := rd_len hf
    obtain ⟨A3, c3, rfl, _, _⟩ := rd_len hh
    have HF := Aside.mk hf
    have HH := Aside.mk hh
    have HY := Aside.mk (And.intro y0 (And.intro y1 (And.intro y2 (And.intro y3 (And.intro y4 (And.intro y5 y6))))))
    have hq0 : (0 : Int) ≤ (kk : Int) := by omega
    have hq1 : (kk : Int) < (s.bx.length : Int) := by omega
    have htm := storeOk_tm h1
    obtain ⟨htm0, htm1⟩ := htm
    clear hf hh hm0 h2 hkk y0 y1 y2 y3 y4 y5 y6
    go_enter Try.func50, Try.ntmps50
    go_wp2_with (fail)
    refine (copyStore_calls _ _ _ s (rdBoxes_mov (by (repeat (first | (with_reducible exact HB.out) | (with_reducible exact Below.refl _ _) | (with_reducible refine below_set ?_ (by first | omega | (dsimp only; omega) | (simp; done) | (simp; omega)) _) | (with_reducible refine below_alloc ?_ _) | (with_reducible refine below_drewN ?_ _) | (with_reducible refine below_drew ?_)))) HR.out) (rdInts_mov (by (repeat (first | (with_reducible exact HB.out) | (with_reducible exact Below.refl _ _) | (with_reducible refine below_set ?_ (by first | omega | (dsimp only; omega) | (simp; done) | (simp; omega)) _) | (with_reducible refine below_alloc ?_ _) | (with_reducible refine below_drewN ?_ _) | (with_reducible refine below_drew ?_)))) HG.out) HL.out).mono ?_
    rintro e w1 ⟨mx, gx, D, rfl, ho, hn, hb⟩
    obtain ⟨Am, cm, Ag, cg, D1, D2, rfl, rfl, rfl, hom, hog⟩ := store_slices ho
    have L0 := Aside.mk (((Loc.new w #[.int .i64 s.by_, .int .i64 s.tm, .slice (some ad) s.bx.length c0, .slice A1 s.go.length c1] 42).alloc (.cells #[.int .i64 0, .int .i64 0, .slice none 0 0, .slice none 0 0] 42)).below hb)
    have L1 := Aside.mk ((Loc.new1 w (.cells #[.int .i64 s.by_, .int .i64 s.tm, .slice (some ad) s.bx.length c0, .slice A1 s.go.length c1] 42) #[.int .i64 0, .int .i64 0, .slice none 0 0, .slice none 0 0] 42).below hb)
    have HB := Aside.mk (below_step (w0 := w) (by (repeat (first | (with_reducible exact HB.out) | (with_reducible exact Below.refl _ _) | (with_reducible refine below_set ?_ (by first | omega | (dsimp only; omega) | (simp; done) | (simp; omega)) _) | (with_reducible refine below_alloc ?_ _) | (with_reducible refine below_drewN ?_ _) | (with_reducible refine below_drew ?_)))) hb)
    have HOm := Aside.mk hom
    have HOg := Aside.mk hog
    have HN : Aside (New wz w1 (D1 ++ D2)) := ⟨hn.from (by have := HZ.out; simp; omega)⟩
    clear ho hom hog hn hb
    have l0 := L0.out.cells
    have l1 := L1.out.cells
    have q0 := L0.out.lt
    have q1 := L1.out.lt
    go_wp2_with (fail)
    replace L0 := Aside.mk (L0.out.alloc (.cells #[.int .i64 s.by_, .int .i64 s.tm, .slice Am s.bx.length cm, .slice Ag s.go.length cg] 42))
    replace L1 := Aside.mk (L1.out.alloc (.cells #[.int .i64 s.by_, .int .i64 s.tm, .slice Am s.bx.length cm, .slice Ag s.go.length cg] 42))
    have L3 := Aside.mk (Loc.new w1 #[.int .i64 s.by_, .int .i64 s.tm, .slice Am s.bx.length cm, .slice Ag s.go.length cg] 42)
    replace HB := Aside.mk (below_alloc HB.out (.cells #[.int .i64 s.by_, .int .i64 s.tm, .slice Am s.bx.length cm, .slice Ag s.go.length cg] 42))
    replace HOm := Aside.mk (owRow_alloc ow_box HOm.out (.cells #[.int .i64 s.by_, .int .i64 s.tm, .slice Am s.bx.length cm, .slice Ag s.go.length cg] 42))
    replace HOg := Aside.mk (owRow_alloc ow_int HOg.out (.cells #[.int .i64 s.by_, .int .i64 s.tm, .slice Am s.bx.length cm, .slice Ag s.go.length cg] 42))
    have HN0 := HN
    replace HN := Aside.mk (HN.out.alloc (.cells #[.int .i64 s.by_, .int .i64 s.tm, .slice Am s.bx.length cm, .slice Ag s.go.length cg] 42))
    obtain ⟨B3, hB3⟩ : ∃ B3, B3 = w1.heap.size := ⟨_, rfl⟩
    have HB3 : Aside (w.heap.size + 2 ≤ B3 ∧ B3 ∉ D1 ++ D2) := ⟨by have := L1.out.lt; simp at this; omega, fun hx => by have := (HN0.out.2 _ hx).2; omega⟩
    rw [← hB3] at L3
    obtain ⟨w2, hw2⟩ : ∃ w2, w2 = w1.alloc (.cells #[.int .i64 s.by_, .int .i64 s.tm, .slice Am s.bx.length cm, .slice Ag s.go.length cg] 42) := ⟨_, rfl⟩
    rw [← hw2] at L0 L1 L3 HB HOm HOg HN
    clear l0 l1 q0 q1 HN0
    have l0 := L0.out.cells
    have l1 := L1.out.cells
    have l3 := L3.out.cells
    have q0 := L0.out.lt
    have q1 := L1.out.lt
    have q3 := L3.out.lt
    have f1 := L1.out.free
    have f3 := L3.out.free
    try rw [← hB3]
    try rw [← hw2]
    clear hB3 hw2
    go_wp2_with (first
      | (go_at_call 139; refine (boxAt_calls _ _ _ s bg (rdBoxes_mov HB.out HR.out) rfl).mono ?_; rintro e w' ⟨he, hb⟩; (try rw [HKK.out] at he); subst he; replace L0 := Aside.mk (L0.out.below hb); replace L1 := Aside.mk (L1.out.below hb); replace L3 := Aside.mk (L3.out.below hb); replace HOm := Aside.mk (owRow_below ow_box HOm.out hb); replace HOg := Aside.mk (owRow_below ow_int HOg.out hb); replace HN := Aside.mk (HN.out.mono hb.size); replace HB := Aside.mk (below_step HB.out hb); (try clear l0); (try clear q0); (try clear f0); (try clear l1); (try clear q1); (try clear f1); (try clear l3); (try clear q3); (try clear f3); have l0 := L0.out.cells; have q0 := L0.out.lt; have f0 := L0.out.free; have l1 := L1.out.cells; have q1 := L1.out.lt; have f1 := L1.out.free; have l3 := L3.out.cells; have q3 := L3.out.lt; have f3 := L3.out.free; clear hb)
      | (go_at_call 27; refine (storeOk_calls _ _ _ s (rdBoxes_mov HB.out HR.out) (rdInts_mov HB.out HG.out) HT.out).mono ?_; rintro e w' ⟨he, hb⟩; rw [h1] at he; subst he; replace L0 := Aside.mk (L0.out.below hb); replace L1 := Aside.mk (L1.out.below hb); replace L3 := Aside.mk (L3.out.below hb); replace HOm := Aside.mk (owRow_below ow_box HOm.out hb); replace HOg := Aside.mk (owRow_below ow_int HOg.out hb); replace HN := Aside.mk (HN.out.mono hb.size); replace HB := Aside.mk (below_step HB.out hb); (try clear l0); (try clear q0); (try clear f0); (try clear l1); (try clear q1); (try clear f1); (try clear l3); (try clear q3); (try clear f3); have l0 := L0.out.cells; have q0 := L0.out.lt; have f0 := L0.out.free; have l1 := L1.out.cells; have q1 := L1.out.lt; have f1 := L1.out.free; have l3 := L3.out.cells; have q3 := L3.out.lt; have f3 := L3.out.free; clear hb))
    clear h1
    obtain ⟨wq, hwq⟩ : ∃ wq : World, wq = w' := ⟨_, rfl⟩
    subst hwq
    have HWQ : Aside (wz.heap.size ≤ wq.heap.size) := ⟨by have := L1.out.lt; have := HZ.out; omega⟩
    have x0 := cell_b HB.out HY.out.1
    have x1 := cell_b HB.out HY.out.2.1
    have x2 := cell_b HB.out HY.out.2.2.1
    have x3 := cell_b HB.out HY.out.2.2.2.1
    have x4 := cell_b HB.out HY.out.2.2.2.2.1
    have x5 := cell_b HB.out HY.out.2.2.2.2.2.1
    have x6 := cell_b HB.out HY.out.2.2.2.2.2.2
    go_wp2_with (fail)
    go_cut [12, 13] (fun v12 v13 wc => ∃ (B : Nat) (D : List Nat), v12 = .pointer (some ⟨B, 0, none⟩) ∧ v13 = .bool ok ∧ Aside (HasBox wq wc B D rb) ∧ Aside (Loc wc w.heap.size #[.int .i64 s.by_, .int .i64 s.tm, .slice (some ad) s.bx.length c0, .slice A1 s.go.length c1] 42) ∧ Aside (Loc wc (w.heap.size + 1) #[.int .i64 0, .int .i64 0, .slice none 0 0, .slice none 0 0] 42) ∧ Aside (Loc wc B3 #[.int .i64 s.by_, .int .i64 s.tm, .slice Am s.bx.length cm, .slice Ag s.go.length cg] 42) ∧ Aside (owBoxes wc D1 (.slice Am s.bx.length cm) s.bx) ∧ Aside (owInts wc D2 (.slice Ag s.go.length cg) s.go) ∧ Aside (New wz wc (D1 ++ D2)) ∧ Aside (Below w.heap.size w wc))
    case first =>
      refine yBegin (S := (fun w' => Loc w' w.heap.size #[.int .i64 s.by_, .int .i64 s.tm, .slice (some ad) s.bx.length c0, .slice A1 s.go.length c1] 42 ∧ Loc w' (w.heap.size + 1) #[.int .i64 0, .int .i64 0, .slice none 0 0, .slice none 0 0] 42 ∧ Loc w' B3 #[.int .i64 s.by_, .int .i64 s.tm, .slice Am s.bx.length cm, .slice Ag s.go.length cg] 42 ∧ w'.cell? (ad.add (kk * 7)) = some (.int .i64 m.g) ∧ w'.cell? ⟨(ad.add (kk * 7)).block, (ad.add (kk * 7)).off + 1, none⟩ = some (.string m.nm) ∧ w'.cell? ⟨(ad.add (kk * 7)).block, (ad.add (kk * 7)).off + 2, none⟩ = some (.int .i64 m.t) ∧ w'.cell? ⟨(ad.add (kk * 7)).block, (ad.add (kk * 7)).off + 3, none⟩ = some (.int .i64 m.b) ∧ w'.cell? ⟨(ad.add (kk * 7)).block, (ad.add (kk * 7)).off + 4, none⟩ = some (.int .i64 m.nx) ∧ w'.cell? ⟨(ad.add (kk * 7)).block, (ad.add (kk * 7)).off + 5, none⟩ = some (.slice A2 m.ml.length c2) ∧ w'.cell? ⟨(ad.add (kk * 7)).block, (ad.add (kk * 7)).off + 6, none⟩ = some (.slice A3 m.go.length c3) ∧ Since wq w')) (z := 14) (by kernel_rfl) (by exact ⟨L0.out.drew', L1.out.drew', L3.out.drew', x0, x1, x2, x3, x4, x5, x6, below_drew (Below.refl _ _)⟩) (fun hHeld => ?_)
      refine yT 0 28 hHeld ?_
      refine yT 1 29 hHeld ?_
      refine yT 2 30 hHeld ?_
      refine yT 3 31 hHeld ?_
      refine yT 4 32 hHeld ?_
      refine yT 5 33 hHeld ?_
      refine yT 6 34 hHeld ?_
      refine yT 7 35 hHeld ?_
      refine yReady (rs := [8, 13]) (by kernel_rfl) (by simp) ?_
      refine yOne rfl (fun K hK => ?_) ?_
      go_simp
      refine (nextStamp_calls _ s _ _ _ _ _ _ htm0 htm1).mono ?_
      rintro e wt ⟨rfl, hb⟩
      refine hK.out _ _ (by exact ⟨Loc.below hHeld.1 hb, Loc.below hHeld.2.1 hb, Loc.below hHeld.2.2.1 hb, cell_b hb hHeld.2.2.2.1, cell_b hb hHeld.2.2.2.2.1, cell_b hb hHeld.2.2.2.2.2.1, cell_b hb hHeld.2.2.2.2.2.2.1, cell_b hb hHeld.2.2.2.2.2.2.2.1, cell_b hb hHeld.2.2.2.2.2.2.2.2.1, cell_b hb hHeld.2.2.2.2.2.2.2.2.2.1, below_step hHeld.2.2.2.2.2.2.2.2.2.2.low hb⟩) (fun hHeld => ?_)
      clear hK K
      (try simp only [Act.put, List.setIfInBounds_toArray, List.set_cons_zero, List.set_cons_succ])
      have hbt := hb
      clear hb
      refine yReady (rs := [9, 13]) (by kernel_rfl) (by simp) ?_
      refine yOne rfl (fun K hK => ?_) ?_
      go_simp
      have hHp := hHeld.2.2.2.2.2.2.2.2.2.2.low
      refine (flagMail_calls _ _ _ m g f (s.tm + 1) s.by_ (rdMails_mov (below_step HB.out (by exact hHeld.2.2.2.2.2.2.2.2.2.2.low)) HF.out) (rdInts_mov (below_step HB.out (by exact hHeld.2.2.2.2.2.2.2.2.2.2.low)) HH.out) HLM.out HTM.out).mono ?_
      rintro e ws ⟨ms, gs, Ds, he, ho, hn, hb⟩
      rw [HRR.out] at he ho
      dsimp only at he ho
      subst he
      obtain ⟨As0, cs0, As1, cs1, _, _, rfl, rfl, _, _, _⟩ := box_parts ho
      refine hK.out _ _ (by exact ⟨Loc.below hHeld.1 hb, Loc.below hHeld.2.1 hb, Loc.below hHeld.2.2.1 hb, cell_b hb hHeld.2.2.2.1, cell_b hb hHeld.2.2.2.2.1, cell_b hb hHeld.2.2.2.2.2.1, cell_b hb hHeld.2.2.2.2.2.2.1, cell_b hb hHeld.2.2.2.2.2.2.2.1, cell_b hb hHeld.2.2.2.2.2.2.2.2.1, cell_b hb hHeld.2.2.2.2.2.2.2.2.2.1, below_step hHeld.2.2.2.2.2.2.2.2.2.2.low hb⟩) (fun hHeld => ?_)
      clear hK K
      (try simp only [Act.put, List.setIfInBounds_toArray, List.set_cons_zero, List.set_cons_succ])
      have hbs := hb
      clear hb
      have hHs := hHeld
      refine yT 10 27 hHeld ?_
      refine yT 11 38 hHeld ?_
      refine yP 12 39 hHeld ?_
      refine yReady (rs := [13]) (by kernel_rfl) (by simp) ?_
      refine yOne rfl (fun K hK => ?_) yNil
      go_simp
      refine hK.out _ _ (by exact ⟨Loc.alloc hHeld.1 _, Loc.alloc hHeld.2.1 _, Loc.alloc hHeld.2.2.1 _, cell_alloc' hHeld.2.2.2.1 _, cell_alloc' hHeld.2.2.2.2.1 _, cell_alloc' hHeld.2.2.2.2.2.1 _, cell_alloc' hHeld.2.2.2.2.2.2.1 _, cell_alloc' hHeld.2.2.2.2.2.2.2.1 _, cell_alloc' hHeld.2.2.2.2.2.2.2.2.1 _, cell_alloc' hHeld.2.2.2.2.2.2.2.2.2.1 _, below_alloc hHeld.2.2.2.2.2.2.2.2.2.2.low _⟩) (fun hHeld => ?_)
      clear hK K
      (try simp only [Act.put, List.setIfInBounds_toArray, List.set_cons_zero, List.set_cons_succ])
      refine yReady (rs := [14]) (by kernel_rfl) (by simp) ?_
      refine yLast (Or.inl rfl) rfl (fun K hK => ?_) yNil
      go_simp
      refine hK.out _ _ ?_
      clear hK K
      (try simp only [Act.put, List.setIfInBounds_toArray, List.set_cons_zero, List.set_cons_succ])
      refine yReady (rs := [15]) (by kernel_rfl) (by simp) ?_
      refine yLast (Or.inr rfl) rfl (fun K hK => ?_) yNil
      go_simp
      refine hK.out _ _ ?_
      clear hK K
      (try simp only [Act.put, List.setIfInBounds_toArray, List.set_cons_zero, List.set_cons_succ])
      refine yDone (by kernel_rfl) ?_ _
      go_wp2
      go_meet
      case rel => exact ⟨_, _, rfl, rfl, ⟨HasBox.made ho (hn.from (by have := hHp.size; exact this)) (by have := hHs.2.2.2.2.2.2.2.2.2.2.low.size; exact this)⟩, ⟨Loc.alloc hHs.1 _⟩, ⟨Loc.alloc hHs.2.1 _⟩, ⟨Loc.alloc hHs.2.2.1 _⟩, ⟨owRow_below ow_box HOm.out (below_alloc hHs.2.2.2.2.2.2.2.2.2.2.low _)⟩, ⟨owRow_below ow_int HOg.out (below_alloc hHs.2.2.2.2.2.2.2.2.2.2.low _)⟩, ⟨HN.out.mono ((below_alloc hHs.2.2.2.2.2.2.2.2.2.2.low _)).size⟩, ⟨below_step HB.out (below_alloc hHs.2.2.2.2.2.2.2.2.2.2.low _)⟩⟩
      refine yOne rfl (fun K hK => ?_) yNil
      have hHa := hHeld
      go_simp
      refine hK.out _ _ (by exact ⟨Loc.alloc hHeld.1 _, Loc.alloc hHeld.2.1 _, Loc.alloc hHeld.2.2.1 _, cell_alloc' hHeld.2.2.2.1 _, cell_alloc' hHeld.2.2.2.2.1 _, cell_alloc' hHeld.2.2.2.2.2.1 _, cell_alloc' hHeld.2.2.2.2.2.2.1 _, cell_alloc' hHeld.2.2.2.2.2.2.2.1 _, cell_alloc' hHeld.2.2.2.2.2.2.2.2.1 _, cell_alloc' hHeld.2.2.2.2.2.2.2.2.2.1 _, below_alloc hHeld.2.2.2.2.2.2.2.2.2.2.low _⟩) (fun hHeld => ?_)
      clear hK K
      (try simp only [Act.put, List.setIfInBounds_toArray, List.set_cons_zero, List.set_cons_succ])
      obtain ⟨BB, hBB⟩ : ∃ BB, BB = (wt).heap.size := ⟨_, rfl⟩
      have HBB : Aside (wq.heap.size ≤ BB ∧ BB < (wt).heap.size + 1) := ⟨by have : wq.heap.size ≤ (wt).heap.size := hHa.2.2.2.2.2.2.2.2.2.2.low.size; constructor <;> omega⟩
      have LB : Loc ((wt).alloc (.cells #[.int .i64 0, .string ⟨#[]⟩, .int .i64 0, .int .i64 0, .int .i64 0, .slice none 0 0, .slice none 0 0] 55)) BB #[.int .i64 0, .string ⟨#[]⟩, .int .i64 0, .int .i64 0, .int .i64 0, .slice none 0 0, .slice none 0 0] 55 := by rw [hBB]; exact Loc.new _ _ _
      try rw [← hBB]
      clear hBB
      clear hHa
      refine yReady (rs := [9]) (by kernel_rfl) (by simp) ?_
      refine yOne rfl (fun K hK => ?_) yNil
      go_simp
      have hHp := hHeld.2.2.2.2.2.2.2.2.2.2.low
      have hLBp := LB
      refine (flagMail_calls _ _ _ m g f (s.tm + 1) s.by_ (rdMails_mov (below_step HB.out (by exact hHeld.2.2.2.2.2.2.2.2.2.2.low)) HF.out) (rdInts_mov (below_step HB.out (by exact hHeld.2.2.2.2.2.2.2.2.2.2.low)) HH.out) HLM.out HTM.out).mono ?_
      rintro e ws ⟨ms, gs, Ds, he, ho, hn, hb⟩
      rw [HRR.out] at he ho
      dsimp only at he ho
      subst he
      obtain ⟨As0, cs0, As1, cs1, _, _, rfl, rfl, _, _, _⟩ := box_parts ho
      refine hK.out _ _ (by exact ⟨Loc.below hHeld.1 hb, Loc.below hHeld.2.1 hb, Loc.below hHeld.2.2.1 hb, cell_b hb hHeld.2.2.2.1, cell_b hb hHeld.2.2.2.2.1, cell_b hb hHeld.2.2.2.2.2.1, cell_b hb hHeld.2.2.2.2.2.2.1, cell_b hb hHeld.2.2.2.2.2.2.2.1, cell_b hb hHeld.2.2.2.2.2.2.2.2.1, cell_b hb hHeld.2.2.2.2.2.2.2.2.2.1, below_step hHeld.2.2.2.2.2.2.2.2.2.2.low hb⟩) (fun hHeld => ?_)
      clear hK K
      (try simp only [Act.put, List.setIfInBounds_toArray, List.set_cons_zero, List.set_cons_succ])
      have hbs := hb
      clear hb
      have hHs := hHeld
      refine yT 10 27 hHeld ?_
      refine yT 11 38 hHeld ?_
      refine yP 12 39 hHeld ?_
      refine yReady (rs := [14]) (by kernel_rfl) (by simp) ?_
      refine yLast (Or.inl rfl) rfl (fun K hK => ?_) yNil
      have lB := ((Loc.below LB hbs)).cells
      have qB := ((Loc.below LB hbs)).lt
      have fB := ((Loc.below LB hbs)).free
      go_simp
      refine hK.out _ _ ?_
      clear hK K
      (try simp only [Act.put, List.setIfInBounds_toArray, List.set_cons_zero, List.set_cons_succ])
      refine yReady (rs := [15]) (by kernel_rfl) (by simp) ?_
      refine yLast (Or.inr rfl) rfl (fun K hK => ?_) yNil
      go_simp
      refine hK.out _ _ ?_
      clear hK K
      (try simp only [Act.put, List.setIfInBounds_toArray, List.set_cons_zero, List.set_cons_succ])
      refine yDone (by kernel_rfl) ?_ _
      go_wp2
      go_meet
      case rel => rw [setsc7]; exact ⟨BB, _, rfl, rfl, ⟨HasBox.stored ho (hn.from (by have := hHp.size; exact this)) (Loc.below LB hbs) (fun hx => by have := (hn.2 _ hx).1; have := (hLBp).lt; omega) HBB.out.1⟩, ⟨Loc.sets2 (hHeld.1) (by have := HBB.out.1; have := L0.out.lt; omega) _⟩, ⟨Loc.sets2 (hHeld.2.1) (by have := HBB.out.1; have := L1.out.lt; omega) _⟩, ⟨Loc.sets2 (hHeld.2.2.1) (by have := HBB.out.1; have := L3.out.lt; omega) _⟩, ⟨owRow_below ow_box HOm.out (below_sets2 hHeld.2.2.2.2.2.2.2.2.2.2.low (by exact HBB.out.1) _ _)⟩, ⟨owRow_below ow_int HOg.out (below_sets2 hHeld.2.2.2.2.2.2.2.2.2.2.low (by exact HBB.out.1) _ _)⟩, ⟨HN.out.mono ((below_sets2 hHeld.2.2.2.2.2.2.2.2.2.2.low (by exact HBB.out.1) _ _)).size⟩, ⟨below_step HB.out (below_sets2 hHeld.2.2.2.2.2.2.2.2.2.2.low (by exact HBB.out.1) _ _)⟩⟩
      refine yOne rfl (fun K hK => ?_) yNil
      have hHa := hHeld
      go_simp
      refine hK.out _ _ (by exact ⟨Loc.alloc hHeld.1 _, Loc.alloc hHeld.2.1 _, Loc.alloc hHeld.2.2.1 _, cell_alloc' hHeld.2.2.2.1 _, cell_alloc' hHeld.2.2.2.2.1 _, cell_alloc' hHeld.2.2.2.2.2.1 _, cell_alloc' hHeld.2.2.2.2.2.2.1 _, cell_alloc' hHeld.2.2.2.2.2.2.2.1 _, cell_alloc' hHeld.2.2.2.2.2.2.2.2.1 _, cell_alloc' hHeld.2.2.2.2.2.2.2.2.2.1 _, below_alloc hHeld.2.2.2.2.2.2.2.2.2.2.low _⟩) (fun hHeld => ?_)
      clear hK K
      (try simp only [Act.put, List.setIfInBounds_toArray, List.set_cons_zero, List.set_cons_succ])
      obtain ⟨BB, hBB⟩ : ∃ BB, BB = (wq).heap.size := ⟨_, rfl⟩
      have HBB : Aside (wq.heap.size ≤ BB ∧ BB < (wq).heap.size + 1) := ⟨by have : wq.heap.size ≤ (wq).heap.size := hHa.2.2.2.2.2.2.2.2.2.2.low.size; constructor <;> omega⟩
      have LB : Loc ((wq.drew).alloc (.cells #[.int .i64 0, .string ⟨#[]⟩, .int .i64 0, .int .i64 0, .int .i64 0, .slice none 0 0, .slice none 0 0] 55)) BB #[.int .i64 0, .string ⟨#[]⟩, .int .i64 0, .int .i64 0, .int .i64 0, .slice none 0 0, .slice none 0 0] 55 := by rw [hBB]; exact Loc.new _ _ _
      try rw [← hBB]
      clear hBB
      clear hHa
      refine yReady (rs := [8]) (by kernel_rfl) (by simp) ?_
      refine yOne rfl (fun K hK => ?_) yNil
      go_simp
      refine (nextStamp_calls _ s _ _ _ _ _ _ htm0 htm1).mono ?_
      rintro e wt ⟨rfl, hb⟩
      refine hK.out _ _ (by exact ⟨Loc.below hHeld.1 hb, Loc.below hHeld.2.1 hb, Loc.below hHeld.2.2.1 hb, cell_b hb hHeld.2.2.2.1, cell_b hb hHeld.2.2.2.2.1, cell_b hb hHeld.2.2.2.2.2.1, cell_b hb hHeld.2.2.2.2.2.2.1, cell_b hb hHeld.2.2.2.2.2.2.2.1, cell_b hb hHeld.2.2.2.2.2.2.2.2.1, cell_b hb hHeld.2.2.2.2.2.2.2.2.2.1, below_step hHeld.2.2.2.2.2.2.2.2.2.2.low hb⟩) (fun hHeld => ?_)
      clear hK K
      (try simp only [Act.put, List.setIfInBounds_toArray, List.set_cons_zero, List.set_cons_succ])
      have hbt := hb
      clear hb
      refine yReady (rs := [9]) (by kernel_rfl) (by simp) ?_
      refine yOne rfl (fun K hK => ?_) yNil
      go_simp
      have hHp := hHeld.2.2.2.2.2.2.2.2.2.2.low
      have hLBp := (Loc.below LB hbt)
      refine (flagMail_calls _ _ _ m g f (s.tm + 1) s.by_ (rdMails_mov (below_step HB.out (by exact hHeld.2.2.2.2.2.2.2.2.2.2.low)) HF.out) (rdInts_mov (below_step HB.out (by exact hHeld.2.2.2.2.2.2.2.2.2.2.low)) HH.out) HLM.out HTM.out).mono ?_
      rintro e ws ⟨ms, gs, Ds, he, ho, hn, hb⟩
      rw [HRR.out] at he ho
      dsimp only at he ho
      subst he
      obtain ⟨As0, cs0, As1, cs1, _, _, rfl, rfl, _, _, _⟩ := box_parts ho
      refine hK.out _ _ (by exact ⟨Loc.below hHeld.1 hb, Loc.below hHeld.2.1 hb, Loc.below hHeld.2.2.1 hb, cell_b hb hHeld.2.2.2.1, cell_b hb hHeld.2.2.2.2.1, cell_b hb hHeld.2.2.2.2.2.1, cell_b hb hHeld.2.2.2.2.2.2.1, cell_b hb hHeld.2.2.2.2.2.2.2.1, cell_b hb hHeld.2.2.2.2.2.2.2.2.1, cell_b hb hHeld.2.2.2.2.2.2.2.2.2.1, below_step hHeld.2.2.2.2.2.2.2.2.2.2.low hb⟩) (fun hHeld => ?_)
      clear hK K
      (try simp only [Act.put, List.setIfInBounds_toArray, List.set_cons_zero, List.set_cons_succ])
      have hbs := hb
      clear hb
      have hHs := hHeld
      refine yT 10 27 hHeld ?_
      refine yT 11 38 hHeld ?_
      refine yP 12 39 hHeld ?_
      refine yReady (rs := [14]) (by kernel_rfl) (by simp) ?_
      refine yLast (Or.inl rfl) rfl (fun K hK => ?_) yNil
      have lB := ((Loc.below (Loc.below LB hbt) hbs)).cells
      have qB := ((Loc.below (Loc.below LB hbt) hbs)).lt
      have fB := ((Loc.below (Loc.below LB hbt) hbs)).free
      go_simp
      refine hK.out _ _ ?_
      clear hK K
      (try simp only [Act.put, List.setIfInBounds_toArray, List.set_cons_zero, List.set_cons_succ])
      refine yReady (rs := [15]) (by kernel_rfl) (by simp) ?_
      refine yLast (Or.inr rfl) rfl (fun K hK => ?_) yNil
      go_simp
      refine hK.out _ _ ?_
      clear hK K
      (try simp only [Act.put, List.setIfInBounds_toArray, List.set_cons_zero, List.set_cons_succ])
      refine yDone (by kernel_rfl) ?_ _
      go_wp2
      go_meet
      case rel => rw [setsc7]; exact ⟨BB, _, rfl, rfl, ⟨HasBox.stored ho (hn.from (by have := hHp.size; exact this)) (Loc.below (Loc.below LB hbt) hbs) (fun hx => by have := (hn.2 _ hx).1; have := (hLBp).lt; omega) HBB.out.1⟩, ⟨Loc.sets2 (hHeld.1) (by have := HBB.out.1; have := L0.out.lt; omega) _⟩, ⟨Loc.sets2 (hHeld.2.1) (by have := HBB.out.1; have := L1.out.lt; omega) _⟩, ⟨Loc.sets2 (hHeld.2.2.1) (by have := HBB.out.1; have := L3.out.lt; omega) _⟩, ⟨owRow_below ow_box HOm.out (below_sets2 hHeld.2.2.2.2.2.2.2.2.2.2.low (by exact HBB.out.1) _ _)⟩, ⟨owRow_below ow_int HOg.out (below_sets2 hHeld.2.2.2.2.2.2.2.2.2.2.low (by exact HBB.out.1) _ _)⟩, ⟨HN.out.mono ((below_sets2 hHeld.2.2.2.2.2.2.2.2.2.2.low (by exact HBB.out.1) _ _)).size⟩, ⟨below_step HB.out (below_sets2 hHeld.2.2.2.2.2.2.2.2.2.2.low (by exact HBB.out.1) _ _)⟩⟩
    case rest =>
      obtain ⟨BV, DV, rfl, rfl, HHV, L0', L1', L3', HOm', HOg', HN', HB'⟩ := hcut
      have HLO := Aside.mk (fun x (hx : x ∈ D1 ++ D2) => (HN.out.2 x hx).2)
      have HB3L : Aside (B3 < wq.heap.size) := ⟨L3.out.lt⟩
      have HQL : Aside (w.heap.size + 2 ≤ wq.heap.size) := ⟨by have := L1.out.lt; omega⟩
      clear L0 L1 L3 HOm HOg HN HB l0 q0 l1 q1 l3 q3 f1 f3 x0 x1 x2 x3 x4 x5 x6
      have L0 := L0'
      have L1 := L1'
      have L3 := L3'
      have HOm := HOm'
      have HOg := HOg'
      have HN := HN'
      have HB := HB'
      clear L0' L1' L3' HOm' HOg' HN' HB'
      obtain ⟨Av0, cv0, Av1, cv1, DV0, DV1, rfl, hlV, hV0, hV1, hnV, hbV, hbV2⟩ := HHV.out
      have LV := Aside.mk hlV
      have HV0 := Aside.mk hV0
      have HV1 := Aside.mk hV1
      have NV := Aside.mk hnV
      have HBV : Aside (wq.heap.size ≤ BV ∧ BV ∉ DV0 ++ DV1) := ⟨hbV2, hbV⟩
      clear hlV hV0 hV1 hnV hbV hbV2 HHV
      have l0 := L0.out.cells
      have q0 := L0.out.lt
      have f0 := L0.out.free
      have l1 := L1.out.cells
      have q1 := L1.out.lt
      have f1 := L1.out.free
      have l3 := L3.out.cells
      have q3 := L3.out.lt
      have f3 := L3.out.free
      have lV := LV.out.cells
      have qV := LV.out.lt
      have fV := LV.out.free
      have hbv := HBV.out.1
      rcases ok with _ | _
      · have HE2 : Aside (markMail s bg g f = (s, false)) := ⟨by rw [HE.out]; rfl⟩
        have HDm : Aside (∀ x ∈ D1, w.heap.size + 2 ≤ x) := ⟨fun x hx => by have := (HN.out.2 x (by simp [hx])).1; have := HZ.out; omega⟩
        have HDg : Aside (∀ x ∈ D2, w.heap.size + 2 ≤ x) := ⟨fun x hx => by have := (HN.out.2 x (by simp [hx])).1; have := HZ.out; omega⟩
        have HN0 := Aside.mk (HN.out.from (w0 := w) (by have := HZ.out; omega))
        go_wp2
        refine bodyPost_ret (v := .tuple #[.agg #[.int .i64 s.by_, .int .i64 s.tm, .slice Am s.bx.length cm, .slice Ag s.go.length cg], .bool false]) (by simp [results, go_sem, l1, l3, q1, q3]) rfl ?_
        rw [HE2.out]
        refine ⟨_, _, D1 ++ D2, rfl, ⟨_, _, D1, D2, rfl, rfl, ?_, ?_⟩, ?_, ?_⟩
        · (repeat (first | (with_reducible exact HOm.out) | (with_reducible refine owRow_far ow_box (w.heap.size + 2) ?_ HDm.out (by first | omega | (dsimp only; omega) | (simp; done) | (simp; omega)) _) | (with_reducible refine owRow_alloc ow_box ?_ _)))
        · (repeat (first | (with_reducible exact HOg.out) | (with_reducible refine owRow_far ow_int (w.heap.size + 2) ?_ HDg.out (by first | omega | (dsimp only; omega) | (simp; done) | (simp; omega)) _) | (with_reducible refine owRow_alloc ow_int ?_ _)))
        · (repeat (first | (with_reducible exact HN0.out) | (with_reducible refine New.set ?_ _ _) | (with_reducible refine New.alloc ?_ _) | (with_reducible refine New.drew ?_)))
        · (repeat (first | (with_reducible exact HB.out) | (with_reducible exact Below.refl _ _) | (with_reducible refine below_set ?_ (by first | omega | (dsimp only; omega) | (simp; done) | (simp; omega)) _) | (with_reducible refine below_alloc ?_ _) | (with_reducible refine below_drewN ?_ _) | (with_reducible refine below_drew ?_)))
      · obtain ⟨rs, rk, HRS⟩ : ∃ rs rk, Aside (orElse { s with tm := s.tm + 1, bx := s.bx.set kk rb } s = (rs, rk)) := ⟨_, _, ⟨rfl⟩⟩
        have HE2 : Aside (markMail s bg g f = (rs, rk)) := ⟨by rw [HE.out, ← HRS.out]; rfl⟩
        have hbox : owBox wc (DV0 ++ DV1) [.int .i64 rb.g, .string rb.nm, .int .i64 rb.t, .int .i64 rb.b, .int .i64 rb.nx, .slice Av0 rb.ml.length cv0, .slice Av1 rb.go.length cv1] rb := ⟨_, _, DV0, DV1, rfl, rfl, HV0.out, HV1.out⟩
        have HBX := Aside.mk hbox
        clear hbox
        obtain ⟨g0, c', hv, hgE, hcell, hfr, FF⟩ := owRow_replace (Dx := DV0 ++ DV1) (x := rb) (cs := [.int .i64 rb.g, .string rb.nm, .int .i64 rb.t, .int .i64 rb.b, .int .i64 rb.nx, .slice Av0 rb.ml.length cv0, .slice Av1 rb.go.length cv1]) ow_box (w := wc.setCell ⟨B3, 1, none⟩ (.int .i64 (s.tm + 1))) (owRow_set ow_box HOm.out (p := ⟨B3, 1, none⟩) (fun hx => HB3.out.2 (List.mem_append.2 (.inl hx))) _) HN.out.left.1 kk HKL.out (by decide) NV.out.1 (fun x hx hx2 => by have := (NV.out.2 x hx).1; have := HLO.out x (by simp [hx2]); omega)
        obtain rfl : Am = some ⟨g0, 0, none⟩ := by injection hv
        have HG0 : Aside (w.heap.size + 2 ≤ g0 ∧ g0 < wc.heap.size ∧ g0 ∉ D2 ∧ g0 ≠ B3 ∧ g0 < wq.heap.size) := ⟨by have h := HN.out.2 g0 (by simp [hgE]); have := HZ.out; exact ⟨by omega, h.2, HN.out.off g0 hgE, fun e => HB3.out.2 (by simp [← e, hgE]), HLO.out g0 (by simp [hgE])⟩⟩
        have hgB : g0 ≠ B3 := HG0.out.2.2.2.1
        have hcx : ∀ j, j < 7 → ∃ u, wc.cell? ⟨g0, kk * 7 + j, none⟩ = some u := fun j hj => by obtain ⟨u, hu⟩ := hcell j hj; rw [World.cell?_setCell_other wc _ _ _ (by intro e; injection e with e _; exact hgB e.symm)] at hu; exact ⟨u, hu⟩
        obtain ⟨z0, y0⟩ := hcx 0 (by omega)
        obtain ⟨z1, y1⟩ := hcx 1 (by omega)
        obtain ⟨z2, y2⟩ := hcx 2 (by omega)
        obtain ⟨z3, y3⟩ := hcx 3 (by omega)
        obtain ⟨z4, y4⟩ := hcx 4 (by omega)
        obtain ⟨z5, y5⟩ := hcx 5 (by omega)
        obtain ⟨z6, y6⟩ := hcx 6 (by omega)
        rw [Nat.add_zero] at y0
        have hfx : ∀ j, wc.frozen? ⟨g0, j, none⟩ = false := fun j => by have h := hfr j; rwa [World.frozen?_setCell] at h
        have p0 := hfx (kk * 7)
        have p1 := hfx (kk * 7 + 1)
        have p2 := hfx (kk * 7 + 2)
        have p3 := hfx (kk * 7 + 3)
        have p4 := hfx (kk * 7 + 4)
        have p5 := hfx (kk * 7 + 5)
        have p6 := hfx (kk * 7 + 6)
        have HFF := Aside.mk FF
        have hgl := HG0.out.2.1
        have hg0 : w.heap.size + 2 ≤ g0 := HG0.out.1
        have hB3 := HB3.out.1
        have hne0 : w.heap.size ≠ g0 := by omega
        have hne1 : w.heap.size + 1 ≠ g0 := by omega
        have hneB : B3 ≠ g0 := fun e => hgB e.symm
        have hneV : BV ≠ g0 := by have := HG0.out.2.2.2.2; have := HBV.out.1; omega
        have hm0 : w.heap.size ≠ B3 := by omega
        have hm1 : w.heap.size + 1 ≠ B3 := by omega
        have hmV : BV ≠ B3 := by have := HB3L.out; have := HBV.out.1; omega
        clear FF hcell hcx hfr hfx hv
        go_wp2_with (fail)
        try rw [setsk7]
        obtain ⟨E2, hk1, hk2, hmem⟩ := HFF.out (wc.setCell ⟨B3, 1, none⟩ (.int .i64 (s.tm + 1))) (Below.refl _ _) (ow_box.mov HBX.out (fun b hb => Below.heap_setCell wc _ _ b (fun e => by have := (NV.out.2 b hb).1; have := HB3L.out; have e' : b = B3 := e; omega)))
        have hoff : ∀ x ∈ E2, x ∉ D2 := fun x hx hx1 => by
          rcases hmem x hx with h | h
          · exact HN.out.off x h hx1
          · have := (NV.out.2 x h).1; have := HLO.out x (by simp [hx1]); omega
        have hnew : New wz (sets (wc.setCell ⟨B3, 1, none⟩ (.int .i64 (s.tm + 1))) g0 (kk * 7) [.int .i64 rb.g, .string rb.nm, .int .i64 rb.t, .int .i64 rb.b, .int .i64 rb.nx, .slice Av0 rb.ml.length cv0, .slice Av1 rb.go.length cv1]) (E2 ++ D2) := New.both ⟨hk2, fun x hx => by
          rcases hmem x hx with h | h
          · have := HN.out.2 x (by simp [h]); rw [sets_size]; simp; omega
          · have := NV.out.2 x h; have := HWQ.out; rw [sets_size]; simp; omega⟩ ((HN.out.right.set _ _).sets2 _ _ _) hoff
        replace L0 := Aside.mk ((L0.out.set (p := ⟨B3, 1, none⟩) hm0 (.int .i64 (s.tm + 1))).sets2 (o := kk * 7) hne0 [.int .i64 rb.g, .string rb.nm, .int .i64 rb.t, .int .i64 rb.b, .int .i64 rb.nx, .slice Av0 rb.ml.length cv0, .slice Av1 rb.go.length cv1])
        replace L1 := Aside.mk ((L1.out.set (p := ⟨B3, 1, none⟩) hm1 (.int .i64 (s.tm + 1))).sets2 (o := kk * 7) hne1 [.int .i64 rb.g, .string rb.nm, .int .i64 rb.t, .int .i64 rb.b, .int .i64 rb.nx, .slice Av0 rb.ml.length cv0, .slice Av1 rb.go.length cv1])
        replace HOg := Aside.mk (owRow_sets ow_int (owRow_set ow_int HOg.out (p := ⟨B3, 1, none⟩) (fun hx => HB3.out.2 (List.mem_append.2 (.inr hx))) (.int .i64 (s.tm + 1))) HG0.out.2.2.1 [.int .i64 rb.g, .string rb.nm, .int .i64 rb.t, .int .i64 rb.b, .int .i64 rb.nx, .slice Av0 rb.ml.length cv0, .slice Av1 rb.go.length cv1] (kk * 7))
        replace HOm := Aside.mk hk1
        replace HN := Aside.mk hnew
        replace HB := Aside.mk (below_sets2 (g := g0) (below_set HB.out (p := ⟨B3, 1, none⟩) (by show w.heap.size ≤ B3; omega) (.int .i64 (s.tm + 1))) (by omega) [.int .i64 rb.g, .string rb.nm, .int .i64 rb.t, .int .i64 rb.b, .int .i64 rb.nx, .slice Av0 rb.ml.length cv0, .slice Av1 rb.go.length cv1] (kk * 7))
        obtain ⟨w3, hw3⟩ : ∃ w3, w3 = (sets (wc.setCell ⟨B3, 1, none⟩ (.int .i64 (s.tm + 1))) g0 (kk * 7) [.int .i64 rb.g, .string rb.nm, .int .i64 rb.t, .int .i64 rb.b, .int .i64 rb.nx, .slice Av0 rb.ml.length cv0, .slice Av1 rb.go.length cv1]) := ⟨_, rfl⟩
        rw [← hw3] at L0 L1 HOm HOg HN HB ⊢
        clear hw3 hk1 hk2 hmem hoff hnew HFF y0 y1 y2 y3 y4 y5 y6 p0 p1 p2 p3 p4 p5 p6 l0 l1 l3 lV q0 q1 q3 qV f0 f1 f3 fV L3 LV
        have HWZ3 : Aside (wz.heap.size ≤ w3.heap.size) := ⟨by have := L1.out.lt; have := HZ.out; omega⟩
        have howS : owStore w3 (E2 ++ D2) [.int .i64 s.by_, .int .i64 (s.tm + 1), .slice (some ⟨g0, 0, none⟩) s.bx.length cm, .slice Ag s.go.length cg] ⟨s.by_, s.tm + 1, s.bx.set kk rb, s.go⟩ := ⟨_, _, E2, D2, rfl, rfl, HOm.out, HOg.out⟩
        refine (orElse_calls wz _ _ _ _ _ ⟨s.by_, s.tm + 1, s.bx.set kk rb, s.go⟩ s (E2 ++ D2) howS HN.out HWZ3.out (fun x hx => by rcases List.mem_or_eq_of_mem_set hx with h | h; exact HT.out x h; exact h ▸ HTR.out) (rdBoxes_mov HB.out HR.out) (rdInts_mov HB.out HG.out) HL.out).mono ?_
        rintro e w4 ⟨mx, gx, E, he, ho, hn, hb⟩
        clear howS
        rw [HRS.out] at he ho
        dsimp only at he ho
        subst he
        obtain ⟨An, cn, Ao, co, F0, F1, rfl, rfl, rfl, hom, hog⟩ := store_slices ho
        have HPm := Aside.mk hom
        have HPg := Aside.mk hog
        have HEm : Aside (∀ x ∈ F0, w.heap.size + 2 ≤ x) := ⟨fun x hx => by have := (hn.2 x (by simp [hx])).1; have := HZ.out; omega⟩
        have HEg : Aside (∀ x ∈ F1, w.heap.size + 2 ≤ x) := ⟨fun x hx => by have := (hn.2 x (by simp [hx])).1; have := HZ.out; omega⟩
        have HNx := Aside.mk (hn.from (w0 := w) (by have := HZ.out; omega))
        replace L1 := Aside.mk (L1.out.below hb)
        replace HB := Aside.mk (below_step HB.out hb)
        clear hom hog ho hn hb
        (try clear l1 q1 f1)
        have l1 := L1.out.cells
        have q1 := L1.out.lt
        have f1 := L1.out.free
        go_wp2
        refine bodyPost_ret (v := .tuple #[.agg #[.int .i64 rs.by_, .int .i64 rs.tm, .slice An rs.bx.length cn, .slice Ao rs.go.length co], .bool rk]) (by simp [results, go_sem, l1, q1]) rfl ?_
        rw [HE2.out]
        refine ⟨_, _, F0 ++ F1, rfl, ⟨_, _, F0, F1, rfl, rfl, ?_, ?_⟩, ?_, ?_⟩
        · (repeat (first | (with_reducible exact HPm.out) | (with_reducible refine owRow_far ow_box (w.heap.size + 2) ?_ HEm.out (by first | omega | (dsimp only; omega) | (simp; done) | (simp; omega)) _) | (with_reducible refine owRow_alloc ow_box ?_ _)))
        · (repeat (first | (with_reducible exact HPg.out) | (with_reducible refine owRow_far ow_int (w.heap.size + 2) ?_ HEg.out (by first | omega | (dsimp only; omega) | (simp; done) | (simp; omega)) _) | (with_reducible refine owRow_alloc ow_int ?_ _)))
        · (repeat (first | (with_reducible exact HNx.out) | (with_reducible refine New.set ?_ _ _) | (with_reducible refine New.alloc ?_ _) | (with_reducible refine New.drew ?_)))
        · (repeat (first | (with_reducible exact HB.out) | (with_reducible exact Below.refl _ _) | (with_reducible refine below_set ?_ (by first | omega | (dsimp only; omega) | (simp; done) | (simp; omega)) _) | (with_reducible refine below_alloc ?_ _) | (with_reducible refine below_drewN ?_ _) | (with_reducible refine below_drew ?_)))
  all_goals
    have HE : Aside (markMail s bg g f = (s, false)) := ⟨by unfold markMail; simp [*]; try omega⟩
    have HKK : Aside (boxAt s.bx bg = boxAt s.bx bg) := ⟨rfl⟩
    go_enter Try.func50, Try.ntmps50
    go_wp2_with (fail)
    refine (copyStore_calls _ _ _ s (rdBoxes_mov (by (repeat (first | (with_reducible exact HB.out) | (with_reducible exact Below.refl _ _) | (with_reducible refine below_set ?_ (by first | omega | (dsimp only; omega) | (simp; done) | (simp; omega)) _) | (with_reducible refine below_alloc ?_ _) | (with_reducible refine below_drewN ?_ _) | (with_reducible refine below_drew ?_)))) HR.out) (rdInts_mov (by (repeat (first | (with_reducible exact HB.out) | (with_reducible exact Below.refl _ _) | (with_reducible refine below_set ?_ (by first | omega | (dsimp only; omega) | (simp; done) | (simp; omega)) _) | (with_reducible refine below_alloc ?_ _) | (with_reducible refine below_drewN ?_ _) | (with_reducible refine below_drew ?_)))) HG.out) HL.out).mono ?_
    rintro e w1 ⟨mx, gx, D, rfl, ho, hn, hb⟩
    obtain ⟨Am, cm, Ag, cg, D1, D2, rfl, rfl, rfl, hom, hog⟩ := store_slices ho
    have L0 := Aside.mk (((Loc.new w #[.int .i64 s.by_, .int .i64 s.tm, .slice A0 s.bx.length c0, .slice A1 s.go.length c1] 42).alloc (.cells #[.int .i64 0, .int .i64 0, .slice none 0 0, .slice none 0 0] 42)).below hb)
    have L1 := Aside.mk ((Loc.new1 w (.cells #[.int .i64 s.by_, .int .i64 s.tm, .slice A0 s.bx.length c0, .slice A1 s.go.length c1] 42) #[.int .i64 0, .int .i64 0, .slice none 0 0, .slice none 0 0] 42).below hb)
    have HB := Aside.mk (below_step (w0 := w) (by (repeat (first | (with_reducible exact HB.out) | (with_reducible exact Below.refl _ _) | (with_reducible refine below_set ?_ (by first | omega | (dsimp only; omega) | (simp; done) | (simp; omega)) _) | (with_reducible refine below_alloc ?_ _) | (with_reducible refine below_drewN ?_ _) | (with_reducible refine below_drew ?_)))) hb)
    have HOm := Aside.mk hom
    have HOg := Aside.mk hog
    have HN : Aside (New wz w1 (D1 ++ D2)) := ⟨hn.from (by have := HZ.out; simp; omega)⟩
    clear ho hom hog hn hb
    have l0 := L0.out.cells
    have l1 := L1.out.cells
    have q0 := L0.out.lt
    have q1 := L1.out.lt
    go_wp2_with (fail)
    replace L0 := Aside.mk (L0.out.alloc (.cells #[.int .i64 s.by_, .int .i64 s.tm, .slice Am s.bx.length cm, .slice Ag s.go.length cg] 42))
    replace L1 := Aside.mk (L1.out.alloc (.cells #[.int .i64 s.by_, .int .i64 s.tm, .slice Am s.bx.length cm, .slice Ag s.go.length cg] 42))
    have L3 := Aside.mk (Loc.new w1 #[.int .i64 s.by_, .int .i64 s.tm, .slice Am s.bx.length cm, .slice Ag s.go.length cg] 42)
    replace HB := Aside.mk (below_alloc HB.out (.cells #[.int .i64 s.by_, .int .i64 s.tm, .slice Am s.bx.length cm, .slice Ag s.go.length cg] 42))
    replace HOm := Aside.mk (owRow_alloc ow_box HOm.out (.cells #[.int .i64 s.by_, .int .i64 s.tm, .slice Am s.bx.length cm, .slice Ag s.go.length cg] 42))
    replace HOg := Aside.mk (owRow_alloc ow_int HOg.out (.cells #[.int .i64 s.by_, .int .i64 s.tm, .slice Am s.bx.length cm, .slice Ag s.go.length cg] 42))
    have HN0 := HN
    replace HN := Aside.mk (HN.out.alloc (.cells #[.int .i64 s.by_, .int .i64 s.tm, .slice Am s.bx.length cm, .slice Ag s.go.length cg] 42))
    obtain ⟨B3, hB3⟩ : ∃ B3, B3 = w1.heap.size := ⟨_, rfl⟩
    have HB3 : Aside (w.heap.size + 2 ≤ B3 ∧ B3 ∉ D1 ++ D2) := ⟨by have := L1.out.lt; simp at this; omega, fun hx => by have := (HN0.out.2 _ hx).2; omega⟩
    rw [← hB3] at L3
    obtain ⟨w2, hw2⟩ : ∃ w2, w2 = w1.alloc (.cells #[.int .i64 s.by_, .int .i64 s.tm, .slice Am s.bx.length cm, .slice Ag s.go.length cg] 42) := ⟨_, rfl⟩
    rw [← hw2] at L0 L1 L3 HB HOm HOg HN
    clear l0 l1 q0 q1 HN0
    have l0 := L0.out.cells
    have l1 := L1.out.cells
    have l3 := L3.out.cells
    have q0 := L0.out.lt
    have q1 := L1.out.lt
    have q3 := L3.out.lt
    have f1 := L1.out.free
    have f3 := L3.out.free
    try rw [← hB3]
    try rw [← hw2]
    clear hB3 hw2
    go_wp2_with (first
      | (go_at_call 139; refine (boxAt_calls _ _ _ s bg (rdBoxes_mov HB.out HR.out) rfl).mono ?_; rintro e w' ⟨he, hb⟩; (try rw [HKK.out] at he); subst he; replace L0 := Aside.mk (L0.out.below hb); replace L1 := Aside.mk (L1.out.below hb); replace L3 := Aside.mk (L3.out.below hb); replace HOm := Aside.mk (owRow_below ow_box HOm.out hb); replace HOg := Aside.mk (owRow_below ow_int HOg.out hb); replace HN := Aside.mk (HN.out.mono hb.size); replace HB := Aside.mk (below_step HB.out hb); (try clear l0); (try clear q0); (try clear f0); (try clear l1); (try clear q1); (try clear f1); (try clear l3); (try clear q3); (try clear f3); have l0 := L0.out.cells; have q0 := L0.out.lt; have f0 := L0.out.free; have l1 := L1.out.cells; have q1 := L1.out.lt; have f1 := L1.out.free; have l3 := L3.out.cells; have q3 := L3.out.lt; have f3 := L3.out.free; clear hb)
      | (go_at_call 27; refine (storeOk_calls _ _ _ s (rdBoxes_mov HB.out HR.out) (rdInts_mov HB.out HG.out) HT.out).mono ?_; rintro e w' ⟨he, hb⟩; rw [h1] at he; subst he; replace L0 := Aside.mk (L0.out.below hb); replace L1 := Aside.mk (L1.out.below hb); replace L3 := Aside.mk (L3.out.below hb); replace HOm := Aside.mk (owRow_below ow_box HOm.out hb); replace HOg := Aside.mk (owRow_below ow_int HOg.out hb); replace HN := Aside.mk (HN.out.mono hb.size); replace HB := Aside.mk (below_step HB.out hb); (try clear l0); (try clear q0); (try clear f0); (try clear l1); (try clear q1); (try clear f1); (try clear l3); (try clear q3); (try clear f3); have l0 := L0.out.cells; have q0 := L0.out.lt; have f0 := L0.out.free; have l1 := L1.out.cells; have q1 := L1.out.lt; have f1 := L1.out.free; have l3 := L3.out.cells; have q3 := L3.out.lt; have f3 := L3.out.free; clear hb))
    have HDm : Aside (∀ x ∈ D1, w.heap.size + 2 ≤ x) := ⟨fun x hx => by have := (HN.out.2 x (by simp [hx])).1; have := HZ.out; omega⟩
    have HDg : Aside (∀ x ∈ D2, w.heap.size + 2 ≤ x) := ⟨fun x hx => by have := (HN.out.2 x (by simp [hx])).1; have := HZ.out; omega⟩
    have HN0 := Aside.mk (HN.out.from (w0 := w) (by have := HZ.out; omega))
    go_wp2
    refine bodyPost_ret (v := .tuple #[.agg #[.int .i64 s.by_, .int .i64 s.tm, .slice Am s.bx.length cm, .slice Ag s.go.length cg], .bool false]) (by simp [results, go_sem, l1, l3, q1, q3]) rfl ?_
    rw [HE.out]
    refine ⟨_, _, D1 ++ D2, rfl, ⟨_, _, D1, D2, rfl, rfl, ?_, ?_⟩, ?_, ?_⟩
    · (repeat (first | (with_reducible exact HOm.out) | (with_reducible refine owRow_far ow_box (w.heap.size + 2) ?_ HDm.out (by first | omega | (dsimp only; omega) | (simp; done) | (simp; omega)) _) | (with_reducible refine owRow_alloc ow_box ?_ _)))
    · (repeat (first | (with_reducible exact HOg.out) | (with_reducible refine owRow_far ow_int (w.heap.size + 2) ?_ HDg.out (by first | omega | (dsimp only; omega) | (simp; done) | (simp; omega)) _) | (with_reducible refine owRow_alloc ow_int ?_ _)))
    · (repeat (first | (with_reducible exact HN0.out) | (with_reducible refine New.set ?_ _ _) | (with_reducible refine New.alloc ?_ _) | (with_reducible refine New.drew ?_)))
    · (repeat (first | (with_reducible exact HB.out) | (with_reducible exact Below.refl _ _) | (with_reducible refine below_set ?_ (by first | omega | (dsimp only; omega) | (simp; done) | (simp; omega)) _) | (with_reducible refine below_alloc ?_ _) | (with_reducible refine below_drewN ?_ _) | (with_reducible refine below_drew ?_)))
end Go.Proofs.Ythhbcakmfbjepaa.H
