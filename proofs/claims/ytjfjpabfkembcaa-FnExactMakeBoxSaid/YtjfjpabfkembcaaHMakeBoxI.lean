/- MakeBox, the program's: the walk. Printed by this session's gen_makebox.py. -/
import Derived.Test.YtjfjpabfkembcaaHOrElse
import Derived.Test.YtjfjpabfkembcaaHKnows
import Derived.Test.YtjfjpabfkembcaaHInsOw
import Derived.Deep.DeepCutAuto
import Derived.Deep.CutBlock
namespace Go.Proofs.Ytjfjpabfkembcaa.H
open Go.RowKit
set_option linter.unusedVariables false
set_option linter.unusedSimpArgs false
theorem storeOk_time {s : Store} (h : storeOk s = true) : 0 ≤ s.tm ∧ s.tm ≤ 100000 := by
  unfold storeOk storeHead at h
  simp only [Bool.and_eq_true] at h
  exact isIn_iff.1 h.1.1.1.2
theorem boxesIn_sorted {s : Store} : ∀ {l : List Box} {i : Int} {p : Option Int} {seen : List Int}, boxesIn s i p seen l = true → (∀ b ∈ l, above p b.g = true) ∧ l.Pairwise (fun a b => a.g < b.g)
  | [], _, _, _, _ => ⟨fun _ h => by simp at h, List.Pairwise.nil⟩
  | b :: l, i, p, seen, h => by
    unfold boxesIn at h
    rw [Bool.and_eq_true] at h
    obtain ⟨h1, h2⟩ := h
    have ha : above p b.g = true := by unfold boxIn at h1; simp only [Bool.and_eq_true] at h1; exact h1.1.1.1.2
    split at h2
    · cases h2
    · obtain ⟨k1, k2⟩ := boxesIn_sorted h2
      have k3 : ∀ c ∈ l, b.g < c.g := fun c hc => by simpa [above] using k1 c hc
      refine ⟨fun c hc => ?_, List.pairwise_cons.2 ⟨k3, k2⟩⟩
      rcases List.mem_cons.1 hc with rfl | hc
      · exact ha
      · have := k3 c hc
        cases p with
        | none => rfl
        | some y => simp only [above, decide_eq_true_eq] at *; omega
theorem storeOk_sorted {s : Store} (h : storeOk s = true) : s.bx.Pairwise (fun a b => a.g < b.g) := by
  unfold storeOk at h
  rw [Bool.and_eq_true] at h
  exact (boxesIn_sorted h.2).2
theorem knowsIn_no {g : Int} : ∀ {l : List Box}, knowsIn g l = false → ∀ b ∈ l, b.g ≠ g
  | [], _, _, hb => by simp at hb
  | c :: l, h, b, hb => by
    unfold knowsIn at h
    simp only [Bool.or_eq_false_iff, decide_eq_false_iff_not] at h
    rcases List.mem_cons.1 hb with rfl | hb
    · exact h.1.1.1
    · exact knowsIn_no h.2 b hb
theorem knows_no {s : Store} {g : Int} (h : knows s g = false) : ∀ b ∈ s.bx, b.g ≠ g := by
  unfold knows at h
  rw [Bool.or_eq_false_iff] at h
  exact knowsIn_no h.1
/-- The box's place: behind those whose Gid is less. -/
theorem addBox_at {l : List Box} {x : Box} {i : Nat} (hs : l.Pairwise (fun a b => a.g < b.g)) (hx : ∀ b ∈ l, b.g ≠ x.g) (hi : i ≤ l.length) (hlo : ∀ b ∈ l.take i, b.g < x.g) (hhi : ∀ h : i < l.length, ¬ l[i].g < x.g) :
    l.take i ++ x :: l.drop i = addBox x l := by
  have hd : ∀ b ∈ l.drop i, x.g < b.g := by
    by_cases h : i < l.length
    · have h0 : x.g < l[i].g := by have := hhi h; have := hx l[i] (List.getElem_mem h); omega
      have hp : (l.drop i).Pairwise (fun a b => a.g < b.g) := hs.sublist (List.drop_sublist _ _)
      rw [List.drop_eq_getElem_cons h] at hp ⊢
      intro b hb
      rcases List.mem_cons.1 hb with rfl | hb
      · exact h0
      · have := (List.pairwise_cons.1 hp).1 b hb; omega
    · rw [List.drop_eq_nil_of_le (by omega)]; intro b hb; simp at hb
  have e1 : l.filter (fun b => decide (b.g < x.g)) = l.take i := by
    conv => lhs; rw [← List.take_append_drop i l]
    rw [List.filter_append, List.filter_eq_self.2 (fun b hb => by simpa using hlo b hb), List.filter_eq_nil_iff.2 (fun b hb => by have := hd b hb; simp; omega), List.append_nil]
  have e2 : l.filter (fun b => decide (x.g < b.g)) = l.drop i := by
    conv => lhs; rw [← List.take_append_drop i l]
    rw [List.filter_append, List.filter_eq_nil_iff.2 (fun b hb => by have := hlo b hb; simp; omega), List.filter_eq_self.2 (fun b hb => by simpa using hd b hb), List.nil_append]
  unfold addBox
  rw [e1, e2]
theorem addBox_tx {l : List Box} {x : Box} (h : ∀ b ∈ l, txBox b) (hx : txBox x) : ∀ b ∈ addBox x l, txBox b := by
  intro b hb
  unfold addBox at hb
  rcases List.mem_append.1 hb with hb | hb
  · exact h b (List.mem_filter.1 hb).1
  · rcases List.mem_cons.1 hb with rfl | hb
    · exact hx
    · exact h b (List.mem_filter.1 hb).1
set_option maxHeartbeats 20000000 in
set_option maxRecDepth 100000 in
theorem makeBox_calls (w : World) (bv gv : Value) (s : Store) (g : Int) (tx : ByteArray) (h : rdBoxes w bv s.bx) (hg : rdInts w gv s.go) (hl : smStore s) (ht : ∀ b ∈ s.bx, txBox b) (htx : tx.size ≤ 9223372036854775807) :
    Calls Try.prog 21 #[.agg #[.int .i64 s.by_, .int .i64 s.tm, bv, gv], .int .i64 g, .string tx] w (RetStoreB w w (makeBox s g tx)) := by
  obtain ⟨A0, c0, rfl, _, hm⟩ := rd_len h
  obtain ⟨A1, c1, rfl, _, _⟩ := rd_len hg
  obtain ⟨wz, hwz⟩ : ∃ wz : World, wz.heap.size = w.heap.size + 2 := ⟨(w.alloc (.cells #[] 0)).alloc (.cells #[] 0), by simp⟩
  have HZ := Aside.mk hwz
  clear hwz
  have HR := Aside.mk h
  have HG := Aside.mk hg
  have HL := Aside.mk hl
  have HT := Aside.mk ht
  clear h hg hl ht
  rcases h1 : storeOk s with _ | _
  rotate_left
  rcases h2 : knows s g with _ | _
  by_cases h3 : 0 ≤ boxNamed s.bx tx
  rotate_left
  · obtain ⟨nb, hnb⟩ : ∃ nb, nb = addBox ⟨g, tx, s.tm + 1, s.by_, 1, [], []⟩ s.bx := ⟨_, rfl⟩
    obtain ⟨rs, rk, HRS⟩ : ∃ rs rk, Aside (orElse ⟨s.by_, s.tm + 1, nb, s.go⟩ s = (rs, rk)) := ⟨_, _, ⟨rfl⟩⟩
    have HE : Aside (makeBox s g tx = (rs, rk)) := ⟨by unfold makeBox; rw [h1, h2, decide_eq_true (show boxNamed s.bx tx < 0 by omega)]; simp only [Bool.and_self, Bool.not_false, if_true]; rw [← hnb]; exact HRS.out⟩
    have HTN : Aside (∀ b ∈ nb, txBox b) := ⟨hnb ▸ addBox_tx HT.out ⟨htx, fun _ h => by simp at h⟩⟩
    have HNB := Aside.mk hnb
    have HAT := Aside.mk (fun (i : Nat) (hi : i ≤ s.bx.length) (hlo : ∀ b ∈ s.bx.take i, b.g < g) (hhi : ∀ h : i < s.bx.length, ¬ s.bx[i].g < g) => addBox_at (x := ⟨g, tx, s.tm + 1, s.by_, 1, [], []⟩) (storeOk_sorted h1) (knows_no h2) hi hlo hhi)
    have htm := storeOk_time h1
    obtain ⟨htm0, htm1⟩ := htm
    have HLL : Aside (s.bx.length ≤ 4000000) := ⟨HL.out.1.1⟩
    clear hnb
    go_enter Try.func21, Try.ntmps21
    go_wp2_with (fail)
    refine (copyStore_calls _ _ _ s (rdBoxes_mov (by (repeat (first | (with_reducible exact HB.out) | (with_reducible exact Below.refl _ _) | (with_reducible refine below_set ?_ (by first | omega | (dsimp only; omega) | (simp; done) | (simp; omega)) _) | (with_reducible refine below_alloc ?_ _) | (with_reducible refine below_drewN ?_ _) | (with_reducible refine below_drew ?_)))) HR.out) (rdInts_mov (by (repeat (first | (with_reducible exact HB.out) | (with_reducible exact Below.refl _ _) | (with_reducible refine below_set ?_ (by first | omega | (dsimp only; omega) | (simp; done) | (simp; omega)) _) | (with_reducible refine below_alloc ?_ _) | (with_reducible refine below_drewN ?_ _) | (with_reducible refine below_drew ?_)))) HG.out) HL.out).mono ?_
    rintro e w1 ⟨mx, gx, D, rfl, ho, hn, hb⟩
    obtain ⟨Am, cm, Ag, cg, D1, D2, rfl, rfl, rfl, hom, hog⟩ := store_slices ho
    have L0 := Aside.mk (((Loc.new w #[.int .i64 s.by_, .int .i64 s.tm, .slice A0 s.bx.length c0, .slice A1 s.go.length c1] 45).alloc (.cells #[.int .i64 0, .int .i64 0, .slice none 0 0, .slice none 0 0] 45)).below hb)
    have L1 := Aside.mk ((Loc.new1 w (.cells #[.int .i64 s.by_, .int .i64 s.tm, .slice A0 s.bx.length c0, .slice A1 s.go.length c1] 45) #[.int .i64 0, .int .i64 0, .slice none 0 0, .slice none 0 0] 45).below hb)
    have HB := Aside.mk (below_step (w0 := w) (by (repeat (first | (with_reducible exact HB.out) | (with_reducible exact Below.refl _ _) | (with_reducible refine below_set ?_ (by first | omega | (dsimp only; omega) | (simp; done) | (simp; omega)) _) | (with_reducible refine below_alloc ?_ _) | (with_reducible refine below_drewN ?_ _) | (with_reducible refine below_drew ?_)))) hb)
    have HOm := Aside.mk hom
    have HOg := Aside.mk hog
    have HN : Aside (New wz w1 (D1 ++ D2)) := ⟨hn.from (by have := HZ.out; simp; omega)⟩
    clear ho hom hog hn hb
    have l0 := L0.out.cells
    have l1 := L1.out.cells
    have q0 := L0.out.lt
    have q1 := L1.out.lt
    go_wp2_with (fail)
    replace L0 := Aside.mk (L0.out.alloc (.cells #[.int .i64 s.by_, .int .i64 s.tm, .slice Am s.bx.length cm, .slice Ag s.go.length cg] 45))
    replace L1 := Aside.mk (L1.out.alloc (.cells #[.int .i64 s.by_, .int .i64 s.tm, .slice Am s.bx.length cm, .slice Ag s.go.length cg] 45))
    have L3 := Aside.mk (Loc.new w1 #[.int .i64 s.by_, .int .i64 s.tm, .slice Am s.bx.length cm, .slice Ag s.go.length cg] 45)
    replace HB := Aside.mk (below_alloc HB.out (.cells #[.int .i64 s.by_, .int .i64 s.tm, .slice Am s.bx.length cm, .slice Ag s.go.length cg] 45))
    replace HOm := Aside.mk (owRow_alloc ow_box HOm.out (.cells #[.int .i64 s.by_, .int .i64 s.tm, .slice Am s.bx.length cm, .slice Ag s.go.length cg] 45))
    replace HOg := Aside.mk (owRow_alloc ow_int HOg.out (.cells #[.int .i64 s.by_, .int .i64 s.tm, .slice Am s.bx.length cm, .slice Ag s.go.length cg] 45))
    have HN0 := HN
    replace HN := Aside.mk (HN.out.alloc (.cells #[.int .i64 s.by_, .int .i64 s.tm, .slice Am s.bx.length cm, .slice Ag s.go.length cg] 45))
    obtain ⟨B3, hB3⟩ : ∃ B3, B3 = w1.heap.size := ⟨_, rfl⟩
    have HB3 : Aside (w.heap.size + 2 ≤ B3 ∧ B3 ∉ D1 ++ D2) := ⟨by have := L1.out.lt; simp at this; omega, fun hx => by have := (HN0.out.2 _ hx).2; omega⟩
    rw [← hB3] at L3
    obtain ⟨w2, hw2⟩ : ∃ w2, w2 = w1.alloc (.cells #[.int .i64 s.by_, .int .i64 s.tm, .slice Am s.bx.length cm, .slice Ag s.go.length cg] 45) := ⟨_, rfl⟩
    rw [← hw2] at L0 L1 L3 HB HOm HOg HN
    clear l0 l1 q0 q1 HN0
    have l0 := L0.out.cells
    have l1 := L1.out.cells
    have l3 := L3.out.cells
    have q0 := L0.out.lt
    have q1 := L1.out.lt
    have q3 := L3.out.lt
    have f1 := L1.out.free
    have f3 := L3.out.free
    try rw [← hB3]
    try rw [← hw2]
    clear hB3 hw2
    go_upto_block 0 with (first
      | (go_at_call 94; refine (storeOk_calls _ _ _ s (rdBoxes_mov HB.out HR.out) (rdInts_mov HB.out HG.out) HT.out).mono ?_; rintro e w' ⟨he, hb⟩; rw [h1] at he; subst he; replace L0 := Aside.mk (L0.out.below hb); replace L1 := Aside.mk (L1.out.below hb); replace L3 := Aside.mk (L3.out.below hb); replace HOm := Aside.mk (owRow_below ow_box HOm.out hb); replace HOg := Aside.mk (owRow_below ow_int HOg.out hb); replace HN := Aside.mk (HN.out.mono hb.size); replace HB := Aside.mk (below_step HB.out hb); (try clear l0); (try clear q0); (try clear f0); (try clear l1); (try clear q1); (try clear f1); (try clear l3); (try clear q3); (try clear f3); have l0 := L0.out.cells; have q0 := L0.out.lt; have f0 := L0.out.free; have l1 := L1.out.cells; have q1 := L1.out.lt; have f1 := L1.out.free; have l3 := L3.out.cells; have q3 := L3.out.lt; have f3 := L3.out.free; clear hb)
      | (go_at_call 95; refine (knows_calls _ _ _ s g (rdBoxes_mov HB.out HR.out) (rdInts_mov HB.out HG.out)).mono ?_; rintro e w' ⟨he, hb⟩; rw [h2] at he; subst he; replace L0 := Aside.mk (L0.out.below hb); replace L1 := Aside.mk (L1.out.below hb); replace L3 := Aside.mk (L3.out.below hb); replace HOm := Aside.mk (owRow_below ow_box HOm.out hb); replace HOg := Aside.mk (owRow_below ow_int HOg.out hb); replace HN := Aside.mk (HN.out.mono hb.size); replace HB := Aside.mk (below_step HB.out hb); (try clear l0); (try clear q0); (try clear f0); (try clear l1); (try clear q1); (try clear f1); (try clear l3); (try clear q3); (try clear f3); have l0 := L0.out.cells; have q0 := L0.out.lt; have f0 := L0.out.free; have l1 := L1.out.cells; have q1 := L1.out.lt; have f1 := L1.out.free; have l3 := L3.out.cells; have q3 := L3.out.lt; have f3 := L3.out.free; clear hb)
      | (go_at_call 96; refine (boxNamed_calls _ _ _ s tx (rdBoxes_mov HB.out HR.out) rfl).mono ?_; rintro e w' ⟨rfl, hb⟩; replace L0 := Aside.mk (L0.out.below hb); replace L1 := Aside.mk (L1.out.below hb); replace L3 := Aside.mk (L3.out.below hb); replace HOm := Aside.mk (owRow_below ow_box HOm.out hb); replace HOg := Aside.mk (owRow_below ow_int HOg.out hb); replace HN := Aside.mk (HN.out.mono hb.size); replace HB := Aside.mk (below_step HB.out hb); (try clear l0); (try clear q0); (try clear f0); (try clear l1); (try clear q1); (try clear f1); (try clear l3); (try clear q3); (try clear f3); have l0 := L0.out.cells; have q0 := L0.out.lt; have f0 := L0.out.free; have l1 := L1.out.cells; have q1 := L1.out.lt; have f1 := L1.out.free; have l3 := L3.out.cells; have q3 := L3.out.lt; have f3 := L3.out.free; clear hb))
    clear h1 h2 h3
    obtain ⟨wq, hwq⟩ : ∃ wq : World, wq = w' := ⟨_, rfl⟩
    subst hwq
    go_cut [9] (fun v9 wc => ∃ i : Nat, v9 = .int .i64 i ∧ i ≤ s.bx.length ∧ Aside (s.bx.take i ++ ⟨g, tx, s.tm + 1, s.by_, 1, [], []⟩ :: s.bx.drop i = nb) ∧ wc = wq)
    case first =>
      go_wp2_with (fail)
      go_loopw [9] (fun v wr => ∃ i : Nat, v = .int .i64 i ∧ i ≤ s.bx.length ∧ Aside (∀ b ∈ s.bx.take i, b.g < g) ∧ wr = wq) (fun v _ => s.bx.length - (intOf v).toNat)
      case atStart => exact ⟨0, rfl, Nat.zero_le _, ⟨fun b hb => by simp at hb⟩, rfl⟩
      case round =>
        obtain ⟨i, rfl, hi, HLO, rfl⟩ := hrel
        by_cases hlt : i < s.bx.length
        · obtain ⟨ad, fv, gw, hA, x0, x1, x2, x3, x4, x5, x6, hf, hh⟩ := rdBoxes_at (owRow_rd ow_box HOm.out) i hlt
          subst hA
          clear x1 x2 x3 x4 x5 x6 hf hh
          have hq0 : (0 : Int) ≤ (i : Int) := by omega
          have hq1 : (i : Int) < (s.bx.length : Int) := by omega
          by_cases hg : s.bx[i].g < g
          · have HL2 : Aside (∀ b ∈ s.bx.take (i + 1), b.g < g) := ⟨fun b hb => by
              rw [List.take_succ_eq_append_getElem hlt, List.mem_append] at hb
              rcases hb with hb | hb
              · exact HLO.out b hb
              · rw [List.mem_singleton.1 hb]; exact hg⟩
            generalize s.bx[i].g = mg at x0 hg
            go_wp2
            go_roundw
            case rel => exact ⟨i + 1, by go_num, by omega, HL2, by first | trivial | rfl⟩
            case measure => simp [intOf]; omega
          · have HFI := Aside.mk (HAT.out i hi HLO.out (fun _ => by omega))
            rw [← HNB.out] at HFI
            generalize s.bx[i].g = mg at x0 hg
            go_wp2
            go_meet
            case rel => exact ⟨i, rfl, hi, HFI, by first | trivial | rfl⟩
        · have HFI := Aside.mk (HAT.out i hi HLO.out (fun h => by omega))
          rw [← HNB.out] at HFI
          have hge : ¬ ((i : Int) < (s.bx.length : Int)) := by omega
          go_wp2
          go_meet
          case rel => exact ⟨i, rfl, hi, HFI, by first | trivial | rfl⟩
    case rest =>
    obtain ⟨i, rfl, hi, HFI, rfl⟩ := hcut
    have hB3 := HB3.out.1
    have hm0 : w.heap.size ≠ B3 := by omega
    have hm1 : w.heap.size + 1 ≠ B3 := by omega
    have hM0 : B3 ≠ w.heap.size := by omega
    have hM1 : B3 ≠ w.heap.size + 1 := by omega
    have HI := Aside.mk hi
    clear hi
    go_wp2_with (fail)
    obtain ⟨w7, hw7⟩ : ∃ w7, w7 = wc.setCell ⟨B3, 1, none⟩ (.int .i64 (s.tm + 1)) := ⟨_, rfl⟩
    rw [← hw7]
    have L07 : Aside (Loc w7 w.heap.size #[.int .i64 s.by_, .int .i64 s.tm, .slice A0 s.bx.length c0, .slice A1 s.go.length c1] 45) := ⟨by rw [hw7]; exact L0.out.set (p := ⟨B3, 1, none⟩) hm0 _⟩
    have L17 : Aside (Loc w7 (w.heap.size + 1) #[.int .i64 0, .int .i64 0, .slice none 0 0, .slice none 0 0] 45) := ⟨by rw [hw7]; exact L1.out.set (p := ⟨B3, 1, none⟩) hm1 _⟩
    have L37 : Aside (Loc w7 B3 #[.int .i64 s.by_, .int .i64 (s.tm + 1), .slice Am s.bx.length cm, .slice Ag s.go.length cg] 45) := ⟨by rw [hw7]; exact L3.out.put 1 (.int .i64 (s.tm + 1))⟩
    have hoff := HB3.out.2
    rw [List.mem_append, not_or] at hoff
    have HOm7 : Aside (owBoxes w7 D1 (.slice Am s.bx.length cm) s.bx) := ⟨by rw [hw7]; exact owRow_set ow_box HOm.out (p := ⟨B3, 1, none⟩) hoff.1 _⟩
    have HOg7 : Aside (owInts w7 D2 (.slice Ag s.go.length cg) s.go) := ⟨by rw [hw7]; exact owRow_set ow_int HOg.out (p := ⟨B3, 1, none⟩) hoff.2 _⟩
    have HN7 : Aside (New wz w7 (D1 ++ D2)) := ⟨by rw [hw7]; exact HN.out.set _ _⟩
    have HB7 : Aside (Below w.heap.size w w7) := ⟨by rw [hw7]; exact below_set HB.out (p := ⟨B3, 1, none⟩) (by show w.heap.size ≤ B3; omega) _⟩
    clear hw7 l0 l1 l3 q0 q1 q3 f1 f3 L0 L1 L3 HOm HOg HN HB
    have HOF := Aside.mk hoff
    clear hoff
    have HD0 : Aside (w.heap.size ∉ D1 ∧ w.heap.size + 1 ∉ D1) := ⟨⟨fun hx => by have := (HN7.out.2 _ (List.mem_append.2 (.inl hx))).1; have := HZ.out; omega, fun hx => by have := (HN7.out.2 _ (List.mem_append.2 (.inl hx))).1; have := HZ.out; omega⟩⟩
    have HS7 : Aside (wz.heap.size ≤ w7.heap.size) := ⟨by have := L17.out.lt; have := HZ.out; omega⟩
    refine zBegin (S := (fun w' => Loc w' w.heap.size #[.int .i64 s.by_, .int .i64 s.tm, .slice A0 s.bx.length c0, .slice A1 s.go.length c1] 45 ∧ Loc w' (w.heap.size + 1) #[.int .i64 0, .int .i64 0, .slice none 0 0, .slice none 0 0] 45 ∧ Loc w' B3 #[.int .i64 s.by_, .int .i64 (s.tm + 1), .slice Am s.bx.length cm, .slice Ag s.go.length cg] 45)) (z := 11) (by kernel_rfl) (by exact ⟨L07.out.drew', L17.out.drew', L37.out.drew'⟩) (fun hHeld => ?_)
    refine zT 0 48 hHeld ?_
    refine zT 1 49 hHeld ?_
    refine zT 2 50 hHeld ?_
    refine zT 3 51 hHeld ?_
    refine zT 4 52 hHeld ?_
    refine zT 5 53 hHeld ?_
    refine zReady (rs := [6]) (by kernel_rfl) (by simp) ?_
    refine zOne (by decide) rfl (fun K hK => ?_) zNil
    go_simp
    refine (nextStamp_calls _ s _ _ _ _ _ _ htm0 htm1).mono ?_; rintro e wt ⟨rfl, hb⟩; have HBT := Aside.mk (below_step (w0 := w7) (below_drew (Below.refl _ _)) hb)
    refine hK.out _ _ (by ((repeat' apply And.intro) <;> (first | exact Loc.below hHeld.1 hb | exact Loc.alloc hHeld.1 _ | exact cell_b hb hHeld.1 | exact cell_alloc' hHeld.1 _ | exact below_step hHeld.1 hb | exact below_alloc hHeld.1 _ | exact Loc.below hHeld hb | exact Loc.alloc hHeld _ | exact cell_b hb hHeld | exact cell_alloc' hHeld _ | exact below_step hHeld hb | exact below_alloc hHeld _ | exact Loc.below hHeld.2.1 hb | exact Loc.alloc hHeld.2.1 _ | exact cell_b hb hHeld.2.1 | exact cell_alloc' hHeld.2.1 _ | exact below_step hHeld.2.1 hb | exact below_alloc hHeld.2.1 _ | exact Loc.below hHeld.2 hb | exact Loc.alloc hHeld.2 _ | exact cell_b hb hHeld.2 | exact cell_alloc' hHeld.2 _ | exact below_step hHeld.2 hb | exact below_alloc hHeld.2 _ | exact Loc.below hHeld.2.2.1 hb | exact Loc.alloc hHeld.2.2.1 _ | exact cell_b hb hHeld.2.2.1 | exact cell_alloc' hHeld.2.2.1 _ | exact below_step hHeld.2.2.1 hb | exact below_alloc hHeld.2.2.1 _ | exact Loc.below hHeld.2.2 hb | exact Loc.alloc hHeld.2.2 _ | exact cell_b hb hHeld.2.2 | exact cell_alloc' hHeld.2.2 _ | exact below_step hHeld.2.2 hb | exact below_alloc hHeld.2.2 _ | exact Loc.below hHeld.2.2.2.1 hb | exact Loc.alloc hHeld.2.2.2.1 _ | exact cell_b hb hHeld.2.2.2.1 | exact cell_alloc' hHeld.2.2.2.1 _ | exact below_step hHeld.2.2.2.1 hb | exact below_alloc hHeld.2.2.2.1 _ | exact Loc.below hHeld.2.2.2 hb | exact Loc.alloc hHeld.2.2.2 _ | exact cell_b hb hHeld.2.2.2 | exact cell_alloc' hHeld.2.2.2 _ | exact below_step hHeld.2.2.2 hb | exact below_alloc hHeld.2.2.2 _ | exact Loc.below hHeld.2.2.2.2.1 hb | exact Loc.alloc hHeld.2.2.2.2.1 _ | exact cell_b hb hHeld.2.2.2.2.1 | exact cell_alloc' hHeld.2.2.2.2.1 _ | exact below_step hHeld.2.2.2.2.1 hb | exact below_alloc hHeld.2.2.2.2.1 _ | exact Loc.below hHeld.2.2.2.2 hb | exact Loc.alloc hHeld.2.2.2.2 _ | exact cell_b hb hHeld.2.2.2.2 | exact cell_alloc' hHeld.2.2.2.2 _ | exact below_step hHeld.2.2.2.2 hb | exact below_alloc hHeld.2.2.2.2 _ | exact Loc.below hHeld.2.2.2.2.2.1 hb | exact Loc.alloc hHeld.2.2.2.2.2.1 _ | exact cell_b hb hHeld.2.2.2.2.2.1 | exact cell_alloc' hHeld.2.2.2.2.2.1 _ | exact below_step hHeld.2.2.2.2.2.1 hb | exact below_alloc hHeld.2.2.2.2.2.1 _ | exact Loc.below hHeld.2.2.2.2.2 hb | exact Loc.alloc hHeld.2.2.2.2.2 _ | exact cell_b hb hHeld.2.2.2.2.2 | exact cell_alloc' hHeld.2.2.2.2.2 _ | exact below_step hHeld.2.2.2.2.2 hb | exact below_alloc hHeld.2.2.2.2.2 _ | exact Loc.below hHeld.2.2.2.2.2.2.1 hb | exact Loc.alloc hHeld.2.2.2.2.2.2.1 _ | exact cell_b hb hHeld.2.2.2.2.2.2.1 | exact cell_alloc' hHeld.2.2.2.2.2.2.1 _ | exact below_step hHeld.2.2.2.2.2.2.1 hb | exact below_alloc hHeld.2.2.2.2.2.2.1 _ | exact Loc.below hHeld.2.2.2.2.2.2 hb | exact Loc.alloc hHeld.2.2.2.2.2.2 _ | exact cell_b hb hHeld.2.2.2.2.2.2 | exact cell_alloc' hHeld.2.2.2.2.2.2 _ | exact below_step hHeld.2.2.2.2.2.2 hb | exact below_alloc hHeld.2.2.2.2.2.2 _ | exact Loc.below hHeld.2.2.2.2.2.2.2.1 hb | exact Loc.alloc hHeld.2.2.2.2.2.2.2.1 _ | exact cell_b hb hHeld.2.2.2.2.2.2.2.1 | exact cell_alloc' hHeld.2.2.2.2.2.2.2.1 _ | exact below_step hHeld.2.2.2.2.2.2.2.1 hb | exact below_alloc hHeld.2.2.2.2.2.2.2.1 _ | exact Loc.below hHeld.2.2.2.2.2.2.2 hb | exact Loc.alloc hHeld.2.2.2.2.2.2.2 _ | exact cell_b hb hHeld.2.2.2.2.2.2.2 | exact cell_alloc' hHeld.2.2.2.2.2.2.2 _ | exact below_step hHeld.2.2.2.2.2.2.2 hb | exact below_alloc hHeld.2.2.2.2.2.2.2 _ | exact Loc.below hHeld.2.2.2.2.2.2.2.2.1 hb | exact Loc.alloc hHeld.2.2.2.2.2.2.2.2.1 _ | exact cell_b hb hHeld.2.2.2.2.2.2.2.2.1 | exact cell_alloc' hHeld.2.2.2.2.2.2.2.2.1 _ | exact below_step hHeld.2.2.2.2.2.2.2.2.1 hb | exact below_alloc hHeld.2.2.2.2.2.2.2.2.1 _ | exact Loc.below hHeld.2.2.2.2.2.2.2.2 hb | exact Loc.alloc hHeld.2.2.2.2.2.2.2.2 _ | exact cell_b hb hHeld.2.2.2.2.2.2.2.2 | exact cell_alloc' hHeld.2.2.2.2.2.2.2.2 _ | exact below_step hHeld.2.2.2.2.2.2.2.2 hb | exact below_alloc hHeld.2.2.2.2.2.2.2.2 _))) (fun hHeld => ?_)
    clear hK K
    (try simp only [Act.put, List.setIfInBounds_toArray, List.set_cons_zero, List.set_cons_succ])
    clear hb
    refine zT 7 55 hHeld ?_
    refine zReady (rs := [8]) (by kernel_rfl) (by simp) ?_
    refine zOne (by decide) rfl (fun K hK => ?_) zNil
    go_simp
    refine hK.out _ _ (by ((repeat' apply And.intro) <;> (first | exact Loc.below hHeld.1 hb | exact Loc.alloc hHeld.1 _ | exact cell_b hb hHeld.1 | exact cell_alloc' hHeld.1 _ | exact below_step hHeld.1 hb | exact below_alloc hHeld.1 _ | exact Loc.below hHeld hb | exact Loc.alloc hHeld _ | exact cell_b hb hHeld | exact cell_alloc' hHeld _ | exact below_step hHeld hb | exact below_alloc hHeld _ | exact Loc.below hHeld.2.1 hb | exact Loc.alloc hHeld.2.1 _ | exact cell_b hb hHeld.2.1 | exact cell_alloc' hHeld.2.1 _ | exact below_step hHeld.2.1 hb | exact below_alloc hHeld.2.1 _ | exact Loc.below hHeld.2 hb | exact Loc.alloc hHeld.2 _ | exact cell_b hb hHeld.2 | exact cell_alloc' hHeld.2 _ | exact below_step hHeld.2 hb | exact below_alloc hHeld.2 _ | exact Loc.below hHeld.2.2.1 hb | exact Loc.alloc hHeld.2.2.1 _ | exact cell_b hb hHeld.2.2.1 | exact cell_alloc' hHeld.2.2.1 _ | exact below_step hHeld.2.2.1 hb | exact below_alloc hHeld.2.2.1 _ | exact Loc.below hHeld.2.2 hb | exact Loc.alloc hHeld.2.2 _ | exact cell_b hb hHeld.2.2 | exact cell_alloc' hHeld.2.2 _ | exact below_step hHeld.2.2 hb | exact below_alloc hHeld.2.2 _ | exact Loc.below hHeld.2.2.2.1 hb | exact Loc.alloc hHeld.2.2.2.1 _ | exact cell_b hb hHeld.2.2.2.1 | exact cell_alloc' hHeld.2.2.2.1 _ | exact below_step hHeld.2.2.2.1 hb | exact below_alloc hHeld.2.2.2.1 _ | exact Loc.below hHeld.2.2.2 hb | exact Loc.alloc hHeld.2.2.2 _ | exact cell_b hb hHeld.2.2.2 | exact cell_alloc' hHeld.2.2.2 _ | exact below_step hHeld.2.2.2 hb | exact below_alloc hHeld.2.2.2 _ | exact Loc.below hHeld.2.2.2.2.1 hb | exact Loc.alloc hHeld.2.2.2.2.1 _ | exact cell_b hb hHeld.2.2.2.2.1 | exact cell_alloc' hHeld.2.2.2.2.1 _ | exact below_step hHeld.2.2.2.2.1 hb | exact below_alloc hHeld.2.2.2.2.1 _ | exact Loc.below hHeld.2.2.2.2 hb | exact Loc.alloc hHeld.2.2.2.2 _ | exact cell_b hb hHeld.2.2.2.2 | exact cell_alloc' hHeld.2.2.2.2 _ | exact below_step hHeld.2.2.2.2 hb | exact below_alloc hHeld.2.2.2.2 _ | exact Loc.below hHeld.2.2.2.2.2.1 hb | exact Loc.alloc hHeld.2.2.2.2.2.1 _ | exact cell_b hb hHeld.2.2.2.2.2.1 | exact cell_alloc' hHeld.2.2.2.2.2.1 _ | exact below_step hHeld.2.2.2.2.2.1 hb | exact below_alloc hHeld.2.2.2.2.2.1 _ | exact Loc.below hHeld.2.2.2.2.2 hb | exact Loc.alloc hHeld.2.2.2.2.2 _ | exact cell_b hb hHeld.2.2.2.2.2 | exact cell_alloc' hHeld.2.2.2.2.2 _ | exact below_step hHeld.2.2.2.2.2 hb | exact below_alloc hHeld.2.2.2.2.2 _ | exact Loc.below hHeld.2.2.2.2.2.2.1 hb | exact Loc.alloc hHeld.2.2.2.2.2.2.1 _ | exact cell_b hb hHeld.2.2.2.2.2.2.1 | exact cell_alloc' hHeld.2.2.2.2.2.2.1 _ | exact below_step hHeld.2.2.2.2.2.2.1 hb | exact below_alloc hHeld.2.2.2.2.2.2.1 _ | exact Loc.below hHeld.2.2.2.2.2.2 hb | exact Loc.alloc hHeld.2.2.2.2.2.2 _ | exact cell_b hb hHeld.2.2.2.2.2.2 | exact cell_alloc' hHeld.2.2.2.2.2.2 _ | exact below_step hHeld.2.2.2.2.2.2 hb | exact below_alloc hHeld.2.2.2.2.2.2 _ | exact Loc.below hHeld.2.2.2.2.2.2.2.1 hb | exact Loc.alloc hHeld.2.2.2.2.2.2.2.1 _ | exact cell_b hb hHeld.2.2.2.2.2.2.2.1 | exact cell_alloc' hHeld.2.2.2.2.2.2.2.1 _ | exact below_step hHeld.2.2.2.2.2.2.2.1 hb | exact below_alloc hHeld.2.2.2.2.2.2.2.1 _ | exact Loc.below hHeld.2.2.2.2.2.2.2 hb | exact Loc.alloc hHeld.2.2.2.2.2.2.2 _ | exact cell_b hb hHeld.2.2.2.2.2.2.2 | exact cell_alloc' hHeld.2.2.2.2.2.2.2 _ | exact below_step hHeld.2.2.2.2.2.2.2 hb | exact below_alloc hHeld.2.2.2.2.2.2.2 _ | exact Loc.below hHeld.2.2.2.2.2.2.2.2.1 hb | exact Loc.alloc hHeld.2.2.2.2.2.2.2.2.1 _ | exact cell_b hb hHeld.2.2.2.2.2.2.2.2.1 | exact cell_alloc' hHeld.2.2.2.2.2.2.2.2.1 _ | exact below_step hHeld.2.2.2.2.2.2.2.2.1 hb | exact below_alloc hHeld.2.2.2.2.2.2.2.2.1 _ | exact Loc.below hHeld.2.2.2.2.2.2.2.2 hb | exact Loc.alloc hHeld.2.2.2.2.2.2.2.2 _ | exact cell_b hb hHeld.2.2.2.2.2.2.2.2 | exact cell_alloc' hHeld.2.2.2.2.2.2.2.2 _ | exact below_step hHeld.2.2.2.2.2.2.2.2 hb | exact below_alloc hHeld.2.2.2.2.2.2.2.2 _))) (fun hHeld => ?_)
    clear hK K
    (try simp only [Act.put, List.setIfInBounds_toArray, List.set_cons_zero, List.set_cons_succ])
    refine zReady (rs := [9]) (by kernel_rfl) (by simp) ?_
    refine zOne (by decide) rfl (fun K hK => ?_) zNil
    go_simp
    refine (insert_calls wz _ D1 _ s.bx i ⟨g, tx, s.tm + 1, s.by_, 1, [], []⟩ [.int .i64 g, .string tx, .int .i64 (s.tm + 1), .int .i64 s.by_, .int .i64 1, .slice none 0 0, .slice none 0 0] wt.heap.size 32 (owRow_below ow_box HOm7.out (below_alloc HBT.out _)) ((HN7.out.left.mono HBT.out.size).alloc _) (by have := HS7.out; have := HBT.out.size; simp; omega) HI.out HLL.out (fun w' => ⟨_, _, [], [], rfl, rfl, ow_nil _ _ _ _, ow_nil _ _ _ _⟩) (Loc.new wt _ _) (fun hx => by have := (HN7.out.2 _ (List.mem_append.2 (.inl hx))).2; have := HBT.out.size; omega)).mono ?_; rintro e wi ⟨Ai, ci, Di, rfl, hoi, hni, hmem, hk⟩
    refine hK.out _ _ (by exact ⟨hHeld.1.keep hk HD0.out.1, hHeld.2.1.keep hk HD0.out.2, hHeld.2.2.keep hk HOF.out.1⟩) (fun hHeld => ?_)
    clear hK K
    (try simp only [Act.put, List.setIfInBounds_toArray, List.set_cons_zero, List.set_cons_succ])
    have L08 := Aside.mk hHeld.1; have L18 := Aside.mk hHeld.2.1; have L38 := Aside.mk hHeld.2.2; have HOi := Aside.mk hoi; have HNi := Aside.mk hni; have HMEM := Aside.mk hmem; have HKI := Aside.mk hk; clear hoi hni hmem hk; have l0 := L08.out.cells; have l1 := L18.out.cells; have l3 := L38.out.cells; have q3 := L38.out.lt; have f3 := L38.out.free
    refine zT 10 58 hHeld ?_
    refine zReady (rs := [11]) (by kernel_rfl) (by simp) ?_
    refine zLast rfl (fun K hK => ?_) zNil
    go_simp
    refine hK.out _ _ ?_
    clear hK K
    (try simp only [Act.put, List.setIfInBounds_toArray, List.set_cons_zero, List.set_cons_succ])
    refine zDone (by kernel_rfl) ?_ _
    clear hHeld l0 l1 l3 q3 f3
    obtain ⟨w8, hw8⟩ : ∃ w8, w8 = wi.setCell ⟨B3, 2, none⟩ (.slice Ai (s.bx.length + 1) ci) := ⟨_, rfl⟩
    rw [← hw8]
    have hin : B3 ∉ Di ∧ B3 ∉ D2 := ⟨fun hx => by
      rcases HMEM.out _ hx with h | h
      · exact HOF.out.1 h
      · have := L37.out.lt; have := HBT.out.size; simp at h; omega, HOF.out.2⟩
    have hdis : ∀ b ∈ Di, b ∉ D2 := fun b hb hb2 => by
      rcases HMEM.out _ hb with h | h
      · exact HN7.out.off b h hb2
      · have := (HN7.out.2 b (List.mem_append.2 (.inr hb2))).2; have := HBT.out.size; simp at h; omega
    have hogi : owInts wi D2 (.slice Ag s.go.length cg) s.go := owRow_keep ow_int (owRow_below ow_int HOg7.out (below_alloc HBT.out _)) HKI.out fun b hb hb2 => HN7.out.off b hb2 hb
    have hsz : w7.heap.size ≤ wi.heap.size := by have := HBT.out.size; have := HKI.out.size; simp at this; omega
    have HOm : Aside (owBoxes w8 Di (.slice Ai (s.bx.length + 1) ci) nb) := ⟨by rw [hw8, ← HFI.out]; exact owRow_set ow_box HOi.out (p := ⟨B3, 2, none⟩) hin.1 _⟩
    have HOg : Aside (owInts w8 D2 (.slice Ag s.go.length cg) s.go) := ⟨by rw [hw8]; exact owRow_set ow_int hogi (p := ⟨B3, 2, none⟩) hin.2 _⟩
    have HN : Aside (New wz w8 (Di ++ D2)) := ⟨by rw [hw8]; exact (New.both HNi.out (HN7.out.right.mono hsz) hdis).set _ _⟩
    have HB : Aside (Below w.heap.size w w8) := ⟨by
      have hki : Below w.heap.size (wt.alloc (.cells #[.int .i64 g, .string tx, .int .i64 (s.tm + 1), .int .i64 s.by_, .int .i64 1, .slice none 0 0, .slice none 0 0] 32)) wi := HKI.out.below (fun b hb => by have := (HN7.out.2 b (List.mem_append.2 (.inl hb))).1; have := HZ.out; omega) (by have := HB7.out.size; have := HBT.out.size; simp; omega)
      rw [hw8]
      exact below_set ((below_alloc (below_step HB7.out HBT.out) _).trans hki) (p := ⟨B3, 2, none⟩) (by show w.heap.size ≤ B3; omega) _⟩
    have L0 : Aside (Loc w8 w.heap.size #[.int .i64 s.by_, .int .i64 s.tm, .slice A0 s.bx.length c0, .slice A1 s.go.length c1] 45) := ⟨by rw [hw8]; exact L08.out.set (p := ⟨B3, 2, none⟩) hm0 _⟩
    have L1 : Aside (Loc w8 (w.heap.size + 1) #[.int .i64 0, .int .i64 0, .slice none 0 0, .slice none 0 0] 45) := ⟨by rw [hw8]; exact L18.out.set (p := ⟨B3, 2, none⟩) hm1 _⟩
    have L3 : Aside (Loc w8 B3 #[.int .i64 s.by_, .int .i64 (s.tm + 1), .slice Ai (s.bx.length + 1) ci, .slice Ag s.go.length cg] 45) := ⟨by rw [hw8]; exact L38.out.put 2 _⟩
    clear hw8 hin hdis hogi hsz L07 L17 L37 L08 L18 L38 HOm7 HOg7 HN7 HB7 HOi HNi HMEM HKI HBT HAT HNB HFI
    have l0 := L0.out.cells
    have l1 := L1.out.cells
    have l3 := L3.out.cells
    have q0 := L0.out.lt
    have q1 := L1.out.lt
    have q3 := L3.out.lt
    have f1 := L1.out.free
    have f3 := L3.out.free
    go_wp2_with (fail)
    have HWZ3 : Aside (wz.heap.size ≤ w8.heap.size) := ⟨by have := L1.out.lt; have := HZ.out; omega⟩
    have howS : owStore w8 (Di ++ D2) [.int .i64 s.by_, .int .i64 (s.tm + 1), .slice Ai (s.bx.length + 1) ci, .slice Ag s.go.length cg] ⟨s.by_, s.tm + 1, nb, s.go⟩ := ⟨_, _, Di, D2, rfl, rfl, HOm.out, HOg.out⟩
    refine (orElse_calls wz _ _ _ _ _ ⟨s.by_, s.tm + 1, nb, s.go⟩ s (Di ++ D2) howS HN.out HWZ3.out HTN.out (rdBoxes_mov HB.out HR.out) (rdInts_mov HB.out HG.out) HL.out).mono ?_
    rintro e w4 ⟨mx, gx, E, he, ho, hn, hb⟩
    clear howS
    rw [HRS.out] at he ho
    dsimp only at he ho
    subst he
    obtain ⟨An, cn, Ao, co, F0, F1, rfl, rfl, rfl, hom, hog⟩ := store_slices ho
    have HPm := Aside.mk hom
    have HPg := Aside.mk hog
    have HEm : Aside (∀ x ∈ F0, w.heap.size + 2 ≤ x) := ⟨fun x hx => by have := (hn.2 x (by simp [hx])).1; have := HZ.out; omega⟩
    have HEg : Aside (∀ x ∈ F1, w.heap.size + 2 ≤ x) := ⟨fun x hx => by have := (hn.2 x (by simp [hx])).1; have := HZ.out; omega⟩
    have HNx := Aside.mk (hn.from (w0 := w) (by have := HZ.out; omega))
    replace L1 := Aside.mk (L1.out.below hb)
    replace HB := Aside.mk (below_step HB.out hb)
    clear hom hog ho hn hb l0 l1 l3 q0 q1 q3 f1 f3
    have l1 := L1.out.cells
    have q1 := L1.out.lt
    have f1 := L1.out.free
    go_wp2
    refine bodyPost_ret (v := .tuple #[.agg #[.int .i64 rs.by_, .int .i64 rs.tm, .slice An rs.bx.length cn, .slice Ao rs.go.length co], .bool rk]) (by simp [results, go_sem, l1, q1]) rfl ?_
    rw [HE.out]
    refine ⟨_, _, F0 ++ F1, rfl, ⟨_, _, F0, F1, rfl, rfl, ?_, ?_⟩, ?_, ?_⟩
    · (repeat (first | (with_reducible exact HPm.out) | (with_reducible refine owRow_far ow_box (w.heap.size + 2) ?_ HEm.out (by first | omega | (dsimp only; omega) | (simp; done) | (simp; omega)) _) | (with_reducible refine owRow_alloc ow_box ?_ _)))
    · (repeat (first | (with_reducible exact HPg.out) | (with_reducible refine owRow_far ow_int (w.heap.size + 2) ?_ HEg.out (by first | omega | (dsimp only; omega) | (simp; done) | (simp; omega)) _) | (with_reducible refine owRow_alloc ow_int ?_ _)))
    · (repeat (first | (with_reducible exact HNx.out) | (with_reducible refine New.set ?_ _ _) | (with_reducible refine New.alloc ?_ _) | (with_reducible refine New.drew ?_)))
    · (repeat (first | (with_reducible exact HB.out) | (with_reducible exact Below.refl _ _) | (with_reducible refine below_set ?_ (by first | omega | (dsimp only; omega) | (simp; done) | (simp; omega)) _) | (with_reducible refine below_alloc ?_ _) | (with_reducible refine below_drewN ?_ _) | (with_reducible refine below_drew ?_)))
  all_goals
    have HE : Aside (makeBox s g tx = (s, false)) := ⟨by unfold makeBox; simp [*]; try omega⟩
    go_enter Try.func21, Try.ntmps21
    go_wp2_with (fail)
    refine (copyStore_calls _ _ _ s (rdBoxes_mov (by (repeat (first | (with_reducible exact HB.out) | (with_reducible exact Below.refl _ _) | (with_reducible refine below_set ?_ (by first | omega | (dsimp only; omega) | (simp; done) | (simp; omega)) _) | (with_reducible refine below_alloc ?_ _) | (with_reducible refine below_drewN ?_ _) | (with_reducible refine below_drew ?_)))) HR.out) (rdInts_mov (by (repeat (first | (with_reducible exact HB.out) | (with_reducible exact Below.refl _ _) | (with_reducible refine below_set ?_ (by first | omega | (dsimp only; omega) | (simp; done) | (simp; omega)) _) | (with_reducible refine below_alloc ?_ _) | (with_reducible refine below_drewN ?_ _) | (with_reducible refine below_drew ?_)))) HG.out) HL.out).mono ?_
    rintro e w1 ⟨mx, gx, D, rfl, ho, hn, hb⟩
    obtain ⟨Am, cm, Ag, cg, D1, D2, rfl, rfl, rfl, hom, hog⟩ := store_slices ho
    have L0 := Aside.mk (((Loc.new w #[.int .i64 s.by_, .int .i64 s.tm, .slice A0 s.bx.length c0, .slice A1 s.go.length c1] 45).alloc (.cells #[.int .i64 0, .int .i64 0, .slice none 0 0, .slice none 0 0] 45)).below hb)
    have L1 := Aside.mk ((Loc.new1 w (.cells #[.int .i64 s.by_, .int .i64 s.tm, .slice A0 s.bx.length c0, .slice A1 s.go.length c1] 45) #[.int .i64 0, .int .i64 0, .slice none 0 0, .slice none 0 0] 45).below hb)
    have HB := Aside.mk (below_step (w0 := w) (by (repeat (first | (with_reducible exact HB.out) | (with_reducible exact Below.refl _ _) | (with_reducible refine below_set ?_ (by first | omega | (dsimp only; omega) | (simp; done) | (simp; omega)) _) | (with_reducible refine below_alloc ?_ _) | (with_reducible refine below_drewN ?_ _) | (with_reducible refine below_drew ?_)))) hb)
    have HOm := Aside.mk hom
    have HOg := Aside.mk hog
    have HN : Aside (New wz w1 (D1 ++ D2)) := ⟨hn.from (by have := HZ.out; simp; omega)⟩
    clear ho hom hog hn hb
    have l0 := L0.out.cells
    have l1 := L1.out.cells
    have q0 := L0.out.lt
    have q1 := L1.out.lt
    go_wp2_with (fail)
    replace L0 := Aside.mk (L0.out.alloc (.cells #[.int .i64 s.by_, .int .i64 s.tm, .slice Am s.bx.length cm, .slice Ag s.go.length cg] 45))
    replace L1 := Aside.mk (L1.out.alloc (.cells #[.int .i64 s.by_, .int .i64 s.tm, .slice Am s.bx.length cm, .slice Ag s.go.length cg] 45))
    have L3 := Aside.mk (Loc.new w1 #[.int .i64 s.by_, .int .i64 s.tm, .slice Am s.bx.length cm, .slice Ag s.go.length cg] 45)
    replace HB := Aside.mk (below_alloc HB.out (.cells #[.int .i64 s.by_, .int .i64 s.tm, .slice Am s.bx.length cm, .slice Ag s.go.length cg] 45))
    replace HOm := Aside.mk (owRow_alloc ow_box HOm.out (.cells #[.int .i64 s.by_, .int .i64 s.tm, .slice Am s.bx.length cm, .slice Ag s.go.length cg] 45))
    replace HOg := Aside.mk (owRow_alloc ow_int HOg.out (.cells #[.int .i64 s.by_, .int .i64 s.tm, .slice Am s.bx.length cm, .slice Ag s.go.length cg] 45))
    have HN0 := HN
    replace HN := Aside.mk (HN.out.alloc (.cells #[.int .i64 s.by_, .int .i64 s.tm, .slice Am s.bx.length cm, .slice Ag s.go.length cg] 45))
    obtain ⟨B3, hB3⟩ : ∃ B3, B3 = w1.heap.size := ⟨_, rfl⟩
    have HB3 : Aside (w.heap.size + 2 ≤ B3 ∧ B3 ∉ D1 ++ D2) := ⟨by have := L1.out.lt; simp at this; omega, fun hx => by have := (HN0.out.2 _ hx).2; omega⟩
    rw [← hB3] at L3
    obtain ⟨w2, hw2⟩ : ∃ w2, w2 = w1.alloc (.cells #[.int .i64 s.by_, .int .i64 s.tm, .slice Am s.bx.length cm, .slice Ag s.go.length cg] 45) := ⟨_, rfl⟩
    rw [← hw2] at L0 L1 L3 HB HOm HOg HN
    clear l0 l1 q0 q1 HN0
    have l0 := L0.out.cells
    have l1 := L1.out.cells
    have l3 := L3.out.cells
    have q0 := L0.out.lt
    have q1 := L1.out.lt
    have q3 := L3.out.lt
    have f1 := L1.out.free
    have f3 := L3.out.free
    try rw [← hB3]
    try rw [← hw2]
    clear hB3 hw2
    go_wp2_with (first
      | (go_at_call 94; refine (storeOk_calls _ _ _ s (rdBoxes_mov HB.out HR.out) (rdInts_mov HB.out HG.out) HT.out).mono ?_; rintro e w' ⟨he, hb⟩; rw [h1] at he; subst he; replace L0 := Aside.mk (L0.out.below hb); replace L1 := Aside.mk (L1.out.below hb); replace L3 := Aside.mk (L3.out.below hb); replace HOm := Aside.mk (owRow_below ow_box HOm.out hb); replace HOg := Aside.mk (owRow_below ow_int HOg.out hb); replace HN := Aside.mk (HN.out.mono hb.size); replace HB := Aside.mk (below_step HB.out hb); (try clear l0); (try clear q0); (try clear f0); (try clear l1); (try clear q1); (try clear f1); (try clear l3); (try clear q3); (try clear f3); have l0 := L0.out.cells; have q0 := L0.out.lt; have f0 := L0.out.free; have l1 := L1.out.cells; have q1 := L1.out.lt; have f1 := L1.out.free; have l3 := L3.out.cells; have q3 := L3.out.lt; have f3 := L3.out.free; clear hb)
      | (go_at_call 95; refine (knows_calls _ _ _ s g (rdBoxes_mov HB.out HR.out) (rdInts_mov HB.out HG.out)).mono ?_; rintro e w' ⟨he, hb⟩; rw [h2] at he; subst he; replace L0 := Aside.mk (L0.out.below hb); replace L1 := Aside.mk (L1.out.below hb); replace L3 := Aside.mk (L3.out.below hb); replace HOm := Aside.mk (owRow_below ow_box HOm.out hb); replace HOg := Aside.mk (owRow_below ow_int HOg.out hb); replace HN := Aside.mk (HN.out.mono hb.size); replace HB := Aside.mk (below_step HB.out hb); (try clear l0); (try clear q0); (try clear f0); (try clear l1); (try clear q1); (try clear f1); (try clear l3); (try clear q3); (try clear f3); have l0 := L0.out.cells; have q0 := L0.out.lt; have f0 := L0.out.free; have l1 := L1.out.cells; have q1 := L1.out.lt; have f1 := L1.out.free; have l3 := L3.out.cells; have q3 := L3.out.lt; have f3 := L3.out.free; clear hb)
      | (go_at_call 96; refine (boxNamed_calls _ _ _ s tx (rdBoxes_mov HB.out HR.out) rfl).mono ?_; rintro e w' ⟨rfl, hb⟩; replace L0 := Aside.mk (L0.out.below hb); replace L1 := Aside.mk (L1.out.below hb); replace L3 := Aside.mk (L3.out.below hb); replace HOm := Aside.mk (owRow_below ow_box HOm.out hb); replace HOg := Aside.mk (owRow_below ow_int HOg.out hb); replace HN := Aside.mk (HN.out.mono hb.size); replace HB := Aside.mk (below_step HB.out hb); (try clear l0); (try clear q0); (try clear f0); (try clear l1); (try clear q1); (try clear f1); (try clear l3); (try clear q3); (try clear f3); have l0 := L0.out.cells; have q0 := L0.out.lt; have f0 := L0.out.free; have l1 := L1.out.cells; have q1 := L1.out.lt; have f1 := L1.out.free; have l3 := L3.out.cells; have q3 := L3.out.lt; have f3 := L3.out.free; clear hb))
    have HDm : Aside (∀ x ∈ D1, w.heap.size + 2 ≤ x) := ⟨fun x hx => by have := (HN.out.2 x (by simp [hx])).1; have := HZ.out; omega⟩
    have HDg : Aside (∀ x ∈ D2, w.heap.size + 2 ≤ x) := ⟨fun x hx => by have := (HN.out.2 x (by simp [hx])).1; have := HZ.out; omega⟩
    have HN0 := Aside.mk (HN.out.from (w0 := w) (by have := HZ.out; omega))
    go_wp2
    refine bodyPost_ret (v := .tuple #[.agg #[.int .i64 s.by_, .int .i64 s.tm, .slice Am s.bx.length cm, .slice Ag s.go.length cg], .bool false]) (by simp [results, go_sem, l1, l3, q1, q3]) rfl ?_
    rw [HE.out]
    refine ⟨_, _, D1 ++ D2, rfl, ⟨_, _, D1, D2, rfl, rfl, ?_, ?_⟩, ?_, ?_⟩
    · (repeat (first | (with_reducible exact HOm.out) | (with_reducible refine owRow_far ow_box (w.heap.size + 2) ?_ HDm.out (by first | omega | (dsimp only; omega) | (simp; done) | (simp; omega)) _) | (with_reducible refine owRow_alloc ow_box ?_ _)))
    · (repeat (first | (with_reducible exact HOg.out) | (with_reducible refine owRow_far ow_int (w.heap.size + 2) ?_ HDg.out (by first | omega | (dsimp only; omega) | (simp; done) | (simp; omega)) _) | (with_reducible refine owRow_alloc ow_int ?_ _)))
    · (repeat (first | (with_reducible exact HN0.out) | (with_reducible refine New.set ?_ _ _) | (with_reducible refine New.alloc ?_ _) | (with_reducible refine New.drew ?_)))
    · (repeat (first | (with_reducible exact HB.out) | (with_reducible exact Below.refl _ _) | (with_reducible refine below_set ?_ (by first | omega | (dsimp only; omega) | (simp; done) | (simp; omega)) _) | (with_reducible refine below_alloc ?_ _) | (with_reducible refine below_drewN ?_ _) | (with_reducible refine below_drew ?_)))
end Go.Proofs.Ytjfjpabfkembcaa.H
