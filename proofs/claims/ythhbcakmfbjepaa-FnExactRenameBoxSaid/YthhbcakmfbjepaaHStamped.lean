/- l07Stamped: the walk. -/
import Derived.Test.YthhbcakmfbjepaaHOrElse
namespace Go.Proofs.Ythhbcakmfbjepaa.H
open Go.RowKit
set_option linter.unusedVariables false
set_option linter.unusedSimpArgs false
set_option maxHeartbeats 2000000 in
set_option maxRecDepth 100000 in
theorem l07Stamped_calls (w0 w : World) (bv gv mv gv2 : Value) (s : Store) (k : Nat) (b : Box) (D : List Nat) (h : rdBoxes w bv s.bx) (hg : rdInts w gv s.go) (hs : smStore s) (ht : ∀ b ∈ s.bx, txBox b) (hk : k < s.bx.length) (h0 : 0 ≤ s.tm) (h1 : s.tm ≤ 100000)
    (hb : owBox w D [.int .i64 b.g, .string b.nm, .int .i64 b.t, .int .i64 b.b, .int .i64 b.nx, mv, gv2] b) (hN : New w0 w D) (hw : w0.heap.size ≤ w.heap.size) (htb : txBox b) :
    Calls Try.prog 140 #[.agg #[.int .i64 s.by_, .int .i64 s.tm, bv, gv], .int .i64 k, .agg #[.int .i64 b.g, .string b.nm, .int .i64 b.t, .int .i64 b.b, .int .i64 b.nx, mv, gv2]] w (RetStoreB w0 w (orElse { s with tm := s.tm + 1, bx := s.bx.set k b } s)) := by
  obtain ⟨A0, c0, rfl, _, hm⟩ := rd_len h
  obtain ⟨A1, c1, rfl, _, _⟩ := rd_len hg
  obtain ⟨A2, c2, A3, c3, _, _, rfl, rfl, _, _, _⟩ := box_parts hb
  have HR := Aside.mk h
  have HG := Aside.mk hg
  have HL := Aside.mk hs
  have HT := Aside.mk ht
  have HBX := Aside.mk hb
  have HN0 := Aside.mk hN
  have HW := Aside.mk hw
  have HTB := Aside.mk htb
  have HKL := Aside.mk hk
  have hq0 : (0 : Int) ≤ (k : Int) := by omega
  have hq1 : (k : Int) < (s.bx.length : Int) := by omega
  clear h hg hs ht hb hN hw htb
  rcases hso : storeOk ⟨s.by_, s.tm + 1, s.bx.set k b, s.go⟩ with _ | _
  all_goals
    have HK := Aside.mk hso
    clear hso
    go_enter Try.func140, Try.ntmps140
    go_wp2_with (fail)
    refine (l07Copy_calls _ _ _ s (rdBoxes_mov (by (repeat (first | (with_reducible exact HB.out) | (with_reducible exact Below.refl _ _) | (with_reducible refine below_set ?_ (by first | omega | (dsimp only; omega) | (simp; done) | (simp; omega)) _) | (with_reducible refine below_alloc ?_ _) | (with_reducible refine below_drewN ?_ _) | (with_reducible refine below_drew ?_)))) HR.out) (rdInts_mov (by (repeat (first | (with_reducible exact HB.out) | (with_reducible exact Below.refl _ _) | (with_reducible refine below_set ?_ (by first | omega | (dsimp only; omega) | (simp; done) | (simp; omega)) _) | (with_reducible refine below_alloc ?_ _) | (with_reducible refine below_drewN ?_ _) | (with_reducible refine below_drew ?_)))) HG.out) HL.out).mono ?_
    rintro e w1 ⟨mx, gx, E, rfl, ho, hn, hb⟩
    obtain ⟨Am, cm, Ag, cg, E0, E1, rfl, rfl, rfl, hom, hog⟩ := store_slices ho
    have L0 := Aside.mk ((((Loc.new w #[.int .i64 s.by_, .int .i64 s.tm, .slice A0 s.bx.length c0, .slice A1 s.go.length c1] 42).alloc (.cells #[.int .i64 b.g, .string b.nm, .int .i64 b.t, .int .i64 b.b, .int .i64 b.nx, .slice A2 b.ml.length c2, .slice A3 b.go.length c3] 55)).alloc (.cells #[.int .i64 0, .int .i64 0, .slice none 0 0, .slice none 0 0] 42)).below hb)
    have L1 := Aside.mk (((Loc.new1 w (.cells #[.int .i64 s.by_, .int .i64 s.tm, .slice A0 s.bx.length c0, .slice A1 s.go.length c1] 42) #[.int .i64 b.g, .string b.nm, .int .i64 b.t, .int .i64 b.b, .int .i64 b.nx, .slice A2 b.ml.length c2, .slice A3 b.go.length c3] 55).alloc (.cells #[.int .i64 0, .int .i64 0, .slice none 0 0, .slice none 0 0] 42)).below hb)
    have L2 := Aside.mk ((Loc.new2 w (.cells #[.int .i64 s.by_, .int .i64 s.tm, .slice A0 s.bx.length c0, .slice A1 s.go.length c1] 42) (.cells #[.int .i64 b.g, .string b.nm, .int .i64 b.t, .int .i64 b.b, .int .i64 b.nx, .slice A2 b.ml.length c2, .slice A3 b.go.length c3] 55) #[.int .i64 0, .int .i64 0, .slice none 0 0, .slice none 0 0] 42).below hb)
    have HB := Aside.mk (below_step (w0 := w) (by (repeat (first | (with_reducible exact HB.out) | (with_reducible exact Below.refl _ _) | (with_reducible refine below_set ?_ (by first | omega | (dsimp only; omega) | (simp; done) | (simp; omega)) _) | (with_reducible refine below_alloc ?_ _) | (with_reducible refine below_drewN ?_ _) | (with_reducible refine below_drew ?_)))) hb)
    have HOm := Aside.mk hom
    have HOg := Aside.mk hog
    have HEl : Aside (∀ x ∈ E0 ++ E1, w.heap.size + 3 ≤ x ∧ x < w1.heap.size) := ⟨fun x hx => by have := hn.2 x hx; simp at this; omega⟩
    have HNE := Aside.mk hn.1
    have HBY := Aside.mk (ow_below ow_box HBX.out HB.out)
    clear ho hom hog hn hb
    have l0 := L0.out.cells
    have l1 := L1.out.cells
    have l2 := L2.out.cells
    have q0 := L0.out.lt
    have q1 := L1.out.lt
    have q2 := L2.out.lt
    have hDlt : ∀ x ∈ D, x < w.heap.size := fun x hx => (HN0.out.2 x hx).2
    obtain ⟨g0, c', hv, hgE, hcell, hfr, FF⟩ := owRow_replace (Dx := D) (x := b) (cs := [.int .i64 b.g, .string b.nm, .int .i64 b.t, .int .i64 b.b, .int .i64 b.nx, .slice A2 b.ml.length c2, .slice A3 b.go.length c3]) ow_box HOm.out (List.nodup_append.1 HNE.out).1 k HKL.out (by decide) HN0.out.1 (fun x hx hx2 => by have := hDlt x hx; have := (HEl.out x (by simp [hx2])).1; omega)
    obtain rfl : Am = some ⟨g0, 0, none⟩ := by injection hv
    have HFF := Aside.mk FF
    obtain ⟨z0, y0⟩ := hcell 0 (by omega)
    obtain ⟨z1, y1⟩ := hcell 1 (by omega)
    obtain ⟨z2, y2⟩ := hcell 2 (by omega)
    obtain ⟨z3, y3⟩ := hcell 3 (by omega)
    obtain ⟨z4, y4⟩ := hcell 4 (by omega)
    obtain ⟨z5, y5⟩ := hcell 5 (by omega)
    obtain ⟨z6, y6⟩ := hcell 6 (by omega)
    rw [Nat.add_zero] at y0
    have p0 := hfr (k * 7)
    have p1 := hfr (k * 7 + 1)
    have p2 := hfr (k * 7 + 2)
    have p3 := hfr (k * 7 + 3)
    have p4 := hfr (k * 7 + 4)
    have p5 := hfr (k * 7 + 5)
    have p6 := hfr (k * 7 + 6)
    have HG0 : Aside (w.heap.size + 3 ≤ g0 ∧ g0 < w1.heap.size ∧ g0 ∉ E1) := ⟨(HEl.out g0 (by simp [hgE])).1, (HEl.out g0 (by simp [hgE])).2, fun hx => (List.nodup_append.1 HNE.out).2.2 g0 hgE g0 hx rfl⟩
    have hgl := HG0.out.2.1
    have hg0 : w.heap.size + 3 ≤ g0 := HG0.out.1
    have hne0 : w.heap.size ≠ g0 := by omega
    have hne1 : w.heap.size + 1 ≠ g0 := by omega
    have hne2 : w.heap.size + 1 + 1 ≠ g0 := by omega
    have hneB : w1.heap.size ≠ g0 := by omega
    have hneB' : g0 ≠ w1.heap.size := by omega
    clear FF hcell hfr hv hDlt
    go_wp2_with (fail)
    try rw [setsk7]
    obtain ⟨E2, hk1, hk2, hmem⟩ := HFF.out w1 (Below.refl _ _) HBY.out
    have hs2 : (sets w1 g0 (k * 7) [.int .i64 b.g, .string b.nm, .int .i64 b.t, .int .i64 b.b, .int .i64 b.nx, .slice A2 b.ml.length c2, .slice A3 b.go.length c3]).heap.size = w1.heap.size := sets_size g0 _ _ w1
    have hE2 : ∀ x ∈ E2, x ∈ E0 ∨ x ∈ D := hmem
    have hoff : ∀ x ∈ E2, x ∉ E1 := fun x hx hx1 => by
      rcases hE2 x hx with h | h
      · exact (List.nodup_append.1 HNE.out).2.2 x h x hx1 rfl
      · have := (HN0.out.2 x h).2; have := (HEl.out x (by simp [hx1])).1; omega
    have hnew : New w0 ((sets w1 g0 (k * 7) [.int .i64 b.g, .string b.nm, .int .i64 b.t, .int .i64 b.b, .int .i64 b.nx, .slice A2 b.ml.length c2, .slice A3 b.go.length c3]).alloc (.cells #[.int .i64 s.by_, .int .i64 (s.tm + 1), .slice (some ⟨g0, 0, none⟩) s.bx.length cm, .slice Ag s.go.length cg] 42)) (E2 ++ E1) := New.both ⟨hk2, fun x hx => by
      rcases hE2 x hx with h | h
      · have := HEl.out x (by simp [h]); have := HW.out; simp [hs2]; omega
      · have := HN0.out.2 x h; have := HB.out.size; simp [hs2]; omega⟩ ⟨(List.nodup_append.1 HNE.out).2.1, fun x hx => by have := HEl.out x (by simp [hx]); have := HW.out; simp [hs2]; omega⟩ hoff
    have hlt2 : ∀ x ∈ E2 ++ E1, x ≠ w.heap.size + 1 + 1 ∧ x < w1.heap.size := fun x hx => by
      rw [List.mem_append] at hx
      rcases hx with hx | hx
      · rcases hE2 x hx with h | h
        · have := HEl.out x (by simp [h]); omega
        · have := (HN0.out.2 x h).2; have := HB.out.size; omega
      · have := HEl.out x (by simp [hx]); omega
    replace L0 := Aside.mk ((L0.out.sets2 (o := k * 7) hne0 [.int .i64 b.g, .string b.nm, .int .i64 b.t, .int .i64 b.b, .int .i64 b.nx, .slice A2 b.ml.length c2, .slice A3 b.go.length c3]).alloc (.cells #[.int .i64 s.by_, .int .i64 (s.tm + 1), .slice (some ⟨g0, 0, none⟩) s.bx.length cm, .slice Ag s.go.length cg] 42))
    replace L2 := Aside.mk ((L2.out.sets2 (o := k * 7) hne2 [.int .i64 b.g, .string b.nm, .int .i64 b.t, .int .i64 b.b, .int .i64 b.nx, .slice A2 b.ml.length c2, .slice A3 b.go.length c3]).alloc (.cells #[.int .i64 s.by_, .int .i64 (s.tm + 1), .slice (some ⟨g0, 0, none⟩) s.bx.length cm, .slice Ag s.go.length cg] 42))
    have L3 : Aside (Loc ((sets w1 g0 (k * 7) [.int .i64 b.g, .string b.nm, .int .i64 b.t, .int .i64 b.b, .int .i64 b.nx, .slice A2 b.ml.length c2, .slice A3 b.go.length c3]).alloc (.cells #[.int .i64 s.by_, .int .i64 (s.tm + 1), .slice (some ⟨g0, 0, none⟩) s.bx.length cm, .slice Ag s.go.length cg] 42)) w1.heap.size #[.int .i64 s.by_, .int .i64 (s.tm + 1), .slice (some ⟨g0, 0, none⟩) s.bx.length cm, .slice Ag s.go.length cg] 42) := ⟨by have h := Loc.new (sets w1 g0 (k * 7) [.int .i64 b.g, .string b.nm, .int .i64 b.t, .int .i64 b.b, .int .i64 b.nx, .slice A2 b.ml.length c2, .slice A3 b.go.length c3]) #[.int .i64 s.by_, .int .i64 (s.tm + 1), .slice (some ⟨g0, 0, none⟩) s.bx.length cm, .slice Ag s.go.length cg] 42; rw [hs2] at h; exact h⟩
    replace HOm := Aside.mk (owRow_alloc ow_box hk1 (.cells #[.int .i64 s.by_, .int .i64 (s.tm + 1), .slice (some ⟨g0, 0, none⟩) s.bx.length cm, .slice Ag s.go.length cg] 42))
    replace HOg := Aside.mk (owRow_alloc ow_int (owRow_sets ow_int HOg.out HG0.out.2.2 [.int .i64 b.g, .string b.nm, .int .i64 b.t, .int .i64 b.b, .int .i64 b.nx, .slice A2 b.ml.length c2, .slice A3 b.go.length c3] (k * 7)) (.cells #[.int .i64 s.by_, .int .i64 (s.tm + 1), .slice (some ⟨g0, 0, none⟩) s.bx.length cm, .slice Ag s.go.length cg] 42))
    have HN := Aside.mk hnew
    have HLT := Aside.mk hlt2
    replace HB := Aside.mk (below_alloc (below_sets2 (g := g0) HB.out (by omega) [.int .i64 b.g, .string b.nm, .int .i64 b.t, .int .i64 b.b, .int .i64 b.nx, .slice A2 b.ml.length c2, .slice A3 b.go.length c3] (k * 7)) (.cells #[.int .i64 s.by_, .int .i64 (s.tm + 1), .slice (some ⟨g0, 0, none⟩) s.bx.length cm, .slice Ag s.go.length cg] 42))
    obtain ⟨w3, hw3⟩ : ∃ w3, w3 = (sets w1 g0 (k * 7) [.int .i64 b.g, .string b.nm, .int .i64 b.t, .int .i64 b.b, .int .i64 b.nx, .slice A2 b.ml.length c2, .slice A3 b.go.length c3]).alloc (.cells #[.int .i64 s.by_, .int .i64 (s.tm + 1), .slice (some ⟨g0, 0, none⟩) s.bx.length cm, .slice Ag s.go.length cg] 42) := ⟨_, rfl⟩
    rw [← hw3] at L0 L2 L3 HOm HOg HN HB ⊢
    obtain ⟨B3, hB3⟩ : ∃ B3, B3 = w1.heap.size := ⟨_, rfl⟩
    have hwB : w.heap.size + 3 ≤ B3 := by omega
    rw [← hB3] at L3 ⊢
    clear hw3 hB3 hk1 hk2 hmem hs2 hE2 hoff hnew hlt2 l0 l1 l2 q0 q1 q2 y0 y1 y2 y3 y4 y5 y6 p0 p1 p2 p3 p4 p5 p6 HFF HBY hneB hneB' hgl hgE
    refine (specStoreOk_calls _ _ _ ⟨s.by_, s.tm + 1, s.bx.set k b, s.go⟩ (owRow_rd ow_box HOm.out) (owRow_rd ow_int HOg.out) (fun x hx => by rcases List.mem_or_eq_of_mem_set hx with h | h; exact HT.out x h; exact h ▸ HTB.out)).mono ?_
    rintro e w4 ⟨he, hb⟩
    rw [HK.out] at he
    subst he
    replace L0 := Aside.mk (L0.out.below hb); replace L2 := Aside.mk (L2.out.below hb); replace L3 := Aside.mk (L3.out.below hb); replace HOm := Aside.mk (owRow_below ow_box HOm.out hb); replace HOg := Aside.mk (owRow_below ow_int HOg.out hb); replace HN := Aside.mk (HN.out.mono hb.size); replace HB := Aside.mk (below_step HB.out hb); (try clear l0); (try clear q0); (try clear f0); (try clear l2); (try clear q2); (try clear f2); (try clear l3); (try clear q3); (try clear f3); have l0 := L0.out.cells; have q0 := L0.out.lt; have f0 := L0.out.free; have l2 := L2.out.cells; have q2 := L2.out.lt; have f2 := L2.out.free; have l3 := L3.out.cells; have q3 := L3.out.lt; have f3 := L3.out.free
    clear hb
  · have HE : Aside (orElse { s with tm := s.tm + 1, bx := s.bx.set k b } s = (s, false)) := ⟨by unfold orElse; rw [HK.out]; rfl⟩
    go_wp2_with (fail)
    refine (l07Copy_calls _ _ _ s (rdBoxes_mov HB.out HR.out) (rdInts_mov HB.out HG.out) HL.out).mono ?_
    rintro e w5 ⟨mx, gx, E, rfl, ho, hn, hb⟩
    obtain ⟨An, cn, Ao, co, F0, F1, rfl, rfl, rfl, hom, hog⟩ := store_slices ho
    have HPm := Aside.mk hom
    have HPg := Aside.mk hog
    have HEm : Aside (∀ x ∈ F0, w.heap.size + 3 ≤ x) := ⟨fun x hx => by have := (hn.2 x (by simp [hx])).1; have := HB.out.size; omega⟩
    have HEg : Aside (∀ x ∈ F1, w.heap.size + 3 ≤ x) := ⟨fun x hx => by have := (hn.2 x (by simp [hx])).1; have := HB.out.size; omega⟩
    have HNx := Aside.mk (hn.from (w0 := w0) (by have := HW.out; have := HB.out.size; omega))
    replace L2 := Aside.mk (L2.out.below hb)
    replace HB := Aside.mk (below_step HB.out hb)
    clear hom hog ho hn hb l0 l2 l3 q0 q2 q3 f0 f2 f3
    have l2 := L2.out.cells
    have q2 := L2.out.lt
    have f2 := L2.out.free
    go_wp2
    refine bodyPost_ret (v := .tuple #[.agg #[.int .i64 s.by_, .int .i64 s.tm, .slice An s.bx.length cn, .slice Ao s.go.length co], .bool false]) (by simp [results, go_sem, l2, q2]) rfl ?_
    rw [HE.out]
    refine ⟨_, _, F0 ++ F1, rfl, ⟨_, _, F0, F1, rfl, rfl, ?_, ?_⟩, ?_, ?_⟩
    · (repeat (first | (with_reducible exact HPm.out) | (with_reducible refine owRow_far ow_box (w.heap.size + 3) ?_ HEm.out (by first | omega | (dsimp only; omega) | (simp; done) | (simp; omega)) _) | (with_reducible refine owRow_alloc ow_box ?_ _)))
    · (repeat (first | (with_reducible exact HPg.out) | (with_reducible refine owRow_far ow_int (w.heap.size + 3) ?_ HEg.out (by first | omega | (dsimp only; omega) | (simp; done) | (simp; omega)) _) | (with_reducible refine owRow_alloc ow_int ?_ _)))
    · (repeat (first | (with_reducible exact HNx.out) | (with_reducible refine New.set ?_ _ _) | (with_reducible refine New.alloc ?_ _) | (with_reducible refine New.drew ?_)))
    · (repeat (first | (with_reducible exact HB.out) | (with_reducible exact Below.refl _ _) | (with_reducible refine below_set ?_ (by first | omega | (dsimp only; omega) | (simp; done) | (simp; omega)) _) | (with_reducible refine below_alloc ?_ _) | (with_reducible refine below_drewN ?_ _) | (with_reducible refine below_drew ?_)))
  · have HE : Aside (orElse { s with tm := s.tm + 1, bx := s.bx.set k b } s = (⟨s.by_, s.tm + 1, s.bx.set k b, s.go⟩, true)) := ⟨by unfold orElse; rw [HK.out]; rfl⟩
    have HD0 : Aside (w.heap.size + 1 + 1 ∉ E2) := ⟨fun hx => (HLT.out _ (List.mem_append.2 (.inl hx))).1 rfl⟩
    have HD1 : Aside (w.heap.size + 1 + 1 ∉ E1) := ⟨fun hx => (HLT.out _ (List.mem_append.2 (.inr hx))).1 rfl⟩
    go_wp2
    refine bodyPost_ret (v := .tuple #[.agg #[.int .i64 s.by_, .int .i64 (s.tm + 1), .slice (some ⟨g0, 0, none⟩) s.bx.length cm, .slice Ag s.go.length cg], .bool true]) (by simp [results, go_sem, l2, l3, q2, q3]) rfl ?_
    rw [HE.out]
    refine ⟨_, _, E2 ++ E1, rfl, ⟨_, _, E2, E1, rfl, rfl, ?_, ?_⟩, ?_, ?_⟩
    · rw [setsc4]
      exact owRow_sets ow_box HOm.out HD0.out _ _
    · rw [setsc4]
      exact owRow_sets ow_int HOg.out HD1.out _ _
    · (repeat (first | (with_reducible exact HN.out) | (with_reducible refine New.set ?_ _ _) | (with_reducible refine New.alloc ?_ _) | (with_reducible refine New.drew ?_)))
    · (repeat (first | (with_reducible exact HB.out) | (with_reducible exact Below.refl _ _) | (with_reducible refine below_set ?_ (by first | omega | (dsimp only; omega) | (simp; done) | (simp; omega)) _) | (with_reducible refine below_alloc ?_ _) | (with_reducible refine below_drewN ?_ _) | (with_reducible refine below_drew ?_)))
end Go.Proofs.Ythhbcakmfbjepaa.H
