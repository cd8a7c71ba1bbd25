/- What the statements' to functions make, boxes and stores: the walks. -/
import Derived.Test.YtjfjpabfkembcaaHTo
namespace Go.Proofs.Ytjfjpabfkembcaa.H
open Go.RowKit
set_option linter.unusedVariables false
set_option linter.unusedSimpArgs false
theorem box_slices {w : World} {D : List Nat} {g t y nx : Int} {nm : ByteArray} {v2 v3 : Value} {b : Box} (h : owBox w D [.int .i64 g, .string nm, .int .i64 t, .int .i64 y, .int .i64 nx, v2, v3] b) :
    ∃ A2 c2 A3 c3, v2 = .slice A2 b.ml.length c2 ∧ v3 = .slice A3 b.go.length c3 := by
  obtain ⟨mv, gv, D1, D2, e, _, h1, h2⟩ := h
  simp only [List.cons.injEq, and_true] at e
  obtain ⟨_, _, _, _, _, rfl, rfl⟩ := e
  obtain ⟨A2, c2, rfl⟩ := cell_own ow_mail h1
  obtain ⟨A3, c3, rfl⟩ := cell_own ow_int h2
  exact ⟨_, _, _, _, rfl, rfl⟩
set_option maxHeartbeats 2000000 in
set_option maxRecDepth 100000 in
theorem toBoxes_calls (w : World) (v : Value) (l : List Box) (h : rdBoxes w v l) (hl : l.length ≤ 4000000) (hs : ∀ m ∈ l, smBox m) :
    Calls Try.prog 92 #[v] w fun e w' => ∃ v' D, e = .returned v' ∧ owBoxes w' D v' l ∧ New w w' D ∧ Below w.heap.size w w' := by
  obtain ⟨A, c, rfl, _, hm⟩ := rd_len h
  have HR := Aside.mk h
  have HL := Aside.mk hs
  clear h hs
  obtain ⟨i0, hi, hz0, hz1, hz2⟩ := info_parts (show (Try.prog.info? 32).map (fun i => (i.zero, i.size, i.bytes)) = some (some (.agg #[.int .i64 0, .string ⟨#[]⟩, .int .i64 0, .int .i64 0, .int .i64 0, .slice none 0 0, .slice none 0 0]), 7, 96) by kernel_rfl)
  have hmk := fun W => run_make_rowN (P := Try.prog) 43 32 i0 _ Try.underlying43 hi hz0 .i64 .i64 l.length l.length (Nat.le_refl _) (by rw [hz2]; omega) (by omega) W
  rw [hz1] at hmk
  go_enter Try.func92, Try.ntmps92
  go_wp2
  clear hmk hz0 hz1 hz2 hi
  have HO := Aside.mk (owRow_made (e := 32) ow_box w l.length [Value.int .i64 0, .string ⟨#[]⟩, .int .i64 0, .int .i64 0, .int .i64 0, .slice none 0 0, .slice none 0 0] (⟨0, ⟨#[]⟩, 0, 0, 0, [], []⟩ : Box) (fun w => ⟨_, _, [], [], rfl, rfl, ow_nil _ _ _ _, ow_nil _ _ _ _⟩) (by omega) (by unfold maxLen; omega))
  have HB := Aside.mk (below_alloc (Below.refl w.heap.size w) (.cells (madeCells #[Value.int .i64 0, .string ⟨#[]⟩, .int .i64 0, .int .i64 0, .int .i64 0, .slice none 0 0, .slice none 0 0] (l.length * 7)) 32))
  go_loopw [4] (fun v wr => ∃ (i : Nat) (D : List Nat), i ≤ l.length ∧ v = .int .i64 i ∧ Aside (owBoxes wr D (.slice (some ⟨w.heap.size, 0, none⟩) l.length l.length) (l.take i ++ List.replicate (l.length - i) (⟨0, ⟨#[]⟩, 0, 0, 0, [], []⟩ : Box))) ∧ Aside (New w wr D) ∧ Aside (Below w.heap.size w wr)) (fun v _ => l.length - (intOf v).toNat)
  case atStart => exact ⟨0, _, Nat.zero_le _, rfl, HO, ⟨by simp, by simp⟩, HB⟩
  case round =>
    clear HO HB
    obtain ⟨i, D, hi, rfl, HO, HN, HB⟩ := hrel
    by_cases hlt : i < l.length
    · obtain ⟨ad, mv, gv, hA, x0, x1, x2, x3, x4, x5, x6, hf, hg⟩ := rdBoxes_at (rdBoxes_mov HB.out HR.out) i hlt
      subst hA
      have hft : i < (l.take i ++ List.replicate (l.length - i) (⟨0, ⟨#[]⟩, 0, 0, 0, [], []⟩ : Box)).length := by rw [List.length_append, List.length_replicate, List.length_take]; omega
      obtain ⟨g, c', hv, hg1, hg2, hcell, hfr, F⟩ := owRow_put ow_box HO.out HN.out i hft (by omega) HB.out.size
      obtain rfl := slice_g hv
      clear hv
      obtain ⟨z0, y0⟩ := hcell 0 (by omega)
      obtain ⟨z1, y1⟩ := hcell 1 (by omega)
      obtain ⟨z2, y2⟩ := hcell 2 (by omega)
      obtain ⟨z3, y3⟩ := hcell 3 (by omega)
      obtain ⟨z4, y4⟩ := hcell 4 (by omega)
      obtain ⟨z5, y5⟩ := hcell 5 (by omega)
      obtain ⟨z6, y6⟩ := hcell 6 (by omega)
      have f0 := hfr (i * 7 + 0)
      have f1 := hfr (i * 7 + 1)
      have f2 := hfr (i * 7 + 2)
      have f3 := hfr (i * 7 + 3)
      have f4 := hfr (i * 7 + 4)
      have f5 := hfr (i * 7 + 5)
      have f6 := hfr (i * 7 + 6)
      have HF := Aside.mk F
      have HS := Aside.mk (fill_set (z := (⟨0, ⟨#[]⟩, 0, 0, 0, [], []⟩ : Box)) hlt)
      clear F hcell hfr hft hg1
      have q0 : (0 : Int) ≤ (i : Int) := by omega
      have q1 : (i : Int) < (l.length : Int) := by omega
      rw [Nat.add_zero] at y0 f0
      have hlm := HL.out l[i] (List.getElem_mem hlt)
      generalize l[i] = m at x0 x1 x2 x3 x4 x5 x6 hf hg hlm HS
      have o1 := rd_one hf
      have o2 := rd_one hg
      have HF1 := Aside.mk hf
      have HG1 := Aside.mk hg
      have HM := Aside.mk hlm
      clear hf hg hlm
      go_wp2_with (go_at_call 13; refine (toBox_calls _ _ _ m HF1.out HG1.out HM.out).mono ?_; rintro e w1 ⟨v2, v3, D2, rfl, ho, hn, hb⟩; obtain ⟨A2, c2, A3, c3, rfl, rfl⟩ := box_slices ho; have HO2 := Aside.mk ho; have HN2 := Aside.mk hn; clear ho hn; replace y0 := cell_b hb y0; replace y1 := cell_b hb y1; replace y2 := cell_b hb y2; replace y3 := cell_b hb y3; replace y4 := cell_b hb y4; replace y5 := cell_b hb y5; replace y6 := cell_b hb y6; rw [← hb.frozen (by assumption)] at f0 f1 f2 f3 f4 f5 f6; have HB1 := Aside.mk hb; clear hb)
      obtain ⟨D', HO', HN'⟩ := HF.out w1 D2 [.int .i64 m.g, .string m.nm, .int .i64 m.t, .int .i64 m.b, .int .i64 m.nx, .slice A2 m.ml.length c2, .slice A3 m.go.length c3] m HB1.out HO2.out HN2.out
      have HB2 : Aside (Below w.heap.size w (sets w1 w.heap.size (i * 7) [.int .i64 m.g, .string m.nm, .int .i64 m.t, .int .i64 m.b, .int .i64 m.nx, .slice A2 m.ml.length c2, .slice A3 m.go.length c3])) := ⟨(below_step HB.out HB1.out).trans ((sets_keep _ _ _ _).below (by simp) (below_step HB.out HB1.out).size)⟩
      go_roundw
      case rel => exact ⟨i + 1, D', by omega, by go_num, ⟨by rw [← HS.out]; exact HO'⟩, ⟨HN'⟩, HB2⟩
      case measure => simp [intOf]; omega
    · obtain rfl : i = l.length := by omega
      clear hlt
      go_wp2
      go_ret
      exact ⟨_, D, rfl, by have := HO.out; rw [Nat.sub_self, List.replicate_zero, List.append_nil, List.take_length] at this; exact this, HN.out, HB.out⟩
set_option maxHeartbeats 2000000 in
set_option maxRecDepth 100000 in
theorem toStore_calls (w : World) (bv gv : Value) (s : Store) (h : rdBoxes w bv s.bx) (hg : rdInts w gv s.go) (hl : smStore s) :
    Calls Try.prog 20 #[.agg #[.int .i64 s.by_, .int .i64 s.tm, bv, gv]] w (RetStore w s) := by
  have HR := Aside.mk h
  have HG := Aside.mk hg
  have o1 := rd_one h
  have o2 := rd_one hg
  have HL := Aside.mk hl
  clear h hg hl
  go_enter Try.func20, Try.ntmps20
  go_wp2_with (first
    | (go_at_call 92; refine (toBoxes_calls _ _ s.bx (rdBoxes_mov (by (repeat (first | (with_reducible exact HB.out) | (with_reducible exact Below.refl _ _) | (with_reducible refine below_set ?_ (by first | omega | (dsimp only; omega) | (simp; done) | (simp; omega)) _) | (with_reducible refine below_alloc ?_ _) | (with_reducible refine below_drewN ?_ _) | (with_reducible refine below_drew ?_)))) HR.out) HL.out.1.1 HL.out.1.2).mono ?_; rintro e w2 ⟨v2, D2, rfl, ho, hn, hb⟩; obtain ⟨A2, c2, rfl⟩ := cell_own ow_box ho; obtain ⟨hc2, hf2⟩ := bcell hb; obtain ⟨y1, y2, y3⟩ := lt3 (show w.heap.size + 3 ≤ w2.heap.size by have := hb.size; simp at this; omega); have HO2 := Aside.mk ho; have HD2 : Aside (∀ b ∈ D2, w.heap.size + 3 ≤ b) := ⟨fun b hb => by have := (hn.2 b hb).1; simp at this; omega⟩; have HN2 := Aside.mk (hn.from (w0 := w) (by simp; omega)); clear ho hn; have HB := Aside.mk (below_step (w0 := w) (by (repeat (first | (with_reducible exact HB.out) | (with_reducible exact Below.refl _ _) | (with_reducible refine below_set ?_ (by first | omega | (dsimp only; omega) | (simp; done) | (simp; omega)) _) | (with_reducible refine below_alloc ?_ _) | (with_reducible refine below_drewN ?_ _) | (with_reducible refine below_drew ?_)))) hb); clear hb)
    | (go_at_call 75; refine (toInts_calls _ _ s.go (rdInts_mov (by (repeat (first | (with_reducible exact HB.out) | (with_reducible exact Below.refl _ _) | (with_reducible refine below_set ?_ (by first | omega | (dsimp only; omega) | (simp; done) | (simp; omega)) _) | (with_reducible refine below_alloc ?_ _) | (with_reducible refine below_drewN ?_ _) | (with_reducible refine below_drew ?_)))) HG.out) HL.out.2).mono ?_; rintro e w3 ⟨v3, D3, rfl, ho, hn, hb⟩; obtain ⟨A3, c3, rfl⟩ := cell_own ow_int ho; obtain ⟨hc3, hf3⟩ := bcell hb; obtain ⟨x1, x2, x3⟩ := lt3 (show w.heap.size + 3 ≤ w3.heap.size by have := hb.size; simp at this; omega); have HO3 := Aside.mk ho; have HD3 : Aside (∀ b ∈ D3, w.heap.size + 3 ≤ b) := ⟨fun b hb => by have := (hn.2 b hb).1; simp at this; omega⟩; have HO4 : Aside (owBoxes w3 D2 (.slice A2 s.bx.length c2) s.bx) := ⟨owRow_below ow_box (by (repeat (first | (with_reducible exact HO2.out) | (with_reducible refine owRow_far ow_box (w.heap.size + 3) ?_ HD2.out (by first | omega | (dsimp only; omega) | (simp; done) | (simp; omega)) _) | (with_reducible refine owRow_alloc ow_box ?_ _)))) hb⟩; have HN : Aside (New w w3 (D2 ++ D3)) := ⟨New.app (by (repeat (first | (with_reducible exact HN2.out) | (with_reducible refine New.set ?_ _ _) | (with_reducible refine New.alloc ?_ _) | (with_reducible refine New.drew ?_)))) (by have := HB.out.size; simp; omega) hn hb.size⟩; clear ho hn; replace HB := Aside.mk (below_step (w0 := w) (by (repeat (first | (with_reducible exact HB.out) | (with_reducible exact Below.refl _ _) | (with_reducible refine below_set ?_ (by first | omega | (dsimp only; omega) | (simp; done) | (simp; omega)) _) | (with_reducible refine below_alloc ?_ _) | (with_reducible refine below_drewN ?_ _) | (with_reducible refine below_drew ?_)))) hb); clear hb))
  refine bodyPost_ret (v := .agg #[.int .i64 s.by_, .int .i64 s.tm, .slice A2 s.bx.length c2, .slice A3 s.go.length c3]) (by simp [results, go_sem, hc2, hc3, x1, x2, x3, y1, y2, y3]) rfl ⟨_, _, D2 ++ D3, rfl, ⟨_, _, D2, D3, rfl, rfl, ?_, ?_⟩, ?_, ?_⟩
  · (repeat (first | (with_reducible exact HO4.out) | (with_reducible refine owRow_far ow_box (w.heap.size + 3) ?_ HD2.out (by first | omega | (dsimp only; omega) | (simp; done) | (simp; omega)) _) | (with_reducible refine owRow_alloc ow_box ?_ _)))
  · (repeat (first | (with_reducible exact HO3.out) | (with_reducible refine owRow_far ow_int (w.heap.size + 3) ?_ HD3.out (by first | omega | (dsimp only; omega) | (simp; done) | (simp; omega)) _) | (with_reducible refine owRow_alloc ow_int ?_ _)))
  · (repeat (first | (with_reducible exact HN.out) | (with_reducible refine New.set ?_ _ _) | (with_reducible refine New.alloc ?_ _) | (with_reducible refine New.drew ?_)))
  · (repeat (first | (with_reducible exact HB.out) | (with_reducible exact Below.refl _ _) | (with_reducible refine below_set ?_ (by first | omega | (dsimp only; omega) | (simp; done) | (simp; omega)) _) | (with_reducible refine below_alloc ?_ _) | (with_reducible refine below_drewN ?_ _) | (with_reducible refine below_drew ?_)))
end Go.Proofs.Ytjfjpabfkembcaa.H
